/-
  DERIVED. GIVEN WITH THE SEED: THE CARDS: each row of YtcppgpjodfeigaaDoorRows.lean that lists a variable, with what it lists TIED to the program's text (the seventh form; the later family's looks); each row that meets fmt, with fmt's text TOLD by the authors' own Lean function (tested against real Go, not proved from fmt's source: count such statements apart). THE CARD IS WHAT COUNTS. Prove the row's statement (the work); the ties are given (YtcppgpjodfeigaaDoorTie.lean); close each card by the builder's one call (the guide's Derived/Test/ToyasCard.lean, 'card_holds'). Laid BY PROGRAM, IN A SANDBOX (cutbox-door.mjs). By AI agents, Wed Nov 11 2026. No macro, syntax, notation, axiom, sorry.
-/
import Derived.Test.YtcppgpjodfeigaaDoorRows
import GoSem.ClaimSeven
namespace Go.Proofs.YtcppgpjodfeigaaDoor
namespace Rows

/-- THE TIED CARD OF 'scrimshawlaw5.TreeRanks'. -/
def treeRanksCard : Claim7 := { stood := { row := treeRanksRow, standIns := [], harness := (true, "a7ca0d6ab3e4aabb6c681b5dad627818de1afcd08a0c73008b7d2b41787cb2f9"), looks := false }, kinds := [], alts := [], laidByText := true, laidKinds := [.data], laidTests := true, laidLooks := .later }
def TreeRanksCardSaid : Prop := Claim7.holds Tryd.pinned (.plain (OpenSpec.ofChange treeRanksSpec)) treeRanksCard

/-- THE TIED CARD OF 'scrimshawlaw5.TreeHeaps'. -/
def treeHeapsCard : Claim7 := { stood := { row := treeHeapsRow, standIns := [], harness := (true, "a7ca0d6ab3e4aabb6c681b5dad627818de1afcd08a0c73008b7d2b41787cb2f9"), looks := false }, kinds := [], alts := [], laidByText := true, laidKinds := [.data], laidTests := true, laidLooks := .later }
def TreeHeapsCardSaid : Prop := Claim7.holds Tryd.pinned (.plain (OpenSpec.ofChange treeHeapsSpec)) treeHeapsCard

/-- THE TIED CARD OF 'scrimshawlaw5.TreeGrows'. -/
def treeGrowsCard : Claim7 := { stood := { row := treeGrowsRow, standIns := [], harness := (true, "a7ca0d6ab3e4aabb6c681b5dad627818de1afcd08a0c73008b7d2b41787cb2f9"), looks := false }, kinds := [], alts := [], laidByText := true, laidKinds := [.data], laidTests := true, laidLooks := .later }
def TreeGrowsCardSaid : Prop := Claim7.holds Tryd.pinned (.plain (OpenSpec.ofChange treeGrowsSpec)) treeGrowsCard

/-- THE TIED CARD OF 'scrimshawlaw5.TreeBuilds'. -/
def treeBuildsCard : Claim7 := { stood := { row := treeBuildsRow, standIns := [], harness := (true, "a7ca0d6ab3e4aabb6c681b5dad627818de1afcd08a0c73008b7d2b41787cb2f9"), looks := false }, kinds := [], alts := [], laidByText := true, laidKinds := [.data], laidTests := true, laidLooks := .later }
def TreeBuildsCardSaid : Prop := Claim7.holds Tryd.pinned (.plain (OpenSpec.ofChange treeBuildsSpec)) treeBuildsCard

/-- THE TIED CARD OF 'scrimshawlaw5.TreeUndo'. -/
def treeUndoCard : Claim7 := { stood := { row := treeUndoRow, standIns := [], harness := (true, "a7ca0d6ab3e4aabb6c681b5dad627818de1afcd08a0c73008b7d2b41787cb2f9"), looks := false }, kinds := [], alts := [], laidByText := true, laidKinds := [.data], laidTests := true, laidLooks := .later }
def TreeUndoCardSaid : Prop := Claim7.holds Tryd.pinned (.plain (OpenSpec.ofChange treeUndoSpec)) treeUndoCard

/-- THE TIED CARD OF 'scrimshawlaw5.TreeOwn'. -/
def treeOwnCard : Claim7 := { stood := { row := treeOwnRow, standIns := [], harness := (true, "a7ca0d6ab3e4aabb6c681b5dad627818de1afcd08a0c73008b7d2b41787cb2f9"), looks := false }, kinds := [], alts := [], laidByText := true, laidKinds := [.data], laidTests := true, laidLooks := .later }
def TreeOwnCardSaid : Prop := Claim7.holds Tryd.pinned (.plain (OpenSpec.ofChange treeOwnSpec)) treeOwnCard

/-- THE TIED CARD OF 'scrimshawlaw5.TreeShrinks'. -/
def treeShrinksCard : Claim7 := { stood := { row := treeShrinksRow, standIns := [], harness := (true, "a7ca0d6ab3e4aabb6c681b5dad627818de1afcd08a0c73008b7d2b41787cb2f9"), looks := false }, kinds := [], alts := [], laidByText := true, laidKinds := [.data], laidTests := true, laidLooks := .later }
def TreeShrinksCardSaid : Prop := Claim7.holds Tryd.pinned (.plain (OpenSpec.ofChange treeShrinksSpec)) treeShrinksCard

/-- THE TIED CARD OF 'scrimshawlaw5.TreePlays'. -/
def treePlaysCard : Claim7 := { stood := { row := treePlaysRow, standIns := [], harness := (true, "a7ca0d6ab3e4aabb6c681b5dad627818de1afcd08a0c73008b7d2b41787cb2f9"), looks := false }, kinds := [], alts := [], laidByText := true, laidKinds := [.data], laidTests := true, laidLooks := .later }
def TreePlaysCardSaid : Prop := Claim7.holds Tryd.pinned (.plain (OpenSpec.ofChange treePlaysSpec)) treePlaysCard

/-- THE TIED CARD OF 'scrimshawlaw7.WaveLevels'. -/
def waveLevelsCard : Claim7 := { stood := { row := waveLevelsRow, standIns := [], harness := (true, "a7ca0d6ab3e4aabb6c681b5dad627818de1afcd08a0c73008b7d2b41787cb2f9"), looks := false }, kinds := [], alts := [], laidByText := true, laidKinds := [.data], laidTests := true, laidLooks := .later }
def WaveLevelsCardSaid : Prop := Claim7.holds Tryd.pinned (.plain (OpenSpec.ofChange waveLevelsSpec)) waveLevelsCard

/-- THE TIED CARD OF 'scrimshawlaw7.WaveRanks'. -/
def waveRanksCard : Claim7 := { stood := { row := waveRanksRow, standIns := [], harness := (true, "a7ca0d6ab3e4aabb6c681b5dad627818de1afcd08a0c73008b7d2b41787cb2f9"), looks := false }, kinds := [], alts := [], laidByText := true, laidKinds := [.data], laidTests := true, laidLooks := .later }
def WaveRanksCardSaid : Prop := Claim7.holds Tryd.pinned (.plain (OpenSpec.ofChange waveRanksSpec)) waveRanksCard

/-- THE TIED CARD OF 'scrimshawlaw7.WaveCounts'. -/
def waveCountsCard : Claim7 := { stood := { row := waveCountsRow, standIns := [], harness := (true, "a7ca0d6ab3e4aabb6c681b5dad627818de1afcd08a0c73008b7d2b41787cb2f9"), looks := false }, kinds := [], alts := [], laidByText := true, laidKinds := [.data], laidTests := true, laidLooks := .later }
def WaveCountsCardSaid : Prop := Claim7.holds Tryd.pinned (.plain (OpenSpec.ofChange waveCountsSpec)) waveCountsCard

/-- THE TIED CARD OF 'scrimshawlaw7.WaveUndo'. -/
def waveUndoCard : Claim7 := { stood := { row := waveUndoRow, standIns := [], harness := (true, "a7ca0d6ab3e4aabb6c681b5dad627818de1afcd08a0c73008b7d2b41787cb2f9"), looks := false }, kinds := [], alts := [], laidByText := true, laidKinds := [.data], laidTests := true, laidLooks := .later }
def WaveUndoCardSaid : Prop := Claim7.holds Tryd.pinned (.plain (OpenSpec.ofChange waveUndoSpec)) waveUndoCard

/-- THE TIED CARD OF 'scrimshawlaw7.WaveBuilds'. -/
def waveBuildsCard : Claim7 := { stood := { row := waveBuildsRow, standIns := [], harness := (true, "a7ca0d6ab3e4aabb6c681b5dad627818de1afcd08a0c73008b7d2b41787cb2f9"), looks := false }, kinds := [], alts := [], laidByText := true, laidKinds := [.data], laidTests := true, laidLooks := .later }
def WaveBuildsCardSaid : Prop := Claim7.holds Tryd.pinned (.plain (OpenSpec.ofChange waveBuildsSpec)) waveBuildsCard

/-- THE TIED CARD OF 'scrimshawlaw7.WavePlays'. -/
def wavePlaysCard : Claim7 := { stood := { row := wavePlaysRow, standIns := [], harness := (true, "a7ca0d6ab3e4aabb6c681b5dad627818de1afcd08a0c73008b7d2b41787cb2f9"), looks := false }, kinds := [], alts := [], laidByText := true, laidKinds := [.data], laidTests := true, laidLooks := .later }
def WavePlaysCardSaid : Prop := Claim7.holds Tryd.pinned (.plain (OpenSpec.ofChange wavePlaysSpec)) wavePlaysCard

/-- THE SECOND FORM's CARD OF 'scrimshawlaw5.TreeRanks'. -/
def treeRanksUptoCard : Claim7 := { stood := { row := treeRanksUptoRow, standIns := [], harness := (true, "a7ca0d6ab3e4aabb6c681b5dad627818de1afcd08a0c73008b7d2b41787cb2f9"), looks := false }, kinds := [], alts := [], laidByText := true, laidKinds := [.data], laidTests := true, laidLooks := .later }
def TreeRanksUptoCardSaid : Prop := Claim7.holds Tryd.pinned (.plain (OpenSpec.upto treeRanksSpec)) treeRanksUptoCard

/-- THE SECOND FORM's CARD OF 'scrimshawlaw5.TreeHeaps'. -/
def treeHeapsUptoCard : Claim7 := { stood := { row := treeHeapsUptoRow, standIns := [], harness := (true, "a7ca0d6ab3e4aabb6c681b5dad627818de1afcd08a0c73008b7d2b41787cb2f9"), looks := false }, kinds := [], alts := [], laidByText := true, laidKinds := [.data], laidTests := true, laidLooks := .later }
def TreeHeapsUptoCardSaid : Prop := Claim7.holds Tryd.pinned (.plain (OpenSpec.upto treeHeapsSpec)) treeHeapsUptoCard

/-- THE SECOND FORM's CARD OF 'scrimshawlaw5.TreeGrows'. -/
def treeGrowsUptoCard : Claim7 := { stood := { row := treeGrowsUptoRow, standIns := [], harness := (true, "a7ca0d6ab3e4aabb6c681b5dad627818de1afcd08a0c73008b7d2b41787cb2f9"), looks := false }, kinds := [], alts := [], laidByText := true, laidKinds := [.data], laidTests := true, laidLooks := .later }
def TreeGrowsUptoCardSaid : Prop := Claim7.holds Tryd.pinned (.plain (OpenSpec.upto treeGrowsSpec)) treeGrowsUptoCard

/-- THE SECOND FORM's CARD OF 'scrimshawlaw5.TreeBuilds'. -/
def treeBuildsUptoCard : Claim7 := { stood := { row := treeBuildsUptoRow, standIns := [], harness := (true, "a7ca0d6ab3e4aabb6c681b5dad627818de1afcd08a0c73008b7d2b41787cb2f9"), looks := false }, kinds := [], alts := [], laidByText := true, laidKinds := [.data], laidTests := true, laidLooks := .later }
def TreeBuildsUptoCardSaid : Prop := Claim7.holds Tryd.pinned (.plain (OpenSpec.upto treeBuildsSpec)) treeBuildsUptoCard

/-- THE SECOND FORM's CARD OF 'scrimshawlaw5.TreeUndo'. -/
def treeUndoUptoCard : Claim7 := { stood := { row := treeUndoUptoRow, standIns := [], harness := (true, "a7ca0d6ab3e4aabb6c681b5dad627818de1afcd08a0c73008b7d2b41787cb2f9"), looks := false }, kinds := [], alts := [], laidByText := true, laidKinds := [.data], laidTests := true, laidLooks := .later }
def TreeUndoUptoCardSaid : Prop := Claim7.holds Tryd.pinned (.plain (OpenSpec.upto treeUndoSpec)) treeUndoUptoCard

/-- THE SECOND FORM's CARD OF 'scrimshawlaw5.TreeOwn'. -/
def treeOwnUptoCard : Claim7 := { stood := { row := treeOwnUptoRow, standIns := [], harness := (true, "a7ca0d6ab3e4aabb6c681b5dad627818de1afcd08a0c73008b7d2b41787cb2f9"), looks := false }, kinds := [], alts := [], laidByText := true, laidKinds := [.data], laidTests := true, laidLooks := .later }
def TreeOwnUptoCardSaid : Prop := Claim7.holds Tryd.pinned (.plain (OpenSpec.upto treeOwnSpec)) treeOwnUptoCard

/-- THE SECOND FORM's CARD OF 'scrimshawlaw5.TreeShrinks'. -/
def treeShrinksUptoCard : Claim7 := { stood := { row := treeShrinksUptoRow, standIns := [], harness := (true, "a7ca0d6ab3e4aabb6c681b5dad627818de1afcd08a0c73008b7d2b41787cb2f9"), looks := false }, kinds := [], alts := [], laidByText := true, laidKinds := [.data], laidTests := true, laidLooks := .later }
def TreeShrinksUptoCardSaid : Prop := Claim7.holds Tryd.pinned (.plain (OpenSpec.upto treeShrinksSpec)) treeShrinksUptoCard

/-- THE SECOND FORM's CARD OF 'scrimshawlaw5.TreePlays'. -/
def treePlaysUptoCard : Claim7 := { stood := { row := treePlaysUptoRow, standIns := [], harness := (true, "a7ca0d6ab3e4aabb6c681b5dad627818de1afcd08a0c73008b7d2b41787cb2f9"), looks := false }, kinds := [], alts := [], laidByText := true, laidKinds := [.data], laidTests := true, laidLooks := .later }
def TreePlaysUptoCardSaid : Prop := Claim7.holds Tryd.pinned (.plain (OpenSpec.upto treePlaysSpec)) treePlaysUptoCard

/-- THE SECOND FORM's CARD OF 'scrimshawlaw7.WaveLevels'. -/
def waveLevelsUptoCard : Claim7 := { stood := { row := waveLevelsUptoRow, standIns := [], harness := (true, "a7ca0d6ab3e4aabb6c681b5dad627818de1afcd08a0c73008b7d2b41787cb2f9"), looks := false }, kinds := [], alts := [], laidByText := true, laidKinds := [.data], laidTests := true, laidLooks := .later }
def WaveLevelsUptoCardSaid : Prop := Claim7.holds Tryd.pinned (.plain (OpenSpec.upto waveLevelsSpec)) waveLevelsUptoCard

/-- THE SECOND FORM's CARD OF 'scrimshawlaw7.WaveRanks'. -/
def waveRanksUptoCard : Claim7 := { stood := { row := waveRanksUptoRow, standIns := [], harness := (true, "a7ca0d6ab3e4aabb6c681b5dad627818de1afcd08a0c73008b7d2b41787cb2f9"), looks := false }, kinds := [], alts := [], laidByText := true, laidKinds := [.data], laidTests := true, laidLooks := .later }
def WaveRanksUptoCardSaid : Prop := Claim7.holds Tryd.pinned (.plain (OpenSpec.upto waveRanksSpec)) waveRanksUptoCard

/-- THE SECOND FORM's CARD OF 'scrimshawlaw7.WaveCounts'. -/
def waveCountsUptoCard : Claim7 := { stood := { row := waveCountsUptoRow, standIns := [], harness := (true, "a7ca0d6ab3e4aabb6c681b5dad627818de1afcd08a0c73008b7d2b41787cb2f9"), looks := false }, kinds := [], alts := [], laidByText := true, laidKinds := [.data], laidTests := true, laidLooks := .later }
def WaveCountsUptoCardSaid : Prop := Claim7.holds Tryd.pinned (.plain (OpenSpec.upto waveCountsSpec)) waveCountsUptoCard

/-- THE SECOND FORM's CARD OF 'scrimshawlaw7.WaveUndo'. -/
def waveUndoUptoCard : Claim7 := { stood := { row := waveUndoUptoRow, standIns := [], harness := (true, "a7ca0d6ab3e4aabb6c681b5dad627818de1afcd08a0c73008b7d2b41787cb2f9"), looks := false }, kinds := [], alts := [], laidByText := true, laidKinds := [.data], laidTests := true, laidLooks := .later }
def WaveUndoUptoCardSaid : Prop := Claim7.holds Tryd.pinned (.plain (OpenSpec.upto waveUndoSpec)) waveUndoUptoCard

/-- THE SECOND FORM's CARD OF 'scrimshawlaw7.WaveBuilds'. -/
def waveBuildsUptoCard : Claim7 := { stood := { row := waveBuildsUptoRow, standIns := [], harness := (true, "a7ca0d6ab3e4aabb6c681b5dad627818de1afcd08a0c73008b7d2b41787cb2f9"), looks := false }, kinds := [], alts := [], laidByText := true, laidKinds := [.data], laidTests := true, laidLooks := .later }
def WaveBuildsUptoCardSaid : Prop := Claim7.holds Tryd.pinned (.plain (OpenSpec.upto waveBuildsSpec)) waveBuildsUptoCard

/-- THE SECOND FORM's CARD OF 'scrimshawlaw7.WavePlays'. -/
def wavePlaysUptoCard : Claim7 := { stood := { row := wavePlaysUptoRow, standIns := [], harness := (true, "a7ca0d6ab3e4aabb6c681b5dad627818de1afcd08a0c73008b7d2b41787cb2f9"), looks := false }, kinds := [], alts := [], laidByText := true, laidKinds := [.data], laidTests := true, laidLooks := .later }
def WavePlaysUptoCardSaid : Prop := Claim7.holds Tryd.pinned (.plain (OpenSpec.upto wavePlaysSpec)) wavePlaysUptoCard
end Rows
end Go.Proofs.YtcppgpjodfeigaaDoor
