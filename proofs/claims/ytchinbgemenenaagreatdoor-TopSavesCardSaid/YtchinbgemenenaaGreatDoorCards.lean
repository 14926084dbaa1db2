/-
  DERIVED. GIVEN WITH THE SEED: THE CARDS: each row of YtchinbgemenenaaGreatDoorRows.lean that lists a variable, with what it lists TIED to the program's text (the seventh form; the later family's looks); each row that meets fmt, with fmt's text TOLD by the authors' own Lean function (tested against real Go, not proved from fmt's source: count such statements apart). THE CARD IS WHAT COUNTS. Prove the row's statement (the work); the ties are given (YtchinbgemenenaaGreatDoorTie.lean); close each card by the builder's one call (the guide's Derived/Test/ToyasCard.lean, 'card_holds'). Laid BY PROGRAM, IN A SANDBOX (cutbox-door.mjs). By AI agents, Wed Nov 11 2026. No macro, syntax, notation, axiom, sorry.
-/
import Derived.Test.YtchinbgemenenaaGreatDoorRows
import GoSem.ClaimSeven
namespace Go.Proofs.YtchinbgemenenaaGreatDoor
namespace Rows

/-- THE TIED CARD OF 'scrimshawtop.TopSaves'. -/
def topSavesCard : Claim7 := { stood := { row := topSavesRow, standIns := [], harness := (true, "c8f7c79492a96b125250125440e39a778d143623fee204b499e4f1de07f4f824"), looks := false }, kinds := [], alts := [], laidByText := true, laidKinds := [.data], laidTests := true, laidLooks := .later }
def TopSavesCardSaid : Prop := Claim7.holds Tryz.pinned (.plain (OpenSpec.ofChange topSavesSpec)) topSavesCard

/-- THE TIED CARD OF 'scrimshawtop.TopGrows'. -/
def topGrowsCard : Claim7 := { stood := { row := topGrowsRow, standIns := [], harness := (true, "c8f7c79492a96b125250125440e39a778d143623fee204b499e4f1de07f4f824"), looks := false }, kinds := [], alts := [], laidByText := true, laidKinds := [.data], laidTests := true, laidLooks := .later }
def TopGrowsCardSaid : Prop := Claim7.holds Tryz.pinned (.plain (OpenSpec.ofChange topGrowsSpec)) topGrowsCard

/-- THE TIED CARD OF 'scrimshawtop.TopFinds'. -/
def topFindsCard : Claim7 := { stood := { row := topFindsRow, standIns := [], harness := (true, "c8f7c79492a96b125250125440e39a778d143623fee204b499e4f1de07f4f824"), looks := false }, kinds := [], alts := [], laidByText := true, laidKinds := [.data], laidTests := true, laidLooks := .later }
def TopFindsCardSaid : Prop := Claim7.holds Tryz.pinned (.plain (OpenSpec.ofChange topFindsSpec)) topFindsCard

/-- THE TIED CARD OF 'scrimshawtop.TopRepeats'. -/
def topRepeatsCard : Claim7 := { stood := { row := topRepeatsRow, standIns := [], harness := (true, "c8f7c79492a96b125250125440e39a778d143623fee204b499e4f1de07f4f824"), looks := false }, kinds := [], alts := [], laidByText := true, laidKinds := [.data], laidTests := true, laidLooks := .later }
def TopRepeatsCardSaid : Prop := Claim7.holds Tryz.pinned (.plain (OpenSpec.ofChange topRepeatsSpec)) topRepeatsCard

/-- THE SECOND FORM's CARD OF 'scrimshawtop.TopSaves'. -/
def topSavesUptoCard : Claim7 := { stood := { row := topSavesUptoRow, standIns := [], harness := (true, "c8f7c79492a96b125250125440e39a778d143623fee204b499e4f1de07f4f824"), looks := false }, kinds := [], alts := [], laidByText := true, laidKinds := [.data], laidTests := true, laidLooks := .later }
def TopSavesUptoCardSaid : Prop := Claim7.holds Tryz.pinned (.plain (OpenSpec.upto topSavesSpec)) topSavesUptoCard

/-- THE SECOND FORM's CARD OF 'scrimshawtop.TopGrows'. -/
def topGrowsUptoCard : Claim7 := { stood := { row := topGrowsUptoRow, standIns := [], harness := (true, "c8f7c79492a96b125250125440e39a778d143623fee204b499e4f1de07f4f824"), looks := false }, kinds := [], alts := [], laidByText := true, laidKinds := [.data], laidTests := true, laidLooks := .later }
def TopGrowsUptoCardSaid : Prop := Claim7.holds Tryz.pinned (.plain (OpenSpec.upto topGrowsSpec)) topGrowsUptoCard

/-- THE SECOND FORM's CARD OF 'scrimshawtop.TopFinds'. -/
def topFindsUptoCard : Claim7 := { stood := { row := topFindsUptoRow, standIns := [], harness := (true, "c8f7c79492a96b125250125440e39a778d143623fee204b499e4f1de07f4f824"), looks := false }, kinds := [], alts := [], laidByText := true, laidKinds := [.data], laidTests := true, laidLooks := .later }
def TopFindsUptoCardSaid : Prop := Claim7.holds Tryz.pinned (.plain (OpenSpec.upto topFindsSpec)) topFindsUptoCard

/-- THE SECOND FORM's CARD OF 'scrimshawtop.TopRepeats'. -/
def topRepeatsUptoCard : Claim7 := { stood := { row := topRepeatsUptoRow, standIns := [], harness := (true, "c8f7c79492a96b125250125440e39a778d143623fee204b499e4f1de07f4f824"), looks := false }, kinds := [], alts := [], laidByText := true, laidKinds := [.data], laidTests := true, laidLooks := .later }
def TopRepeatsUptoCardSaid : Prop := Claim7.holds Tryz.pinned (.plain (OpenSpec.upto topRepeatsSpec)) topRepeatsUptoCard
end Rows
end Go.Proofs.YtchinbgemenenaaGreatDoor
