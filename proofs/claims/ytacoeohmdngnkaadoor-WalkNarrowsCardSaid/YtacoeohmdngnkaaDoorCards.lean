/-
  DERIVED. GIVEN WITH THE SEED: THE CARDS: each row of YtacoeohmdngnkaaDoorRows.lean that lists a variable, with what it lists TIED to the program's text (the seventh form; the later family's looks); each row that meets fmt, with fmt's text TOLD by the authors' own Lean function (tested against real Go, not proved from fmt's source: count such statements apart). THE CARD IS WHAT COUNTS. Prove the row's statement (the work); the ties are given (YtacoeohmdngnkaaDoorTie.lean); close each card by the builder's one call (the guide's Derived/Test/ToyasCard.lean, 'card_holds'). Laid BY PROGRAM, IN A SANDBOX (cutbox-door.mjs). By AI agents, Wed Nov 11 2026. No macro, syntax, notation, axiom, sorry.
-/
import Derived.Test.YtacoeohmdngnkaaDoorRows
import GoSem.ClaimSeven
namespace Go.Proofs.YtacoeohmdngnkaaDoor
namespace Rows

/-- THE TIED CARD OF 'scrimshawlaw10.WalkNarrows'. -/
def walkNarrowsCard : Claim7 := { stood := { row := walkNarrowsRow, standIns := [], harness := (true, "85ef61d650ea8ce2d3fa1ae27430e4dc80fa662c6f1a7f7224b2bdbfbd9a7c1e"), looks := false }, kinds := [], alts := [], laidByText := true, laidKinds := [.data], laidTests := true, laidLooks := .later }
def WalkNarrowsCardSaid : Prop := Claim7.holds Tryd.pinned (.plain (OpenSpec.ofChange walkNarrowsSpec)) walkNarrowsCard

/-- THE TIED CARD OF 'scrimshawlaw10.WalkRound'. -/
def walkRoundCard : Claim7 := { stood := { row := walkRoundRow, standIns := [], harness := (true, "85ef61d650ea8ce2d3fa1ae27430e4dc80fa662c6f1a7f7224b2bdbfbd9a7c1e"), looks := false }, kinds := [], alts := [], laidByText := true, laidKinds := [.data], laidTests := true, laidLooks := .later }
def WalkRoundCardSaid : Prop := Claim7.holds Tryd.pinned (.plain (OpenSpec.ofChange walkRoundSpec)) walkRoundCard

/-- THE TIED CARD OF 'scrimshawlaw10.WalkFirst'. -/
def walkFirstCard : Claim7 := { stood := { row := walkFirstRow, standIns := [], harness := (true, "85ef61d650ea8ce2d3fa1ae27430e4dc80fa662c6f1a7f7224b2bdbfbd9a7c1e"), looks := false }, kinds := [], alts := [], laidByText := true, laidKinds := [.data], laidTests := true, laidLooks := .later }
def WalkFirstCardSaid : Prop := Claim7.holds Tryd.pinned (.plain (OpenSpec.ofChange walkFirstSpec)) walkFirstCard

/-- THE TIED CARD OF 'scrimshawlaw2.BlockPlays'. -/
def blockPlaysCard : Claim7 := { stood := { row := blockPlaysRow, standIns := [], harness := (true, "85ef61d650ea8ce2d3fa1ae27430e4dc80fa662c6f1a7f7224b2bdbfbd9a7c1e"), looks := false }, kinds := [], alts := [], laidByText := true, laidKinds := [.data], laidTests := true, laidLooks := .later }
def BlockPlaysCardSaid : Prop := Claim7.holds Tryd.pinned (.plain (OpenSpec.ofChange blockPlaysSpec)) blockPlaysCard

/-- THE SECOND FORM's CARD OF 'scrimshawlaw10.WalkNarrows'. -/
def walkNarrowsUptoCard : Claim7 := { stood := { row := walkNarrowsUptoRow, standIns := [], harness := (true, "85ef61d650ea8ce2d3fa1ae27430e4dc80fa662c6f1a7f7224b2bdbfbd9a7c1e"), looks := false }, kinds := [], alts := [], laidByText := true, laidKinds := [.data], laidTests := true, laidLooks := .later }
def WalkNarrowsUptoCardSaid : Prop := Claim7.holds Tryd.pinned (.plain (OpenSpec.upto walkNarrowsSpec)) walkNarrowsUptoCard

/-- THE SECOND FORM's CARD OF 'scrimshawlaw10.WalkRound'. -/
def walkRoundUptoCard : Claim7 := { stood := { row := walkRoundUptoRow, standIns := [], harness := (true, "85ef61d650ea8ce2d3fa1ae27430e4dc80fa662c6f1a7f7224b2bdbfbd9a7c1e"), looks := false }, kinds := [], alts := [], laidByText := true, laidKinds := [.data], laidTests := true, laidLooks := .later }
def WalkRoundUptoCardSaid : Prop := Claim7.holds Tryd.pinned (.plain (OpenSpec.upto walkRoundSpec)) walkRoundUptoCard

/-- THE SECOND FORM's CARD OF 'scrimshawlaw10.WalkFirst'. -/
def walkFirstUptoCard : Claim7 := { stood := { row := walkFirstUptoRow, standIns := [], harness := (true, "85ef61d650ea8ce2d3fa1ae27430e4dc80fa662c6f1a7f7224b2bdbfbd9a7c1e"), looks := false }, kinds := [], alts := [], laidByText := true, laidKinds := [.data], laidTests := true, laidLooks := .later }
def WalkFirstUptoCardSaid : Prop := Claim7.holds Tryd.pinned (.plain (OpenSpec.upto walkFirstSpec)) walkFirstUptoCard

/-- THE SECOND FORM's CARD OF 'scrimshawlaw2.BlockPlays'. -/
def blockPlaysUptoCard : Claim7 := { stood := { row := blockPlaysUptoRow, standIns := [], harness := (true, "85ef61d650ea8ce2d3fa1ae27430e4dc80fa662c6f1a7f7224b2bdbfbd9a7c1e"), looks := false }, kinds := [], alts := [], laidByText := true, laidKinds := [.data], laidTests := true, laidLooks := .later }
def BlockPlaysUptoCardSaid : Prop := Claim7.holds Tryd.pinned (.plain (OpenSpec.upto blockPlaysSpec)) blockPlaysUptoCard
end Rows
end Go.Proofs.YtacoeohmdngnkaaDoor
