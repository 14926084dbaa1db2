/-
  DERIVED. GIVEN WITH THE SEED: THE CARDS: each row of YtacoeohmdngnkaaGreatDoorRows.lean that lists a variable, with what it lists TIED to the program's text (the seventh form; the later family's looks); each row that meets fmt, with fmt's text TOLD by the authors' own Lean function (tested against real Go, not proved from fmt's source: count such statements apart). THE CARD IS WHAT COUNTS. Prove the row's statement (the work); the ties are given (YtacoeohmdngnkaaGreatDoorTie.lean); close each card by the builder's one call (the guide's Derived/Test/ToyasCard.lean, 'card_holds'). Laid BY PROGRAM, IN A SANDBOX (cutbox-door.mjs). By AI agents, Wed Nov 11 2026. No macro, syntax, notation, axiom, sorry.
-/
import Derived.Test.YtacoeohmdngnkaaGreatDoorRows
import GoSem.ClaimSeven
namespace Go.Proofs.YtacoeohmdngnkaaGreatDoor
namespace Rows

/-- THE TIED CARD OF 'scrimshawlaw10.WalkAsks'. -/
def walkAsksCard : Claim7 := { stood := { row := walkAsksRow, standIns := [], harness := (true, "3f4458270770833ca7d700b68a429d6a0ae97922ca52f2cb3439e2fe4fa1a77b"), looks := false }, kinds := [], alts := [], laidByText := true, laidKinds := [.data], laidTests := true, laidLooks := .later }
def WalkAsksCardSaid : Prop := Claim7.holds Tryz.pinned (.plain (OpenSpec.ofChange walkAsksSpec)) walkAsksCard

/-- THE TIED CARD OF 'scrimshawlaw10.WalkFinds'. -/
def walkFindsCard : Claim7 := { stood := { row := walkFindsRow, standIns := [], harness := (true, "3f4458270770833ca7d700b68a429d6a0ae97922ca52f2cb3439e2fe4fa1a77b"), looks := false }, kinds := [], alts := [], laidByText := true, laidKinds := [.data], laidTests := true, laidLooks := .later }
def WalkFindsCardSaid : Prop := Claim7.holds Tryz.pinned (.plain (OpenSpec.ofChange walkFindsSpec)) walkFindsCard

/-- THE TIED CARD OF 'scrimshawlaw10.WalkSteps'. -/
def walkStepsCard : Claim7 := { stood := { row := walkStepsRow, standIns := [], harness := (true, "3f4458270770833ca7d700b68a429d6a0ae97922ca52f2cb3439e2fe4fa1a77b"), looks := false }, kinds := [], alts := [], laidByText := true, laidKinds := [.data], laidTests := true, laidLooks := .later }
def WalkStepsCardSaid : Prop := Claim7.holds Tryz.pinned (.plain (OpenSpec.ofChange walkStepsSpec)) walkStepsCard

/-- THE SECOND FORM's CARD OF 'scrimshawlaw10.WalkAsks'. -/
def walkAsksUptoCard : Claim7 := { stood := { row := walkAsksUptoRow, standIns := [], harness := (true, "3f4458270770833ca7d700b68a429d6a0ae97922ca52f2cb3439e2fe4fa1a77b"), looks := false }, kinds := [], alts := [], laidByText := true, laidKinds := [.data], laidTests := true, laidLooks := .later }
def WalkAsksUptoCardSaid : Prop := Claim7.holds Tryz.pinned (.plain (OpenSpec.upto walkAsksSpec)) walkAsksUptoCard

/-- THE SECOND FORM's CARD OF 'scrimshawlaw10.WalkFinds'. -/
def walkFindsUptoCard : Claim7 := { stood := { row := walkFindsUptoRow, standIns := [], harness := (true, "3f4458270770833ca7d700b68a429d6a0ae97922ca52f2cb3439e2fe4fa1a77b"), looks := false }, kinds := [], alts := [], laidByText := true, laidKinds := [.data], laidTests := true, laidLooks := .later }
def WalkFindsUptoCardSaid : Prop := Claim7.holds Tryz.pinned (.plain (OpenSpec.upto walkFindsSpec)) walkFindsUptoCard

/-- THE SECOND FORM's CARD OF 'scrimshawlaw10.WalkSteps'. -/
def walkStepsUptoCard : Claim7 := { stood := { row := walkStepsUptoRow, standIns := [], harness := (true, "3f4458270770833ca7d700b68a429d6a0ae97922ca52f2cb3439e2fe4fa1a77b"), looks := false }, kinds := [], alts := [], laidByText := true, laidKinds := [.data], laidTests := true, laidLooks := .later }
def WalkStepsUptoCardSaid : Prop := Claim7.holds Tryz.pinned (.plain (OpenSpec.upto walkStepsSpec)) walkStepsUptoCard
end Rows
end Go.Proofs.YtacoeohmdngnkaaGreatDoor
