/-
  No cell of these rows narrows 'for every input' (looked for: loops, veiled, ifaces, maps, wideKeys, modest, calm, conditions, laid).
  DERIVED. THE GIVEN ROWS OF THIS SEAT. 13 by the template 'for every input the law returns true; each argument reads behind the call as it read before'; 0 by the template 'total and deterministic' (their statements: YtpbmhdkhkbhgnaaTotals.lean).
  GIVEN WITH THE SEED: the statements are not yours to turn. If you find one false, say at which input.
  Laid BY PROGRAM, IN A SANDBOX (cutbox-rows.mjs): the forced cells as the released guide's own fill.sh prints them over the translation 1e78245113344a02… (all of the seat's roots in one cut). By AI agents, Wed Nov 11 2026. No macro, syntax, notation, axiom, sorry.
-/
import Derived.Test.YtpbmhdkhkbhgnaaChecked
import GoSem.Claim
import GoSem.ClaimJoined
import GoSem.ClaimMapViews
import Derived.JoinedTies
import Derived.KernelRfl
namespace Go.Proofs.Ytpbmhdkhkbhgnaa
/- THE CELL 'sum', in the pinned program and in every row, IS THE sha256 OF THE DUMP (.gsa) THAT YtpbmhdkhkbhgnaaProg.lean LOADS. Nothing in Lean hashes anything: it is a label: what it is worth is what the hold of that sum in a sandbox is worth. -/
noncomputable def Try.pinned : Pinned := { name := "ytpbmhdkhkbhgnaa", sum := "1e78245113344a0212b1657ecbfe981ebbf6c3c10d6b965feba64de709c5f3cc", checked := Try.checked }
namespace Rows
def none {H : Type} : Left H := { results := [], args := [] }

/-- 'scrimshawlaw9.SortedAhead': WHATEVER THE INPUT: true; the input reads as it did. -/
def sortedAheadSpec : ChangeSpec := { name := "sortedAhead", fn := fun _ => fun
  | [d1, d2, d3] => { results := [.lit (.bool true)], args := [d1, d2, d3] }
  | _ => none }
def sortedAheadRow : OpenClaim := { program := "ytpbmhdkhkbhgnaa", sum := "1e78245113344a0212b1657ecbfe981ebbf6c3c10d6b965feba64de709c5f3cc", func := "scrimshaw/scrimshawlaw9.SortedAhead", spec := "sortedAhead", unfollowed := true, recurses := true, apart := false }
def SortedAheadSaid : Prop := sortedAheadRow.holds Try.pinned (OpenSpec.ofChange sortedAheadSpec)

/-- ITS FALSE NEIGHBOUR: 'it returns false'. Refute it at one input. -/
def sortedAheadWrong : ChangeSpec := { name := "sortedAhead", fn := fun _ => fun
  | [d1, d2, d3] => { results := [.lit (.bool false)], args := [d1, d2, d3] }
  | _ => none }
def SortedAheadWrongFalsely : Prop := sortedAheadRow.holds Try.pinned (OpenSpec.ofChange sortedAheadWrong)

/-- 'scrimshawlaw9.SortedAsks': WHATEVER THE INPUT: true; the input reads as it did. -/
def sortedAsksSpec : ChangeSpec := { name := "sortedAsks", fn := fun _ => fun
  | [d1, d2, d3] => { results := [.lit (.bool true)], args := [d1, d2, d3] }
  | _ => none }
def sortedAsksRow : OpenClaim := { program := "ytpbmhdkhkbhgnaa", sum := "1e78245113344a0212b1657ecbfe981ebbf6c3c10d6b965feba64de709c5f3cc", func := "scrimshaw/scrimshawlaw9.SortedAsks", spec := "sortedAsks", unfollowed := true, recurses := true, apart := false }
def SortedAsksSaid : Prop := sortedAsksRow.holds Try.pinned (OpenSpec.ofChange sortedAsksSpec)

/-- ITS FALSE NEIGHBOUR: 'it returns false'. Refute it at one input. -/
def sortedAsksWrong : ChangeSpec := { name := "sortedAsks", fn := fun _ => fun
  | [d1, d2, d3] => { results := [.lit (.bool false)], args := [d1, d2, d3] }
  | _ => none }
def SortedAsksWrongFalsely : Prop := sortedAsksRow.holds Try.pinned (OpenSpec.ofChange sortedAsksWrong)

/-- 'scrimshawlaw9.SortedRises': WHATEVER THE INPUT: true; the input reads as it did. -/
def sortedRisesSpec : ChangeSpec := { name := "sortedRises", fn := fun _ => fun
  | [d1, d2] => { results := [.lit (.bool true)], args := [d1, d2] }
  | _ => none }
def sortedRisesRow : OpenClaim := { program := "ytpbmhdkhkbhgnaa", sum := "1e78245113344a0212b1657ecbfe981ebbf6c3c10d6b965feba64de709c5f3cc", func := "scrimshaw/scrimshawlaw9.SortedRises", spec := "sortedRises", unfollowed := true, recurses := true, apart := false }
def SortedRisesSaid : Prop := sortedRisesRow.holds Try.pinned (OpenSpec.ofChange sortedRisesSpec)

/-- ITS FALSE NEIGHBOUR: 'it returns false'. Refute it at one input. -/
def sortedRisesWrong : ChangeSpec := { name := "sortedRises", fn := fun _ => fun
  | [d1, d2] => { results := [.lit (.bool false)], args := [d1, d2] }
  | _ => none }
def SortedRisesWrongFalsely : Prop := sortedRisesRow.holds Try.pinned (OpenSpec.ofChange sortedRisesWrong)

/-- 'scrimshawlaw9.SortedBack': WHATEVER THE INPUT: true; the input reads as it did. -/
def sortedBackSpec : ChangeSpec := { name := "sortedBack", fn := fun _ => fun
  | [d1, d2, d3, d4] => { results := [.lit (.bool true)], args := [d1, d2, d3, d4] }
  | _ => none }
def sortedBackRow : OpenClaim := { program := "ytpbmhdkhkbhgnaa", sum := "1e78245113344a0212b1657ecbfe981ebbf6c3c10d6b965feba64de709c5f3cc", func := "scrimshaw/scrimshawlaw9.SortedBack", spec := "sortedBack", unfollowed := true, recurses := true, apart := false }
def SortedBackSaid : Prop := sortedBackRow.holds Try.pinned (OpenSpec.ofChange sortedBackSpec)

/-- ITS FALSE NEIGHBOUR: 'it returns false'. Refute it at one input. -/
def sortedBackWrong : ChangeSpec := { name := "sortedBack", fn := fun _ => fun
  | [d1, d2, d3, d4] => { results := [.lit (.bool false)], args := [d1, d2, d3, d4] }
  | _ => none }
def SortedBackWrongFalsely : Prop := sortedBackRow.holds Try.pinned (OpenSpec.ofChange sortedBackWrong)

/-- 'scrimshawlaw9.SortedTwice': WHATEVER THE INPUT: true; the input reads as it did. -/
def sortedTwiceSpec : ChangeSpec := { name := "sortedTwice", fn := fun _ => fun
  | [d] => { results := [.lit (.bool true)], args := [d] }
  | _ => none }
def sortedTwiceRow : OpenClaim := { program := "ytpbmhdkhkbhgnaa", sum := "1e78245113344a0212b1657ecbfe981ebbf6c3c10d6b965feba64de709c5f3cc", func := "scrimshaw/scrimshawlaw9.SortedTwice", spec := "sortedTwice", unfollowed := true, recurses := true, apart := false }
def SortedTwiceSaid : Prop := sortedTwiceRow.holds Try.pinned (OpenSpec.ofChange sortedTwiceSpec)

/-- ITS FALSE NEIGHBOUR: 'it returns false'. Refute it at one input. -/
def sortedTwiceWrong : ChangeSpec := { name := "sortedTwice", fn := fun _ => fun
  | [d] => { results := [.lit (.bool false)], args := [d] }
  | _ => none }
def SortedTwiceWrongFalsely : Prop := sortedTwiceRow.holds Try.pinned (OpenSpec.ofChange sortedTwiceWrong)

/-- 'scrimshawlaw9.SortedRuns': WHATEVER THE INPUT: true; the input reads as it did. -/
def sortedRunsSpec : ChangeSpec := { name := "sortedRuns", fn := fun _ => fun
  | [d1, d2] => { results := [.lit (.bool true)], args := [d1, d2] }
  | _ => none }
def sortedRunsRow : OpenClaim := { program := "ytpbmhdkhkbhgnaa", sum := "1e78245113344a0212b1657ecbfe981ebbf6c3c10d6b965feba64de709c5f3cc", func := "scrimshaw/scrimshawlaw9.SortedRuns", spec := "sortedRuns", unfollowed := true, recurses := true, apart := false }
def SortedRunsSaid : Prop := sortedRunsRow.holds Try.pinned (OpenSpec.ofChange sortedRunsSpec)

/-- ITS FALSE NEIGHBOUR: 'it returns false'. Refute it at one input. -/
def sortedRunsWrong : ChangeSpec := { name := "sortedRuns", fn := fun _ => fun
  | [d1, d2] => { results := [.lit (.bool false)], args := [d1, d2] }
  | _ => none }
def SortedRunsWrongFalsely : Prop := sortedRunsRow.holds Try.pinned (OpenSpec.ofChange sortedRunsWrong)

/-- 'scrimshawlaw9.SortedWrong': WHATEVER THE INPUT: true; the input reads as it did. -/
def sortedWrongSpec : ChangeSpec := { name := "sortedWrong", fn := fun _ => fun
  | [d1, d2, d3, d4] => { results := [.lit (.bool true)], args := [d1, d2, d3, d4] }
  | _ => none }
def sortedWrongRow : OpenClaim := { program := "ytpbmhdkhkbhgnaa", sum := "1e78245113344a0212b1657ecbfe981ebbf6c3c10d6b965feba64de709c5f3cc", func := "scrimshaw/scrimshawlaw9.SortedWrong", spec := "sortedWrong", unfollowed := true, recurses := true, apart := false }
def SortedWrongSaid : Prop := sortedWrongRow.holds Try.pinned (OpenSpec.ofChange sortedWrongSpec)

/-- ITS FALSE NEIGHBOUR: 'it returns false'. Refute it at one input. -/
def sortedWrongWrong : ChangeSpec := { name := "sortedWrong", fn := fun _ => fun
  | [d1, d2, d3, d4] => { results := [.lit (.bool false)], args := [d1, d2, d3, d4] }
  | _ => none }
def SortedWrongWrongFalsely : Prop := sortedWrongRow.holds Try.pinned (OpenSpec.ofChange sortedWrongWrong)

/-- 'scrimshawlaw11.PermMoves': WHATEVER THE INPUT: true; the input reads as it did. -/
def permMovesSpec : ChangeSpec := { name := "permMoves", fn := fun _ => fun
  | [d] => { results := [.lit (.bool true)], args := [d] }
  | _ => none }
def permMovesRow : OpenClaim := { program := "ytpbmhdkhkbhgnaa", sum := "1e78245113344a0212b1657ecbfe981ebbf6c3c10d6b965feba64de709c5f3cc", func := "scrimshaw/scrimshawlaw11.PermMoves", spec := "permMoves", inPlace := ["slices.overlaps[int]"], unfollowed := true, recurses := true, apart := false }
def PermMovesSaid : Prop := permMovesRow.holds Try.pinned (OpenSpec.ofChange permMovesSpec)

/-- ITS FALSE NEIGHBOUR: 'it returns false'. Refute it at one input. -/
def permMovesWrong : ChangeSpec := { name := "permMoves", fn := fun _ => fun
  | [d] => { results := [.lit (.bool false)], args := [d] }
  | _ => none }
def PermMovesWrongFalsely : Prop := permMovesRow.holds Try.pinned (OpenSpec.ofChange permMovesWrong)

/-- 'scrimshawlaw11.PermOrders': WHATEVER THE INPUT: true; the input reads as it did. -/
def permOrdersSpec : ChangeSpec := { name := "permOrders", fn := fun _ => fun
  | [d] => { results := [.lit (.bool true)], args := [d] }
  | _ => none }
def permOrdersRow : OpenClaim := { program := "ytpbmhdkhkbhgnaa", sum := "1e78245113344a0212b1657ecbfe981ebbf6c3c10d6b965feba64de709c5f3cc", func := "scrimshaw/scrimshawlaw11.PermOrders", spec := "permOrders", inPlace := ["slices.overlaps[int]"], unfollowed := true, recurses := true, apart := false }
def PermOrdersSaid : Prop := permOrdersRow.holds Try.pinned (OpenSpec.ofChange permOrdersSpec)

/-- ITS FALSE NEIGHBOUR: 'it returns false'. Refute it at one input. -/
def permOrdersWrong : ChangeSpec := { name := "permOrders", fn := fun _ => fun
  | [d] => { results := [.lit (.bool false)], args := [d] }
  | _ => none }
def PermOrdersWrongFalsely : Prop := permOrdersRow.holds Try.pinned (OpenSpec.ofChange permOrdersWrong)

/-- 'scrimshawlaw11.PermNext': WHATEVER THE INPUT: true; the input reads as it did. -/
def permNextSpec : ChangeSpec := { name := "permNext", fn := fun _ => fun
  | [d1, d2] => { results := [.lit (.bool true)], args := [d1, d2] }
  | _ => none }
def permNextRow : OpenClaim := { program := "ytpbmhdkhkbhgnaa", sum := "1e78245113344a0212b1657ecbfe981ebbf6c3c10d6b965feba64de709c5f3cc", func := "scrimshaw/scrimshawlaw11.PermNext", spec := "permNext", inPlace := ["slices.overlaps[int]"], unfollowed := true, recurses := true, apart := false }
def PermNextSaid : Prop := permNextRow.holds Try.pinned (OpenSpec.ofChange permNextSpec)

/-- ITS FALSE NEIGHBOUR: 'it returns false'. Refute it at one input. -/
def permNextWrong : ChangeSpec := { name := "permNext", fn := fun _ => fun
  | [d1, d2] => { results := [.lit (.bool false)], args := [d1, d2] }
  | _ => none }
def PermNextWrongFalsely : Prop := permNextRow.holds Try.pinned (OpenSpec.ofChange permNextWrong)

/-- 'scrimshawlaw11.PermRaw': WHATEVER THE INPUT: true; the input reads as it did. -/
def permRawSpec : ChangeSpec := { name := "permRaw", fn := fun _ => fun
  | [d1, d2, d3] => { results := [.lit (.bool true)], args := [d1, d2, d3] }
  | _ => none }
def permRawRow : OpenClaim := { program := "ytpbmhdkhkbhgnaa", sum := "1e78245113344a0212b1657ecbfe981ebbf6c3c10d6b965feba64de709c5f3cc", func := "scrimshaw/scrimshawlaw11.PermRaw", spec := "permRaw", inPlace := ["slices.overlaps[int]"], unfollowed := true, recurses := true, apart := false }
def PermRawSaid : Prop := permRawRow.holds Try.pinned (OpenSpec.ofChange permRawSpec)

/-- ITS FALSE NEIGHBOUR: 'it returns false'. Refute it at one input. -/
def permRawWrong : ChangeSpec := { name := "permRaw", fn := fun _ => fun
  | [d1, d2, d3] => { results := [.lit (.bool false)], args := [d1, d2, d3] }
  | _ => none }
def PermRawWrongFalsely : Prop := permRawRow.holds Try.pinned (OpenSpec.ofChange permRawWrong)

/-- 'scrimshawlaw11.PermPlays': WHATEVER THE INPUT: true; the input reads as it did. -/
def permPlaysSpec : ChangeSpec := { name := "permPlays", fn := fun _ => fun
  | [d1, d2, d3] => { results := [.lit (.bool true)], args := [d1, d2, d3] }
  | _ => none }
def permPlaysRow : OpenClaim := { program := "ytpbmhdkhkbhgnaa", sum := "1e78245113344a0212b1657ecbfe981ebbf6c3c10d6b965feba64de709c5f3cc", func := "scrimshaw/scrimshawlaw11.PermPlays", spec := "permPlays", inPlace := ["slices.overlaps[int]"], unfollowed := true, recurses := true, apart := false }
def PermPlaysSaid : Prop := permPlaysRow.holds Try.pinned (OpenSpec.ofChange permPlaysSpec)

/-- ITS FALSE NEIGHBOUR: 'it returns false'. Refute it at one input. -/
def permPlaysWrong : ChangeSpec := { name := "permPlays", fn := fun _ => fun
  | [d1, d2, d3] => { results := [.lit (.bool false)], args := [d1, d2, d3] }
  | _ => none }
def PermPlaysWrongFalsely : Prop := permPlaysRow.holds Try.pinned (OpenSpec.ofChange permPlaysWrong)

/-- 'scrimshawlaw11.PermUndo': WHATEVER THE INPUT: true; the input reads as it did. -/
def permUndoSpec : ChangeSpec := { name := "permUndo", fn := fun _ => fun
  | [d1, d2, d3, d4] => { results := [.lit (.bool true)], args := [d1, d2, d3, d4] }
  | _ => none }
def permUndoRow : OpenClaim := { program := "ytpbmhdkhkbhgnaa", sum := "1e78245113344a0212b1657ecbfe981ebbf6c3c10d6b965feba64de709c5f3cc", func := "scrimshaw/scrimshawlaw11.PermUndo", spec := "permUndo", inPlace := ["slices.overlaps[int]"], unfollowed := true, recurses := true, apart := false }
def PermUndoSaid : Prop := permUndoRow.holds Try.pinned (OpenSpec.ofChange permUndoSpec)

/-- ITS FALSE NEIGHBOUR: 'it returns false'. Refute it at one input. -/
def permUndoWrong : ChangeSpec := { name := "permUndo", fn := fun _ => fun
  | [d1, d2, d3, d4] => { results := [.lit (.bool false)], args := [d1, d2, d3, d4] }
  | _ => none }
def PermUndoWrongFalsely : Prop := permUndoRow.holds Try.pinned (OpenSpec.ofChange permUndoWrong)

/- THE SECOND FORM. 'bulk': how many values and letters a reading holds, each counted each time it is reached (what is shared counts as often as it is met; a slice's spare places count too). A statement '..UptoSaid' is the law's where the arguments, and the package variables that the reading takes, are together of bulk at most 1048576: NARROWER than '..Said'. Prove '..Said' where nothing that the law and all that it calls make is longer than what came in: it says more and counts as full. Else prove '..UptoSaid'. A law counts once. -/
mutual
def uptoBulk {H : Type} : DataW H → Nat
  | .lit (.string bytes) => bytes.length + 1
  | .lit _ => 1
  | .nil => 1
  | .ptr d => uptoBulk d + 1
  | .slice elems spare => uptoBulkAll elems + uptoBulkAll spare + 1
  | .agg parts => uptoBulkAll parts + 1
  | .iface _ d => uptoBulk d + 1
  | .map entries => uptoBulkEntries entries + 1
  | .held _ => 1
def uptoBulkAll {H : Type} : List (DataW H) → Nat
  | [] => 0
  | d :: r => uptoBulk d + uptoBulkAll r
def uptoBulkEntries {H : Type} : List (Lit × DataW H) → Nat
  | [] => 0
  | x :: r => uptoBulkEntry x + uptoBulkEntries r
def uptoBulkEntry {H : Type} : Lit × DataW H → Nat
  | (.string bytes, d) => bytes.length + uptoBulk d + 1
  | (_, d) => uptoBulk d + 1
 end
def uptoSmall : (H : Type) → List (DataW H) → Bool := fun _ ds => decide (uptoBulkAll ds ≤ 1048576)
def OpenSpec.upto (s : _root_.Go.ChangeSpec) : _root_.Go.OpenSpec := { _root_.Go.OpenSpec.ofChange s with cond := some uptoSmall }

/-- 'scrimshawlaw9.SortedAhead', WHERE WHAT IT READS IS OF BULK AT MOST 1048576: true; the input reads as it did. -/
def sortedAheadUptoRow : OpenClaim := { program := "ytpbmhdkhkbhgnaa", sum := "1e78245113344a0212b1657ecbfe981ebbf6c3c10d6b965feba64de709c5f3cc", func := "scrimshaw/scrimshawlaw9.SortedAhead", spec := "sortedAhead", unfollowed := true, recurses := true, apart := false, narrowed := true }
def SortedAheadUptoSaid : Prop := sortedAheadUptoRow.holds Try.pinned (OpenSpec.upto sortedAheadSpec)

/-- 'scrimshawlaw9.SortedAsks', WHERE WHAT IT READS IS OF BULK AT MOST 1048576: true; the input reads as it did. -/
def sortedAsksUptoRow : OpenClaim := { program := "ytpbmhdkhkbhgnaa", sum := "1e78245113344a0212b1657ecbfe981ebbf6c3c10d6b965feba64de709c5f3cc", func := "scrimshaw/scrimshawlaw9.SortedAsks", spec := "sortedAsks", unfollowed := true, recurses := true, apart := false, narrowed := true }
def SortedAsksUptoSaid : Prop := sortedAsksUptoRow.holds Try.pinned (OpenSpec.upto sortedAsksSpec)

/-- 'scrimshawlaw9.SortedRises', WHERE WHAT IT READS IS OF BULK AT MOST 1048576: true; the input reads as it did. -/
def sortedRisesUptoRow : OpenClaim := { program := "ytpbmhdkhkbhgnaa", sum := "1e78245113344a0212b1657ecbfe981ebbf6c3c10d6b965feba64de709c5f3cc", func := "scrimshaw/scrimshawlaw9.SortedRises", spec := "sortedRises", unfollowed := true, recurses := true, apart := false, narrowed := true }
def SortedRisesUptoSaid : Prop := sortedRisesUptoRow.holds Try.pinned (OpenSpec.upto sortedRisesSpec)

/-- 'scrimshawlaw9.SortedBack', WHERE WHAT IT READS IS OF BULK AT MOST 1048576: true; the input reads as it did. -/
def sortedBackUptoRow : OpenClaim := { program := "ytpbmhdkhkbhgnaa", sum := "1e78245113344a0212b1657ecbfe981ebbf6c3c10d6b965feba64de709c5f3cc", func := "scrimshaw/scrimshawlaw9.SortedBack", spec := "sortedBack", unfollowed := true, recurses := true, apart := false, narrowed := true }
def SortedBackUptoSaid : Prop := sortedBackUptoRow.holds Try.pinned (OpenSpec.upto sortedBackSpec)

/-- 'scrimshawlaw9.SortedTwice', WHERE WHAT IT READS IS OF BULK AT MOST 1048576: true; the input reads as it did. -/
def sortedTwiceUptoRow : OpenClaim := { program := "ytpbmhdkhkbhgnaa", sum := "1e78245113344a0212b1657ecbfe981ebbf6c3c10d6b965feba64de709c5f3cc", func := "scrimshaw/scrimshawlaw9.SortedTwice", spec := "sortedTwice", unfollowed := true, recurses := true, apart := false, narrowed := true }
def SortedTwiceUptoSaid : Prop := sortedTwiceUptoRow.holds Try.pinned (OpenSpec.upto sortedTwiceSpec)

/-- 'scrimshawlaw9.SortedRuns', WHERE WHAT IT READS IS OF BULK AT MOST 1048576: true; the input reads as it did. -/
def sortedRunsUptoRow : OpenClaim := { program := "ytpbmhdkhkbhgnaa", sum := "1e78245113344a0212b1657ecbfe981ebbf6c3c10d6b965feba64de709c5f3cc", func := "scrimshaw/scrimshawlaw9.SortedRuns", spec := "sortedRuns", unfollowed := true, recurses := true, apart := false, narrowed := true }
def SortedRunsUptoSaid : Prop := sortedRunsUptoRow.holds Try.pinned (OpenSpec.upto sortedRunsSpec)

/-- 'scrimshawlaw9.SortedWrong', WHERE WHAT IT READS IS OF BULK AT MOST 1048576: true; the input reads as it did. -/
def sortedWrongUptoRow : OpenClaim := { program := "ytpbmhdkhkbhgnaa", sum := "1e78245113344a0212b1657ecbfe981ebbf6c3c10d6b965feba64de709c5f3cc", func := "scrimshaw/scrimshawlaw9.SortedWrong", spec := "sortedWrong", unfollowed := true, recurses := true, apart := false, narrowed := true }
def SortedWrongUptoSaid : Prop := sortedWrongUptoRow.holds Try.pinned (OpenSpec.upto sortedWrongSpec)

/-- 'scrimshawlaw11.PermMoves', WHERE WHAT IT READS IS OF BULK AT MOST 1048576: true; the input reads as it did. -/
def permMovesUptoRow : OpenClaim := { program := "ytpbmhdkhkbhgnaa", sum := "1e78245113344a0212b1657ecbfe981ebbf6c3c10d6b965feba64de709c5f3cc", func := "scrimshaw/scrimshawlaw11.PermMoves", spec := "permMoves", inPlace := ["slices.overlaps[int]"], unfollowed := true, recurses := true, apart := false, narrowed := true }
def PermMovesUptoSaid : Prop := permMovesUptoRow.holds Try.pinned (OpenSpec.upto permMovesSpec)

/-- 'scrimshawlaw11.PermOrders', WHERE WHAT IT READS IS OF BULK AT MOST 1048576: true; the input reads as it did. -/
def permOrdersUptoRow : OpenClaim := { program := "ytpbmhdkhkbhgnaa", sum := "1e78245113344a0212b1657ecbfe981ebbf6c3c10d6b965feba64de709c5f3cc", func := "scrimshaw/scrimshawlaw11.PermOrders", spec := "permOrders", inPlace := ["slices.overlaps[int]"], unfollowed := true, recurses := true, apart := false, narrowed := true }
def PermOrdersUptoSaid : Prop := permOrdersUptoRow.holds Try.pinned (OpenSpec.upto permOrdersSpec)

/-- 'scrimshawlaw11.PermNext', WHERE WHAT IT READS IS OF BULK AT MOST 1048576: true; the input reads as it did. -/
def permNextUptoRow : OpenClaim := { program := "ytpbmhdkhkbhgnaa", sum := "1e78245113344a0212b1657ecbfe981ebbf6c3c10d6b965feba64de709c5f3cc", func := "scrimshaw/scrimshawlaw11.PermNext", spec := "permNext", inPlace := ["slices.overlaps[int]"], unfollowed := true, recurses := true, apart := false, narrowed := true }
def PermNextUptoSaid : Prop := permNextUptoRow.holds Try.pinned (OpenSpec.upto permNextSpec)

/-- 'scrimshawlaw11.PermRaw', WHERE WHAT IT READS IS OF BULK AT MOST 1048576: true; the input reads as it did. -/
def permRawUptoRow : OpenClaim := { program := "ytpbmhdkhkbhgnaa", sum := "1e78245113344a0212b1657ecbfe981ebbf6c3c10d6b965feba64de709c5f3cc", func := "scrimshaw/scrimshawlaw11.PermRaw", spec := "permRaw", inPlace := ["slices.overlaps[int]"], unfollowed := true, recurses := true, apart := false, narrowed := true }
def PermRawUptoSaid : Prop := permRawUptoRow.holds Try.pinned (OpenSpec.upto permRawSpec)

/-- 'scrimshawlaw11.PermPlays', WHERE WHAT IT READS IS OF BULK AT MOST 1048576: true; the input reads as it did. -/
def permPlaysUptoRow : OpenClaim := { program := "ytpbmhdkhkbhgnaa", sum := "1e78245113344a0212b1657ecbfe981ebbf6c3c10d6b965feba64de709c5f3cc", func := "scrimshaw/scrimshawlaw11.PermPlays", spec := "permPlays", inPlace := ["slices.overlaps[int]"], unfollowed := true, recurses := true, apart := false, narrowed := true }
def PermPlaysUptoSaid : Prop := permPlaysUptoRow.holds Try.pinned (OpenSpec.upto permPlaysSpec)

/-- 'scrimshawlaw11.PermUndo', WHERE WHAT IT READS IS OF BULK AT MOST 1048576: true; the input reads as it did. -/
def permUndoUptoRow : OpenClaim := { program := "ytpbmhdkhkbhgnaa", sum := "1e78245113344a0212b1657ecbfe981ebbf6c3c10d6b965feba64de709c5f3cc", func := "scrimshaw/scrimshawlaw11.PermUndo", spec := "permUndo", inPlace := ["slices.overlaps[int]"], unfollowed := true, recurses := true, apart := false, narrowed := true }
def PermUndoUptoSaid : Prop := permUndoUptoRow.holds Try.pinned (OpenSpec.upto permUndoSpec)

end Rows
end Go.Proofs.Ytpbmhdkhkbhgnaa
