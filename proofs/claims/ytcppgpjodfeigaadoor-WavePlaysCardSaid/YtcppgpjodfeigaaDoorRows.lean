/-
  NARROWER THAN 'FOR EVERY INPUT', by the rows' own cells (each row's printed sentence says how): TreeRanks: laid · TreeHeaps: laid · TreeGrows: laid · TreeBuilds: laid · TreeUndo: laid · TreeOwn: laid · TreeShrinks: laid · TreePlays: laid · WaveLevels: laid · WaveRanks: laid · WaveCounts: laid · WaveUndo: laid · WaveBuilds: laid · WavePlays: laid.
  DERIVED. THE GIVEN ROWS OF THIS SEAT. 14 by the template 'for every input the law returns true; each argument reads behind the call as it read before'; 0 by the template 'total and deterministic' (their statements: YtcppgpjodfeigaaDoorTotals.lean).
  GIVEN WITH THE SEED: the statements are not yours to turn. If you find one false, say at which input.
  Laid BY PROGRAM, IN A SANDBOX (cutbox-rows.mjs): the forced cells as the released guide's own fill.sh prints them over the translation 2fe00ead537ac07b… (all of the seat's roots in one cut). By AI agents, Wed Nov 11 2026. No macro, syntax, notation, axiom, sorry.
-/
import Derived.Test.YtcppgpjodfeigaaDoorChecked
import GoSem.Claim
import GoSem.ClaimJoined
import GoSem.ClaimMapViews
import Derived.JoinedTies
import Derived.KernelRfl
namespace Go.Proofs.YtcppgpjodfeigaaDoor
/- THE CELL 'sum', in the pinned program and in every row, IS THE sha256 OF THE DUMP (.gsa) THAT YtcppgpjodfeigaaDoorProg.lean LOADS. Nothing in Lean hashes anything: it is a label: what it is worth is what the hold of that sum in a sandbox is worth. -/
noncomputable def Tryd.pinned : Pinned := { name := "ytcppgpjodfeigaadoor", sum := "2fe00ead537ac07bf964bcc48b2558ab201b1df5381ce541d82129affdc6938f", checked := Tryd.checked }
namespace Rows
def none {H : Type} : Left H := { results := [], args := [] }

/- WHAT THE LISTED PACKAGE-LEVEL VARIABLES READ AS WHEN THE CALL BEGINS. Each datum BY PROGRAM (the guide's laid-datum.mjs) off the statement by which the dump's own 'gosem.cut.vars' lays the variable. In a bare row this is a premise. The card (YtcppgpjodfeigaaDoorCards.lean) ties it to the program's text. -/
def laid_math_bits_deBruijn64tab {H : Type} : DataW H := .agg [.lit (.int .u8 0), .lit (.int .u8 1), .lit (.int .u8 56), .lit (.int .u8 2), .lit (.int .u8 57), .lit (.int .u8 49), .lit (.int .u8 28), .lit (.int .u8 3), .lit (.int .u8 61), .lit (.int .u8 58), .lit (.int .u8 42), .lit (.int .u8 50), .lit (.int .u8 38), .lit (.int .u8 29), .lit (.int .u8 17), .lit (.int .u8 4), .lit (.int .u8 62), .lit (.int .u8 47), .lit (.int .u8 59), .lit (.int .u8 36), .lit (.int .u8 45), .lit (.int .u8 43), .lit (.int .u8 51), .lit (.int .u8 22), .lit (.int .u8 53), .lit (.int .u8 39), .lit (.int .u8 33), .lit (.int .u8 30), .lit (.int .u8 24), .lit (.int .u8 18), .lit (.int .u8 12), .lit (.int .u8 5), .lit (.int .u8 63), .lit (.int .u8 55), .lit (.int .u8 48), .lit (.int .u8 27), .lit (.int .u8 60), .lit (.int .u8 41), .lit (.int .u8 37), .lit (.int .u8 16), .lit (.int .u8 46), .lit (.int .u8 35), .lit (.int .u8 44), .lit (.int .u8 21), .lit (.int .u8 52), .lit (.int .u8 32), .lit (.int .u8 23), .lit (.int .u8 11), .lit (.int .u8 54), .lit (.int .u8 26), .lit (.int .u8 40), .lit (.int .u8 15), .lit (.int .u8 34), .lit (.int .u8 20), .lit (.int .u8 31), .lit (.int .u8 10), .lit (.int .u8 25), .lit (.int .u8 14), .lit (.int .u8 19), .lit (.int .u8 9), .lit (.int .u8 13), .lit (.int .u8 8), .lit (.int .u8 7), .lit (.int .u8 6)]

/-- 'scrimshawlaw5.TreeRanks': WHATEVER THE INPUT: true; the input reads as it did. -/
def treeRanksSpec : ChangeSpec := { name := "treeRanks", fn := fun _ => fun
  | [d1, d2] => { results := [.lit (.bool true)], args := [d1, d2] }
  | _ => none }
def treeRanksRow : OpenClaim := { program := "ytcppgpjodfeigaadoor", sum := "2fe00ead537ac07bf964bcc48b2558ab201b1df5381ce541d82129affdc6938f", func := "scrimshaw/scrimshawlaw5.TreeRanks", spec := "treeRanks", recurses := true, named := ["math/bits.deBruijn64tab"], apart := false, laid := [("math/bits.deBruijn64tab", laid_math_bits_deBruijn64tab)] }
def TreeRanksSaid : Prop := treeRanksRow.holds Tryd.pinned (OpenSpec.ofChange treeRanksSpec)

/-- ITS FALSE NEIGHBOUR: 'it returns false'. Refute it at one input. -/
def treeRanksWrong : ChangeSpec := { name := "treeRanks", fn := fun _ => fun
  | [d1, d2] => { results := [.lit (.bool false)], args := [d1, d2] }
  | _ => none }
def TreeRanksWrongFalsely : Prop := treeRanksRow.holds Tryd.pinned (OpenSpec.ofChange treeRanksWrong)

/-- 'scrimshawlaw5.TreeHeaps': WHATEVER THE INPUT: true; the input reads as it did. -/
def treeHeapsSpec : ChangeSpec := { name := "treeHeaps", fn := fun _ => fun
  | [d1, d2] => { results := [.lit (.bool true)], args := [d1, d2] }
  | _ => none }
def treeHeapsRow : OpenClaim := { program := "ytcppgpjodfeigaadoor", sum := "2fe00ead537ac07bf964bcc48b2558ab201b1df5381ce541d82129affdc6938f", func := "scrimshaw/scrimshawlaw5.TreeHeaps", spec := "treeHeaps", recurses := true, named := ["math/bits.deBruijn64tab"], apart := false, laid := [("math/bits.deBruijn64tab", laid_math_bits_deBruijn64tab)] }
def TreeHeapsSaid : Prop := treeHeapsRow.holds Tryd.pinned (OpenSpec.ofChange treeHeapsSpec)

/-- ITS FALSE NEIGHBOUR: 'it returns false'. Refute it at one input. -/
def treeHeapsWrong : ChangeSpec := { name := "treeHeaps", fn := fun _ => fun
  | [d1, d2] => { results := [.lit (.bool false)], args := [d1, d2] }
  | _ => none }
def TreeHeapsWrongFalsely : Prop := treeHeapsRow.holds Tryd.pinned (OpenSpec.ofChange treeHeapsWrong)

/-- 'scrimshawlaw5.TreeGrows': WHATEVER THE INPUT: true; the input reads as it did. -/
def treeGrowsSpec : ChangeSpec := { name := "treeGrows", fn := fun _ => fun
  | [d1, d2] => { results := [.lit (.bool true)], args := [d1, d2] }
  | _ => none }
def treeGrowsRow : OpenClaim := { program := "ytcppgpjodfeigaadoor", sum := "2fe00ead537ac07bf964bcc48b2558ab201b1df5381ce541d82129affdc6938f", func := "scrimshaw/scrimshawlaw5.TreeGrows", spec := "treeGrows", recurses := true, named := ["math/bits.deBruijn64tab"], apart := false, laid := [("math/bits.deBruijn64tab", laid_math_bits_deBruijn64tab)] }
def TreeGrowsSaid : Prop := treeGrowsRow.holds Tryd.pinned (OpenSpec.ofChange treeGrowsSpec)

/-- ITS FALSE NEIGHBOUR: 'it returns false'. Refute it at one input. -/
def treeGrowsWrong : ChangeSpec := { name := "treeGrows", fn := fun _ => fun
  | [d1, d2] => { results := [.lit (.bool false)], args := [d1, d2] }
  | _ => none }
def TreeGrowsWrongFalsely : Prop := treeGrowsRow.holds Tryd.pinned (OpenSpec.ofChange treeGrowsWrong)

/-- 'scrimshawlaw5.TreeBuilds': WHATEVER THE INPUT: true; the input reads as it did. -/
def treeBuildsSpec : ChangeSpec := { name := "treeBuilds", fn := fun _ => fun
  | [d] => { results := [.lit (.bool true)], args := [d] }
  | _ => none }
def treeBuildsRow : OpenClaim := { program := "ytcppgpjodfeigaadoor", sum := "2fe00ead537ac07bf964bcc48b2558ab201b1df5381ce541d82129affdc6938f", func := "scrimshaw/scrimshawlaw5.TreeBuilds", spec := "treeBuilds", recurses := true, named := ["math/bits.deBruijn64tab"], apart := false, laid := [("math/bits.deBruijn64tab", laid_math_bits_deBruijn64tab)] }
def TreeBuildsSaid : Prop := treeBuildsRow.holds Tryd.pinned (OpenSpec.ofChange treeBuildsSpec)

/-- ITS FALSE NEIGHBOUR: 'it returns false'. Refute it at one input. -/
def treeBuildsWrong : ChangeSpec := { name := "treeBuilds", fn := fun _ => fun
  | [d] => { results := [.lit (.bool false)], args := [d] }
  | _ => none }
def TreeBuildsWrongFalsely : Prop := treeBuildsRow.holds Tryd.pinned (OpenSpec.ofChange treeBuildsWrong)

/-- 'scrimshawlaw5.TreeUndo': WHATEVER THE INPUT: true; the input reads as it did. -/
def treeUndoSpec : ChangeSpec := { name := "treeUndo", fn := fun _ => fun
  | [d1, d2, d3] => { results := [.lit (.bool true)], args := [d1, d2, d3] }
  | _ => none }
def treeUndoRow : OpenClaim := { program := "ytcppgpjodfeigaadoor", sum := "2fe00ead537ac07bf964bcc48b2558ab201b1df5381ce541d82129affdc6938f", func := "scrimshaw/scrimshawlaw5.TreeUndo", spec := "treeUndo", recurses := true, named := ["math/bits.deBruijn64tab"], apart := false, laid := [("math/bits.deBruijn64tab", laid_math_bits_deBruijn64tab)] }
def TreeUndoSaid : Prop := treeUndoRow.holds Tryd.pinned (OpenSpec.ofChange treeUndoSpec)

/-- ITS FALSE NEIGHBOUR: 'it returns false'. Refute it at one input. -/
def treeUndoWrong : ChangeSpec := { name := "treeUndo", fn := fun _ => fun
  | [d1, d2, d3] => { results := [.lit (.bool false)], args := [d1, d2, d3] }
  | _ => none }
def TreeUndoWrongFalsely : Prop := treeUndoRow.holds Tryd.pinned (OpenSpec.ofChange treeUndoWrong)

/-- 'scrimshawlaw5.TreeOwn': WHATEVER THE INPUT: true; the input reads as it did. -/
def treeOwnSpec : ChangeSpec := { name := "treeOwn", fn := fun _ => fun
  | [d] => { results := [.lit (.bool true)], args := [d] }
  | _ => none }
def treeOwnRow : OpenClaim := { program := "ytcppgpjodfeigaadoor", sum := "2fe00ead537ac07bf964bcc48b2558ab201b1df5381ce541d82129affdc6938f", func := "scrimshaw/scrimshawlaw5.TreeOwn", spec := "treeOwn", recurses := true, named := ["math/bits.deBruijn64tab"], apart := false, laid := [("math/bits.deBruijn64tab", laid_math_bits_deBruijn64tab)] }
def TreeOwnSaid : Prop := treeOwnRow.holds Tryd.pinned (OpenSpec.ofChange treeOwnSpec)

/-- ITS FALSE NEIGHBOUR: 'it returns false'. Refute it at one input. -/
def treeOwnWrong : ChangeSpec := { name := "treeOwn", fn := fun _ => fun
  | [d] => { results := [.lit (.bool false)], args := [d] }
  | _ => none }
def TreeOwnWrongFalsely : Prop := treeOwnRow.holds Tryd.pinned (OpenSpec.ofChange treeOwnWrong)

/-- 'scrimshawlaw5.TreeShrinks': WHATEVER THE INPUT: true; the input reads as it did. -/
def treeShrinksSpec : ChangeSpec := { name := "treeShrinks", fn := fun _ => fun
  | [d1, d2] => { results := [.lit (.bool true)], args := [d1, d2] }
  | _ => none }
def treeShrinksRow : OpenClaim := { program := "ytcppgpjodfeigaadoor", sum := "2fe00ead537ac07bf964bcc48b2558ab201b1df5381ce541d82129affdc6938f", func := "scrimshaw/scrimshawlaw5.TreeShrinks", spec := "treeShrinks", recurses := true, named := ["math/bits.deBruijn64tab"], apart := false, laid := [("math/bits.deBruijn64tab", laid_math_bits_deBruijn64tab)] }
def TreeShrinksSaid : Prop := treeShrinksRow.holds Tryd.pinned (OpenSpec.ofChange treeShrinksSpec)

/-- ITS FALSE NEIGHBOUR: 'it returns false'. Refute it at one input. -/
def treeShrinksWrong : ChangeSpec := { name := "treeShrinks", fn := fun _ => fun
  | [d1, d2] => { results := [.lit (.bool false)], args := [d1, d2] }
  | _ => none }
def TreeShrinksWrongFalsely : Prop := treeShrinksRow.holds Tryd.pinned (OpenSpec.ofChange treeShrinksWrong)

/-- 'scrimshawlaw5.TreePlays': WHATEVER THE INPUT: true; the input reads as it did. -/
def treePlaysSpec : ChangeSpec := { name := "treePlays", fn := fun _ => fun
  | [d1, d2] => { results := [.lit (.bool true)], args := [d1, d2] }
  | _ => none }
def treePlaysRow : OpenClaim := { program := "ytcppgpjodfeigaadoor", sum := "2fe00ead537ac07bf964bcc48b2558ab201b1df5381ce541d82129affdc6938f", func := "scrimshaw/scrimshawlaw5.TreePlays", spec := "treePlays", recurses := true, named := ["math/bits.deBruijn64tab"], apart := false, laid := [("math/bits.deBruijn64tab", laid_math_bits_deBruijn64tab)] }
def TreePlaysSaid : Prop := treePlaysRow.holds Tryd.pinned (OpenSpec.ofChange treePlaysSpec)

/-- ITS FALSE NEIGHBOUR: 'it returns false'. Refute it at one input. -/
def treePlaysWrong : ChangeSpec := { name := "treePlays", fn := fun _ => fun
  | [d1, d2] => { results := [.lit (.bool false)], args := [d1, d2] }
  | _ => none }
def TreePlaysWrongFalsely : Prop := treePlaysRow.holds Tryd.pinned (OpenSpec.ofChange treePlaysWrong)

/-- 'scrimshawlaw7.WaveLevels': WHATEVER THE INPUT: true; the input reads as it did. -/
def waveLevelsSpec : ChangeSpec := { name := "waveLevels", fn := fun _ => fun
  | [d1, d2, d3, d4] => { results := [.lit (.bool true)], args := [d1, d2, d3, d4] }
  | _ => none }
def waveLevelsRow : OpenClaim := { program := "ytcppgpjodfeigaadoor", sum := "2fe00ead537ac07bf964bcc48b2558ab201b1df5381ce541d82129affdc6938f", func := "scrimshaw/scrimshawlaw7.WaveLevels", spec := "waveLevels", unfollowed := true, recurses := true, named := ["math/bits.deBruijn64tab"], apart := false, laid := [("math/bits.deBruijn64tab", laid_math_bits_deBruijn64tab)] }
def WaveLevelsSaid : Prop := waveLevelsRow.holds Tryd.pinned (OpenSpec.ofChange waveLevelsSpec)

/-- ITS FALSE NEIGHBOUR: 'it returns false'. Refute it at one input. -/
def waveLevelsWrong : ChangeSpec := { name := "waveLevels", fn := fun _ => fun
  | [d1, d2, d3, d4] => { results := [.lit (.bool false)], args := [d1, d2, d3, d4] }
  | _ => none }
def WaveLevelsWrongFalsely : Prop := waveLevelsRow.holds Tryd.pinned (OpenSpec.ofChange waveLevelsWrong)

/-- 'scrimshawlaw7.WaveRanks': WHATEVER THE INPUT: true; the input reads as it did. -/
def waveRanksSpec : ChangeSpec := { name := "waveRanks", fn := fun _ => fun
  | [d1, d2] => { results := [.lit (.bool true)], args := [d1, d2] }
  | _ => none }
def waveRanksRow : OpenClaim := { program := "ytcppgpjodfeigaadoor", sum := "2fe00ead537ac07bf964bcc48b2558ab201b1df5381ce541d82129affdc6938f", func := "scrimshaw/scrimshawlaw7.WaveRanks", spec := "waveRanks", unfollowed := true, recurses := true, named := ["math/bits.deBruijn64tab"], apart := false, laid := [("math/bits.deBruijn64tab", laid_math_bits_deBruijn64tab)] }
def WaveRanksSaid : Prop := waveRanksRow.holds Tryd.pinned (OpenSpec.ofChange waveRanksSpec)

/-- ITS FALSE NEIGHBOUR: 'it returns false'. Refute it at one input. -/
def waveRanksWrong : ChangeSpec := { name := "waveRanks", fn := fun _ => fun
  | [d1, d2] => { results := [.lit (.bool false)], args := [d1, d2] }
  | _ => none }
def WaveRanksWrongFalsely : Prop := waveRanksRow.holds Tryd.pinned (OpenSpec.ofChange waveRanksWrong)

/-- 'scrimshawlaw7.WaveCounts': WHATEVER THE INPUT: true; the input reads as it did. -/
def waveCountsSpec : ChangeSpec := { name := "waveCounts", fn := fun _ => fun
  | [d1, d2, d3] => { results := [.lit (.bool true)], args := [d1, d2, d3] }
  | _ => none }
def waveCountsRow : OpenClaim := { program := "ytcppgpjodfeigaadoor", sum := "2fe00ead537ac07bf964bcc48b2558ab201b1df5381ce541d82129affdc6938f", func := "scrimshaw/scrimshawlaw7.WaveCounts", spec := "waveCounts", unfollowed := true, recurses := true, named := ["math/bits.deBruijn64tab"], apart := false, laid := [("math/bits.deBruijn64tab", laid_math_bits_deBruijn64tab)] }
def WaveCountsSaid : Prop := waveCountsRow.holds Tryd.pinned (OpenSpec.ofChange waveCountsSpec)

/-- ITS FALSE NEIGHBOUR: 'it returns false'. Refute it at one input. -/
def waveCountsWrong : ChangeSpec := { name := "waveCounts", fn := fun _ => fun
  | [d1, d2, d3] => { results := [.lit (.bool false)], args := [d1, d2, d3] }
  | _ => none }
def WaveCountsWrongFalsely : Prop := waveCountsRow.holds Tryd.pinned (OpenSpec.ofChange waveCountsWrong)

/-- 'scrimshawlaw7.WaveUndo': WHATEVER THE INPUT: true; the input reads as it did. -/
def waveUndoSpec : ChangeSpec := { name := "waveUndo", fn := fun _ => fun
  | [d1, d2, d3, d4] => { results := [.lit (.bool true)], args := [d1, d2, d3, d4] }
  | _ => none }
def waveUndoRow : OpenClaim := { program := "ytcppgpjodfeigaadoor", sum := "2fe00ead537ac07bf964bcc48b2558ab201b1df5381ce541d82129affdc6938f", func := "scrimshaw/scrimshawlaw7.WaveUndo", spec := "waveUndo", unfollowed := true, recurses := true, named := ["math/bits.deBruijn64tab"], apart := false, laid := [("math/bits.deBruijn64tab", laid_math_bits_deBruijn64tab)] }
def WaveUndoSaid : Prop := waveUndoRow.holds Tryd.pinned (OpenSpec.ofChange waveUndoSpec)

/-- ITS FALSE NEIGHBOUR: 'it returns false'. Refute it at one input. -/
def waveUndoWrong : ChangeSpec := { name := "waveUndo", fn := fun _ => fun
  | [d1, d2, d3, d4] => { results := [.lit (.bool false)], args := [d1, d2, d3, d4] }
  | _ => none }
def WaveUndoWrongFalsely : Prop := waveUndoRow.holds Tryd.pinned (OpenSpec.ofChange waveUndoWrong)

/-- 'scrimshawlaw7.WaveBuilds': WHATEVER THE INPUT: true; the input reads as it did. -/
def waveBuildsSpec : ChangeSpec := { name := "waveBuilds", fn := fun _ => fun
  | [d1, d2] => { results := [.lit (.bool true)], args := [d1, d2] }
  | _ => none }
def waveBuildsRow : OpenClaim := { program := "ytcppgpjodfeigaadoor", sum := "2fe00ead537ac07bf964bcc48b2558ab201b1df5381ce541d82129affdc6938f", func := "scrimshaw/scrimshawlaw7.WaveBuilds", spec := "waveBuilds", unfollowed := true, recurses := true, named := ["math/bits.deBruijn64tab"], apart := false, laid := [("math/bits.deBruijn64tab", laid_math_bits_deBruijn64tab)] }
def WaveBuildsSaid : Prop := waveBuildsRow.holds Tryd.pinned (OpenSpec.ofChange waveBuildsSpec)

/-- ITS FALSE NEIGHBOUR: 'it returns false'. Refute it at one input. -/
def waveBuildsWrong : ChangeSpec := { name := "waveBuilds", fn := fun _ => fun
  | [d1, d2] => { results := [.lit (.bool false)], args := [d1, d2] }
  | _ => none }
def WaveBuildsWrongFalsely : Prop := waveBuildsRow.holds Tryd.pinned (OpenSpec.ofChange waveBuildsWrong)

/-- 'scrimshawlaw7.WavePlays': WHATEVER THE INPUT: true; the input reads as it did. -/
def wavePlaysSpec : ChangeSpec := { name := "wavePlays", fn := fun _ => fun
  | [d1, d2, d3] => { results := [.lit (.bool true)], args := [d1, d2, d3] }
  | _ => none }
def wavePlaysRow : OpenClaim := { program := "ytcppgpjodfeigaadoor", sum := "2fe00ead537ac07bf964bcc48b2558ab201b1df5381ce541d82129affdc6938f", func := "scrimshaw/scrimshawlaw7.WavePlays", spec := "wavePlays", unfollowed := true, recurses := true, named := ["math/bits.deBruijn64tab"], apart := false, laid := [("math/bits.deBruijn64tab", laid_math_bits_deBruijn64tab)] }
def WavePlaysSaid : Prop := wavePlaysRow.holds Tryd.pinned (OpenSpec.ofChange wavePlaysSpec)

/-- ITS FALSE NEIGHBOUR: 'it returns false'. Refute it at one input. -/
def wavePlaysWrong : ChangeSpec := { name := "wavePlays", fn := fun _ => fun
  | [d1, d2, d3] => { results := [.lit (.bool false)], args := [d1, d2, d3] }
  | _ => none }
def WavePlaysWrongFalsely : Prop := wavePlaysRow.holds Tryd.pinned (OpenSpec.ofChange wavePlaysWrong)

/- THE SECOND FORM. 'bulk': how many values and letters a reading holds, each counted each time it is reached (what is shared counts as often as it is met; a slice's spare places count too). A statement '..UptoSaid' is the law's where the arguments, and the package variables that the reading takes, are together of bulk at most 1048576: NARROWER than '..Said'. Prove '..Said' where nothing that the law and all that it calls make is longer than what came in: it says more and counts as full. Else prove '..UptoSaid'. A law counts once. -/
mutual
def uptoBulk {H : Type} : DataW H → Nat
  | .lit (.string bytes) => bytes.length + 1
  | .lit _ => 1
  | .nil => 1
  | .ptr d => uptoBulk d + 1
  | .slice elems spare => uptoBulkAll elems + uptoBulkAll spare + 1
  | .agg parts => uptoBulkAll parts + 1
  | .iface _ d => uptoBulk d + 1
  | .map entries => uptoBulkEntries entries + 1
  | .held _ => 1
def uptoBulkAll {H : Type} : List (DataW H) → Nat
  | [] => 0
  | d :: r => uptoBulk d + uptoBulkAll r
def uptoBulkEntries {H : Type} : List (Lit × DataW H) → Nat
  | [] => 0
  | x :: r => uptoBulkEntry x + uptoBulkEntries r
def uptoBulkEntry {H : Type} : Lit × DataW H → Nat
  | (.string bytes, d) => bytes.length + uptoBulk d + 1
  | (_, d) => uptoBulk d + 1
 end
def uptoSmall : (H : Type) → List (DataW H) → Bool := fun _ ds => decide (uptoBulkAll ds ≤ 1048576)
def OpenSpec.upto (s : _root_.Go.ChangeSpec) : _root_.Go.OpenSpec := { _root_.Go.OpenSpec.ofChange s with cond := some uptoSmall }

/-- 'scrimshawlaw5.TreeRanks', WHERE WHAT IT READS IS OF BULK AT MOST 1048576: true; the input reads as it did. -/
def treeRanksUptoRow : OpenClaim := { program := "ytcppgpjodfeigaadoor", sum := "2fe00ead537ac07bf964bcc48b2558ab201b1df5381ce541d82129affdc6938f", func := "scrimshaw/scrimshawlaw5.TreeRanks", spec := "treeRanks", recurses := true, named := ["math/bits.deBruijn64tab"], apart := false, laid := [("math/bits.deBruijn64tab", laid_math_bits_deBruijn64tab)], narrowed := true }
def TreeRanksUptoSaid : Prop := treeRanksUptoRow.holds Tryd.pinned (OpenSpec.upto treeRanksSpec)

/-- 'scrimshawlaw5.TreeHeaps', WHERE WHAT IT READS IS OF BULK AT MOST 1048576: true; the input reads as it did. -/
def treeHeapsUptoRow : OpenClaim := { program := "ytcppgpjodfeigaadoor", sum := "2fe00ead537ac07bf964bcc48b2558ab201b1df5381ce541d82129affdc6938f", func := "scrimshaw/scrimshawlaw5.TreeHeaps", spec := "treeHeaps", recurses := true, named := ["math/bits.deBruijn64tab"], apart := false, laid := [("math/bits.deBruijn64tab", laid_math_bits_deBruijn64tab)], narrowed := true }
def TreeHeapsUptoSaid : Prop := treeHeapsUptoRow.holds Tryd.pinned (OpenSpec.upto treeHeapsSpec)

/-- 'scrimshawlaw5.TreeGrows', WHERE WHAT IT READS IS OF BULK AT MOST 1048576: true; the input reads as it did. -/
def treeGrowsUptoRow : OpenClaim := { program := "ytcppgpjodfeigaadoor", sum := "2fe00ead537ac07bf964bcc48b2558ab201b1df5381ce541d82129affdc6938f", func := "scrimshaw/scrimshawlaw5.TreeGrows", spec := "treeGrows", recurses := true, named := ["math/bits.deBruijn64tab"], apart := false, laid := [("math/bits.deBruijn64tab", laid_math_bits_deBruijn64tab)], narrowed := true }
def TreeGrowsUptoSaid : Prop := treeGrowsUptoRow.holds Tryd.pinned (OpenSpec.upto treeGrowsSpec)

/-- 'scrimshawlaw5.TreeBuilds', WHERE WHAT IT READS IS OF BULK AT MOST 1048576: true; the input reads as it did. -/
def treeBuildsUptoRow : OpenClaim := { program := "ytcppgpjodfeigaadoor", sum := "2fe00ead537ac07bf964bcc48b2558ab201b1df5381ce541d82129affdc6938f", func := "scrimshaw/scrimshawlaw5.TreeBuilds", spec := "treeBuilds", recurses := true, named := ["math/bits.deBruijn64tab"], apart := false, laid := [("math/bits.deBruijn64tab", laid_math_bits_deBruijn64tab)], narrowed := true }
def TreeBuildsUptoSaid : Prop := treeBuildsUptoRow.holds Tryd.pinned (OpenSpec.upto treeBuildsSpec)

/-- 'scrimshawlaw5.TreeUndo', WHERE WHAT IT READS IS OF BULK AT MOST 1048576: true; the input reads as it did. -/
def treeUndoUptoRow : OpenClaim := { program := "ytcppgpjodfeigaadoor", sum := "2fe00ead537ac07bf964bcc48b2558ab201b1df5381ce541d82129affdc6938f", func := "scrimshaw/scrimshawlaw5.TreeUndo", spec := "treeUndo", recurses := true, named := ["math/bits.deBruijn64tab"], apart := false, laid := [("math/bits.deBruijn64tab", laid_math_bits_deBruijn64tab)], narrowed := true }
def TreeUndoUptoSaid : Prop := treeUndoUptoRow.holds Tryd.pinned (OpenSpec.upto treeUndoSpec)

/-- 'scrimshawlaw5.TreeOwn', WHERE WHAT IT READS IS OF BULK AT MOST 1048576: true; the input reads as it did. -/
def treeOwnUptoRow : OpenClaim := { program := "ytcppgpjodfeigaadoor", sum := "2fe00ead537ac07bf964bcc48b2558ab201b1df5381ce541d82129affdc6938f", func := "scrimshaw/scrimshawlaw5.TreeOwn", spec := "treeOwn", recurses := true, named := ["math/bits.deBruijn64tab"], apart := false, laid := [("math/bits.deBruijn64tab", laid_math_bits_deBruijn64tab)], narrowed := true }
def TreeOwnUptoSaid : Prop := treeOwnUptoRow.holds Tryd.pinned (OpenSpec.upto treeOwnSpec)

/-- 'scrimshawlaw5.TreeShrinks', WHERE WHAT IT READS IS OF BULK AT MOST 1048576: true; the input reads as it did. -/
def treeShrinksUptoRow : OpenClaim := { program := "ytcppgpjodfeigaadoor", sum := "2fe00ead537ac07bf964bcc48b2558ab201b1df5381ce541d82129affdc6938f", func := "scrimshaw/scrimshawlaw5.TreeShrinks", spec := "treeShrinks", recurses := true, named := ["math/bits.deBruijn64tab"], apart := false, laid := [("math/bits.deBruijn64tab", laid_math_bits_deBruijn64tab)], narrowed := true }
def TreeShrinksUptoSaid : Prop := treeShrinksUptoRow.holds Tryd.pinned (OpenSpec.upto treeShrinksSpec)

/-- 'scrimshawlaw5.TreePlays', WHERE WHAT IT READS IS OF BULK AT MOST 1048576: true; the input reads as it did. -/
def treePlaysUptoRow : OpenClaim := { program := "ytcppgpjodfeigaadoor", sum := "2fe00ead537ac07bf964bcc48b2558ab201b1df5381ce541d82129affdc6938f", func := "scrimshaw/scrimshawlaw5.TreePlays", spec := "treePlays", recurses := true, named := ["math/bits.deBruijn64tab"], apart := false, laid := [("math/bits.deBruijn64tab", laid_math_bits_deBruijn64tab)], narrowed := true }
def TreePlaysUptoSaid : Prop := treePlaysUptoRow.holds Tryd.pinned (OpenSpec.upto treePlaysSpec)

/-- 'scrimshawlaw7.WaveLevels', WHERE WHAT IT READS IS OF BULK AT MOST 1048576: true; the input reads as it did. -/
def waveLevelsUptoRow : OpenClaim := { program := "ytcppgpjodfeigaadoor", sum := "2fe00ead537ac07bf964bcc48b2558ab201b1df5381ce541d82129affdc6938f", func := "scrimshaw/scrimshawlaw7.WaveLevels", spec := "waveLevels", unfollowed := true, recurses := true, named := ["math/bits.deBruijn64tab"], apart := false, laid := [("math/bits.deBruijn64tab", laid_math_bits_deBruijn64tab)], narrowed := true }
def WaveLevelsUptoSaid : Prop := waveLevelsUptoRow.holds Tryd.pinned (OpenSpec.upto waveLevelsSpec)

/-- 'scrimshawlaw7.WaveRanks', WHERE WHAT IT READS IS OF BULK AT MOST 1048576: true; the input reads as it did. -/
def waveRanksUptoRow : OpenClaim := { program := "ytcppgpjodfeigaadoor", sum := "2fe00ead537ac07bf964bcc48b2558ab201b1df5381ce541d82129affdc6938f", func := "scrimshaw/scrimshawlaw7.WaveRanks", spec := "waveRanks", unfollowed := true, recurses := true, named := ["math/bits.deBruijn64tab"], apart := false, laid := [("math/bits.deBruijn64tab", laid_math_bits_deBruijn64tab)], narrowed := true }
def WaveRanksUptoSaid : Prop := waveRanksUptoRow.holds Tryd.pinned (OpenSpec.upto waveRanksSpec)

/-- 'scrimshawlaw7.WaveCounts', WHERE WHAT IT READS IS OF BULK AT MOST 1048576: true; the input reads as it did. -/
def waveCountsUptoRow : OpenClaim := { program := "ytcppgpjodfeigaadoor", sum := "2fe00ead537ac07bf964bcc48b2558ab201b1df5381ce541d82129affdc6938f", func := "scrimshaw/scrimshawlaw7.WaveCounts", spec := "waveCounts", unfollowed := true, recurses := true, named := ["math/bits.deBruijn64tab"], apart := false, laid := [("math/bits.deBruijn64tab", laid_math_bits_deBruijn64tab)], narrowed := true }
def WaveCountsUptoSaid : Prop := waveCountsUptoRow.holds Tryd.pinned (OpenSpec.upto waveCountsSpec)

/-- 'scrimshawlaw7.WaveUndo', WHERE WHAT IT READS IS OF BULK AT MOST 1048576: true; the input reads as it did. -/
def waveUndoUptoRow : OpenClaim := { program := "ytcppgpjodfeigaadoor", sum := "2fe00ead537ac07bf964bcc48b2558ab201b1df5381ce541d82129affdc6938f", func := "scrimshaw/scrimshawlaw7.WaveUndo", spec := "waveUndo", unfollowed := true, recurses := true, named := ["math/bits.deBruijn64tab"], apart := false, laid := [("math/bits.deBruijn64tab", laid_math_bits_deBruijn64tab)], narrowed := true }
def WaveUndoUptoSaid : Prop := waveUndoUptoRow.holds Tryd.pinned (OpenSpec.upto waveUndoSpec)

/-- 'scrimshawlaw7.WaveBuilds', WHERE WHAT IT READS IS OF BULK AT MOST 1048576: true; the input reads as it did. -/
def waveBuildsUptoRow : OpenClaim := { program := "ytcppgpjodfeigaadoor", sum := "2fe00ead537ac07bf964bcc48b2558ab201b1df5381ce541d82129affdc6938f", func := "scrimshaw/scrimshawlaw7.WaveBuilds", spec := "waveBuilds", unfollowed := true, recurses := true, named := ["math/bits.deBruijn64tab"], apart := false, laid := [("math/bits.deBruijn64tab", laid_math_bits_deBruijn64tab)], narrowed := true }
def WaveBuildsUptoSaid : Prop := waveBuildsUptoRow.holds Tryd.pinned (OpenSpec.upto waveBuildsSpec)

/-- 'scrimshawlaw7.WavePlays', WHERE WHAT IT READS IS OF BULK AT MOST 1048576: true; the input reads as it did. -/
def wavePlaysUptoRow : OpenClaim := { program := "ytcppgpjodfeigaadoor", sum := "2fe00ead537ac07bf964bcc48b2558ab201b1df5381ce541d82129affdc6938f", func := "scrimshaw/scrimshawlaw7.WavePlays", spec := "wavePlays", unfollowed := true, recurses := true, named := ["math/bits.deBruijn64tab"], apart := false, laid := [("math/bits.deBruijn64tab", laid_math_bits_deBruijn64tab)], narrowed := true }
def WavePlaysUptoSaid : Prop := wavePlaysUptoRow.holds Tryd.pinned (OpenSpec.upto wavePlaysSpec)

end Rows
end Go.Proofs.YtcppgpjodfeigaaDoor
