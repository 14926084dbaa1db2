/-
  NARROWER THAN 'FOR EVERY INPUT', by the rows' own cells (each row's printed sentence says how): BitsOrder: laid · BitsAsks: laid · BitsBack: laid · BitsPlaces: laid · BitsSums: laid · BitsChain: laid · BlockPlays: laid · BlockFull: laid · BlockRanks: laid · BlockHalves: laid · BlockOwn: laid.
  DERIVED. THE GIVEN ROWS OF THIS SEAT. 11 by the template 'for every input the law returns true; each argument reads behind the call as it read before'; 0 by the template 'total and deterministic' (their statements: YticbfhbilfgoiaaDoorTotals.lean).
  GIVEN WITH THE SEED: the statements are not yours to turn. If you find one false, say at which input.
  Laid BY PROGRAM, IN A SANDBOX (cutbox-rows.mjs): the forced cells as the released guide's own fill.sh prints them over the translation 6655840a54ae6684… (all of the seat's roots in one cut). By AI agents, Wed Nov 11 2026. No macro, syntax, notation, axiom, sorry.
-/
import Derived.Test.YticbfhbilfgoiaaDoorChecked
import GoSem.Claim
import GoSem.ClaimJoined
import GoSem.ClaimMapViews
import Derived.JoinedTies
import Derived.KernelRfl
namespace Go.Proofs.YticbfhbilfgoiaaDoor
/- THE CELL 'sum', in the pinned program and in every row, IS THE sha256 OF THE DUMP (.gsa) THAT YticbfhbilfgoiaaDoorProg.lean LOADS. Nothing in Lean hashes anything: it is a label: what it is worth is what the hold of that sum in a sandbox is worth. -/
noncomputable def Tryd.pinned : Pinned := { name := "yticbfhbilfgoiaadoor", sum := "6655840a54ae668421f9a7061e8ec3b0e98e3ddc0d56fdf0461740bc226fae18", checked := Tryd.checked }
namespace Rows
def none {H : Type} : Left H := { results := [], args := [] }

/- WHAT THE LISTED PACKAGE-LEVEL VARIABLES READ AS WHEN THE CALL BEGINS. Each datum BY PROGRAM (the guide's laid-datum.mjs) off the statement by which the dump's own 'gosem.cut.vars' lays the variable. In a bare row this is a premise. The card (YticbfhbilfgoiaaDoorCards.lean) ties it to the program's text. -/
def laid_math_bits_deBruijn64tab {H : Type} : DataW H := .agg [.lit (.int .u8 0), .lit (.int .u8 1), .lit (.int .u8 56), .lit (.int .u8 2), .lit (.int .u8 57), .lit (.int .u8 49), .lit (.int .u8 28), .lit (.int .u8 3), .lit (.int .u8 61), .lit (.int .u8 58), .lit (.int .u8 42), .lit (.int .u8 50), .lit (.int .u8 38), .lit (.int .u8 29), .lit (.int .u8 17), .lit (.int .u8 4), .lit (.int .u8 62), .lit (.int .u8 47), .lit (.int .u8 59), .lit (.int .u8 36), .lit (.int .u8 45), .lit (.int .u8 43), .lit (.int .u8 51), .lit (.int .u8 22), .lit (.int .u8 53), .lit (.int .u8 39), .lit (.int .u8 33), .lit (.int .u8 30), .lit (.int .u8 24), .lit (.int .u8 18), .lit (.int .u8 12), .lit (.int .u8 5), .lit (.int .u8 63), .lit (.int .u8 55), .lit (.int .u8 48), .lit (.int .u8 27), .lit (.int .u8 60), .lit (.int .u8 41), .lit (.int .u8 37), .lit (.int .u8 16), .lit (.int .u8 46), .lit (.int .u8 35), .lit (.int .u8 44), .lit (.int .u8 21), .lit (.int .u8 52), .lit (.int .u8 32), .lit (.int .u8 23), .lit (.int .u8 11), .lit (.int .u8 54), .lit (.int .u8 26), .lit (.int .u8 40), .lit (.int .u8 15), .lit (.int .u8 34), .lit (.int .u8 20), .lit (.int .u8 31), .lit (.int .u8 10), .lit (.int .u8 25), .lit (.int .u8 14), .lit (.int .u8 19), .lit (.int .u8 9), .lit (.int .u8 13), .lit (.int .u8 8), .lit (.int .u8 7), .lit (.int .u8 6)]

/-- 'scrimshawlaw1.BitsOrder': WHATEVER THE INPUT: true; the input reads as it did. -/
def bitsOrderSpec : ChangeSpec := { name := "bitsOrder", fn := fun _ => fun
  | [d] => { results := [.lit (.bool true)], args := [d] }
  | _ => none }
def bitsOrderRow : OpenClaim := { program := "yticbfhbilfgoiaadoor", sum := "6655840a54ae668421f9a7061e8ec3b0e98e3ddc0d56fdf0461740bc226fae18", func := "scrimshaw/scrimshawlaw1.BitsOrder", spec := "bitsOrder", named := ["math/bits.deBruijn64tab"], apart := false, laid := [("math/bits.deBruijn64tab", laid_math_bits_deBruijn64tab)] }
def BitsOrderSaid : Prop := bitsOrderRow.holds Tryd.pinned (OpenSpec.ofChange bitsOrderSpec)

/-- ITS FALSE NEIGHBOUR: 'it returns false'. Refute it at one input. -/
def bitsOrderWrong : ChangeSpec := { name := "bitsOrder", fn := fun _ => fun
  | [d] => { results := [.lit (.bool false)], args := [d] }
  | _ => none }
def BitsOrderWrongFalsely : Prop := bitsOrderRow.holds Tryd.pinned (OpenSpec.ofChange bitsOrderWrong)

/-- 'scrimshawlaw1.BitsAsks': WHATEVER THE INPUT: true; the input reads as it did. -/
def bitsAsksSpec : ChangeSpec := { name := "bitsAsks", fn := fun _ => fun
  | [d1, d2, d3, d4] => { results := [.lit (.bool true)], args := [d1, d2, d3, d4] }
  | _ => none }
def bitsAsksRow : OpenClaim := { program := "yticbfhbilfgoiaadoor", sum := "6655840a54ae668421f9a7061e8ec3b0e98e3ddc0d56fdf0461740bc226fae18", func := "scrimshaw/scrimshawlaw1.BitsAsks", spec := "bitsAsks", named := ["math/bits.deBruijn64tab"], apart := false, laid := [("math/bits.deBruijn64tab", laid_math_bits_deBruijn64tab)] }
def BitsAsksSaid : Prop := bitsAsksRow.holds Tryd.pinned (OpenSpec.ofChange bitsAsksSpec)

/-- ITS FALSE NEIGHBOUR: 'it returns false'. Refute it at one input. -/
def bitsAsksWrong : ChangeSpec := { name := "bitsAsks", fn := fun _ => fun
  | [d1, d2, d3, d4] => { results := [.lit (.bool false)], args := [d1, d2, d3, d4] }
  | _ => none }
def BitsAsksWrongFalsely : Prop := bitsAsksRow.holds Tryd.pinned (OpenSpec.ofChange bitsAsksWrong)

/-- 'scrimshawlaw1.BitsBack': WHATEVER THE INPUT: true; the input reads as it did. -/
def bitsBackSpec : ChangeSpec := { name := "bitsBack", fn := fun _ => fun
  | [d1, d2, d3] => { results := [.lit (.bool true)], args := [d1, d2, d3] }
  | _ => none }
def bitsBackRow : OpenClaim := { program := "yticbfhbilfgoiaadoor", sum := "6655840a54ae668421f9a7061e8ec3b0e98e3ddc0d56fdf0461740bc226fae18", func := "scrimshaw/scrimshawlaw1.BitsBack", spec := "bitsBack", named := ["math/bits.deBruijn64tab"], apart := false, laid := [("math/bits.deBruijn64tab", laid_math_bits_deBruijn64tab)] }
def BitsBackSaid : Prop := bitsBackRow.holds Tryd.pinned (OpenSpec.ofChange bitsBackSpec)

/-- ITS FALSE NEIGHBOUR: 'it returns false'. Refute it at one input. -/
def bitsBackWrong : ChangeSpec := { name := "bitsBack", fn := fun _ => fun
  | [d1, d2, d3] => { results := [.lit (.bool false)], args := [d1, d2, d3] }
  | _ => none }
def BitsBackWrongFalsely : Prop := bitsBackRow.holds Tryd.pinned (OpenSpec.ofChange bitsBackWrong)

/-- 'scrimshawlaw1.BitsPlaces': WHATEVER THE INPUT: true; the input reads as it did. -/
def bitsPlacesSpec : ChangeSpec := { name := "bitsPlaces", fn := fun _ => fun
  | [d] => { results := [.lit (.bool true)], args := [d] }
  | _ => none }
def bitsPlacesRow : OpenClaim := { program := "yticbfhbilfgoiaadoor", sum := "6655840a54ae668421f9a7061e8ec3b0e98e3ddc0d56fdf0461740bc226fae18", func := "scrimshaw/scrimshawlaw1.BitsPlaces", spec := "bitsPlaces", named := ["math/bits.deBruijn64tab"], apart := false, laid := [("math/bits.deBruijn64tab", laid_math_bits_deBruijn64tab)] }
def BitsPlacesSaid : Prop := bitsPlacesRow.holds Tryd.pinned (OpenSpec.ofChange bitsPlacesSpec)

/-- ITS FALSE NEIGHBOUR: 'it returns false'. Refute it at one input. -/
def bitsPlacesWrong : ChangeSpec := { name := "bitsPlaces", fn := fun _ => fun
  | [d] => { results := [.lit (.bool false)], args := [d] }
  | _ => none }
def BitsPlacesWrongFalsely : Prop := bitsPlacesRow.holds Tryd.pinned (OpenSpec.ofChange bitsPlacesWrong)

/-- 'scrimshawlaw1.BitsSums': WHATEVER THE INPUT: true; the input reads as it did. -/
def bitsSumsSpec : ChangeSpec := { name := "bitsSums", fn := fun _ => fun
  | [d1, d2] => { results := [.lit (.bool true)], args := [d1, d2] }
  | _ => none }
def bitsSumsRow : OpenClaim := { program := "yticbfhbilfgoiaadoor", sum := "6655840a54ae668421f9a7061e8ec3b0e98e3ddc0d56fdf0461740bc226fae18", func := "scrimshaw/scrimshawlaw1.BitsSums", spec := "bitsSums", named := ["math/bits.deBruijn64tab"], apart := false, laid := [("math/bits.deBruijn64tab", laid_math_bits_deBruijn64tab)] }
def BitsSumsSaid : Prop := bitsSumsRow.holds Tryd.pinned (OpenSpec.ofChange bitsSumsSpec)

/-- ITS FALSE NEIGHBOUR: 'it returns false'. Refute it at one input. -/
def bitsSumsWrong : ChangeSpec := { name := "bitsSums", fn := fun _ => fun
  | [d1, d2] => { results := [.lit (.bool false)], args := [d1, d2] }
  | _ => none }
def BitsSumsWrongFalsely : Prop := bitsSumsRow.holds Tryd.pinned (OpenSpec.ofChange bitsSumsWrong)

/-- 'scrimshawlaw1.BitsChain': WHATEVER THE INPUT: true; the input reads as it did. -/
def bitsChainSpec : ChangeSpec := { name := "bitsChain", fn := fun _ => fun
  | [d1, d2, d3, d4] => { results := [.lit (.bool true)], args := [d1, d2, d3, d4] }
  | _ => none }
def bitsChainRow : OpenClaim := { program := "yticbfhbilfgoiaadoor", sum := "6655840a54ae668421f9a7061e8ec3b0e98e3ddc0d56fdf0461740bc226fae18", func := "scrimshaw/scrimshawlaw1.BitsChain", spec := "bitsChain", named := ["math/bits.deBruijn64tab"], apart := false, laid := [("math/bits.deBruijn64tab", laid_math_bits_deBruijn64tab)] }
def BitsChainSaid : Prop := bitsChainRow.holds Tryd.pinned (OpenSpec.ofChange bitsChainSpec)

/-- ITS FALSE NEIGHBOUR: 'it returns false'. Refute it at one input. -/
def bitsChainWrong : ChangeSpec := { name := "bitsChain", fn := fun _ => fun
  | [d1, d2, d3, d4] => { results := [.lit (.bool false)], args := [d1, d2, d3, d4] }
  | _ => none }
def BitsChainWrongFalsely : Prop := bitsChainRow.holds Tryd.pinned (OpenSpec.ofChange bitsChainWrong)

/-- 'scrimshawlaw2.BlockPlays': WHATEVER THE INPUT: true; the input reads as it did. -/
def blockPlaysSpec : ChangeSpec := { name := "blockPlays", fn := fun _ => fun
  | [d1, d2] => { results := [.lit (.bool true)], args := [d1, d2] }
  | _ => none }
def blockPlaysRow : OpenClaim := { program := "yticbfhbilfgoiaadoor", sum := "6655840a54ae668421f9a7061e8ec3b0e98e3ddc0d56fdf0461740bc226fae18", func := "scrimshaw/scrimshawlaw2.BlockPlays", spec := "blockPlays", named := ["math/bits.deBruijn64tab"], apart := false, laid := [("math/bits.deBruijn64tab", laid_math_bits_deBruijn64tab)] }
def BlockPlaysSaid : Prop := blockPlaysRow.holds Tryd.pinned (OpenSpec.ofChange blockPlaysSpec)

/-- ITS FALSE NEIGHBOUR: 'it returns false'. Refute it at one input. -/
def blockPlaysWrong : ChangeSpec := { name := "blockPlays", fn := fun _ => fun
  | [d1, d2] => { results := [.lit (.bool false)], args := [d1, d2] }
  | _ => none }
def BlockPlaysWrongFalsely : Prop := blockPlaysRow.holds Tryd.pinned (OpenSpec.ofChange blockPlaysWrong)

/-- 'scrimshawlaw2.BlockFull': WHATEVER THE INPUT: true; the input reads as it did. -/
def blockFullSpec : ChangeSpec := { name := "blockFull", fn := fun _ => fun
  | [d1, d2] => { results := [.lit (.bool true)], args := [d1, d2] }
  | _ => none }
def blockFullRow : OpenClaim := { program := "yticbfhbilfgoiaadoor", sum := "6655840a54ae668421f9a7061e8ec3b0e98e3ddc0d56fdf0461740bc226fae18", func := "scrimshaw/scrimshawlaw2.BlockFull", spec := "blockFull", named := ["math/bits.deBruijn64tab"], apart := false, laid := [("math/bits.deBruijn64tab", laid_math_bits_deBruijn64tab)] }
def BlockFullSaid : Prop := blockFullRow.holds Tryd.pinned (OpenSpec.ofChange blockFullSpec)

/-- ITS FALSE NEIGHBOUR: 'it returns false'. Refute it at one input. -/
def blockFullWrong : ChangeSpec := { name := "blockFull", fn := fun _ => fun
  | [d1, d2] => { results := [.lit (.bool false)], args := [d1, d2] }
  | _ => none }
def BlockFullWrongFalsely : Prop := blockFullRow.holds Tryd.pinned (OpenSpec.ofChange blockFullWrong)

/-- 'scrimshawlaw2.BlockRanks': WHATEVER THE INPUT: true; the input reads as it did. -/
def blockRanksSpec : ChangeSpec := { name := "blockRanks", fn := fun _ => fun
  | [d] => { results := [.lit (.bool true)], args := [d] }
  | _ => none }
def blockRanksRow : OpenClaim := { program := "yticbfhbilfgoiaadoor", sum := "6655840a54ae668421f9a7061e8ec3b0e98e3ddc0d56fdf0461740bc226fae18", func := "scrimshaw/scrimshawlaw2.BlockRanks", spec := "blockRanks", named := ["math/bits.deBruijn64tab"], apart := false, laid := [("math/bits.deBruijn64tab", laid_math_bits_deBruijn64tab)] }
def BlockRanksSaid : Prop := blockRanksRow.holds Tryd.pinned (OpenSpec.ofChange blockRanksSpec)

/-- ITS FALSE NEIGHBOUR: 'it returns false'. Refute it at one input. -/
def blockRanksWrong : ChangeSpec := { name := "blockRanks", fn := fun _ => fun
  | [d] => { results := [.lit (.bool false)], args := [d] }
  | _ => none }
def BlockRanksWrongFalsely : Prop := blockRanksRow.holds Tryd.pinned (OpenSpec.ofChange blockRanksWrong)

/-- 'scrimshawlaw2.BlockHalves': WHATEVER THE INPUT: true; the input reads as it did. -/
def blockHalvesSpec : ChangeSpec := { name := "blockHalves", fn := fun _ => fun
  | [d] => { results := [.lit (.bool true)], args := [d] }
  | _ => none }
def blockHalvesRow : OpenClaim := { program := "yticbfhbilfgoiaadoor", sum := "6655840a54ae668421f9a7061e8ec3b0e98e3ddc0d56fdf0461740bc226fae18", func := "scrimshaw/scrimshawlaw2.BlockHalves", spec := "blockHalves", named := ["math/bits.deBruijn64tab"], apart := false, laid := [("math/bits.deBruijn64tab", laid_math_bits_deBruijn64tab)] }
def BlockHalvesSaid : Prop := blockHalvesRow.holds Tryd.pinned (OpenSpec.ofChange blockHalvesSpec)

/-- ITS FALSE NEIGHBOUR: 'it returns false'. Refute it at one input. -/
def blockHalvesWrong : ChangeSpec := { name := "blockHalves", fn := fun _ => fun
  | [d] => { results := [.lit (.bool false)], args := [d] }
  | _ => none }
def BlockHalvesWrongFalsely : Prop := blockHalvesRow.holds Tryd.pinned (OpenSpec.ofChange blockHalvesWrong)

/-- 'scrimshawlaw2.BlockOwn': WHATEVER THE INPUT: true; the input reads as it did. -/
def blockOwnSpec : ChangeSpec := { name := "blockOwn", fn := fun _ => fun
  | [d] => { results := [.lit (.bool true)], args := [d] }
  | _ => none }
def blockOwnRow : OpenClaim := { program := "yticbfhbilfgoiaadoor", sum := "6655840a54ae668421f9a7061e8ec3b0e98e3ddc0d56fdf0461740bc226fae18", func := "scrimshaw/scrimshawlaw2.BlockOwn", spec := "blockOwn", named := ["math/bits.deBruijn64tab"], apart := false, laid := [("math/bits.deBruijn64tab", laid_math_bits_deBruijn64tab)] }
def BlockOwnSaid : Prop := blockOwnRow.holds Tryd.pinned (OpenSpec.ofChange blockOwnSpec)

/-- ITS FALSE NEIGHBOUR: 'it returns false'. Refute it at one input. -/
def blockOwnWrong : ChangeSpec := { name := "blockOwn", fn := fun _ => fun
  | [d] => { results := [.lit (.bool false)], args := [d] }
  | _ => none }
def BlockOwnWrongFalsely : Prop := blockOwnRow.holds Tryd.pinned (OpenSpec.ofChange blockOwnWrong)

/- THE SECOND FORM. 'bulk': how many values and letters a reading holds, each counted each time it is reached (what is shared counts as often as it is met; a slice's spare places count too). A statement '..UptoSaid' is the law's where the arguments, and the package variables that the reading takes, are together of bulk at most 1048576: NARROWER than '..Said'. Prove '..Said' where nothing that the law and all that it calls make is longer than what came in: it says more and counts as full. Else prove '..UptoSaid'. A law counts once. -/
mutual
def uptoBulk {H : Type} : DataW H → Nat
  | .lit (.string bytes) => bytes.length + 1
  | .lit _ => 1
  | .nil => 1
  | .ptr d => uptoBulk d + 1
  | .slice elems spare => uptoBulkAll elems + uptoBulkAll spare + 1
  | .agg parts => uptoBulkAll parts + 1
  | .iface _ d => uptoBulk d + 1
  | .map entries => uptoBulkEntries entries + 1
  | .held _ => 1
def uptoBulkAll {H : Type} : List (DataW H) → Nat
  | [] => 0
  | d :: r => uptoBulk d + uptoBulkAll r
def uptoBulkEntries {H : Type} : List (Lit × DataW H) → Nat
  | [] => 0
  | x :: r => uptoBulkEntry x + uptoBulkEntries r
def uptoBulkEntry {H : Type} : Lit × DataW H → Nat
  | (.string bytes, d) => bytes.length + uptoBulk d + 1
  | (_, d) => uptoBulk d + 1
 end
def uptoSmall : (H : Type) → List (DataW H) → Bool := fun _ ds => decide (uptoBulkAll ds ≤ 1048576)
def OpenSpec.upto (s : _root_.Go.ChangeSpec) : _root_.Go.OpenSpec := { _root_.Go.OpenSpec.ofChange s with cond := some uptoSmall }

/-- 'scrimshawlaw1.BitsOrder', WHERE WHAT IT READS IS OF BULK AT MOST 1048576: true; the input reads as it did. -/
def bitsOrderUptoRow : OpenClaim := { program := "yticbfhbilfgoiaadoor", sum := "6655840a54ae668421f9a7061e8ec3b0e98e3ddc0d56fdf0461740bc226fae18", func := "scrimshaw/scrimshawlaw1.BitsOrder", spec := "bitsOrder", named := ["math/bits.deBruijn64tab"], apart := false, laid := [("math/bits.deBruijn64tab", laid_math_bits_deBruijn64tab)], narrowed := true }
def BitsOrderUptoSaid : Prop := bitsOrderUptoRow.holds Tryd.pinned (OpenSpec.upto bitsOrderSpec)

/-- 'scrimshawlaw1.BitsAsks', WHERE WHAT IT READS IS OF BULK AT MOST 1048576: true; the input reads as it did. -/
def bitsAsksUptoRow : OpenClaim := { program := "yticbfhbilfgoiaadoor", sum := "6655840a54ae668421f9a7061e8ec3b0e98e3ddc0d56fdf0461740bc226fae18", func := "scrimshaw/scrimshawlaw1.BitsAsks", spec := "bitsAsks", named := ["math/bits.deBruijn64tab"], apart := false, laid := [("math/bits.deBruijn64tab", laid_math_bits_deBruijn64tab)], narrowed := true }
def BitsAsksUptoSaid : Prop := bitsAsksUptoRow.holds Tryd.pinned (OpenSpec.upto bitsAsksSpec)

/-- 'scrimshawlaw1.BitsBack', WHERE WHAT IT READS IS OF BULK AT MOST 1048576: true; the input reads as it did. -/
def bitsBackUptoRow : OpenClaim := { program := "yticbfhbilfgoiaadoor", sum := "6655840a54ae668421f9a7061e8ec3b0e98e3ddc0d56fdf0461740bc226fae18", func := "scrimshaw/scrimshawlaw1.BitsBack", spec := "bitsBack", named := ["math/bits.deBruijn64tab"], apart := false, laid := [("math/bits.deBruijn64tab", laid_math_bits_deBruijn64tab)], narrowed := true }
def BitsBackUptoSaid : Prop := bitsBackUptoRow.holds Tryd.pinned (OpenSpec.upto bitsBackSpec)

/-- 'scrimshawlaw1.BitsPlaces', WHERE WHAT IT READS IS OF BULK AT MOST 1048576: true; the input reads as it did. -/
def bitsPlacesUptoRow : OpenClaim := { program := "yticbfhbilfgoiaadoor", sum := "6655840a54ae668421f9a7061e8ec3b0e98e3ddc0d56fdf0461740bc226fae18", func := "scrimshaw/scrimshawlaw1.BitsPlaces", spec := "bitsPlaces", named := ["math/bits.deBruijn64tab"], apart := false, laid := [("math/bits.deBruijn64tab", laid_math_bits_deBruijn64tab)], narrowed := true }
def BitsPlacesUptoSaid : Prop := bitsPlacesUptoRow.holds Tryd.pinned (OpenSpec.upto bitsPlacesSpec)

/-- 'scrimshawlaw1.BitsSums', WHERE WHAT IT READS IS OF BULK AT MOST 1048576: true; the input reads as it did. -/
def bitsSumsUptoRow : OpenClaim := { program := "yticbfhbilfgoiaadoor", sum := "6655840a54ae668421f9a7061e8ec3b0e98e3ddc0d56fdf0461740bc226fae18", func := "scrimshaw/scrimshawlaw1.BitsSums", spec := "bitsSums", named := ["math/bits.deBruijn64tab"], apart := false, laid := [("math/bits.deBruijn64tab", laid_math_bits_deBruijn64tab)], narrowed := true }
def BitsSumsUptoSaid : Prop := bitsSumsUptoRow.holds Tryd.pinned (OpenSpec.upto bitsSumsSpec)

/-- 'scrimshawlaw1.BitsChain', WHERE WHAT IT READS IS OF BULK AT MOST 1048576: true; the input reads as it did. -/
def bitsChainUptoRow : OpenClaim := { program := "yticbfhbilfgoiaadoor", sum := "6655840a54ae668421f9a7061e8ec3b0e98e3ddc0d56fdf0461740bc226fae18", func := "scrimshaw/scrimshawlaw1.BitsChain", spec := "bitsChain", named := ["math/bits.deBruijn64tab"], apart := false, laid := [("math/bits.deBruijn64tab", laid_math_bits_deBruijn64tab)], narrowed := true }
def BitsChainUptoSaid : Prop := bitsChainUptoRow.holds Tryd.pinned (OpenSpec.upto bitsChainSpec)

/-- 'scrimshawlaw2.BlockPlays', WHERE WHAT IT READS IS OF BULK AT MOST 1048576: true; the input reads as it did. -/
def blockPlaysUptoRow : OpenClaim := { program := "yticbfhbilfgoiaadoor", sum := "6655840a54ae668421f9a7061e8ec3b0e98e3ddc0d56fdf0461740bc226fae18", func := "scrimshaw/scrimshawlaw2.BlockPlays", spec := "blockPlays", named := ["math/bits.deBruijn64tab"], apart := false, laid := [("math/bits.deBruijn64tab", laid_math_bits_deBruijn64tab)], narrowed := true }
def BlockPlaysUptoSaid : Prop := blockPlaysUptoRow.holds Tryd.pinned (OpenSpec.upto blockPlaysSpec)

/-- 'scrimshawlaw2.BlockFull', WHERE WHAT IT READS IS OF BULK AT MOST 1048576: true; the input reads as it did. -/
def blockFullUptoRow : OpenClaim := { program := "yticbfhbilfgoiaadoor", sum := "6655840a54ae668421f9a7061e8ec3b0e98e3ddc0d56fdf0461740bc226fae18", func := "scrimshaw/scrimshawlaw2.BlockFull", spec := "blockFull", named := ["math/bits.deBruijn64tab"], apart := false, laid := [("math/bits.deBruijn64tab", laid_math_bits_deBruijn64tab)], narrowed := true }
def BlockFullUptoSaid : Prop := blockFullUptoRow.holds Tryd.pinned (OpenSpec.upto blockFullSpec)

/-- 'scrimshawlaw2.BlockRanks', WHERE WHAT IT READS IS OF BULK AT MOST 1048576: true; the input reads as it did. -/
def blockRanksUptoRow : OpenClaim := { program := "yticbfhbilfgoiaadoor", sum := "6655840a54ae668421f9a7061e8ec3b0e98e3ddc0d56fdf0461740bc226fae18", func := "scrimshaw/scrimshawlaw2.BlockRanks", spec := "blockRanks", named := ["math/bits.deBruijn64tab"], apart := false, laid := [("math/bits.deBruijn64tab", laid_math_bits_deBruijn64tab)], narrowed := true }
def BlockRanksUptoSaid : Prop := blockRanksUptoRow.holds Tryd.pinned (OpenSpec.upto blockRanksSpec)

/-- 'scrimshawlaw2.BlockHalves', WHERE WHAT IT READS IS OF BULK AT MOST 1048576: true; the input reads as it did. -/
def blockHalvesUptoRow : OpenClaim := { program := "yticbfhbilfgoiaadoor", sum := "6655840a54ae668421f9a7061e8ec3b0e98e3ddc0d56fdf0461740bc226fae18", func := "scrimshaw/scrimshawlaw2.BlockHalves", spec := "blockHalves", named := ["math/bits.deBruijn64tab"], apart := false, laid := [("math/bits.deBruijn64tab", laid_math_bits_deBruijn64tab)], narrowed := true }
def BlockHalvesUptoSaid : Prop := blockHalvesUptoRow.holds Tryd.pinned (OpenSpec.upto blockHalvesSpec)

/-- 'scrimshawlaw2.BlockOwn', WHERE WHAT IT READS IS OF BULK AT MOST 1048576: true; the input reads as it did. -/
def blockOwnUptoRow : OpenClaim := { program := "yticbfhbilfgoiaadoor", sum := "6655840a54ae668421f9a7061e8ec3b0e98e3ddc0d56fdf0461740bc226fae18", func := "scrimshaw/scrimshawlaw2.BlockOwn", spec := "blockOwn", named := ["math/bits.deBruijn64tab"], apart := false, laid := [("math/bits.deBruijn64tab", laid_math_bits_deBruijn64tab)], narrowed := true }
def BlockOwnUptoSaid : Prop := blockOwnUptoRow.holds Tryd.pinned (OpenSpec.upto blockOwnSpec)

end Rows
end Go.Proofs.YticbfhbilfgoiaaDoor
