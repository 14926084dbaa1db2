/-
  No cell of these rows narrows 'for every input' (looked for: loops, veiled, ifaces, maps, wideKeys, modest, calm, conditions, laid).
  DERIVED. THE GIVEN ROWS OF THIS SEAT. 16 by the template 'for every input the law returns true; each argument reads behind the call as it read before'; 0 by the template 'total and deterministic' (their statements: YteapkoomingdfaaTotals.lean).
  GIVEN WITH THE SEED: the statements are not yours to turn. If you find one false, say at which input.
  Laid BY PROGRAM, IN A SANDBOX (cutbox-rows.mjs): the forced cells as the released guide's own fill.sh prints them over the translation 17bea6e3e8ae0c61… (all of the seat's roots in one cut). By AI agents, Wed Nov 11 2026. No macro, syntax, notation, axiom, sorry.
-/
import Derived.Test.YteapkoomingdfaaChecked
import GoSem.Claim
import GoSem.ClaimJoined
import GoSem.ClaimMapViews
import Derived.JoinedTies
import Derived.KernelRfl
namespace Go.Proofs.Yteapkoomingdfaa
/- THE CELL 'sum', in the pinned program and in every row, IS THE sha256 OF THE DUMP (.gsa) THAT YteapkoomingdfaaProg.lean LOADS. Nothing in Lean hashes anything: it is a label: what it is worth is what the hold of that sum in a sandbox is worth. -/
noncomputable def Try.pinned : Pinned := { name := "yteapkoomingdfaa", sum := "17bea6e3e8ae0c61f2ec1b3b07ffa292a58378e862cab32e2e780ec54030bc4b", checked := Try.checked }
namespace Rows
def none {H : Type} : Left H := { results := [], args := [] }

/-- 'scrimshawlaw6.SymLevels': WHATEVER THE INPUT: true; the input reads as it did. -/
def symLevelsSpec : ChangeSpec := { name := "symLevels", fn := fun _ => fun
  | [d1, d2, d3] => { results := [.lit (.bool true)], args := [d1, d2, d3] }
  | _ => none }
def symLevelsRow : OpenClaim := { program := "yteapkoomingdfaa", sum := "17bea6e3e8ae0c61f2ec1b3b07ffa292a58378e862cab32e2e780ec54030bc4b", func := "scrimshaw/scrimshawlaw6.SymLevels", spec := "symLevels", apart := false }
def SymLevelsSaid : Prop := symLevelsRow.holds Try.pinned (OpenSpec.ofChange symLevelsSpec)

/-- ITS FALSE NEIGHBOUR: 'it returns false'. Refute it at one input. -/
def symLevelsWrong : ChangeSpec := { name := "symLevels", fn := fun _ => fun
  | [d1, d2, d3] => { results := [.lit (.bool false)], args := [d1, d2, d3] }
  | _ => none }
def SymLevelsWrongFalsely : Prop := symLevelsRow.holds Try.pinned (OpenSpec.ofChange symLevelsWrong)

/-- 'scrimshawlaw6.SymAsks': WHATEVER THE INPUT: true; the input reads as it did. -/
def symAsksSpec : ChangeSpec := { name := "symAsks", fn := fun _ => fun
  | [d1, d2, d3, d4, d5] => { results := [.lit (.bool true)], args := [d1, d2, d3, d4, d5] }
  | _ => none }
def symAsksRow : OpenClaim := { program := "yteapkoomingdfaa", sum := "17bea6e3e8ae0c61f2ec1b3b07ffa292a58378e862cab32e2e780ec54030bc4b", func := "scrimshaw/scrimshawlaw6.SymAsks", spec := "symAsks", apart := false }
def SymAsksSaid : Prop := symAsksRow.holds Try.pinned (OpenSpec.ofChange symAsksSpec)

/-- ITS FALSE NEIGHBOUR: 'it returns false'. Refute it at one input. -/
def symAsksWrong : ChangeSpec := { name := "symAsks", fn := fun _ => fun
  | [d1, d2, d3, d4, d5] => { results := [.lit (.bool false)], args := [d1, d2, d3, d4, d5] }
  | _ => none }
def SymAsksWrongFalsely : Prop := symAsksRow.holds Try.pinned (OpenSpec.ofChange symAsksWrong)

/-- 'scrimshawlaw6.SymPaths': WHATEVER THE INPUT: true; the input reads as it did. -/
def symPathsSpec : ChangeSpec := { name := "symPaths", fn := fun _ => fun
  | [d] => { results := [.lit (.bool true)], args := [d] }
  | _ => none }
def symPathsRow : OpenClaim := { program := "yteapkoomingdfaa", sum := "17bea6e3e8ae0c61f2ec1b3b07ffa292a58378e862cab32e2e780ec54030bc4b", func := "scrimshaw/scrimshawlaw6.SymPaths", spec := "symPaths", apart := false }
def SymPathsSaid : Prop := symPathsRow.holds Try.pinned (OpenSpec.ofChange symPathsSpec)

/-- ITS FALSE NEIGHBOUR: 'it returns false'. Refute it at one input. -/
def symPathsWrong : ChangeSpec := { name := "symPaths", fn := fun _ => fun
  | [d] => { results := [.lit (.bool false)], args := [d] }
  | _ => none }
def SymPathsWrongFalsely : Prop := symPathsRow.holds Try.pinned (OpenSpec.ofChange symPathsWrong)

/-- 'scrimshawlaw6.SymOrder': WHATEVER THE INPUT: true; the input reads as it did. -/
def symOrderSpec : ChangeSpec := { name := "symOrder", fn := fun _ => fun
  | [d1, d2] => { results := [.lit (.bool true)], args := [d1, d2] }
  | _ => none }
def symOrderRow : OpenClaim := { program := "yteapkoomingdfaa", sum := "17bea6e3e8ae0c61f2ec1b3b07ffa292a58378e862cab32e2e780ec54030bc4b", func := "scrimshaw/scrimshawlaw6.SymOrder", spec := "symOrder", apart := false }
def SymOrderSaid : Prop := symOrderRow.holds Try.pinned (OpenSpec.ofChange symOrderSpec)

/-- ITS FALSE NEIGHBOUR: 'it returns false'. Refute it at one input. -/
def symOrderWrong : ChangeSpec := { name := "symOrder", fn := fun _ => fun
  | [d1, d2] => { results := [.lit (.bool false)], args := [d1, d2] }
  | _ => none }
def SymOrderWrongFalsely : Prop := symOrderRow.holds Try.pinned (OpenSpec.ofChange symOrderWrong)

/-- 'scrimshawlaw6.SymParts': WHATEVER THE INPUT: true; the input reads as it did. -/
def symPartsSpec : ChangeSpec := { name := "symParts", fn := fun _ => fun
  | [d1, d2] => { results := [.lit (.bool true)], args := [d1, d2] }
  | _ => none }
def symPartsRow : OpenClaim := { program := "yteapkoomingdfaa", sum := "17bea6e3e8ae0c61f2ec1b3b07ffa292a58378e862cab32e2e780ec54030bc4b", func := "scrimshaw/scrimshawlaw6.SymParts", spec := "symParts", apart := false }
def SymPartsSaid : Prop := symPartsRow.holds Try.pinned (OpenSpec.ofChange symPartsSpec)

/-- ITS FALSE NEIGHBOUR: 'it returns false'. Refute it at one input. -/
def symPartsWrong : ChangeSpec := { name := "symParts", fn := fun _ => fun
  | [d1, d2] => { results := [.lit (.bool false)], args := [d1, d2] }
  | _ => none }
def SymPartsWrongFalsely : Prop := symPartsRow.holds Try.pinned (OpenSpec.ofChange symPartsWrong)

/-- 'scrimshawlaw6.SymTwins': WHATEVER THE INPUT: true; the input reads as it did. -/
def symTwinsSpec : ChangeSpec := { name := "symTwins", fn := fun _ => fun
  | [d1, d2] => { results := [.lit (.bool true)], args := [d1, d2] }
  | _ => none }
def symTwinsRow : OpenClaim := { program := "yteapkoomingdfaa", sum := "17bea6e3e8ae0c61f2ec1b3b07ffa292a58378e862cab32e2e780ec54030bc4b", func := "scrimshaw/scrimshawlaw6.SymTwins", spec := "symTwins", apart := false }
def SymTwinsSaid : Prop := symTwinsRow.holds Try.pinned (OpenSpec.ofChange symTwinsSpec)

/-- ITS FALSE NEIGHBOUR: 'it returns false'. Refute it at one input. -/
def symTwinsWrong : ChangeSpec := { name := "symTwins", fn := fun _ => fun
  | [d1, d2] => { results := [.lit (.bool false)], args := [d1, d2] }
  | _ => none }
def SymTwinsWrongFalsely : Prop := symTwinsRow.holds Try.pinned (OpenSpec.ofChange symTwinsWrong)

/-- 'scrimshawlaw3.ArenaStack': WHATEVER THE INPUT: true; the input reads as it did. -/
def arenaStackSpec : ChangeSpec := { name := "arenaStack", fn := fun _ => fun
  | [d] => { results := [.lit (.bool true)], args := [d] }
  | _ => none }
def arenaStackRow : OpenClaim := { program := "yteapkoomingdfaa", sum := "17bea6e3e8ae0c61f2ec1b3b07ffa292a58378e862cab32e2e780ec54030bc4b", func := "scrimshaw/scrimshawlaw3.ArenaStack", spec := "arenaStack", apart := false }
def ArenaStackSaid : Prop := arenaStackRow.holds Try.pinned (OpenSpec.ofChange arenaStackSpec)

/-- ITS FALSE NEIGHBOUR: 'it returns false'. Refute it at one input. -/
def arenaStackWrong : ChangeSpec := { name := "arenaStack", fn := fun _ => fun
  | [d] => { results := [.lit (.bool false)], args := [d] }
  | _ => none }
def ArenaStackWrongFalsely : Prop := arenaStackRow.holds Try.pinned (OpenSpec.ofChange arenaStackWrong)

/-- 'scrimshawlaw3.ArenaPlays': WHATEVER THE INPUT: true; the input reads as it did. -/
def arenaPlaysSpec : ChangeSpec := { name := "arenaPlays", fn := fun _ => fun
  | [d1, d2] => { results := [.lit (.bool true)], args := [d1, d2] }
  | _ => none }
def arenaPlaysRow : OpenClaim := { program := "yteapkoomingdfaa", sum := "17bea6e3e8ae0c61f2ec1b3b07ffa292a58378e862cab32e2e780ec54030bc4b", func := "scrimshaw/scrimshawlaw3.ArenaPlays", spec := "arenaPlays", apart := false }
def ArenaPlaysSaid : Prop := arenaPlaysRow.holds Try.pinned (OpenSpec.ofChange arenaPlaysSpec)

/-- ITS FALSE NEIGHBOUR: 'it returns false'. Refute it at one input. -/
def arenaPlaysWrong : ChangeSpec := { name := "arenaPlays", fn := fun _ => fun
  | [d1, d2] => { results := [.lit (.bool false)], args := [d1, d2] }
  | _ => none }
def ArenaPlaysWrongFalsely : Prop := arenaPlaysRow.holds Try.pinned (OpenSpec.ofChange arenaPlaysWrong)

/-- 'scrimshawlaw3.ArenaReuse': WHATEVER THE INPUT: true; the input reads as it did. -/
def arenaReuseSpec : ChangeSpec := { name := "arenaReuse", fn := fun _ => fun
  | [d] => { results := [.lit (.bool true)], args := [d] }
  | _ => none }
def arenaReuseRow : OpenClaim := { program := "yteapkoomingdfaa", sum := "17bea6e3e8ae0c61f2ec1b3b07ffa292a58378e862cab32e2e780ec54030bc4b", func := "scrimshaw/scrimshawlaw3.ArenaReuse", spec := "arenaReuse", apart := false }
def ArenaReuseSaid : Prop := arenaReuseRow.holds Try.pinned (OpenSpec.ofChange arenaReuseSpec)

/-- ITS FALSE NEIGHBOUR: 'it returns false'. Refute it at one input. -/
def arenaReuseWrong : ChangeSpec := { name := "arenaReuse", fn := fun _ => fun
  | [d] => { results := [.lit (.bool false)], args := [d] }
  | _ => none }
def ArenaReuseWrongFalsely : Prop := arenaReuseRow.holds Try.pinned (OpenSpec.ofChange arenaReuseWrong)

/-- 'scrimshawlaw3.ArenaFull': WHATEVER THE INPUT: true; the input reads as it did. -/
def arenaFullSpec : ChangeSpec := { name := "arenaFull", fn := fun _ => fun
  | [d1, d2] => { results := [.lit (.bool true)], args := [d1, d2] }
  | _ => none }
def arenaFullRow : OpenClaim := { program := "yteapkoomingdfaa", sum := "17bea6e3e8ae0c61f2ec1b3b07ffa292a58378e862cab32e2e780ec54030bc4b", func := "scrimshaw/scrimshawlaw3.ArenaFull", spec := "arenaFull", apart := false }
def ArenaFullSaid : Prop := arenaFullRow.holds Try.pinned (OpenSpec.ofChange arenaFullSpec)

/-- ITS FALSE NEIGHBOUR: 'it returns false'. Refute it at one input. -/
def arenaFullWrong : ChangeSpec := { name := "arenaFull", fn := fun _ => fun
  | [d1, d2] => { results := [.lit (.bool false)], args := [d1, d2] }
  | _ => none }
def ArenaFullWrongFalsely : Prop := arenaFullRow.holds Try.pinned (OpenSpec.ofChange arenaFullWrong)

/-- 'scrimshawlaw3.ArenaMany': WHATEVER THE INPUT: true; the input reads as it did. -/
def arenaManySpec : ChangeSpec := { name := "arenaMany", fn := fun _ => fun
  | [d1, d2] => { results := [.lit (.bool true)], args := [d1, d2] }
  | _ => none }
def arenaManyRow : OpenClaim := { program := "yteapkoomingdfaa", sum := "17bea6e3e8ae0c61f2ec1b3b07ffa292a58378e862cab32e2e780ec54030bc4b", func := "scrimshaw/scrimshawlaw3.ArenaMany", spec := "arenaMany", apart := false }
def ArenaManySaid : Prop := arenaManyRow.holds Try.pinned (OpenSpec.ofChange arenaManySpec)

/-- ITS FALSE NEIGHBOUR: 'it returns false'. Refute it at one input. -/
def arenaManyWrong : ChangeSpec := { name := "arenaMany", fn := fun _ => fun
  | [d1, d2] => { results := [.lit (.bool false)], args := [d1, d2] }
  | _ => none }
def ArenaManyWrongFalsely : Prop := arenaManyRow.holds Try.pinned (OpenSpec.ofChange arenaManyWrong)

/-- 'scrimshawlaw8.TallyWhich': WHATEVER THE INPUT: true; the input reads as it did. -/
def tallyWhichSpec : ChangeSpec := { name := "tallyWhich", fn := fun _ => fun
  | [d1, d2] => { results := [.lit (.bool true)], args := [d1, d2] }
  | _ => none }
def tallyWhichRow : OpenClaim := { program := "yteapkoomingdfaa", sum := "17bea6e3e8ae0c61f2ec1b3b07ffa292a58378e862cab32e2e780ec54030bc4b", func := "scrimshaw/scrimshawlaw8.TallyWhich", spec := "tallyWhich", apart := false }
def TallyWhichSaid : Prop := tallyWhichRow.holds Try.pinned (OpenSpec.ofChange tallyWhichSpec)

/-- ITS FALSE NEIGHBOUR: 'it returns false'. Refute it at one input. -/
def tallyWhichWrong : ChangeSpec := { name := "tallyWhich", fn := fun _ => fun
  | [d1, d2] => { results := [.lit (.bool false)], args := [d1, d2] }
  | _ => none }
def TallyWhichWrongFalsely : Prop := tallyWhichRow.holds Try.pinned (OpenSpec.ofChange tallyWhichWrong)

/-- 'scrimshawlaw8.TallyPlays': WHATEVER THE INPUT: true; the input reads as it did. -/
def tallyPlaysSpec : ChangeSpec := { name := "tallyPlays", fn := fun _ => fun
  | [d1, d2, d3, d4] => { results := [.lit (.bool true)], args := [d1, d2, d3, d4] }
  | _ => none }
def tallyPlaysRow : OpenClaim := { program := "yteapkoomingdfaa", sum := "17bea6e3e8ae0c61f2ec1b3b07ffa292a58378e862cab32e2e780ec54030bc4b", func := "scrimshaw/scrimshawlaw8.TallyPlays", spec := "tallyPlays", apart := false }
def TallyPlaysSaid : Prop := tallyPlaysRow.holds Try.pinned (OpenSpec.ofChange tallyPlaysSpec)

/-- ITS FALSE NEIGHBOUR: 'it returns false'. Refute it at one input. -/
def tallyPlaysWrong : ChangeSpec := { name := "tallyPlays", fn := fun _ => fun
  | [d1, d2, d3, d4] => { results := [.lit (.bool false)], args := [d1, d2, d3, d4] }
  | _ => none }
def TallyPlaysWrongFalsely : Prop := tallyPlaysRow.holds Try.pinned (OpenSpec.ofChange tallyPlaysWrong)

/-- 'scrimshawlaw8.TallySorts': WHATEVER THE INPUT: true; the input reads as it did. -/
def tallySortsSpec : ChangeSpec := { name := "tallySorts", fn := fun _ => fun
  | [d] => { results := [.lit (.bool true)], args := [d] }
  | _ => none }
def tallySortsRow : OpenClaim := { program := "yteapkoomingdfaa", sum := "17bea6e3e8ae0c61f2ec1b3b07ffa292a58378e862cab32e2e780ec54030bc4b", func := "scrimshaw/scrimshawlaw8.TallySorts", spec := "tallySorts", apart := false }
def TallySortsSaid : Prop := tallySortsRow.holds Try.pinned (OpenSpec.ofChange tallySortsSpec)

/-- ITS FALSE NEIGHBOUR: 'it returns false'. Refute it at one input. -/
def tallySortsWrong : ChangeSpec := { name := "tallySorts", fn := fun _ => fun
  | [d] => { results := [.lit (.bool false)], args := [d] }
  | _ => none }
def TallySortsWrongFalsely : Prop := tallySortsRow.holds Try.pinned (OpenSpec.ofChange tallySortsWrong)

/-- 'scrimshawlaw8.TallyBack': WHATEVER THE INPUT: true; the input reads as it did. -/
def tallyBackSpec : ChangeSpec := { name := "tallyBack", fn := fun _ => fun
  | [d1, d2, d3] => { results := [.lit (.bool true)], args := [d1, d2, d3] }
  | _ => none }
def tallyBackRow : OpenClaim := { program := "yteapkoomingdfaa", sum := "17bea6e3e8ae0c61f2ec1b3b07ffa292a58378e862cab32e2e780ec54030bc4b", func := "scrimshaw/scrimshawlaw8.TallyBack", spec := "tallyBack", apart := false }
def TallyBackSaid : Prop := tallyBackRow.holds Try.pinned (OpenSpec.ofChange tallyBackSpec)

/-- ITS FALSE NEIGHBOUR: 'it returns false'. Refute it at one input. -/
def tallyBackWrong : ChangeSpec := { name := "tallyBack", fn := fun _ => fun
  | [d1, d2, d3] => { results := [.lit (.bool false)], args := [d1, d2, d3] }
  | _ => none }
def TallyBackWrongFalsely : Prop := tallyBackRow.holds Try.pinned (OpenSpec.ofChange tallyBackWrong)

/-- 'scrimshawlaw8.TallyFull': WHATEVER THE INPUT: true; the input reads as it did. -/
def tallyFullSpec : ChangeSpec := { name := "tallyFull", fn := fun _ => fun
  | [d1, d2, d3] => { results := [.lit (.bool true)], args := [d1, d2, d3] }
  | _ => none }
def tallyFullRow : OpenClaim := { program := "yteapkoomingdfaa", sum := "17bea6e3e8ae0c61f2ec1b3b07ffa292a58378e862cab32e2e780ec54030bc4b", func := "scrimshaw/scrimshawlaw8.TallyFull", spec := "tallyFull", apart := false }
def TallyFullSaid : Prop := tallyFullRow.holds Try.pinned (OpenSpec.ofChange tallyFullSpec)

/-- ITS FALSE NEIGHBOUR: 'it returns false'. Refute it at one input. -/
def tallyFullWrong : ChangeSpec := { name := "tallyFull", fn := fun _ => fun
  | [d1, d2, d3] => { results := [.lit (.bool false)], args := [d1, d2, d3] }
  | _ => none }
def TallyFullWrongFalsely : Prop := tallyFullRow.holds Try.pinned (OpenSpec.ofChange tallyFullWrong)

/- THE SECOND FORM. 'bulk': how many values and letters a reading holds, each counted each time it is reached (what is shared counts as often as it is met; a slice's spare places count too). A statement '..UptoSaid' is the law's where the arguments, and the package variables that the reading takes, are together of bulk at most 1048576: NARROWER than '..Said'. Prove '..Said' where nothing that the law and all that it calls make is longer than what came in: it says more and counts as full. Else prove '..UptoSaid'. A law counts once. -/
mutual
def uptoBulk {H : Type} : DataW H → Nat
  | .lit (.string bytes) => bytes.length + 1
  | .lit _ => 1
  | .nil => 1
  | .ptr d => uptoBulk d + 1
  | .slice elems spare => uptoBulkAll elems + uptoBulkAll spare + 1
  | .agg parts => uptoBulkAll parts + 1
  | .iface _ d => uptoBulk d + 1
  | .map entries => uptoBulkEntries entries + 1
  | .held _ => 1
def uptoBulkAll {H : Type} : List (DataW H) → Nat
  | [] => 0
  | d :: r => uptoBulk d + uptoBulkAll r
def uptoBulkEntries {H : Type} : List (Lit × DataW H) → Nat
  | [] => 0
  | x :: r => uptoBulkEntry x + uptoBulkEntries r
def uptoBulkEntry {H : Type} : Lit × DataW H → Nat
  | (.string bytes, d) => bytes.length + uptoBulk d + 1
  | (_, d) => uptoBulk d + 1
 end
def uptoSmall : (H : Type) → List (DataW H) → Bool := fun _ ds => decide (uptoBulkAll ds ≤ 1048576)
def OpenSpec.upto (s : _root_.Go.ChangeSpec) : _root_.Go.OpenSpec := { _root_.Go.OpenSpec.ofChange s with cond := some uptoSmall }

/-- 'scrimshawlaw6.SymLevels', WHERE WHAT IT READS IS OF BULK AT MOST 1048576: true; the input reads as it did. -/
def symLevelsUptoRow : OpenClaim := { program := "yteapkoomingdfaa", sum := "17bea6e3e8ae0c61f2ec1b3b07ffa292a58378e862cab32e2e780ec54030bc4b", func := "scrimshaw/scrimshawlaw6.SymLevels", spec := "symLevels", apart := false, narrowed := true }
def SymLevelsUptoSaid : Prop := symLevelsUptoRow.holds Try.pinned (OpenSpec.upto symLevelsSpec)

/-- 'scrimshawlaw6.SymAsks', WHERE WHAT IT READS IS OF BULK AT MOST 1048576: true; the input reads as it did. -/
def symAsksUptoRow : OpenClaim := { program := "yteapkoomingdfaa", sum := "17bea6e3e8ae0c61f2ec1b3b07ffa292a58378e862cab32e2e780ec54030bc4b", func := "scrimshaw/scrimshawlaw6.SymAsks", spec := "symAsks", apart := false, narrowed := true }
def SymAsksUptoSaid : Prop := symAsksUptoRow.holds Try.pinned (OpenSpec.upto symAsksSpec)

/-- 'scrimshawlaw6.SymPaths', WHERE WHAT IT READS IS OF BULK AT MOST 1048576: true; the input reads as it did. -/
def symPathsUptoRow : OpenClaim := { program := "yteapkoomingdfaa", sum := "17bea6e3e8ae0c61f2ec1b3b07ffa292a58378e862cab32e2e780ec54030bc4b", func := "scrimshaw/scrimshawlaw6.SymPaths", spec := "symPaths", apart := false, narrowed := true }
def SymPathsUptoSaid : Prop := symPathsUptoRow.holds Try.pinned (OpenSpec.upto symPathsSpec)

/-- 'scrimshawlaw6.SymOrder', WHERE WHAT IT READS IS OF BULK AT MOST 1048576: true; the input reads as it did. -/
def symOrderUptoRow : OpenClaim := { program := "yteapkoomingdfaa", sum := "17bea6e3e8ae0c61f2ec1b3b07ffa292a58378e862cab32e2e780ec54030bc4b", func := "scrimshaw/scrimshawlaw6.SymOrder", spec := "symOrder", apart := false, narrowed := true }
def SymOrderUptoSaid : Prop := symOrderUptoRow.holds Try.pinned (OpenSpec.upto symOrderSpec)

/-- 'scrimshawlaw6.SymParts', WHERE WHAT IT READS IS OF BULK AT MOST 1048576: true; the input reads as it did. -/
def symPartsUptoRow : OpenClaim := { program := "yteapkoomingdfaa", sum := "17bea6e3e8ae0c61f2ec1b3b07ffa292a58378e862cab32e2e780ec54030bc4b", func := "scrimshaw/scrimshawlaw6.SymParts", spec := "symParts", apart := false, narrowed := true }
def SymPartsUptoSaid : Prop := symPartsUptoRow.holds Try.pinned (OpenSpec.upto symPartsSpec)

/-- 'scrimshawlaw6.SymTwins', WHERE WHAT IT READS IS OF BULK AT MOST 1048576: true; the input reads as it did. -/
def symTwinsUptoRow : OpenClaim := { program := "yteapkoomingdfaa", sum := "17bea6e3e8ae0c61f2ec1b3b07ffa292a58378e862cab32e2e780ec54030bc4b", func := "scrimshaw/scrimshawlaw6.SymTwins", spec := "symTwins", apart := false, narrowed := true }
def SymTwinsUptoSaid : Prop := symTwinsUptoRow.holds Try.pinned (OpenSpec.upto symTwinsSpec)

/-- 'scrimshawlaw3.ArenaStack', WHERE WHAT IT READS IS OF BULK AT MOST 1048576: true; the input reads as it did. -/
def arenaStackUptoRow : OpenClaim := { program := "yteapkoomingdfaa", sum := "17bea6e3e8ae0c61f2ec1b3b07ffa292a58378e862cab32e2e780ec54030bc4b", func := "scrimshaw/scrimshawlaw3.ArenaStack", spec := "arenaStack", apart := false, narrowed := true }
def ArenaStackUptoSaid : Prop := arenaStackUptoRow.holds Try.pinned (OpenSpec.upto arenaStackSpec)

/-- 'scrimshawlaw3.ArenaPlays', WHERE WHAT IT READS IS OF BULK AT MOST 1048576: true; the input reads as it did. -/
def arenaPlaysUptoRow : OpenClaim := { program := "yteapkoomingdfaa", sum := "17bea6e3e8ae0c61f2ec1b3b07ffa292a58378e862cab32e2e780ec54030bc4b", func := "scrimshaw/scrimshawlaw3.ArenaPlays", spec := "arenaPlays", apart := false, narrowed := true }
def ArenaPlaysUptoSaid : Prop := arenaPlaysUptoRow.holds Try.pinned (OpenSpec.upto arenaPlaysSpec)

/-- 'scrimshawlaw3.ArenaReuse', WHERE WHAT IT READS IS OF BULK AT MOST 1048576: true; the input reads as it did. -/
def arenaReuseUptoRow : OpenClaim := { program := "yteapkoomingdfaa", sum := "17bea6e3e8ae0c61f2ec1b3b07ffa292a58378e862cab32e2e780ec54030bc4b", func := "scrimshaw/scrimshawlaw3.ArenaReuse", spec := "arenaReuse", apart := false, narrowed := true }
def ArenaReuseUptoSaid : Prop := arenaReuseUptoRow.holds Try.pinned (OpenSpec.upto arenaReuseSpec)

/-- 'scrimshawlaw3.ArenaFull', WHERE WHAT IT READS IS OF BULK AT MOST 1048576: true; the input reads as it did. -/
def arenaFullUptoRow : OpenClaim := { program := "yteapkoomingdfaa", sum := "17bea6e3e8ae0c61f2ec1b3b07ffa292a58378e862cab32e2e780ec54030bc4b", func := "scrimshaw/scrimshawlaw3.ArenaFull", spec := "arenaFull", apart := false, narrowed := true }
def ArenaFullUptoSaid : Prop := arenaFullUptoRow.holds Try.pinned (OpenSpec.upto arenaFullSpec)

/-- 'scrimshawlaw3.ArenaMany', WHERE WHAT IT READS IS OF BULK AT MOST 1048576: true; the input reads as it did. -/
def arenaManyUptoRow : OpenClaim := { program := "yteapkoomingdfaa", sum := "17bea6e3e8ae0c61f2ec1b3b07ffa292a58378e862cab32e2e780ec54030bc4b", func := "scrimshaw/scrimshawlaw3.ArenaMany", spec := "arenaMany", apart := false, narrowed := true }
def ArenaManyUptoSaid : Prop := arenaManyUptoRow.holds Try.pinned (OpenSpec.upto arenaManySpec)

/-- 'scrimshawlaw8.TallyWhich', WHERE WHAT IT READS IS OF BULK AT MOST 1048576: true; the input reads as it did. -/
def tallyWhichUptoRow : OpenClaim := { program := "yteapkoomingdfaa", sum := "17bea6e3e8ae0c61f2ec1b3b07ffa292a58378e862cab32e2e780ec54030bc4b", func := "scrimshaw/scrimshawlaw8.TallyWhich", spec := "tallyWhich", apart := false, narrowed := true }
def TallyWhichUptoSaid : Prop := tallyWhichUptoRow.holds Try.pinned (OpenSpec.upto tallyWhichSpec)

/-- 'scrimshawlaw8.TallyPlays', WHERE WHAT IT READS IS OF BULK AT MOST 1048576: true; the input reads as it did. -/
def tallyPlaysUptoRow : OpenClaim := { program := "yteapkoomingdfaa", sum := "17bea6e3e8ae0c61f2ec1b3b07ffa292a58378e862cab32e2e780ec54030bc4b", func := "scrimshaw/scrimshawlaw8.TallyPlays", spec := "tallyPlays", apart := false, narrowed := true }
def TallyPlaysUptoSaid : Prop := tallyPlaysUptoRow.holds Try.pinned (OpenSpec.upto tallyPlaysSpec)

/-- 'scrimshawlaw8.TallySorts', WHERE WHAT IT READS IS OF BULK AT MOST 1048576: true; the input reads as it did. -/
def tallySortsUptoRow : OpenClaim := { program := "yteapkoomingdfaa", sum := "17bea6e3e8ae0c61f2ec1b3b07ffa292a58378e862cab32e2e780ec54030bc4b", func := "scrimshaw/scrimshawlaw8.TallySorts", spec := "tallySorts", apart := false, narrowed := true }
def TallySortsUptoSaid : Prop := tallySortsUptoRow.holds Try.pinned (OpenSpec.upto tallySortsSpec)

/-- 'scrimshawlaw8.TallyBack', WHERE WHAT IT READS IS OF BULK AT MOST 1048576: true; the input reads as it did. -/
def tallyBackUptoRow : OpenClaim := { program := "yteapkoomingdfaa", sum := "17bea6e3e8ae0c61f2ec1b3b07ffa292a58378e862cab32e2e780ec54030bc4b", func := "scrimshaw/scrimshawlaw8.TallyBack", spec := "tallyBack", apart := false, narrowed := true }
def TallyBackUptoSaid : Prop := tallyBackUptoRow.holds Try.pinned (OpenSpec.upto tallyBackSpec)

/-- 'scrimshawlaw8.TallyFull', WHERE WHAT IT READS IS OF BULK AT MOST 1048576: true; the input reads as it did. -/
def tallyFullUptoRow : OpenClaim := { program := "yteapkoomingdfaa", sum := "17bea6e3e8ae0c61f2ec1b3b07ffa292a58378e862cab32e2e780ec54030bc4b", func := "scrimshaw/scrimshawlaw8.TallyFull", spec := "tallyFull", apart := false, narrowed := true }
def TallyFullUptoSaid : Prop := tallyFullUptoRow.holds Try.pinned (OpenSpec.upto tallyFullSpec)

end Rows
end Go.Proofs.Yteapkoomingdfaa
