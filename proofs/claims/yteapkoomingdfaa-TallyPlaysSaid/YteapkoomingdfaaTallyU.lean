/- Steps of a tally, for the laws: what Add turns. -/
import Derived.Test.YteapkoomingdfaaTallyS
import Derived.Test.YteapkoomingdfaaPush
namespace Go.Proofs.Yteapkoomingdfaa
set_option linter.unusedVariables false
set_option linter.unusedSimpArgs false
open Go.RowKit

theorem add_N (t : Tl) (s : Nat) (n : Int) : (t.add s n).N s = t.N s + n := by
  show upd t.N s (t.N s + n) s = _
  simp [upd]
theorem add_next (t : Tl) (s : Nat) (n : Int) : bl (t.add s n).N (s + 1) = bl t.N (s + 1) + n := by
  show bl (upd t.N s (t.N s + n)) (s + 1) = _
  rw [bl_upd, if_pos (by omega)]; omega
theorem add_bl (t : Tl) (s : Nat) (n : Int) : bl (t.add s n).N s = bl t.N s := by
  show bl (upd t.N s (t.N s + n)) s = _
  rw [bl_upd, if_neg (by omega)]; omega
theorem Try.infoIntU : (Try.prog.info? 3).map (fun i => (i.zero, i.size, i.bytes)) = some (some (.int .i64 0), 1, 8) := by kernel_rfl

end Go.Proofs.Yteapkoomingdfaa
