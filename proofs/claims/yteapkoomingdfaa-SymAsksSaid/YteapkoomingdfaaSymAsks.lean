/- The walk of SymAsks: for whatever input it answers true and turns nothing that was there. -/
import Derived.Test.YteapkoomingdfaaSymAsksY
import Derived.Test.YteapkoomingdfaaSymAsksA
import Derived.Test.YteapkoomingdfaaSymAsksB
namespace Go.Proofs.Yteapkoomingdfaa
set_option linter.unusedVariables false
open Go.RowKit

set_option maxHeartbeats 3200000 in
set_option maxRecDepth 100000 in
theorem walk_SymAsks (w : World) (b : Int) (w0 : (Lit.int .u8 b).wf = true) (s : Int) (w1 : (Lit.int .i64 s).wf = true) (l : Int) (w2 : (Lit.int .i64 l).wf = true)
    (a3 : Option Addr) (c3 : Nat) (x : List Int) (w3 : ArgI .u8 w a3 c3 x) (a4 : Option Addr) (c4 : Nat) (y : List Int) (w4 : ArgI .u8 w a4 c4 y) :
    Calls Try.prog 4 #[.int .u8 b, .int .i64 s, .int .i64 l, .slice a3 x.length c3, .slice a4 y.length c4] w fun e w' => e = .returned (.bool true) ∧ Below w.heap.size w w' := by
  obtain ⟨hb0, hb1⟩ := bounds_u8 w0
  have hx := w3.reads
  have hy := w4.reads
  have hbx := bytes_of w3
  have hby := bytes_of w4
  clear w0 w1 w2 w3 w4
  by_cases hl : x.length ≤ 100
  · by_cases hl2 : y.length ≤ 100
    · by_cases hs0 : 1 ≤ s
      · by_cases hs1 : s < 257
        · exact symAsks_yes w b s l a3 c3 x a4 c4 y hb0 hb1 hx hy hbx hby hl hl2 hs0 hs1
        · exact symAsks_hi w b s l a3 c3 x a4 c4 y hb0 hb1 hx hy hbx hby hl hl2 (by omega)
      · exact symAsks_lo w b s l a3 c3 x a4 c4 y hb0 hb1 hx hy hbx hby hl hl2 (by omega)
    · have hd1 : decide ((100 : Int) < (x.length : Int)) = false := by simp; omega
      have hd2 : decide ((100 : Int) < (y.length : Int)) = true := by simp; omega
      go_enter Try.func4, Try.ntmps4
      go_wp2_with (go_at_call 20; refine (told6_any _).mono ?_; rintro e w' ⟨rfl, hb⟩)
      go_ret
      exact ⟨rfl, by assumption⟩
  · have hd1 : decide ((100 : Int) < (x.length : Int)) = true := by simp; omega
    go_enter Try.func4, Try.ntmps4
    go_wp2_with (go_at_call 20; refine (told6_any _).mono ?_; rintro e w' ⟨rfl, hb⟩)
    go_ret
    exact ⟨rfl, by assumption⟩

end Go.Proofs.Yteapkoomingdfaa
