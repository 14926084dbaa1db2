/- The walk of TallyFull. -/
import Derived.Test.YteapkoomingdfaaTallyS
namespace Go.Proofs.Yteapkoomingdfaa
set_option linter.unusedVariables false
set_option linter.unusedSimpArgs false
open Go.RowKit

set_option maxHeartbeats 3200000 in
set_option maxRecDepth 100000 in
theorem walk_TallyFull (w : World) (a0 : Int) (w0 : (Lit.int .i64 a0).wf = true) (a1 : Int) (w1 : (Lit.int .i64 a1).wf = true) (a2 : Int) (w2 : (Lit.int .i64 a2).wf = true) :
    Calls Try.prog 18 #[.int .i64 a0, .int .i64 a1, .int .i64 a2] w fun e w' => e = .returned (.bool true) ∧ Below w.heap.size w w' := by
  clear w0 w1 w2
  obtain ⟨u0, hu0, hw0⟩ := u64_of2 a0
  obtain ⟨u1, hu1, hw1⟩ := u64_of2 a1
  obtain ⟨u2, hu2, hw2⟩ := u64_of2 a2
  go_enter Try.func18, Try.ntmps18
  go_wp2_with fail
  refine (tnew_none _).mono ?_
  rintro e w1 ⟨p, rfl, hT, hb1⟩
  have hs1 := hb1.size
  go_wp2_with fail
  clear hw0 hw1 hw2
  have hx0 : 0 ≤ u0 % 257 := by omega
  have hx1 : u0 % 257 < 257 := by omega
  have hy0 : 0 ≤ u1 % 257 := by omega
  have hy1 : u1 % 257 < 257 := by omega
  have hk0 : 0 ≤ u2 % 5 := by omega
  have hk1 : u2 % 5 < 5 := by omega
  generalize u0 % 257 = x at *
  generalize u1 % 257 = y at *
  generalize u2 % 5 = k at *
  clear hu0 hu1 hu2
  obtain ⟨x, rfl⟩ := Int.eq_ofNat_of_zero_le hx0
  obtain ⟨y, rfl⟩ := Int.eq_ofNat_of_zero_le hy0
  have hst : (Tl.of []).step (x : Int) 2147483646 = (0, (Tl.of []).add x 2147483646) := step_ok (by omega) (by show -((0 : Nat) : Int) ≤ _; omega) (by show _ ≤ 2147483648 - ((0 : Nat) : Int); omega)
  have hall : ((Tl.of []).add x 2147483646).all = 2147483646 := by show ((0 : Nat) : Int) + 2147483646 = _; omega
  generalize (Tl.of []).add x 2147483646 = t at *
  refine (tadd_at hT hs1 hst).mono ?_
  rintro e w2 ⟨rfl, hT2, hb2⟩
  have hb12 := hb1.trans hb2
  have hs2 := hb12.size
  have hpos := hT2.1.ok.pos y (by omega)
  clear hT hb1 hb2 hst hs1
  go_wp2_with fail
  have hyn : y < 257 := by omega
  by_cases hk : k ≤ 2
  · have hk2 : decide (2 < k) = false := by simp; omega
    have hst : t.step (y : Int) k = (0, t.add y k) := step_ok hyn (by omega) (by omega)
    have hall2 : (t.add y k).all = 2147483646 + k := by show t.all + k = _; omega
    generalize t.add y k = t2 at *
    refine (tadd_at hT2 hs2 hst).mono ?_
    rintro e w3 ⟨rfl, hT3, hb3⟩
    have hb13 := hb12.trans hb3
    have hs3 := hb13.size
    clear hT2 hb12 hb3 hst hs2 hpos hall
    go_wp2_with fail
    refine (told8_any _).mono ?_
    rintro e w4 ⟨rfl, hb4⟩
    have hT4 := hT3.chg hb4
    have hb14 := hb13.trans (hb4.mono hs3)
    clear hT3 hb13 hb4 hs3
    go_wp2_with fail
    refine (tlen_at hT4 hall2).mono ?_
    rintro e w' ⟨rfl, rfl⟩
    go_wp2_with fail
    refine (tlen_at hT4 hall2).mono ?_
    rintro e w' ⟨rfl, rfl⟩
    go_wp2_with fail
    refine (twhich_in hT4 (by omega) (by omega)).mono ?_
    rintro e w' ⟨s, rfl, rfl, hs⟩
    clear hs
    go_wp2_with fail
    refine (tlen_at hT4 hall2).mono ?_
    rintro e w' ⟨rfl, rfl⟩
    go_wp2_with fail
    refine (twhich_out hT4 (by omega) (by omega) (by omega)).mono ?_
    rintro e w' ⟨rfl, rfl⟩
    go_wp2_with fail
    go_ret
    exact ⟨rfl, hb14⟩
  · have hk2 : decide (2 < k) = true := by simp; omega
    have hst : t.step (y : Int) k = (2, t) := step_range hyn (by omega)
    refine (tadd_at hT2 hs2 hst).mono ?_
    rintro e w3 ⟨rfl, hT3, hb3⟩
    have hb13 := hb12.trans hb3
    have hs3 := hb13.size
    clear hT2 hb12 hb3 hst hs2 hpos
    go_wp2_with fail
    refine (told8_any _).mono ?_
    rintro e w4 ⟨rfl, hb4⟩
    have hT4 := hT3.chg hb4
    have hb14 := hb13.trans (hb4.mono hs3)
    clear hT3 hb13 hb4 hs3
    go_wp2_with fail
    refine (tlen_at hT4 hall).mono ?_
    rintro e w' ⟨rfl, rfl⟩
    go_wp2_with fail
    refine (tlen_at hT4 hall).mono ?_
    rintro e w' ⟨rfl, rfl⟩
    go_wp2_with fail
    refine (twhich_in hT4 (by omega) (by omega)).mono ?_
    rintro e w' ⟨s, rfl, rfl, hs⟩
    clear hs
    go_wp2_with fail
    refine (tlen_at hT4 hall).mono ?_
    rintro e w' ⟨rfl, rfl⟩
    go_wp2_with fail
    refine (twhich_out hT4 (by omega) (by omega) (by omega)).mono ?_
    rintro e w' ⟨rfl, rfl⟩
    go_wp2_with fail
    go_ret
    exact ⟨rfl, hb14⟩

end Go.Proofs.Yteapkoomingdfaa
