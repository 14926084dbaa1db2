/- The walk of ArenaFull: for whatever numbers it answers true and turns nothing that was there. -/
import Derived.Test.YteapkoomingdfaaArenaR
namespace Go.Proofs.Yteapkoomingdfaa
set_option linter.unusedVariables false
set_option linter.unusedSimpArgs false
open Go.RowKit

theorem u64_of' (a : Int) : ∃ u : Int, 0 ≤ u ∧ IntKind.u64.wrap a = u := ⟨IntKind.u64.wrap a, by rw [IntKind.wrap_u64]; omega, rfl⟩

set_option maxHeartbeats 3200000 in
set_option maxRecDepth 100000 in
theorem walk_ArenaFull (w : World) (a0 : Int) (w0 : (Lit.int .i64 a0).wf = true) (a1 : Int) (w1 : (Lit.int .i64 a1).wf = true) :
    Calls Try.prog 12 #[.int .i64 a0, .int .i64 a1] w fun e w' => e = .returned (.bool true) ∧ Below w.heap.size w w' := by
  clear w0 w1
  obtain ⟨u, hu0, hu⟩ := u64_of' a0
  obtain ⟨v, hv0, hv⟩ := u64_of' a1
  have HV := Lib.hid hv; clear hv
  go_enter Try.func12, Try.ntmps12
  go_wp2_with fail
  clear hu
  have hx0 : 0 ≤ u % 301 := by omega
  have hx1 : u % 301 < 301 := by omega
  generalize u % 301 = x at *
  obtain ⟨n, rfl⟩ := Int.eq_ofNat_of_zero_le hx0
  have hn : n ≤ 300 := by omega
  refine (new_at n w (by omega)).mono ?_
  rintro e w1 ⟨p, rfl, hA, hb1, hpl⟩
  go_wp2_with fail
  go_loopw [7] (fun i wr => ∃ k : Nat, k ≤ n ∧ i = .int .i64 k ∧ ArAt w.heap.size wr p ⟨List.replicate k true, [], n⟩ ∧ Below w.heap.size w wr) (fun i _ => n - (intOf i).toNat)
  case atStart => exact ⟨0, by omega, rfl, hA, hb1⟩
  case round =>
    obtain ⟨k, hk, rfl, hA, hb⟩ := hrel
    have hs := hb.size
    by_cases hlt : k < n
    · go_wp2_with (go_at_call 30; refine (take_at hA hs (take_true hlt)).mono ?_; rintro e w2 ⟨rfl, hA2, hb2⟩)
      go_roundw
      case rel => exact ⟨k + 1, by omega, by simp, hA2, hb.trans hb2⟩
      case measure => simp [intOf]; omega
    · have hkn : k = n := by omega
      rw [hkn] at hA
      clear hkn
      by_cases hz : n = 0
      · subst hz
        go_wp2_with fail
        refine (take_at hA hs (take_full 0)).mono ?_
        rintro e w2 ⟨rfl, hA2, hb2⟩
        have hb3 := hb.trans hb2
        go_wp2_with fail
        refine (told3_any _).mono ?_
        rintro e w3 ⟨rfl, hb4⟩
        have hA3 := hA2.chg hb4
        go_wp2_with fail
        refine (made_at hA3).mono ?_
        rintro e w' ⟨rfl, rfl⟩
        go_wp2_with fail
        go_ret
        exact ⟨rfl, hb3.trans (hb4.mono hb3.size)⟩
      · have hz0 : ((n : Int) == 0) = false := by simp; omega
        have hwn : IntKind.u64.wrap (n : Int) = (n : Int) := by rw [IntKind.wrap_u64]; omega
        have hzn : ¬ (n : Int) = 0 := by omega
        go_wp2_with fail
        refine (take_at hA hs (take_full n)).mono ?_
        rintro e w2 ⟨rfl, hA2, hb2⟩
        have hv := HV.out
        have hn0 : (0 : Int) < (n : Int) := by omega
        have hr0 : 0 ≤ v % (n : Int) := Int.emod_nonneg _ (by omega)
        have hr1 : v % (n : Int) < (n : Int) := Int.emod_lt_of_pos _ hn0
        have hr2 : v % (n : Int) < 301 := by omega
        go_wp2_with fail
        clear hv
        generalize v % (n : Int) = r at *
        obtain ⟨r, rfl⟩ := Int.eq_ofNat_of_zero_le hr0
        have hrn : r < n := by omega
        have hs2 := (hb.trans hb2).size
        have hfr := free_one hA2.ok (i := r) (by simpa using hrn) (by simp)
        refine (free_lit [(r : Int)] _ _ hA2 hs2 rfl rfl (by simp) hfr).mono ?_
        rintro e w3 ⟨rfl, hA3, hb3⟩
        have hs3 := ((hb.trans hb2).trans hb3).size
        have htk := take_last (k := r) hA3.ok (by simp)
        go_wp2_with fail
        refine (take_at hA3 hs3 htk).mono ?_
        rintro e w4 ⟨rfl, hA4, hb4⟩
        have hbb := ((hb.trans hb2).trans hb3).trans hb4
        have hlv : Ar.live (Ar.pop ⟨(List.replicate n true).set r false, [] ++ [r], n⟩ r) = n := by simp [Ar.live, Ar.pop]
        have hmd : (Ar.pop ⟨(List.replicate n true).set r false, [] ++ [r], n⟩ r).T.length = n := by simp [Ar.pop]
        generalize Ar.pop ⟨(List.replicate n true).set r false, [] ++ [r], n⟩ r = a4 at *
        have HLV := Lib.hid hlv
        have HMD := Lib.hid hmd
        clear hfr htk hlv hmd hwn
        go_wp2_with fail
        refine (told3_any _).mono ?_
        rintro e w5 ⟨rfl, hb5⟩
        have hA5 := hA4.chg hb5
        have hb6 := hbb.trans (hb5.mono hbb.size)
        go_wp2_with fail
        refine (live_at hA5).mono ?_
        rintro e w' ⟨rfl, q, rfl⟩
        rw [HLV.out]
        have hA6 := hA5.chg (w' := w5.drewN q) (below_drewN (Below.refl _ _) q)
        go_wp2_with fail
        refine (made_at hA6).mono ?_
        rintro e w' ⟨rfl, rfl⟩
        rw [HMD.out]
        go_wp2_with fail
        go_ret
        exact ⟨rfl, below_drewN hb6 q⟩

end Go.Proofs.Yteapkoomingdfaa
