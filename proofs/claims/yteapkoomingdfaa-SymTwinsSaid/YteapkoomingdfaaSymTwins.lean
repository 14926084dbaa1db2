/- The walk of SymTwins: for whatever numbers it answers true and turns nothing that was there. -/
import Derived.Test.YteapkoomingdfaaSymLaw
namespace Go.Proofs.Yteapkoomingdfaa
set_option linter.unusedVariables false
open Go.RowKit

set_option maxHeartbeats 1600000 in
set_option maxRecDepth 100000 in
theorem walk_SymTwins (a0 : Int) (w0 : (Lit.int .i64 a0).wf = true) (a1 : Int) (w1 : (Lit.int .i64 a1).wf = true) (w : World) :
    Calls Try.prog 8 #[.int .i64 a0, .int .i64 a1] w fun e w' => e = .returned (.bool true) ∧ Below w.heap.size w w' := by
  obtain ⟨u, hu0, hu⟩ := u64_of a0
  obtain ⟨v, hv0, hv⟩ := u64_of a1
  go_enter Try.func8, Try.ntmps8
  go_wp2_with fail
  clear hu hv
  have hx0 : 0 ≤ u % 257 := by omega
  have hx1 : u % 257 < 257 := by omega
  have hy0 : 0 ≤ v % 257 := by omega
  have hy1 : v % 257 < 257 := by omega
  generalize u % 257 = x at *
  generalize v % 257 = y at *
  go_loop [7] (fun i => ∃ k : Nat, k ≤ 9 ∧ i = .int .i64 k ∧ symPath x (k : Int) = symPath y (k : Int)) (fun i => 9 - (intOf i).toNat)
  case atStart => exact ⟨0, by omega, rfl, by rw [show ((0 : Nat) : Int) = 0 from rfl, symPath_zero hx0 hx1, symPath_zero hy0 hy1]⟩
  case round =>
    obtain ⟨k, hk, rfl, he⟩ := hrel
    by_cases hlt : k < 9
    · have s1 := symPath_step hx0 hx1 hlt
      have s2 := symPath_step hy0 hy1 hlt
      by_cases hbe : symBit x (k : Int) = symBit y (k : Int)
      · have hnx : symPath x ((k + 1 : Nat) : Int) = symPath y ((k + 1 : Nat) : Int) := by rw [s1, s2, he, hbe]
        clear s1 s2
        have HN := Lib.hid hnx; clear hnx
        have HE := Lib.hid he; clear he
        have HB := Lib.hid hbe; clear hbe
        go_wp2_with fail
        refine (symPath_any _ _ _).mono ?_
        rintro e w' ⟨rfl, rfl⟩
        rw [HE.out]
        go_wp2_with fail
        refine (symPath_any _ _ _).mono ?_
        rintro e w' ⟨rfl, rfl⟩
        go_wp2_with fail
        refine (symBit_any _ _ _).mono ?_
        rintro e w' ⟨rfl, rfl⟩
        rw [HB.out]
        go_wp2_with fail
        refine (symBit_any _ _ _).mono ?_
        rintro e w' ⟨rfl, rfl⟩
        go_wp2_with fail
        go_round
        case rel => exact ⟨k + 1, by omega, by go_num, HN.out⟩
        case measure => simp [intOf]; omega
      · have hgt := symBit_gt hx0 hx1 hy0 hy1 hlt he hbe
        clear s1 s2
        have HE := Lib.hid he; clear he
        by_cases hyx : y < x
        · have bx : symBit x (k : Int) = true := by rw [hgt]; exact decide_eq_true hyx
          have bY : symBit y (k : Int) = false := by
            cases h : symBit y (k : Int)
            · rfl
            · rw [bx, h] at hbe; exact absurd rfl hbe
          clear hgt hbe
          have hdd : decide (y < x) = true := by simp [hyx]
          go_wp2_with fail
          refine (symPath_any _ _ _).mono ?_
          rintro e w' ⟨rfl, rfl⟩
          rw [HE.out]
          go_wp2_with (first
            | (go_at_call 20; refine (told6_any _).mono ?_; rintro e w' ⟨rfl, hb⟩)
            | (go_at_call 21; refine (symBit_any _ _ _).mono ?_; rintro e w' ⟨rfl, rfl⟩)
            | (go_at_call 19; refine (symPath_any _ _ _).mono ?_; rintro e w' ⟨rfl, rfl⟩))
          go_ret
          exact ⟨rfl, by assumption⟩
        · have bx : symBit x (k : Int) = false := by rw [hgt]; exact decide_eq_false hyx
          have bY : symBit y (k : Int) = true := by
            cases h : symBit y (k : Int)
            · rw [bx, h] at hbe; exact absurd rfl hbe
            · rfl
          clear hgt hbe
          have hdd : decide (y < x) = false := by simp [hyx]
          go_wp2_with fail
          refine (symPath_any _ _ _).mono ?_
          rintro e w' ⟨rfl, rfl⟩
          rw [HE.out]
          go_wp2_with (first
            | (go_at_call 20; refine (told6_any _).mono ?_; rintro e w' ⟨rfl, hb⟩)
            | (go_at_call 21; refine (symBit_any _ _ _).mono ?_; rintro e w' ⟨rfl, rfl⟩)
            | (go_at_call 19; refine (symPath_any _ _ _).mono ?_; rintro e w' ⟨rfl, rfl⟩))
          go_ret
          exact ⟨rfl, by assumption⟩
    · obtain rfl : k = 9 := by omega
      obtain rfl := symPath_all hx0 hx1 hy0 hy1 he
      clear he
      go_wp2_with (go_at_call 20; refine (told6_any _).mono ?_; rintro e w' ⟨rfl, hb⟩)
      go_ret
      exact ⟨rfl, by assumption⟩

end Go.Proofs.Yteapkoomingdfaa
