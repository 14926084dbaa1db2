/- The walk of SymLevels: for whatever numbers it answers true and turns nothing that was there. -/
import Derived.Test.YteapkoomingdfaaSymLaw
namespace Go.Proofs.Yteapkoomingdfaa
set_option linter.unusedVariables false
open Go.RowKit

set_option maxHeartbeats 1600000 in
set_option maxRecDepth 100000 in
theorem walk_SymLevels (a0 : Int) (w0 : (Lit.int .i64 a0).wf = true) (a1 : Int) (w1 : (Lit.int .i64 a1).wf = true) (a2 : Int) (w2 : (Lit.int .i64 a2).wf = true) (w : World) :
    Calls Try.prog 3 #[.int .i64 a0, .int .i64 a1, .int .i64 a2] w fun e w' => e = .returned (.bool true) ∧ Below w.heap.size w w' := by
  obtain ⟨u, hu0, hu⟩ := u64_of a0
  obtain ⟨v, hv0, hv⟩ := u64_of a1
  obtain ⟨t, ht0, ht⟩ := u64_of a2
  go_enter Try.func3, Try.ntmps3
  go_wp2_with fail
  clear hu hv ht
  have hx0 : 0 ≤ u % 257 := by omega
  have hx1 : u % 257 < 257 := by omega
  have hy0 : 0 ≤ v % 257 := by omega
  have hy1 : v % 257 < 257 := by omega
  have hl0 : 0 ≤ t % 10 := by omega
  have hl1 : t % 10 < 10 := by omega
  generalize u % 257 = x at *
  generalize v % 257 = y at *
  generalize t % 10 = l at *
  obtain ⟨n, rfl⟩ := Int.eq_ofNat_of_zero_le hl0
  refine (symPath_any _ _ _).mono ?_
  rintro e w' ⟨rfl, rfl⟩
  by_cases he : symPath x (n : Int) = symPath y (n : Int)
  · have hall := symPath_downs hx0 hx1 hy0 hy1 n (by omega) he
    have hbits : ∀ k, k < n → symBit x (k : Int) = symBit y (k : Int) := fun k hk => (symPath_down hx0 hx1 hy0 hy1 (by omega) (hall (k + 1) (by omega))).2
    have hend : ¬ n < 9 → x = y := fun h9 => by
      obtain rfl : n = 9 := by omega
      exact symPath_all hx0 hx1 hy0 hy1 he
    have heb : (symPath x (n : Int) != symPath y (n : Int)) = false := by simp [he]
    have HA := Lib.hid hall
    have HB := Lib.hid hbits
    have HE := Lib.hid hend
    clear hall hbits hend
    rw [he]
    clear heb he
    go_wp2_with (first
      | (go_at_call 19; refine (symPath_any _ _ _).mono ?_; rintro e w' ⟨rfl, rfl⟩))
    go_loop [10] (fun i => ∃ k : Nat, k ≤ n ∧ i = .int .i64 k) (fun i => n - (intOf i).toNat)
    case atStart => exact ⟨0, by omega, rfl⟩
    case round =>
      obtain ⟨k, hk, rfl⟩ := hrel
      by_cases hlt : k < n
      · have h1 : symPath x (k : Int) = symPath y (k : Int) := HA.out k (by omega)
        have h2 : symBit x (k : Int) = symBit y (k : Int) := HB.out k hlt
        go_wp2_with (first
          | (go_at_call 21; refine (symBit_any _ _ _).mono ?_; rintro e w' ⟨rfl, rfl⟩)
          | (go_at_call 19; refine (symPath_any _ _ _).mono ?_; rintro e w' ⟨rfl, rfl⟩))
        go_round
        case rel => exact ⟨k + 1, by omega, by go_num⟩
        case measure => simp [intOf]; omega
      · obtain rfl : k = n := by omega
        by_cases h9 : k < 9
        · go_wp2_with (go_at_call 20; refine (told6_any _).mono ?_; rintro e w' ⟨rfl, hb⟩)
          go_ret
          exact ⟨rfl, by assumption⟩
        · obtain rfl := HE.out h9
          go_wp2_with (go_at_call 20; refine (told6_any _).mono ?_; rintro e w' ⟨rfl, hb⟩)
          go_ret
          exact ⟨rfl, by assumption⟩
  · have heb : (symPath x (n : Int) != symPath y (n : Int)) = true := by simp [he]
    have hne : (x != y) = true := by
      rw [bne_iff_ne]
      exact fun h => he (by rw [h])
    clear he
    go_wp2_with (first
      | (go_at_call 20; refine (told6_any _).mono ?_; rintro e w' ⟨rfl, hb⟩)
      | (go_at_call 19; refine (symPath_any _ _ _).mono ?_; rintro e w' ⟨rfl, rfl⟩))
    go_ret
    exact ⟨rfl, by assumption⟩

end Go.Proofs.Yteapkoomingdfaa
