/- The walk of SymPaths: for whatever number it answers true and turns nothing that was there. -/
import Derived.Test.YteapkoomingdfaaSymLaw
namespace Go.Proofs.Yteapkoomingdfaa
set_option linter.unusedVariables false
open Go.RowKit

set_option maxHeartbeats 1600000 in
set_option maxRecDepth 100000 in
theorem walk_SymPaths (a0 : Int) (w0 : (Lit.int .i64 a0).wf = true) (w : World) :
    Calls Try.prog 5 #[.int .i64 a0] w fun e w' => e = .returned (.bool true) ∧ Below w.heap.size w w' := by
  obtain ⟨u, hu0, hu⟩ := u64_of a0
  go_enter Try.func5, Try.ntmps5
  go_wp2_with fail
  clear hu
  have hx0 : 0 ≤ u % 257 := by omega
  have hx1 : u % 257 < 257 := by omega
  generalize u % 257 = x at *
  go_loop [4, 5] (fun p l => ∃ k : Nat, k ≤ 9 ∧ l = .int .i64 k ∧ p = .int .i64 (symPath x k)) (fun _ l => 9 - (intOf l).toNat)
  case atStart => exact ⟨0, by omega, rfl, by rw [show ((0 : Nat) : Int) = 0 from rfl, symPath_zero hx0 hx1]⟩
  case round =>
    obtain ⟨k, hk, rfl, rfl⟩ := hrel
    have hb := symPath_bd hx0 hx1 hk
    by_cases hlt : k < 9
    · have hst := symPath_step hx0 hx1 hlt
      cases hbit : symBit x (k : Int)
      all_goals
        rw [hbit] at hst
        have HST := Lib.hid hst; clear hst
        go_wp2_with (first
          | (go_at_call 21; refine (symBit_any _ _ _).mono ?_; rintro e w' ⟨rfl, rfl⟩)
          | (go_at_call 19; refine (symPath_any _ _ _).mono ?_; rintro e w' ⟨rfl, rfl⟩))
        go_round
        case rel => exact ⟨k + 1, by omega, by go_num, by rw [HST.out]; simp⟩
        case measure => simp [intOf]; omega
    · obtain rfl : k = 9 := by omega
      have p9 : symPath x ((9 : Nat) : Int) = x := symPath_nine hx0 hx1
      have p9' : symPath x 9 = x := symPath_nine hx0 hx1
      have p10 : symPath x 10 = -1 := symPath_ten
      have b9 : symBit x 9 = false := symBit_nine
      go_wp2_with (first
        | (go_at_call 20; refine (told6_any _).mono ?_; rintro e w' ⟨rfl, hb⟩)
        | (go_at_call 21; refine (symBit_any _ _ _).mono ?_; rintro e w' ⟨rfl, rfl⟩)
        | (go_at_call 19; refine (symPath_any _ _ _).mono ?_; rintro e w' ⟨rfl, rfl⟩))
      go_ret
      exact ⟨rfl, by assumption⟩

end Go.Proofs.Yteapkoomingdfaa
