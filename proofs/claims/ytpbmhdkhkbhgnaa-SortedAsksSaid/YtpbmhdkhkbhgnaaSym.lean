/- Contracts of package sym's small functions (Is, Of, Byte, Bit, Path), for whatever arguments. -/
import Derived.Test.YtpbmhdkhkbhgnaaProg
import Derived.WalkKit
import Derived.WalkLawsBesides
import Derived.Lib.Hide
import Derived.Lib.RabinKarpLaws
namespace Go.Proofs.Ytpbmhdkhkbhgnaa
open Go.RowKit

/-- A number is a symbol. -/
def symIs (s : Int) : Bool := decide (0 ≤ s ∧ s < 257)
/-- A symbol's path of a level. -/
def symPath (s l : Int) : Int := if 0 ≤ s ∧ s < 257 ∧ 0 ≤ l ∧ l ≤ 9 then s / 2 ^ (9 - l).toNat else -1
/-- A symbol's bit of a level. -/
def symBit (s l : Int) : Bool := decide (0 ≤ s ∧ s < 257 ∧ 0 ≤ l ∧ l < 9 ∧ s / 2 ^ (8 - l).toNat % 2 = 1)

theorem symIs_true {s : Int} (h0 : 0 ≤ s) (h1 : s < 257) : symIs s = true := by simp [symIs, h0, h1]
theorem symIs_false {s : Int} (h : ¬ (0 ≤ s ∧ s < 257)) : symIs s = false := by simp only [symIs]; exact decide_eq_false h

theorem and_one_i64 (x : Int) (h0 : 0 ≤ x) (h1 : x < 9223372036854775808) : bits BinOp.and IntKind.i64 x 1 = x % 2 := by
  have h := Go.Proofs.and_one x.toNat (by omega)
  rw [Int.toNat_of_nonneg h0] at h
  rw [h]; omega

theorem shr_bd (s : Int) (n : Nat) (h0 : 0 ≤ s) (h1 : s < 257) : 0 ≤ s / 2 ^ n ∧ s / 2 ^ n < 257 := by
  have h2 : (0 : Int) < 2 ^ n := Int.pow_pos (by omega)
  refine ⟨Int.ediv_nonneg h0 (by omega), ?_⟩
  have := Int.ediv_le_self (2 ^ n) h0
  omega

theorem symIs_any (s : Int) (w : World) : Calls Try.prog 90 #[.int .i64 s] w fun e w' => e = .returned (.bool (symIs s)) ∧ w = w' := by
  by_cases h0 : 0 ≤ s
  · by_cases h1 : s < 257
    · have e : symIs s = true := symIs_true h0 h1
      rw [e]
      go_enter Try.func90, Try.ntmps90
      go_wp2
      go_ret
      exact ⟨rfl, rfl⟩
    · have e : symIs s = false := symIs_false (by omega)
      rw [e]
      go_enter Try.func90, Try.ntmps90
      go_wp2
      go_ret
      exact ⟨rfl, rfl⟩
  · have e : symIs s = false := symIs_false (by omega)
    rw [e]
    go_enter Try.func90, Try.ntmps90
    go_wp2
    go_ret
    exact ⟨rfl, rfl⟩

theorem symOf_any (b : Int) (w : World) (h0 : 0 ≤ b) (h1 : b < 256) : Calls Try.prog 68 #[.int .u8 b] w fun e w' => e = .returned (.int .i64 (b + 1)) ∧ w = w' := by
  go_enter Try.func68, Try.ntmps68
  go_wp2
  go_ret
  exact ⟨rfl, rfl⟩

theorem symByte_yes (s : Int) (w : World) (h0 : 1 ≤ s) (h1 : s < 257) : Calls Try.prog 62 #[.int .i64 s] w fun e w' => e = .returned (.tuple #[.int .u8 (s - 1), .bool true]) ∧ w = w' := by
  have e : symIs s = true := symIs_true (by omega) h1
  have hd : (s == 0) = false := by simp; omega
  go_enter Try.func62, Try.ntmps62
  go_wp2_with (go_at_call 90; refine (symIs_any _ _).mono ?_; rintro e w' ⟨rfl, rfl⟩)
  go_ret2
  exact ⟨rfl, rfl⟩

theorem symByte_no (s : Int) (w : World) (h : ¬ (1 ≤ s ∧ s < 257)) : Calls Try.prog 62 #[.int .i64 s] w fun e w' => e = .returned (.tuple #[.int .u8 0, .bool false]) ∧ w = w' := by
  by_cases hz : s = 0
  · subst hz
    go_enter Try.func62, Try.ntmps62
    go_wp2
    go_ret2
    exact ⟨rfl, rfl⟩
  · have e : symIs s = false := symIs_false (by omega)
    have hd : (s == 0) = false := by simp; omega
    go_enter Try.func62, Try.ntmps62
    go_wp2_with (go_at_call 90; refine (symIs_any _ _).mono ?_; rintro e w' ⟨rfl, rfl⟩)
    go_ret2
    exact ⟨rfl, rfl⟩

theorem symBit_in {s l : Int} (h0 : 0 ≤ s) (h1 : s < 257) (h2 : 0 ≤ l) (h3 : l < 9) : (bits BinOp.and IntKind.i64 (s / 2 ^ (8 - l).toNat) 1 == 1) = symBit s l := by
  have hb := shr_bd s (8 - l).toNat h0 h1
  rw [and_one_i64 _ hb.1 (by omega)]
  simp only [symBit, h0, h1, h2, h3, true_and]
  rfl

end Go.Proofs.Ytpbmhdkhkbhgnaa
