/- Plain lemmas on symbols' bits and paths; small helpers for the laws on them. -/
import Derived.Test.YtpbmhdkhkbhgnaaTold6
import Derived.OpenShut
namespace Go.Proofs.Ytpbmhdkhkbhgnaa
open Go.RowKit

theorem u64_of (a : Int) : ∃ u : Int, 0 ≤ u ∧ IntKind.u64.wrap a = u := ⟨IntKind.u64.wrap a, by rw [IntKind.wrap_u64]; omega, rfl⟩

theorem pow_succ' (n : Nat) : (2 : Int) ^ (n + 1) = 2 * 2 ^ n := by rw [Int.pow_succ]; omega

theorem symPath_val {x : Int} {l : Nat} (h0 : 0 ≤ x) (h1 : x < 257) (h : l ≤ 9) : symPath x (l : Int) = x / 2 ^ (9 - l) := by
  unfold symPath
  rw [if_pos ⟨h0, h1, by omega, by omega⟩]
  have e : (9 - (l : Int)).toNat = 9 - l := by omega
  rw [e]

theorem symBit_val {x : Int} {l : Nat} (h0 : 0 ≤ x) (h1 : x < 257) (h : l < 9) : symBit x (l : Int) = decide (x / 2 ^ (8 - l) % 2 = 1) := by
  unfold symBit
  have e : (8 - (l : Int)).toNat = 8 - l := by omega
  rw [e]
  have h2 : (0 : Int) ≤ (l : Int) := by omega
  have h3 : (l : Int) < 9 := by omega
  simp only [h0, h1, h2, h3, true_and]

theorem symPath_zero {x : Int} (h0 : 0 ≤ x) (h1 : x < 257) : symPath x 0 = 0 := by
  have h := symPath_val (l := 0) h0 h1 (by omega)
  have e : ((0 : Nat) : Int) = 0 := rfl
  rw [e] at h
  rw [h]
  have : (2 : Int) ^ (9 - 0) = 512 := by decide
  rw [this]; omega

theorem symPath_nine {x : Int} (h0 : 0 ≤ x) (h1 : x < 257) : symPath x 9 = x := by
  have h := symPath_val (l := 9) h0 h1 (by omega)
  have e : ((9 : Nat) : Int) = 9 := rfl
  rw [e] at h
  rw [h]
  have : (2 : Int) ^ (9 - 9) = 1 := by decide
  rw [this]; omega

theorem symPath_ten {x : Int} : symPath x 10 = -1 := if_neg (by omega)
theorem symBit_nine {x : Int} : symBit x 9 = false := decide_eq_false (by omega)

theorem symPath_step {x : Int} {l : Nat} (h0 : 0 ≤ x) (h1 : x < 257) (h : l < 9) : symPath x ((l + 1 : Nat) : Int) = 2 * symPath x (l : Int) + (if symBit x (l : Int) = true then 1 else 0) := by
  rw [symPath_val h0 h1 (by omega), symPath_val h0 h1 (by omega), symBit_val h0 h1 h]
  have e : 9 - l = (8 - l) + 1 := by omega
  have e2 : 9 - (l + 1) = 8 - l := by omega
  rw [e, e2, pow_succ', Int.mul_comm 2 (2 ^ (8 - l)), ← Int.ediv_ediv_of_nonneg (Int.pow_nonneg (by omega))]
  generalize x / 2 ^ (8 - l) = q
  by_cases hq : q % 2 = 1
  · simp only [hq, decide_true, if_true]; omega
  · simp only [hq, decide_false, if_false, Bool.false_eq_true]; omega

theorem symPath_bd {x : Int} {l : Nat} (h0 : 0 ≤ x) (h1 : x < 257) (h : l ≤ 9) : 0 ≤ symPath x (l : Int) ∧ symPath x (l : Int) < 257 := by
  rw [symPath_val h0 h1 h]
  exact shr_bd x _ h0 h1

theorem symPath_down {x y : Int} {l : Nat} (hx0 : 0 ≤ x) (hx1 : x < 257) (hy0 : 0 ≤ y) (hy1 : y < 257) (h : l < 9) (he : symPath x ((l + 1 : Nat) : Int) = symPath y ((l + 1 : Nat) : Int)) :
    symPath x (l : Int) = symPath y (l : Int) ∧ symBit x (l : Int) = symBit y (l : Int) := by
  rw [symPath_step hx0 hx1 h, symPath_step hy0 hy1 h] at he
  cases hb : symBit x (l : Int) <;> cases hc : symBit y (l : Int) <;> simp only [hb, hc, if_true, if_false, Bool.false_eq_true] at he <;> first | exact ⟨by omega, rfl⟩ | omega

theorem symPath_downs {x y : Int} (hx0 : 0 ≤ x) (hx1 : x < 257) (hy0 : 0 ≤ y) (hy1 : y < 257) : ∀ (l : Nat), l ≤ 9 → symPath x (l : Int) = symPath y (l : Int) → ∀ k, k ≤ l → symPath x (k : Int) = symPath y (k : Int)
  | 0, _, he, k, hk => by obtain rfl : k = 0 := by omega
                          exact he
  | l + 1, hl, he, k, hk => by
    by_cases e : k = l + 1
    · subst e; exact he
    · exact symPath_downs hx0 hx1 hy0 hy1 l (by omega) (symPath_down hx0 hx1 hy0 hy1 (by omega) he).1 k (by omega)

theorem symPath_all {x y : Int} (hx0 : 0 ≤ x) (hx1 : x < 257) (hy0 : 0 ≤ y) (hy1 : y < 257) (he : symPath x ((9 : Nat) : Int) = symPath y ((9 : Nat) : Int)) : x = y := by
  have h1 := symPath_nine hx0 hx1
  have h2 := symPath_nine hy0 hy1
  exact h1.symm.trans (he.trans h2)

/-- Where the paths are one and the bits part, the greater one has the 1. -/
theorem symBit_gt {x y : Int} {l : Nat} (hx0 : 0 ≤ x) (hx1 : x < 257) (hy0 : 0 ≤ y) (hy1 : y < 257) (h : l < 9) (he : symPath x (l : Int) = symPath y (l : Int)) (hb : symBit x (l : Int) ≠ symBit y (l : Int)) :
    symBit x (l : Int) = decide (y < x) := by
  have s1 := symPath_step hx0 hx1 h
  have s2 := symPath_step hy0 hy1 h
  rw [symPath_val hx0 hx1 (by omega)] at s1
  rw [symPath_val hy0 hy1 (by omega)] at s2
  have hp : (0 : Int) < 2 ^ (9 - (l + 1)) := Int.pow_pos (by omega)
  generalize (2 : Int) ^ (9 - (l + 1)) = q at *
  rw [he] at s1
  cases hbx : symBit x (l : Int) <;> cases hby : symBit y (l : Int) <;> rw [hbx, hby] at hb <;> simp only [hbx, hby, if_true, if_false, Bool.false_eq_true] at s1 s2
  · exact absurd rfl hb
  · have hlt : x / q < y / q := by omega
    have : ¬ y ≤ x := fun hyx => by have := Int.ediv_le_ediv hp hyx; omega
    exact (decide_eq_false (by omega)).symm
  · have hlt : y / q < x / q := by omega
    have : ¬ x ≤ y := fun hyx => by have := Int.ediv_le_ediv hp hyx; omega
    exact (decide_eq_true (by omega)).symm
  · exact absurd rfl hb

end Go.Proofs.Ytpbmhdkhkbhgnaa
