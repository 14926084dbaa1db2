/- Plain lemmas for the laws on words. -/
import Derived.Test.YticbfhbilfgoiaaDoorBitsQ
namespace Go.Proofs.YticbfhbilfgoiaaDoor
set_option linter.unusedVariables false
set_option linter.unusedSimpArgs false

theorem cut_put {x n : Nat} (b : Bool) (hx : x < 2 ^ 64) (hn : n < 64) : cutW (putW x n b) n (x.testBit 63) = x := by
  refine word_ext (cutW_lt _ _ _) hx (fun i hi => ?_)
  rw [cutW_bit hi]
  split
  · rename_i h; rw [putW_bit hi, if_pos h]
  · split
    · rename_i h; rw [h]
    · rw [putW_bit (by omega), if_neg (by omega), if_neg (by omega)]; rfl
theorem put_cut {x n : Nat} (b : Bool) (hx : x < 2 ^ 64) (hn : n < 64) : putW (cutW x n b) n (x.testBit n) = x := by
  refine word_ext (putW_lt _ _ _) hx (fun i hi => ?_)
  rw [putW_bit hi]
  split
  · rename_i h; rw [cutW_bit hi, if_pos h]
  · split
    · rename_i h; rw [h]
    · rw [cutW_bit (by omega), if_neg (by omega), if_neg (by omega)]; congr 1; omega
theorem put_bit {x n : Nat} (b : Bool) (hn : n < 64) : (putW x n b).testBit n = b := by rw [putW_bit hn, if_neg (by omega), if_pos rfl]
theorem cut_top {x n : Nat} (b : Bool) (hn : n < 64) : (cutW x n b).testBit 63 = b := by rw [cutW_bit (by omega), if_neg (by omega), if_pos rfl]
theorem pc_put_low {x n : Nat} (b : Bool) (hn : n < 64) : ∀ m, n + 1 + m ≤ 64 → pc (putW x n b) (n + 1 + m) = pc x (n + m) + b.toNat
  | 0, h => by
    rw [Nat.add_zero, Nat.add_zero, pc_succ, put_bit b hn]
    congr 1
    exact pc_congr (fun i hi => by rw [putW_bit (by omega), if_pos hi])
  | m + 1, h => by
    rw [← Nat.add_assoc, pc_succ, pc_put_low b hn m (by omega), ← Nat.add_assoc, pc_succ, putW_bit (by omega), if_neg (by omega), if_neg (by omega), show n + 1 + m - 1 = n + m by omega]
    omega
theorem pc_put {x n : Nat} (b : Bool) (hn : n < 64) : pc (putW x n b) 64 + (x.testBit 63).toNat = pc x 64 + b.toNat := by
  have h := pc_put_low (x := x) b hn (63 - n) (by omega)
  rw [show n + 1 + (63 - n) = 64 by omega, show n + (63 - n) = 63 by omega] at h
  have h2 : pc x 64 = pc x 63 + (x.testBit 63).toNat := rfl
  omega

/-- All bits turned. -/
def notW (x : Nat) : Nat := 2 ^ 64 - 1 - x
theorem notW_lt (x : Nat) : notW x < 2 ^ 64 := by unfold notW; omega
theorem notW_bit {x i : Nat} (hx : x < 2 ^ 64) (hi : i < 64) : (notW x).testBit i = !x.testBit i := by
  unfold notW
  rw [show 2 ^ 64 - 1 - x = 2 ^ 64 - (x + 1) by omega, Nat.testBit_two_pow_sub_succ hx]
  simp [hi]
theorem pc_not {x : Nat} (hx : x < 2 ^ 64) : ∀ k, k ≤ 64 → pc x k + pc (notW x) k = k
  | 0, _ => rfl
  | k + 1, h => by
    have := pc_not hx k (by omega)
    rw [pc_succ, pc_succ, notW_bit hx (by omega)]
    cases x.testBit k <;> simp <;> omega
theorem pc_shift {x n : Nat} (hx : x < 2 ^ 64) (hn : n < 64) : pc x 64 = pc x n + pc (x / 2 ^ n) 64 := by
  have h := pc_add x n (64 - n)
  rw [show n + (64 - n) = 64 by omega] at h
  rw [h]
  congr 1
  refine (pc_ge ?_ (by omega)).symm
  rw [Nat.div_lt_iff_lt_mul (Nat.two_pow_pos n), ← Nat.pow_add, show 64 - n + n = 64 by omega]
  exact hx

/-- Which places are known after j rounds: first the ones, in their order, then the noughts. -/
def seen (x j i : Nat) : Bool := if x.testBit i then decide (pc x i < j) else decide (pc x 64 + pc (notW x) i < j)
theorem seen_zero (x i : Nat) : seen x 0 i = false := by unfold seen; split <;> simp
/-- The place that comes up in round j. -/
theorem place_at {x j : Nat} (hx : x < 2 ^ 64) (hj : j < 64) : ∃ k, k < 64 ∧ seen x j k = false ∧ (∀ i, i < 64 → seen x (j + 1) i = (decide (i = k) || seen x j i)) ∧
    ((j < pc x 64 → sel x j = k) ∧ (pc x 64 ≤ j → sel (notW x) ((j : Int) - (pc x 64 : Nat)) = k)) := by
  have htot := pc_not hx 64 (Nat.le_refl _)
  by_cases h : j < pc x 64
  · obtain ⟨k, hk, hb, hp, hs⟩ := sel_some h
    refine ⟨k, hk, by unfold seen; rw [if_pos hb]; simp; omega, fun i hi => ?_, fun _ => hs, fun h' => by omega⟩
    unfold seen
    by_cases hbi : x.testBit i = true
    · rw [if_pos hbi, if_pos hbi]
      rcases Nat.lt_trichotomy i k with h1 | h1 | h1
      · have := pc_lt h1 hbi; rw [Bool.eq_iff_iff]; simp; omega
      · subst h1; simp; omega
      · have := pc_lt h1 hb; rw [Bool.eq_iff_iff]; simp; omega
    · rw [if_neg hbi, if_neg hbi]
      have : i ≠ k := fun e => hbi (e ▸ hb)
      rw [Bool.eq_iff_iff]; simp; omega
  · obtain ⟨k, hk, hb, hp, hs⟩ := sel_some (w := notW x) (j := j - pc x 64) (by omega)
    rw [notW_bit hx hk] at hb
    have hbk : ¬ x.testBit k = true := by simpa using hb
    refine ⟨k, hk, by unfold seen; rw [if_neg hbk]; simp; omega, fun i hi => ?_, fun h' => by omega, fun _ => by rw [← hs]; congr 1; omega⟩
    unfold seen
    by_cases hbi : x.testBit i = true
    · rw [if_pos hbi, if_pos hbi]
      have : i ≠ k := fun e => hbk (e ▸ hbi)
      have h3 := pc_lt (j := 64) hi hbi
      rw [Bool.eq_iff_iff]; simp; omega
    · rw [if_neg hbi, if_neg hbi]
      have hni : (notW x).testBit i = true := by rw [notW_bit hx hi]; simpa using hbi
      have hnk : (notW x).testBit k = true := by rw [notW_bit hx hk]; simpa using hbk
      rcases Nat.lt_trichotomy i k with h1 | h1 | h1
      · have := pc_lt h1 hni; rw [Bool.eq_iff_iff]; simp; omega
      · subst h1; simp; omega
      · have := pc_lt h1 hnk; rw [Bool.eq_iff_iff]; simp; omega

end Go.Proofs.YticbfhbilfgoiaaDoor
