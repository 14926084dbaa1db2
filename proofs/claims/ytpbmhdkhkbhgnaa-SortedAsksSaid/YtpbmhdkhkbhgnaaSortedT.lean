/- Plain lemmas for the way back: rows stay in range, what was seen, the tally's sums. -/
import Derived.Test.YtpbmhdkhkbhgnaaSortedQ
namespace Go.Proofs.Ytpbmhdkhkbhgnaa
set_option linter.unusedVariables false
set_option linter.unusedSimpArgs false

theorem cnt_take_lt {m : List Int} {row : Nat} (h : row < m.length) : cnt (m.take row) (sy m row) < cnt m (sy m row) := by
  have e : m = m.take row ++ m[row] :: m.drop (row + 1) := by
    rw [List.getElem_cons_drop, List.take_append_drop]
  have e2 : cnt m (sy m row) = cnt (m.take row) (sy m row) + cnt (m[row] :: m.drop (row + 1)) (sy m row) := by
    conv => lhs; rw [show cnt m (sy m row) = cnt (m.take row ++ m[row] :: m.drop (row + 1)) (sy m row) by rw [← e]]
    unfold cnt; rw [List.countP_append]
  have e3 : 0 < cnt (m[row] :: m.drop (row + 1)) (sy m row) := by
    unfold cnt
    rw [List.countP_cons, sy_in h]; simp
  omega
theorem below_cnt_le (m : List Int) (s : Int) : belowL m s + cnt m s ≤ m.length := by
  unfold belowL cnt
  induction m with
  | nil => simp
  | cons x m ih =>
    rw [List.countP_cons, List.countP_cons, List.length_cons]
    by_cases h1 : x < s
    · have : ¬ x = s := by omega
      simp [h1, this]; omega
    · by_cases h2 : x = s
      · subst h2; simp; omega
      · simp [h1, h2]; omega
theorem lfL_lt {m : List Int} {row : Nat} (h : row < m.length) : lfL m row < m.length := by
  have := cnt_take_lt h
  have := below_cnt_le m (sy m row)
  unfold lfL; omega
theorem chain_lt {m : List Int} (h : 0 < m.length) : ∀ k, chain m k < m.length
  | 0 => h
  | k + 1 => lfL_lt (chain_lt h k)

theorem belowL_succ {m : List Int} {s : Nat} : belowL m ((s + 1 : Nat) : Int) = belowL m (s : Int) + cnt m (s : Int) := by
  unfold belowL cnt
  refine countP_or' (fun x _ => ?_) (fun x _ => ?_)
  · by_cases h1 : x < (s : Int)
    · simp [h1]; omega
    · by_cases h2 : x = (s : Int)
      · subst h2; simp; omega
      · have : ¬ x < ((s + 1 : Nat) : Int) := by omega
        simp only [h1, h2, this, beq_iff_eq, decide_false, Bool.or_false]
        simp [h2]
  · simp; omega
theorem belowL_bl {m : List Int} (hm : ∀ x ∈ m, 0 ≤ x) : ∀ s : Nat, bl (Tl.of m).N s = (belowL m (s : Int) : Int)
  | 0 => by
    have : belowL m ((0 : Nat) : Int) = 0 := by
      unfold belowL
      rw [List.countP_eq_zero]
      intro x hx
      have := hm x hx
      simp; omega
    rw [this]; rfl
  | s + 1 => by
    rw [belowL_succ]
    show bl (Tl.of m).N s + (Tl.of m).N s = _
    rw [belowL_bl hm s]
    show _ + ((cnt m (s : Int) : Nat) : Int) = _
    omega

/-- How often a row was met. -/
def seenC (m : List Int) (j i : Nat) : Nat := (List.range j).countP fun x => chain m x == i
theorem seenC_succ (m : List Int) (j i : Nat) : seenC m (j + 1) i = seenC m j i + (if chain m j = i then 1 else 0) := by
  unfold seenC
  rw [List.range_succ, List.countP_append, List.countP_singleton]
  simp
theorem seenC_pos {m : List Int} {j i : Nat} (h : 0 < seenC m j i) : ∃ x, x < j ∧ chain m x = i := by
  unfold seenC at h
  obtain ⟨x, hx, he⟩ := List.countP_pos_iff.1 h
  exact ⟨x, List.mem_range.1 hx, by simpa using he⟩
theorem seenC_le (m : List Int) (j i : Nat) : seenC m j i ≤ j := by
  unfold seenC
  have := List.countP_le_length (p := fun x => chain m x == i) (l := List.range j)
  simpa using this

/-- The text that the way back tells. -/
def textOf (m : List Int) : List Int := (List.range (m.length - 1)).map fun i => sy m (chain m (m.length - 2 - i)) - 1
theorem textOf_len (m : List Int) : (textOf m).length = m.length - 1 := by simp [textOf]
theorem textOf_get {m : List Int} {i : Nat} (h : i < m.length - 1) : (textOf m)[i]? = some (sy m (chain m (m.length - 2 - i)) - 1) := by simp [textOf, h]
theorem IsLast.text {t m : List Int} (h : IsLast t m) : t = textOf m := by
  have hl := h.len
  apply List.ext_getElem
  · rw [textOf_len]; omega
  · intro i h1 h2
    have e := h.sym (k := t.length - 1 - i) (by omega)
    have h3 := textOf_get (m := m) (i := i) (by omega)
    rw [List.getElem?_eq_getElem h2] at h3
    injection h3 with h3
    rw [h3, show m.length - 2 - i = t.length - 1 - i by omega, e]
    have : t.length - 1 - (t.length - 1 - i) = i := by omega
    simp only [this]; omega

theorem first_bad {α : Type} {P : α → Prop} : ∀ {l : List α}, ¬ (∀ x ∈ l, P x) → ∃ k, ∃ hk : k < l.length, (∀ i (hi : i < k), P (l[i]'(by omega))) ∧ ¬ P l[k]
  | [], h => absurd (fun x hx => by cases hx) h
  | a :: l, h => by
    by_cases ha : P a
    · have : ¬ ∀ x ∈ l, P x := fun hl => h (fun x hx => by
        rcases List.mem_cons.1 hx with rfl | hx
        · exact ha
        · exact hl x hx)
      obtain ⟨k, hk, h1, h2⟩ := first_bad this
      refine ⟨k + 1, by simpa using hk, fun i hi => ?_, by simpa using h2⟩
      cases i with
      | zero => exact ha
      | succ i => simpa using h1 i (by omega)
    · exact ⟨0, by simp, fun i hi => by omega, ha⟩

end Go.Proofs.Ytpbmhdkhkbhgnaa
