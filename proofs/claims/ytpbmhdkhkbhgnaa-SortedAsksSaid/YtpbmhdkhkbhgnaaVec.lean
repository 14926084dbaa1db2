/- Arrays whose cells are told by a function of the place; of no program. -/
import Derived.Test.YtpbmhdkhkbhgnaaChg
namespace Go.Proofs.Ytpbmhdkhkbhgnaa
set_option linter.unusedVariables false
set_option linter.unusedSimpArgs false
open Go.RowKit

def vecL (f : Nat → Value) (n : Nat) : List Value := (List.range n).map f
theorem vecL_get {f : Nat → Value} {n i : Nat} (h : i < n) : (vecL f n)[i]? = some (f i) := by simp [vecL, h]
theorem vecL_len (f : Nat → Value) (n : Nat) : (vecL f n).length = n := by simp [vecL]
theorem vecL_set {f : Nat → Value} {n s : Nat} (v : Value) : (vecL f n).set s v = vecL (fun i => if i = s then v else f i) n := by
  apply List.ext_getElem?
  intro i
  rw [List.getElem?_set]
  by_cases hi : i < n
  · rw [vecL_get hi, vecL_get hi, vecL_len]
    by_cases e : s = i
    · subst e; simp [hi]
    · rw [if_neg e, if_neg (fun h => e h.symm)]
  · rw [List.getElem?_eq_none (by rw [vecL_len]; omega), List.getElem?_eq_none (by rw [vecL_len]; omega), vecL_len]
    split
    · rw [if_neg (by omega)]
    · rfl
theorem vecL_congr {f g : Nat → Value} {n : Nat} (h : ∀ i, i < n → f i = g i) : vecL f n = vecL g n := by
  apply List.ext_getElem?
  intro i
  by_cases hi : i < n
  · rw [vecL_get hi, vecL_get hi, h i hi]
  · rw [List.getElem?_eq_none (by rw [vecL_len]; omega), List.getElem?_eq_none (by rw [vecL_len]; omega)]

theorem vec_cell {w : World} {Q n i : Nat} {f : Nat → Value} {T : TypeId} (h : w.heap[Q]? = some (.cells (vecL f n).toArray T (0, 0))) (hi : i < n) : w.cell? ⟨Q, i, none⟩ = some (f i) := by
  rw [cell_of_row w Q i _ _ _ h, List.getElem?_toArray, vecL_get hi]
theorem vec_set {w : World} {Q n s : Nat} {f : Nat → Value} {T : TypeId} (h : w.heap[Q]? = some (.cells (vecL f n).toArray T (0, 0))) (v : Value) :
    (w.setCell ⟨Q, s, none⟩ v).heap[Q]? = some (.cells (vecL (fun i => if i = s then v else f i) n).toArray T (0, 0)) := by
  have h2 := heap_setCell_same w Q s _ _ v h
  rw [List.setIfInBounds_toArray, vecL_set] at h2
  exact h2
theorem below_setQ {B : Nat} {w w' : World} (h : Below B w w') (hB : B ≤ w'.heap.size) {Q s : Nat} (hQ : B ≤ Q) (u : Value) : Below B w (w'.setCell ⟨Q, s, none⟩ u) :=
  h.trans (((Chg.refl (S := fun k => k = Q)).setCell ⟨Q, s, none⟩ (Or.inl rfl) u).below (fun b hb => by rw [hb]; exact hQ) hB)
theorem below_drewQ {B : Nat} {w w' : World} (h : Below B w w') (n : Nat) : Below B w (w'.drewN n) := ⟨h.os, h.tape, h.output, h.size, h.block⟩
theorem below_heap {w w' : World} {Q : Nat} {o : Obj} (h : Below w.heap.size w w') (hq : w.heap[Q]? = some o) : w'.heap[Q]? = some o :=
  (h.block Q (Array.getElem?_eq_some_iff.1 hq).1).trans hq

end Go.Proofs.Ytpbmhdkhkbhgnaa
