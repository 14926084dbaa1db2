/- Plain lemmas for the document's answer of layers 6 to 11: a string's numbers, suffixes behind equal parts, a place among sorted rows. -/
import Derived.Test.YtpbmhdkhkbhgnaaSortedQ
import Derived.Laws.BytesArg
namespace Go.Proofs.Ytpbmhdkhkbhgnaa
set_option linter.unusedVariables false
set_option linter.unusedSimpArgs false

/-- A string's bytes as numbers. -/
def tOfS (s : ByteArray) : List Int := s.data.toList.map fun b => (b.toNat : Int)
theorem tOfS_len (s : ByteArray) : (tOfS s).length = s.size := by unfold tOfS; rw [List.length_map]; rfl
theorem tOfS_byte (s : ByteArray) : ByteL (tOfS s) := by
  intro x hx
  obtain ⟨b, _, rfl⟩ := List.mem_map.1 hx
  have := b.toNat_lt
  omega
theorem tOfS_of {t : List Int} (h : ByteL t) : tOfS (strOfNums t) = t := by
  unfold tOfS
  rw [strOfNums_data, List.map_map]
  apply List.ext_getElem
  · simp
  · intro i h1 h2
    have := h _ (List.getElem_mem h2)
    simp only [List.getElem_map, Function.comp]
    rw [UInt8.toNat_ofNat', Nat.mod_eq_of_lt (by omega)]
    omega
theorem tOfS_sy {s : ByteArray} {k : Nat} (h : k < s.size) : sy (symsT (tOfS s)) k = (s[k].toNat : Int) + 1 := by
  have h2 : k < (tOfS s).length := by rw [tOfS_len]; exact h
  rw [symsT_sy h2]
  have e : (tOfS s)[k]? = some (s[k].toNat : Int) := by
    unfold tOfS
    rw [List.getElem?_map, List.getElem?_eq_getElem (by exact h)]
    rfl
  rw [List.getElem?_eq_getElem h2] at e
  injection e with e
  rw [e]
theorem tOfS_end (s : ByteArray) : sy (symsT (tOfS s)) s.size = 0 := by
  have := symsT_end (tOfS s)
  rwa [tOfS_len] at this

theorem suf_shift {l : List Int} {d a b : Nat} (h : eqK l d a b) : sufLt l a b ↔ sufLt l (a + d) (b + d) := by
  constructor
  · rintro ⟨w, e, he, h1, h2⟩
    have hde : d ≤ e := by
      rcases Nat.lt_or_ge e d with k | k
      · have := h e k; omega
      · exact k
    obtain ⟨v, rfl⟩ := Nat.exists_eq_add_of_le hde
    refine ⟨v + 1, v, by omega, (eqK_add.1 h1).2, by rwa [Nat.add_assoc, Nat.add_assoc]⟩
  · rintro ⟨w, h2⟩
    exact ⟨d + w, ltK_add.2 (Or.inr ⟨h, h2⟩)⟩
theorem eqK_succ {l : List Int} {d a b : Nat} (h : eqK l d a b) (e : sy l (a + d) = sy l (b + d)) : eqK l (d + 1) a b :=
  eqK_add.2 ⟨h, fun x hx => by obtain rfl : x = 0 := by omega
                               simpa using e⟩

/-- A list with one more at a place. -/
def insA {α : Type} (l : List α) (k : Nat) (x : α) : List α := l.take k ++ x :: l.drop k
theorem insA_len {α : Type} {l : List α} {k : Nat} {x : α} (h : k ≤ l.length) : (insA l k x).length = l.length + 1 := by simp [insA]; omega
theorem insA_perm {α : Type} (l : List α) (k : Nat) (x : α) : (insA l k x).Perm (x :: l) := by
  unfold insA
  refine List.perm_middle.trans ?_
  rw [List.take_append_drop]
theorem insA_sorted {R : Nat → Nat → Prop} {l : List Nat} {k x : Nat} (hk : k ≤ l.length) (h : l.Pairwise R) (h1 : ∀ i (hi : i < l.length), i < k → R l[i] x) (h2 : ∀ i (hi : i < l.length), k ≤ i → R x l[i]) : (insA l k x).Pairwise R := by
  unfold insA
  rw [List.pairwise_append]
  refine ⟨h.sublist (List.take_sublist _ _), List.pairwise_cons.2 ⟨fun y hy => ?_, h.sublist (List.drop_sublist _ _)⟩, fun y hy z hz => ?_⟩
  · obtain ⟨i, hi, rfl⟩ := List.getElem_of_mem hy
    rw [List.length_drop] at hi
    rw [List.getElem_drop]
    exact h2 (k + i) (by omega) (by omega)
  · obtain ⟨i, hi, rfl⟩ := List.getElem_of_mem hy
    rw [List.length_take] at hi
    rw [List.getElem_take]
    rcases List.mem_cons.1 hz with rfl | hz
    · exact h1 i (by omega) (by omega)
    · obtain ⟨j, hj, rfl⟩ := List.getElem_of_mem hz
      rw [List.length_drop] at hj
      rw [List.getElem_drop]
      exact List.pairwise_iff_getElem.1 h i (k + j) (by omega) (by omega) (by omega)

end Go.Proofs.Ytpbmhdkhkbhgnaa
