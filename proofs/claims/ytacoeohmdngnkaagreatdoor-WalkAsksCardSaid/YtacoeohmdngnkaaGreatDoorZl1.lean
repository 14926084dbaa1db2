/- Lemmas and contracts under the claims of this seat: Plain lemmas on suffixes of a list of symbols: their order by the first w symbols, ranks, rows. Plain lemmas on tallies, of no program: how many there are of each symbol, below, and in all. Plain lemmas on the transform: its symbols are the text's, its way back, other texts' rows. Plain lemmas for the way back: rows stay in range, what was seen, the tally's sums. Plain lemmas on words of 64 bits, of no program: how many are 1, which is the next, bits that go in and out. Plain lemmas on words of 64 bits, of no program: the place of a bit, words out of their bits, bits that go in and out. Plain lemmas for the laws on words. Plain lemmas on blocks of up to 128 bits: two words and the list of bits that they hold. Plain lemmas on trees of bits, of no program: letting in and out, turning, mending; how high and how full. Plain lemmas: what stands where, ranks and places in two lists put together; of no program. Plain lemmas on symbols by levels and paths; of no program. General lemmas, of no program: pushing one element, rows that are read, frames. Contracts of package bits, and of the two functions of math/bits that it calls. scrimshawlaw1.told and the law's small helpers; contracts of package bits where arguments and answers are numerals. -/
import Derived.Below
import Derived.Lib.TrailingZeros
import Derived.Test.YtacoeohmdngnkaaGreatDoorProg
import Derived.WalkKit
import Derived.WalkLawsBesides
import Derived.WalkSpells
import Derived.Lib.Hide
import Derived.Shelf.Spec.TrailingZeros
import Derived.Deep.QuietTactic
import Derived.BigQuiet
import Derived.Deep.DeepCutAuto
import Derived.Deep.CutBlock
import Derived.Deep.CutRange

namespace Go.Proofs.YtacoeohmdngnkaaGreatDoor
set_option linter.unusedVariables false
set_option linter.unusedSimpArgs false

/-- The symbol at a place; -1 beyond the end. -/
def sy (l : List Int) (i : Nat) : Int := l[i]?.getD (-1)
theorem sy_in {l : List Int} {i : Nat} (h : i < l.length) : sy l i = l[i] := by simp [sy, h]
theorem sy_over {l : List Int} {i : Nat} (h : l.length ≤ i) : sy l i = -1 := by simp [sy, h]

def eqK (l : List Int) (w a b : Nat) : Prop := ∀ d, d < w → sy l (a + d) = sy l (b + d)
def ltK (l : List Int) (w a b : Nat) : Prop := ∃ d, d < w ∧ eqK l d a b ∧ sy l (a + d) < sy l (b + d)

section
variable {l : List Int} {w v a b c : Nat}
theorem eqK.refl : eqK l w a a := fun _ _ => rfl
theorem eqK.symm (h : eqK l w a b) : eqK l w b a := fun d hd => (h d hd).symm
theorem eqK.trans (h : eqK l w a b) (k : eqK l w b c) : eqK l w a c := fun d hd => (h d hd).trans (k d hd)
theorem eqK.mono (h : eqK l w a b) (hv : v ≤ w) : eqK l v a b := fun d hd => h d (by omega)
theorem eqK_add : eqK l (w + v) a b ↔ eqK l w a b ∧ eqK l v (a + w) (b + w) := by
  constructor
  · intro h
    exact ⟨h.mono (by omega), fun d hd => by have := h (w + d) (by omega); rwa [← Nat.add_assoc, ← Nat.add_assoc] at this⟩
  · rintro ⟨h, k⟩ d hd
    by_cases hw : d < w
    · exact h d hw
    · obtain ⟨e, rfl⟩ := Nat.exists_eq_add_of_le (show w ≤ d by omega)
      have := k e (by omega)
      rwa [Nat.add_assoc, Nat.add_assoc] at this
theorem ltK_add : ltK l (w + v) a b ↔ ltK l w a b ∨ (eqK l w a b ∧ ltK l v (a + w) (b + w)) := by
  constructor
  · rintro ⟨d, hd, he, hlt⟩
    by_cases hw : d < w
    · exact Or.inl ⟨d, hw, he, hlt⟩
    · obtain ⟨e, rfl⟩ := Nat.exists_eq_add_of_le (show w ≤ d by omega)
      obtain ⟨h1, h2⟩ := eqK_add.1 he
      exact Or.inr ⟨h1, e, by omega, h2, by rwa [Nat.add_assoc, Nat.add_assoc]⟩
  · rintro (⟨d, hd, he, hlt⟩ | ⟨he, d, hd, h2, hlt⟩)
    · exact ⟨d, by omega, he, hlt⟩
    · exact ⟨w + d, by omega, eqK_add.2 ⟨he, h2⟩, by rwa [Nat.add_assoc, Nat.add_assoc] at hlt⟩
theorem ltK_not_eq (h : ltK l w a b) : ¬ eqK l w a b := by
  obtain ⟨d, hd, _, hlt⟩ := h
  intro he
  have := he d hd
  omega
theorem ltK_tri (l : List Int) (w a b : Nat) : ltK l w a b ∨ eqK l w a b ∨ ltK l w b a := by
  induction w with
  | zero => exact Or.inr (Or.inl (fun d hd => by omega))
  | succ w ih =>
    rcases ih with h | h | h
    · exact Or.inl (ltK_add.2 (Or.inl h))
    · rcases Int.lt_trichotomy (sy l (a + w)) (sy l (b + w)) with k | k | k
      · exact Or.inl ⟨w, by omega, h, k⟩
      · refine Or.inr (Or.inl (eqK_add.2 ⟨h, fun d hd => ?_⟩))
        obtain rfl : d = 0 := by omega
        simpa using k
      · exact Or.inr (Or.inr ⟨w, by omega, h.symm, k⟩)
    · exact Or.inr (Or.inr (ltK_add.2 (Or.inl h)))
theorem ltK_trans (h : ltK l w a b) (k : ltK l w b c) : ltK l w a c := by
  obtain ⟨d, hd, he, hlt⟩ := h
  obtain ⟨e, hE, hf, hlt2⟩ := k
  rcases Nat.lt_trichotomy d e with hc | hc | hc
  · exact ⟨d, hd, he.trans (hf.mono (by omega)), by have := hf d hc; omega⟩
  · subst hc; exact ⟨d, hd, he.trans hf, by omega⟩
  · exact ⟨e, hE, (he.mono (by omega)).trans hf, by have := he e hc; omega⟩
theorem ltK_irrefl : ¬ ltK l w a a := fun h => ltK_not_eq h eqK.refl
theorem ltK_asymm (h : ltK l w a b) : ¬ ltK l w b a := fun k => ltK_irrefl (ltK_trans h k)
theorem ltK_eq (h : ltK l w a b) (k : eqK l w b c) : ltK l w a c := by
  obtain ⟨d, hd, he, hlt⟩ := h
  exact ⟨d, hd, he.trans (k.mono (by omega)), by have := k d hd; omega⟩
theorem eq_ltK (k : eqK l w a b) (h : ltK l w b c) : ltK l w a c := by
  obtain ⟨d, hd, he, hlt⟩ := h
  exact ⟨d, hd, (k.mono (by omega)).trans he, by have := k d hd; omega⟩
theorem ltK.mono (h : ltK l w a b) (hv : w ≤ v) : ltK l v a b := by
  obtain ⟨d, hd, he, hlt⟩ := h
  exact ⟨d, by omega, he, hlt⟩
end

/-- The suffix from a on goes ahead of the one from b on. -/
def sufLt (l : List Int) (a b : Nat) : Prop := ∃ w, ltK l w a b
section
variable {l : List Int} {a b c : Nat}
theorem sufLt.trans (h : sufLt l a b) (k : sufLt l b c) : sufLt l a c := by
  obtain ⟨w, h⟩ := h
  obtain ⟨v, k⟩ := k
  exact ⟨max w v, ltK_trans (h.mono (by omega)) (k.mono (by omega))⟩
theorem sufLt.irrefl : ¬ sufLt l a a := fun ⟨w, h⟩ => ltK_irrefl h
theorem sufLt.asymm (h : sufLt l a b) : ¬ sufLt l b a := fun k => sufLt.irrefl (h.trans k)
theorem sufLt.ne (h : sufLt l a b) : a ≠ b := fun e => by subst e; exact sufLt.irrefl h
end

/-- All are at least 0. -/
def Nn (l : List Int) : Prop := ∀ i, i < l.length → 0 ≤ sy l i
theorem eqK_far {l : List Int} (hn : Nn l) {w a b : Nat} (ha : a < b) (hb : b ≤ l.length) (hw : l.length - b < w) : ¬ eqK l w a b := by
  intro h
  have h1 := h (l.length - b) hw
  rw [sy_over (i := b + (l.length - b)) (by omega)] at h1
  have := hn (a + (l.length - b)) (by omega)
  omega
theorem suf_tri {l : List Int} (hn : Nn l) {a b : Nat} (ha : a ≤ l.length) (hb : b ≤ l.length) (hne : a ≠ b) : sufLt l a b ∨ sufLt l b a := by
  rcases ltK_tri l (l.length + 1) a b with h | h | h
  · exact Or.inl ⟨_, h⟩
  · rcases Nat.lt_or_gt_of_ne hne with k | k
    · exact absurd h (eqK_far hn k hb (by omega))
    · exact absurd h.symm (eqK_far hn k ha (by omega))
  · exact Or.inr ⟨_, h⟩
/-- By their first symbols. -/
theorem suf_cons {l : List Int} {a b : Nat} : sufLt l a b ↔ sy l a < sy l b ∨ (sy l a = sy l b ∧ sufLt l (a + 1) (b + 1)) := by
  constructor
  · rintro ⟨w, h⟩
    rcases Nat.eq_zero_or_pos w with rfl | hw
    · obtain ⟨d, hd, _⟩ := h; omega
    · obtain ⟨v, rfl⟩ := Nat.exists_eq_add_of_le (show 1 ≤ w by omega)
      rcases ltK_add.1 h with ⟨d, hd, _, hlt⟩ | ⟨he, h2⟩
      · obtain rfl : d = 0 := by omega
        exact Or.inl (by simpa using hlt)
      · exact Or.inr ⟨by simpa using he 0 (by omega), _, h2⟩
  · rintro (h | ⟨h, w, h2⟩)
    · exact ⟨1, 0, by omega, fun d hd => by omega, by simpa using h⟩
    · refine ⟨1 + w, ltK_add.2 (Or.inr ⟨fun d hd => ?_, h2⟩)⟩
      obtain rfl : d = 0 := by omega
      simpa using h

/-- Ranks by the first w symbols. -/
structure RankOf (l : List Int) (w : Nat) (rk : List Int) : Prop where
  len : rk.length = l.length
  nn : Nn rk
  lt : ∀ a b, sy rk a < sy rk b ↔ ltK l w a b
  eq : ∀ a b, sy rk a = sy rk b ↔ eqK l w a b
theorem rankOf_one {l : List Int} (hn : Nn l) : RankOf l 1 l := by
  refine ⟨rfl, hn, fun a b => ⟨fun h => ⟨0, by omega, fun d hd => by omega, by simpa using h⟩, fun ⟨d, hd, _, h⟩ => ?_⟩, fun a b => ⟨fun h d hd => ?_, fun h => by simpa using h 0 (by omega)⟩⟩
  · obtain rfl : d = 0 := by omega
    simpa using h
  · obtain rfl : d = 0 := by omega
    simpa using h

/-- What order tells of two places. -/
def ordV (rk : List Int) (w a b : Nat) : Int := if sy rk a = sy rk b then sy rk (a + w) - sy rk (b + w) else sy rk a - sy rk b
theorem ordV_lt {l rk : List Int} {w : Nat} (h : RankOf l w rk) (a b : Nat) : ordV rk w a b < 0 ↔ ltK l (w + w) a b := by
  unfold ordV
  rw [ltK_add, ← h.lt, ← h.lt, ← h.eq]
  split
  · rename_i e; constructor
    · intro k; exact Or.inr ⟨e, by omega⟩
    · rintro (k | ⟨_, k⟩) <;> omega
  · rename_i e; constructor
    · intro k; exact Or.inl (by omega)
    · rintro (k | ⟨k, _⟩)
      · omega
      · exact absurd k e
theorem ordV_eq {l rk : List Int} {w : Nat} (h : RankOf l w rk) (a b : Nat) : ordV rk w a b = 0 ↔ eqK l (w + w) a b := by
  unfold ordV
  rw [eqK_add, ← h.eq, ← h.eq]
  split
  · rename_i e; constructor
    · intro k; exact ⟨e, by omega⟩
    · rintro ⟨_, k⟩; omega
  · rename_i e; constructor
    · intro k; omega
    · rintro ⟨k, _⟩; exact absurd k e

/-- Rows in the order of the first w symbols. -/
def SortedK (l : List Int) (w : Nat) (r : List Nat) : Prop := r.Perm (List.range l.length) ∧ r.Pairwise (fun a b => ¬ ltK l w b a)
/-- How many strict steps there are up to place i. -/
def cntR (rk : List Int) (w : Nat) (r : List Nat) : Nat → Nat
  | 0 => 0
  | i + 1 => cntR rk w r i + (if ordV rk w (r[i]?.getD 0) (r[i + 1]?.getD 0) = 0 then 0 else 1)
theorem cntR_le (rk : List Int) (w : Nat) (r : List Nat) : ∀ i, cntR rk w r i ≤ i
  | 0 => Nat.le_refl _
  | i + 1 => by have := cntR_le rk w r i; unfold cntR; split <;> omega
theorem cntR_mono (rk : List Int) (w : Nat) (r : List Nat) {i j : Nat} (h : i ≤ j) : cntR rk w r i ≤ cntR rk w r j := by
  induction j with
  | zero => obtain rfl : i = 0 := by omega
            exact Nat.le_refl _
  | succ j ih =>
    rcases Nat.lt_or_ge j i with k | k
    · obtain rfl : i = j + 1 := by omega
      exact Nat.le_refl _
    · refine Nat.le_trans (ih k) ?_
      show cntR rk w r j ≤ cntR rk w r j + _
      omega

section
variable {l rk : List Int} {w : Nat} {r : List Nat}
theorem getD_eq {α : Type} {l : List α} {i : Nat} {d : α} (h : i < l.length) : l[i]?.getD d = l[i] := by simp [h]
theorem srt_le (hs : SortedK l w r) {i j : Nat} (hij : i ≤ j) (hj : j < r.length) : ¬ ltK l w (r[j]?.getD 0) (r[i]?.getD 0) := by
  rcases Nat.lt_or_ge i j with h | h
  · rw [getD_eq (show i < r.length by omega), getD_eq hj]
    exact List.pairwise_iff_getElem.1 hs.2 i j (by omega) hj h
  · obtain rfl : i = j := by omega
    exact ltK_irrefl
theorem cnt_lt (h : RankOf l w rk) (hs : SortedK l (w + w) r) {i j : Nat} (hij : i ≤ j) (hj : j < r.length) :
    (cntR rk w r i < cntR rk w r j ↔ ltK l (w + w) (r[i]?.getD 0) (r[j]?.getD 0)) ∧ (cntR rk w r i = cntR rk w r j ↔ eqK l (w + w) (r[i]?.getD 0) (r[j]?.getD 0)) := by
  induction j with
  | zero =>
    obtain rfl : i = 0 := by omega
    exact ⟨⟨fun h => by omega, fun h => absurd h ltK_irrefl⟩, ⟨fun _ => eqK.refl, fun _ => rfl⟩⟩
  | succ j ih =>
    rcases Nat.lt_or_ge j i with k | k
    · obtain rfl : i = j + 1 := by omega
      exact ⟨⟨fun h => by omega, fun h => absurd h ltK_irrefl⟩, ⟨fun _ => eqK.refl, fun _ => rfl⟩⟩
    · obtain ⟨i1, i2⟩ := ih k (by omega)
      have hm := cntR_mono rk w r k
      have hle := srt_le hs (show j ≤ j + 1 by omega) hj
      have hle2 := srt_le hs k (by omega)
      have ho := ordV_eq h (r[j]?.getD 0) (r[j + 1]?.getD 0)
      have hex : cntR rk w r (j + 1) = cntR rk w r j + (if ordV rk w (r[j]?.getD 0) (r[j + 1]?.getD 0) = 0 then 0 else 1) := rfl
      by_cases e : ordV rk w (r[j]?.getD 0) (r[j + 1]?.getD 0) = 0
      · rw [if_pos e] at hex
        have hq := ho.1 e
        rw [hex, Nat.add_zero, i1, i2]
        exact ⟨⟨fun h => ltK_eq h hq, fun h => ltK_eq h hq.symm⟩, ⟨fun h => h.trans hq, fun h => h.trans hq.symm⟩⟩
      · rw [if_neg e] at hex
        have hne : ¬ eqK l (w + w) (r[j]?.getD 0) (r[j + 1]?.getD 0) := fun q => e (ho.2 q)
        have hlt : ltK l (w + w) (r[j]?.getD 0) (r[j + 1]?.getD 0) := by
          rcases ltK_tri l (w + w) (r[j]?.getD 0) (r[j + 1]?.getD 0) with q | q | q
          · exact q
          · exact absurd q hne
          · exact absurd q hle
        have hall : ltK l (w + w) (r[i]?.getD 0) (r[j + 1]?.getD 0) := by
          rcases ltK_tri l (w + w) (r[i]?.getD 0) (r[j]?.getD 0) with q | q | q
          · exact ltK_trans q hlt
          · exact eq_ltK q hlt
          · exact absurd q hle2
        exact ⟨⟨fun _ => hall, fun _ => by omega⟩, ⟨fun h => by omega, fun q => absurd q (ltK_not_eq hall)⟩⟩

/-- The next ranks. -/
theorem rank_next {nx : List Int} (h : RankOf l w rk) (hw : 0 < w) (hn : Nn l) (hs : SortedK l (w + w) r) (hl : nx.length = l.length) (hx : ∀ i, i < r.length → sy nx (r[i]?.getD 0) = (cntR rk w r i : Int)) : RankOf l (w + w) nx := by
  have hrl : r.length = l.length := by have := hs.1.length_eq; simpa using this
  have hfind : ∀ a, a < l.length → ∃ i, i < r.length ∧ r[i]?.getD 0 = a := by
    intro a ha
    have : a ∈ r := hs.1.mem_iff.2 (List.mem_range.2 ha)
    obtain ⟨i, hi, e⟩ := List.getElem_of_mem this
    exact ⟨i, hi, by rw [getD_eq hi, e]⟩
  have hnn : Nn nx := by
    intro a ha
    obtain ⟨i, hi, rfl⟩ := hfind a (by omega)
    rw [hx i hi]; omega
  have hkey : ∀ a b, a < l.length → b < l.length → (sy nx a < sy nx b ↔ ltK l (w + w) a b) ∧ (sy nx a = sy nx b ↔ eqK l (w + w) a b) := by
    intro a b ha hb
    obtain ⟨i, hi, rfl⟩ := hfind a ha
    obtain ⟨j, hj, rfl⟩ := hfind b hb
    rw [hx i hi, hx j hj]
    rcases Nat.le_total i j with k | k
    · obtain ⟨h1, h2⟩ := cnt_lt h hs k hj
      have hm := cntR_mono rk w r k
      exact ⟨⟨fun q => h1.1 (by omega), fun q => by have := h1.2 q; omega⟩, ⟨fun q => h2.1 (by omega), fun q => by have := h2.2 q; omega⟩⟩
    · obtain ⟨h1, h2⟩ := cnt_lt h hs k hi
      have hm := cntR_mono rk w r k
      exact ⟨⟨fun q => by omega, fun q => absurd q (srt_le hs k hi)⟩, ⟨fun q => (h2.1 (by omega)).symm, fun q => by have := h2.2 q.symm; omega⟩⟩
  have h0 : ∀ a b, l.length ≤ a → b < l.length → ltK l (w + w) a b := fun a b ha hb => ⟨0, by omega, fun d hd => by omega, by rw [sy_over (by omega)]; have := hn b hb; simpa using by omega⟩
  have h1 : ∀ a b, l.length ≤ a → l.length ≤ b → eqK l (w + w) a b := fun a b ha hb d hd => by rw [sy_over (by omega), sy_over (by omega)]
  refine ⟨hl, hnn, fun a b => ?_, fun a b => ?_⟩
  · by_cases ha : a < l.length <;> by_cases hb : b < l.length
    · exact (hkey a b ha hb).1
    · have := hnn a (by omega)
      rw [sy_over (i := b) (by omega)]
      exact ⟨fun q => by omega, fun q => absurd q (ltK_asymm (h0 b a (by omega) ha))⟩
    · have := hnn b (by omega)
      rw [sy_over (i := a) (by omega)]
      exact ⟨fun _ => h0 a b (by omega) hb, fun _ => by omega⟩
    · rw [sy_over (i := a) (by omega), sy_over (i := b) (by omega)]
      exact ⟨fun q => by omega, fun q => absurd (h1 a b (by omega) (by omega)) (ltK_not_eq q)⟩
  · by_cases ha : a < l.length <;> by_cases hb : b < l.length
    · exact (hkey a b ha hb).2
    · have := hnn a (by omega)
      rw [sy_over (i := b) (by omega)]
      exact ⟨fun q => by omega, fun q => absurd q.symm (ltK_not_eq (h0 b a (by omega) ha))⟩
    · have := hnn b (by omega)
      rw [sy_over (i := a) (by omega)]
      exact ⟨fun q => by omega, fun q => absurd q (ltK_not_eq (h0 a b (by omega) hb))⟩
    · rw [sy_over (i := a) (by omega), sy_over (i := b) (by omega)]
      exact ⟨fun _ => h1 a b (by omega) (by omega), fun _ => rfl⟩
end

/-- The rows of a text's symbols: all places, sorted. -/
def IsRows (l : List Int) (r : List Nat) : Prop := r.Perm (List.range l.length) ∧ r.Pairwise (sufLt l)
theorem IsRows.len {l : List Int} {r : List Nat} (h : IsRows l r) : r.length = l.length := by have := h.1.length_eq; simpa using this
theorem IsRows.lt {l : List Int} {r : List Nat} (h : IsRows l r) {i : Nat} (hi : i < r.length) : r[i] < l.length := List.mem_range.1 (h.1.mem_iff.1 (List.getElem_mem hi))
theorem IsRows.nodup {l : List Int} {r : List Nat} (h : IsRows l r) : r.Nodup := h.1.nodup_iff.2 List.nodup_range
theorem IsRows.find {l : List Int} {r : List Nat} (h : IsRows l r) {a : Nat} (ha : a < l.length) : ∃ i, ∃ hi : i < r.length, r[i] = a :=
  List.getElem_of_mem (h.1.mem_iff.2 (List.mem_range.2 ha))
/-- A list that is sorted strictly is told by what stands in it. -/
theorem sorted_unique {R : Nat → Nat → Prop} (has : ∀ a b, R a b → ¬ R b a) : ∀ {r s : List Nat}, r.Perm s → r.Pairwise R → s.Pairwise R → r = s
  | [], s, hp, _, _ => by have := hp.length_eq; exact (List.eq_nil_of_length_eq_zero (by simpa using this.symm)).symm
  | a :: r, [], hp, _, _ => by have := hp.length_eq; simp at this
  | a :: r, b :: s, hp, h1, h2 => by
    have hab : a = b := by
      have ha : a ∈ b :: s := hp.mem_iff.1 (List.mem_cons_self)
      have hb : b ∈ a :: r := hp.mem_iff.2 (List.mem_cons_self)
      rcases List.mem_cons.1 ha with e | e
      · exact e
      · rcases List.mem_cons.1 hb with e2 | e2
        · exact e2.symm
        · exact absurd (List.rel_of_pairwise_cons h1 e2) (has _ _ (List.rel_of_pairwise_cons h2 e))
    subst hab
    rw [sorted_unique has (List.Perm.cons_inv hp) (List.Pairwise.of_cons h1) (List.Pairwise.of_cons h2)]
theorem rows_unique {l : List Int} {r s : List Nat} (h : IsRows l r) (k : IsRows l s) : r = s :=
  sorted_unique (fun _ _ h => h.asymm) (h.1.trans k.1.symm) h.2 k.2
/-- All strict: these are the rows. -/
theorem rows_done {l rk : List Int} {w : Nat} {r : List Nat} (h : RankOf l w rk) (hs : SortedK l (w + w) r) (hc : cntR rk w r (r.length - 1) = r.length - 1) : IsRows l r := by
  refine ⟨hs.1, List.pairwise_iff_getElem.2 (fun i j hi hj hij => ?_)⟩
  have hstep : ∀ n, n ≤ r.length - 1 → cntR rk w r n = n := by
    intro n hn
    have : ∀ m, n + m = r.length - 1 → cntR rk w r n + m ≥ r.length - 1 := by
      intro m hm
      rw [← hm] at hc ⊢
      have hb : ∀ k, cntR rk w r (n + k) ≤ cntR rk w r n + k := by
        intro k
        induction k with
        | zero => exact Nat.le_refl _
        | succ k ih => rw [← Nat.add_assoc]; show cntR rk w r (n + k) + _ ≤ _; split <;> omega
      have := hb m
      omega
    have h1 := this (r.length - 1 - n) (by omega)
    have h2 := cntR_le rk w r n
    omega
  have := (cnt_lt h hs (show i ≤ j by omega) hj).1.1 (by rw [hstep i (by omega), hstep j (by omega)]; exact hij)
  rw [getD_eq hi, getD_eq hj] at this
  exact ⟨_, this⟩
/-- Not all strict: the symbols do not reach so far. -/
theorem rows_more {l rk : List Int} {w : Nat} {r : List Nat} (hn : Nn l) (h : RankOf l w rk) (hs : SortedK l (w + w) r) (hc : cntR rk w r (r.length - 1) ≠ r.length - 1) : w + w < l.length := by
  have hrl : r.length = l.length := by have := hs.1.length_eq; simpa using this
  rcases Nat.lt_or_ge (w + w) l.length with k | k
  · exact k
  · exfalso
    apply hc
    have : ∀ n, n ≤ r.length - 1 → cntR rk w r n = n := by
      intro n
      induction n with
      | zero => intro _; rfl
      | succ n ih =>
        intro hn'
        have hi := ih (by omega)
        show cntR rk w r n + _ = _
        have h1 : n < r.length := by omega
        have h2 : n + 1 < r.length := by omega
        rw [if_neg, hi]
        intro e
        have he := (ordV_eq h _ _).1 e
        rw [getD_eq h1, getD_eq h2] at he
        have l1 : r[n] < l.length := List.mem_range.1 (hs.1.mem_iff.1 (List.getElem_mem h1))
        have l2 : r[n + 1] < l.length := List.mem_range.1 (hs.1.mem_iff.1 (List.getElem_mem h2))
        have hne : r[n] ≠ r[n + 1] := fun e => by
          have hnd : r.Nodup := hs.1.nodup_iff.2 List.nodup_range
          exact List.pairwise_iff_getElem.1 hnd n (n + 1) h1 h2 (by omega) e
        rcases Nat.lt_or_gt_of_ne hne with q | q
        · rcases Nat.eq_zero_or_pos r[n] with z | z
          · exact eqK_far hn q (by omega) (by omega) he
          · exact eqK_far hn q (by omega) (by omega) he
        · exact eqK_far hn q (by omega) (by omega) he.symm
    exact this _ (Nat.le_refl _)

end Go.Proofs.YtacoeohmdngnkaaGreatDoor

namespace Go.Proofs.YtacoeohmdngnkaaGreatDoor
set_option linter.unusedVariables false
set_option linter.unusedSimpArgs false

/-- A tally: how many there are of each symbol, and in all. -/
structure Tl where
  N : Nat → Int
  all : Int

/-- How many lesser ones there are. -/
def bl (N : Nat → Int) : Nat → Int
  | 0 => 0
  | k + 1 => bl N k + N k

structure Tl.Ok (t : Tl) : Prop where
  pos : ∀ s, s < 257 → 0 ≤ t.N s
  sum : bl t.N 257 = t.all
  max : t.all ≤ 2147483648

theorem bl_mono {N : Nat → Int} (h : ∀ s, s < 257 → 0 ≤ N s) {a b : Nat} (hab : a ≤ b) (hb : b ≤ 257) : bl N a ≤ bl N b := by
  induction b with
  | zero => have : a = 0 := by omega
            subst this; exact Int.le_refl _
  | succ b ih =>
    by_cases e : a = b + 1
    · subst e; exact Int.le_refl _
    · have := ih (by omega) (by omega)
      have := h b (by omega)
      simp only [bl]; omega

theorem bl_pos {N : Nat → Int} (h : ∀ s, s < 257 → 0 ≤ N s) {b : Nat} (hb : b ≤ 257) : 0 ≤ bl N b := by
  have := bl_mono h (Nat.zero_le b) hb
  simpa [bl] using this

def upd (N : Nat → Int) (s : Nat) (v : Int) : Nat → Int := fun x => if x = s then v else N x

theorem bl_upd (N : Nat → Int) (s : Nat) (v : Int) (k : Nat) : bl (upd N s v) k = bl N k + (if s < k then v - N s else 0) := by
  induction k with
  | zero => simp [bl]
  | succ k ih =>
    simp only [bl, ih, upd]
    by_cases e : k = s
    · subst e
      rw [if_pos rfl, if_neg (by omega), if_pos (by omega)]; omega
    · rw [if_neg e]
      by_cases h : s < k
      · rw [if_pos h, if_pos (by omega)]; omega
      · rw [if_neg h, if_neg (by omega)]; omega

/-- Add, where it counts. -/
def Tl.add (t : Tl) (s : Nat) (n : Int) : Tl := ⟨upd t.N s (t.N s + n), t.all + n⟩

theorem Tl.add_ok {t : Tl} (h : t.Ok) {s : Nat} (hs : s < 257) {n : Int} (h1 : -t.N s ≤ n) (h2 : n ≤ 2147483648 - t.all) : (t.add s n).Ok := by
  refine ⟨fun x hx => ?_, ?_, ?_⟩
  · show 0 ≤ upd t.N s (t.N s + n) x
    unfold upd
    split
    · omega
    · exact h.pos x hx
  · show bl (upd t.N s (t.N s + n)) 257 = t.all + n
    rw [bl_upd, if_pos hs, h.sum]; omega
  · show t.all + n ≤ 2147483648
    omega

def Tl.zero : Tl := ⟨fun _ => 0, 0⟩
theorem bl_zero (k : Nat) : bl (fun _ => 0) k = 0 := by
  induction k with
  | zero => rfl
  | succ k ih => simp [bl, ih]
theorem Tl.zero_ok : Tl.zero.Ok := ⟨fun _ _ => Int.le_refl _, bl_zero 257, by show (0 : Int) ≤ _; omega⟩

/-- Of no tally there is more than of all. -/
theorem Tl.Ok.le {t : Tl} (h : t.Ok) {s : Nat} (hs : s < 257) : t.N s ≤ t.all := by
  have h1 := bl_mono h.pos (show s + 1 ≤ 257 by omega) (Nat.le_refl _)
  have h2 := bl_pos h.pos (show s ≤ 257 by omega)
  have h3 : bl t.N (s + 1) = bl t.N s + t.N s := rfl
  rw [h.sum] at h1
  omega

theorem Tl.Ok.all_pos {t : Tl} (h : t.Ok) : 0 ≤ t.all := by
  have := bl_pos h.pos (Nat.le_refl 257); rw [h.sum] at this; exact this

/-- How far a number goes among the symbols. -/
def clamp (s : Int) : Nat := (min (max s 0) 257).toNat
theorem clamp_le (s : Int) : clamp s ≤ 257 := by unfold clamp; omega

/-- What stands at a place. -/
def IsWhich (t : Tl) (k r : Int) : Prop :=
  ((k < 0 ∨ t.all ≤ k) → r = -1) ∧ ((0 ≤ k ∧ k < t.all) → ∃ s : Nat, s < 257 ∧ r = s ∧ bl t.N s ≤ k ∧ k < bl t.N (s + 1))

theorem IsWhich.unique {t : Tl} (h : t.Ok) {k r r' : Int} (h1 : IsWhich t k r) (h2 : IsWhich t k r') : r = r' := by
  by_cases hk : 0 ≤ k ∧ k < t.all
  · obtain ⟨s, hs, rfl, a1, a2⟩ := h1.2 hk
    obtain ⟨s', hs', rfl, b1, b2⟩ := h2.2 hk
    have e : s = s' := by
      rcases Nat.lt_trichotomy s s' with hl | he | hg
      · have := bl_mono h.pos (show s + 1 ≤ s' by omega) (by omega); omega
      · exact he
      · have := bl_mono h.pos (show s' + 1 ≤ s by omega) (by omega); omega
    rw [e]
  · have h3 : k < 0 ∨ t.all ≤ k := by omega
    rw [h1.1 h3, h2.1 h3]

/-- How many of a list are a symbol. -/
def cnt (l : List Int) (s : Int) : Nat := l.countP (· == s)
/-- The tally of a list of symbols. -/
def Tl.of (l : List Int) : Tl := ⟨fun s => (cnt l s : Int), l.length⟩

theorem cnt_snoc (l : List Int) (x s : Int) : cnt (l ++ [x]) s = cnt l s + (if x = s then 1 else 0) := by
  unfold cnt
  rw [List.countP_append]
  simp only [List.countP_cons, List.countP_nil, beq_iff_eq]
  split <;> simp

theorem Tl.of_snoc (l : List Int) (s : Nat) : Tl.of (l ++ [(s : Int)]) = (Tl.of l).add s 1 := by
  unfold Tl.of Tl.add
  congr 1
  · funext x
    show ((cnt (l ++ [(s : Int)]) (x : Int) : Nat) : Int) = upd _ s _ x
    rw [cnt_snoc]
    unfold upd
    by_cases e : x = s
    · subst e; simp
    · rw [if_neg (by omega), if_neg e]; simp
  · simp

end Go.Proofs.YtacoeohmdngnkaaGreatDoor

namespace Go.Proofs.YtacoeohmdngnkaaGreatDoor
set_option linter.unusedVariables false
set_option linter.unusedSimpArgs false

noncomputable def sufB (l : List Int) (a b : Nat) : Bool := @decide (sufLt l a b) (Classical.propDecidable _)
theorem sufB_iff {l : List Int} {a b : Nat} : sufB l a b = true ↔ sufLt l a b := by unfold sufB; simp

theorem countP_or' {α : Type} {f g h : α → Bool} : ∀ {l : List α}, (∀ x ∈ l, f x = (g x || h x)) → (∀ x ∈ l, ¬ (g x = true ∧ h x = true)) → l.countP f = l.countP g + l.countP h
  | [], _, _ => rfl
  | x :: l, h1, h2 => by
    have ih := countP_or' (l := l) (fun y hy => h1 y (List.mem_cons_of_mem _ hy)) (fun y hy => h2 y (List.mem_cons_of_mem _ hy))
    have a := h1 x List.mem_cons_self
    have b := h2 x List.mem_cons_self
    rw [List.countP_cons, List.countP_cons, List.countP_cons, ih, a]
    cases hg : g x <;> cases hh : h x <;> simp_all <;> omega

/-- The symbols of a text: the end stands last, and nowhere else. -/
structure IsSyms (l : List Int) : Prop where
  pos : 0 < l.length
  last : sy l (l.length - 1) = 0
  rest : ∀ i, i < l.length - 1 → 0 < sy l i
theorem IsSyms.nn {l : List Int} (h : IsSyms l) : Nn l := fun i hi => by
  rcases Nat.lt_or_ge i (l.length - 1) with k | k
  · have := h.rest i k; omega
  · obtain rfl : i = l.length - 1 := by omega
    have := h.last; omega
theorem IsSyms.zero {l : List Int} (h : IsSyms l) {i : Nat} (hi : i < l.length) (hz : sy l i = 0) : i = l.length - 1 := by
  rcases Nat.lt_or_ge i (l.length - 1) with k | k
  · have := h.rest i k; omega
  · omega

/-- The transform. -/
def lastL (l : List Int) (r : List Nat) : List Int := r.map fun i => sy l ((i + l.length - 1) % l.length)
theorem lastL_len (l : List Int) (r : List Nat) : (lastL l r).length = r.length := by simp [lastL]
theorem lastL_sy {l : List Int} {r : List Nat} {i : Nat} (hi : i < r.length) : sy (lastL l r) i = sy l ((r[i] + l.length - 1) % l.length) := by
  unfold lastL sy; simp [hi]

theorem shift_perm (n : Nat) : (List.range n).Perm ((List.range n).map fun q => (q + 1) % n) := by
  cases n with
  | zero => exact List.Perm.refl _
  | succ m =>
    have e : ((List.range (m + 1)).map fun q => (q + 1) % (m + 1)) = (List.range m).map (· + 1) ++ [0] := by
      rw [List.range_succ, List.map_append]
      congr 1
      · apply List.map_congr_left
        intro q hq
        have := List.mem_range.1 hq
        exact Nat.mod_eq_of_lt (by omega)
      · simp
    rw [e, List.range_succ_eq_map]
    exact (List.perm_append_singleton _ _).symm
theorem range_map_sy (l : List Int) : (List.range l.length).map (sy l) = l := by
  apply List.ext_getElem?
  intro i
  by_cases h : i < l.length
  · simp [h, sy]
  · rw [List.getElem?_eq_none (by simp; omega), List.getElem?_eq_none (by omega)]
theorem shift_back {n q : Nat} (h : q < n) : ((q + 1) % n + n - 1) % n = q := by
  by_cases e : q + 1 = n
  · subst e; rw [Nat.mod_self, Nat.zero_add]; exact Nat.mod_eq_of_lt (by omega)
  · rw [Nat.mod_eq_of_lt (show q + 1 < n by omega), show q + 1 + n - 1 = q + n by omega, Nat.add_mod_right]
    exact Nat.mod_eq_of_lt h

/-- The transform has the text's symbols. -/
theorem last_perm {l : List Int} {r : List Nat} (h : IsRows l r) : (lastL l r).Perm l := by
  have h1 : (lastL l r).Perm ((List.range l.length).map fun i => sy l ((i + l.length - 1) % l.length)) := h.1.map _
  refine h1.trans (((shift_perm l.length).map _).trans (List.Perm.of_eq ?_))
  rw [List.map_map]
  refine Eq.trans (List.map_congr_left (fun q hq => ?_)) (range_map_sy l)
  show sy l (((q + 1) % l.length + l.length - 1) % l.length) = sy l q
  rw [shift_back (List.mem_range.1 hq)]

section
variable {l : List Int} {r : List Nat}
/-- A row is as many as go ahead of it. -/
theorem count_take (h : IsRows l r) {j : Nat} (hj : j < r.length) (f : Nat → Bool) : (r.take j).countP f = (List.range l.length).countP fun q => sufB l q r[j] && f q := by
  rw [← h.1.countP_eq]
  generalize hx : r[j] = x
  have hsp : r.countP (fun q => sufB l q x && f q) = (r.take j).countP (fun q => sufB l q x && f q) + (r.drop j).countP (fun q => sufB l q x && f q) := by
    rw [← List.countP_append, List.take_append_drop]
  rw [hsp]
  subst hx
  have h1 : (r.take j).countP (fun q => sufB l q r[j] && f q) = (r.take j).countP f := by
    refine List.countP_congr (fun q hq => ?_)
    obtain ⟨k, hk, rfl⟩ := List.getElem_of_mem hq
    rw [List.length_take] at hk
    have : sufB l r[k] r[j] = true := sufB_iff.2 (List.pairwise_iff_getElem.1 h.2 k j (by omega) hj (by omega))
    rw [List.getElem_take, this, Bool.true_and]
  have h2 : (r.drop j).countP (fun q => sufB l q r[j] && f q) = 0 := by
    rw [List.countP_eq_zero]
    intro q hq
    obtain ⟨k, hk, rfl⟩ := List.getElem_of_mem hq
    rw [List.length_drop] at hk
    rw [List.getElem_drop]
    have : ¬ sufLt l r[j + k] r[j] := by
      rcases Nat.eq_zero_or_pos k with rfl | k0
      · exact sufLt.irrefl
      · exact (List.pairwise_iff_getElem.1 h.2 j (j + k) hj (by omega) (by omega) : sufLt l _ _).asymm
    have : sufB l r[j + k] r[j] = false := by
      rw [← Bool.not_eq_true]; exact fun e => this (sufB_iff.1 e)
    rw [this]; simp
  rw [h1, h2]
  rfl
theorem pos_count (h : IsRows l r) {j : Nat} (hj : j < r.length) : (List.range l.length).countP (fun q => sufB l q r[j]) = j := by
  have := count_take h hj (fun _ => true)
  simp only [Bool.and_true] at this
  rw [← this, List.countP_true, List.length_take]
  omega

/-- How many are less; the row of the suffix one ahead. -/
def belowL (m : List Int) (s : Int) : Nat := m.countP fun x => decide (x < s)
def lfL (m : List Int) (row : Nat) : Nat := belowL m (sy m row) + cnt (m.take row) (sy m row)

theorem lf_rows (hs : IsSyms l) (h : IsRows l r) {i : Nat} (hi : i < r.length) : ∃ hj : lfL (lastL l r) i < r.length, r[lfL (lastL l r) i] = (r[i] + l.length - 1) % l.length := by
  have hn := hs.pos
  have hp : (r[i] + l.length - 1) % l.length < l.length := Nat.mod_lt _ hn
  obtain ⟨j, hj, ej⟩ := h.find hp
  have key : lfL (lastL l r) i = j := by
    have hri := h.lt hi
    rw [← pos_count h hj, ej]
    generalize hpe : (r[i] + l.length - 1) % l.length = p at *
    have hsy : sy (lastL l r) i = sy l p := by rw [lastL_sy hi, hpe]
    unfold lfL
    rw [hsy]
    rw [countP_or' (g := fun q => decide (sy l q < sy l p)) (h := fun q => decide (sy l q = sy l p) && sufB l (q + 1) (p + 1))]
    · congr 1
      · unfold belowL
        rw [(last_perm h).countP_eq]
        have e := congrArg (List.countP fun x => decide (x < sy l p)) (range_map_sy l)
        rw [List.countP_map] at e
        exact e.symm
      · unfold cnt lastL
        rw [← List.map_take, List.countP_map, count_take h hi, (shift_perm l.length).countP_eq, List.countP_map]
        refine List.countP_congr (fun q hq => ?_)
        have hq := List.mem_range.1 hq
        simp only [Function.comp, shift_back hq, Bool.and_eq_true, beq_iff_eq, decide_eq_true_eq, sufB_iff]
        rw [and_comm]
        refine and_congr_right (fun e => ?_)
        by_cases hz : r[i] = 0
        · rw [hz, Nat.zero_add, Nat.mod_eq_of_lt (show l.length - 1 < l.length by omega)] at hpe
          subst hpe
          rw [hs.last] at e
          obtain rfl := hs.zero hq e
          rw [hz, show l.length - 1 + 1 = l.length by omega, Nat.mod_self]
          exact ⟨fun h => absurd h sufLt.irrefl, fun h => absurd h sufLt.irrefl⟩
        · have hpe : p = r[i] - 1 := by
            rw [← hpe, show r[i] + l.length - 1 = (r[i] - 1) + l.length by omega, Nat.add_mod_right]
            exact Nat.mod_eq_of_lt (by omega)
          subst hpe
          have h0 := hs.rest (r[i] - 1) (by omega)
          have hq1 : q + 1 < l.length := by
            rcases Nat.lt_or_ge (q + 1) l.length with k | k
            · exact k
            · obtain rfl : q = l.length - 1 := by omega
              rw [hs.last] at e; omega
          rw [Nat.mod_eq_of_lt hq1, show r[i] - 1 + 1 = r[i] by omega]
    · intro q hq
      rw [Bool.eq_iff_iff, sufB_iff, suf_cons]
      simp [sufB_iff]
    · intro q hq
      simp only [Bool.and_eq_true, decide_eq_true_eq]
      omega
  exact ⟨by rw [key]; exact hj, by simp only [key]; exact ej⟩

theorem row_first (hs : IsSyms l) (h : IsRows l r) : ∃ h0 : 0 < r.length, r[0] = l.length - 1 := by
  have hn := hs.pos
  obtain ⟨j, hj, ej⟩ := h.find (show l.length - 1 < l.length by omega)
  have : j = 0 := by
    rw [← pos_count h hj, ej, List.countP_eq_zero]
    intro q hq e
    have hq := List.mem_range.1 hq
    rw [sufB_iff, suf_cons, hs.last] at e
    have := hs.nn q hq
    rcases e with e | ⟨e, e2⟩
    · omega
    · obtain rfl := hs.zero hq e
      exact sufLt.irrefl e2
  subst this
  exact ⟨hj, ej⟩

/-- The rows met on the way back from the end. -/
def chain (m : List Int) : Nat → Nat
  | 0 => 0
  | k + 1 => lfL m (chain m k)
theorem chain_row (hs : IsSyms l) (h : IsRows l r) : ∀ {k : Nat}, k < l.length → ∃ hk : chain (lastL l r) k < r.length, r[chain (lastL l r) k] = l.length - 1 - k
  | 0, _ => row_first hs h
  | k + 1, hk => by
    obtain ⟨h1, h2⟩ := chain_row hs h (show k < l.length by omega)
    obtain ⟨h3, h4⟩ := lf_rows hs h h1
    refine ⟨h3, ?_⟩
    show r[lfL (lastL l r) (chain (lastL l r) k)] = _
    rw [h4, h2, show l.length - 1 - k + l.length - 1 = (l.length - 1 - (k + 1)) + l.length by omega, Nat.add_mod_right]
    exact Nat.mod_eq_of_lt (by omega)
theorem chain_sym (hs : IsSyms l) (h : IsRows l r) {k : Nat} (hk : k + 1 < l.length) : sy (lastL l r) (chain (lastL l r) k) = sy l (l.length - 2 - k) := by
  obtain ⟨h1, h2⟩ := chain_row hs h (show k < l.length by omega)
  rw [lastL_sy h1, h2, show l.length - 1 - k + l.length - 1 = (l.length - 2 - k) + l.length by omega, Nat.add_mod_right, Nat.mod_eq_of_lt (by omega)]
theorem chain_end (hs : IsSyms l) (h : IsRows l r) : sy (lastL l r) (chain (lastL l r) (l.length - 1)) = 0 := by
  have hn := hs.pos
  obtain ⟨h1, h2⟩ := chain_row hs h (show l.length - 1 < l.length by omega)
  rw [lastL_sy h1, h2, Nat.sub_self, Nat.zero_add, Nat.mod_eq_of_lt (by omega)]
  exact hs.last
theorem chain_ne (hs : IsSyms l) (h : IsRows l r) {j k : Nat} (hj : j < l.length) (hk : k < l.length) (hne : j ≠ k) : chain (lastL l r) j ≠ chain (lastL l r) k := by
  intro e
  obtain ⟨h1, h2⟩ := chain_row hs h hj
  obtain ⟨h3, h4⟩ := chain_row hs h hk
  simp only [e] at h2
  omega
end

/-- A text's symbols. -/
def symsT (t : List Int) : List Int := t.map (· + 1) ++ [0]
theorem symsT_len (t : List Int) : (symsT t).length = t.length + 1 := by simp [symsT]
theorem symsT_sy {t : List Int} {i : Nat} (h : i < t.length) : sy (symsT t) i = t[i] + 1 := by
  unfold sy symsT; rw [List.getElem?_append_left (by simpa using h)]; simp [h]
theorem symsT_end (t : List Int) : sy (symsT t) t.length = 0 := by unfold sy symsT; simp
/-- All are bytes. -/
def ByteL (t : List Int) : Prop := ∀ x ∈ t, 0 ≤ x ∧ x < 256
theorem symsT_is {t : List Int} (h : ByteL t) : IsSyms (symsT t) := by
  refine ⟨by rw [symsT_len]; omega, by rw [symsT_len]; exact symsT_end t, fun i hi => ?_⟩
  rw [symsT_len] at hi
  rw [symsT_sy (by omega)]
  have := h _ (List.getElem_mem (show i < t.length by omega))
  omega
theorem symsT_range {t : List Int} (h : ByteL t) : ∀ x ∈ symsT t, 0 ≤ x ∧ x < 257 := by
  intro x hx
  unfold symsT at hx
  rcases List.mem_append.1 hx with k | k
  · obtain ⟨y, hy, rfl⟩ := List.mem_map.1 k
    have := h y hy; omega
  · simp at k; omega
theorem symsT_zero {t : List Int} (h : ByteL t) : cnt (symsT t) 0 = 1 := by
  unfold cnt symsT
  rw [List.countP_append, List.countP_map]
  have : t.countP ((fun x => x == 0) ∘ fun x => x + 1) = 0 := by
    rw [List.countP_eq_zero]
    intro x hx
    have := h x hx
    simp; omega
  rw [this]; rfl

/-- The transform of a text. -/
def IsLast (t m : List Int) : Prop := ByteL t ∧ ∃ r, IsRows (symsT t) r ∧ lastL (symsT t) r = m
section
variable {t m : List Int}
theorem IsLast.len (h : IsLast t m) : m.length = t.length + 1 := by
  obtain ⟨_, r, hr, rfl⟩ := h
  rw [lastL_len, hr.len, symsT_len]
theorem IsLast.perm (h : IsLast t m) : m.Perm (symsT t) := by
  obtain ⟨_, r, hr, rfl⟩ := h
  exact last_perm hr
theorem IsLast.range (h : IsLast t m) : ∀ x ∈ m, 0 ≤ x ∧ x < 257 := fun x hx => symsT_range h.1 x (h.perm.mem_iff.1 hx)
theorem IsLast.zero (h : IsLast t m) : cnt m 0 = 1 := by
  rw [← symsT_zero h.1]; exact h.perm.countP_eq _
theorem IsLast.sym (h : IsLast t m) {k : Nat} (hk : k < t.length) : sy m (chain m k) = t[t.length - 1 - k] + 1 := by
  obtain ⟨hb, r, hr, rfl⟩ := h
  rw [chain_sym (symsT_is hb) hr (by rw [symsT_len]; omega), symsT_len, show t.length + 1 - 2 - k = t.length - 1 - k by omega, symsT_sy (by omega)]
theorem IsLast.stop (h : IsLast t m) : sy m (chain m t.length) = 0 := by
  obtain ⟨hb, r, hr, rfl⟩ := h
  have := chain_end (symsT_is hb) hr
  rwa [symsT_len, Nat.add_sub_cancel] at this
theorem IsLast.ne (h : IsLast t m) {j k : Nat} (hj : j ≤ t.length) (hk : k ≤ t.length) (hne : j ≠ k) : chain m j ≠ chain m k := by
  obtain ⟨hb, r, hr, rfl⟩ := h
  exact chain_ne (symsT_is hb) hr (by rw [symsT_len]; omega) (by rw [symsT_len]; omega) hne
theorem IsLast.unique {t' : List Int} (h : IsLast t m) (h' : IsLast t' m) : t = t' := by
  have e : t.length = t'.length := by have := h.len; have := h'.len; omega
  apply List.ext_getElem e
  intro i h1 h2
  have a := h.sym (k := t.length - 1 - i) (by omega)
  have b := h'.sym (k := t.length - 1 - i) (by omega)
  rw [a] at b
  have e1 : t.length - 1 - (t.length - 1 - i) = i := by omega
  have e2 : t'.length - 1 - (t.length - 1 - i) = i := by omega
  simp only [e1, e2] at b
  omega
theorem IsLast.same {m' : List Int} (h : IsLast t m) (h' : IsLast t m') : m = m' := by
  obtain ⟨_, r, hr, rfl⟩ := h
  obtain ⟨_, r', hr', rfl⟩ := h'
  rw [rows_unique hr hr']
end

end Go.Proofs.YtacoeohmdngnkaaGreatDoor

namespace Go.Proofs.YtacoeohmdngnkaaGreatDoor
set_option linter.unusedVariables false
set_option linter.unusedSimpArgs false

theorem cnt_take_lt {m : List Int} {row : Nat} (h : row < m.length) : cnt (m.take row) (sy m row) < cnt m (sy m row) := by
  have e : m = m.take row ++ m[row] :: m.drop (row + 1) := by
    rw [List.getElem_cons_drop, List.take_append_drop]
  have e2 : cnt m (sy m row) = cnt (m.take row) (sy m row) + cnt (m[row] :: m.drop (row + 1)) (sy m row) := by
    conv => lhs; rw [show cnt m (sy m row) = cnt (m.take row ++ m[row] :: m.drop (row + 1)) (sy m row) by rw [← e]]
    unfold cnt; rw [List.countP_append]
  have e3 : 0 < cnt (m[row] :: m.drop (row + 1)) (sy m row) := by
    unfold cnt
    rw [List.countP_cons, sy_in h]; simp
  omega
theorem below_cnt_le (m : List Int) (s : Int) : belowL m s + cnt m s ≤ m.length := by
  unfold belowL cnt
  induction m with
  | nil => simp
  | cons x m ih =>
    rw [List.countP_cons, List.countP_cons, List.length_cons]
    by_cases h1 : x < s
    · have : ¬ x = s := by omega
      simp [h1, this]; omega
    · by_cases h2 : x = s
      · subst h2; simp; omega
      · simp [h1, h2]; omega
theorem lfL_lt {m : List Int} {row : Nat} (h : row < m.length) : lfL m row < m.length := by
  have := cnt_take_lt h
  have := below_cnt_le m (sy m row)
  unfold lfL; omega
theorem chain_lt {m : List Int} (h : 0 < m.length) : ∀ k, chain m k < m.length
  | 0 => h
  | k + 1 => lfL_lt (chain_lt h k)

theorem belowL_succ {m : List Int} {s : Nat} : belowL m ((s + 1 : Nat) : Int) = belowL m (s : Int) + cnt m (s : Int) := by
  unfold belowL cnt
  refine countP_or' (fun x _ => ?_) (fun x _ => ?_)
  · by_cases h1 : x < (s : Int)
    · simp [h1]; omega
    · by_cases h2 : x = (s : Int)
      · subst h2; simp; omega
      · have : ¬ x < ((s + 1 : Nat) : Int) := by omega
        simp only [h1, h2, this, beq_iff_eq, decide_false, Bool.or_false]
        simp [h2]
  · simp; omega
theorem belowL_bl {m : List Int} (hm : ∀ x ∈ m, 0 ≤ x) : ∀ s : Nat, bl (Tl.of m).N s = (belowL m (s : Int) : Int)
  | 0 => by
    have : belowL m ((0 : Nat) : Int) = 0 := by
      unfold belowL
      rw [List.countP_eq_zero]
      intro x hx
      have := hm x hx
      simp; omega
    rw [this]; rfl
  | s + 1 => by
    rw [belowL_succ]
    show bl (Tl.of m).N s + (Tl.of m).N s = _
    rw [belowL_bl hm s]
    show _ + ((cnt m (s : Int) : Nat) : Int) = _
    omega

/-- How often a row was met. -/
def seenC (m : List Int) (j i : Nat) : Nat := (List.range j).countP fun x => chain m x == i
theorem seenC_succ (m : List Int) (j i : Nat) : seenC m (j + 1) i = seenC m j i + (if chain m j = i then 1 else 0) := by
  unfold seenC
  rw [List.range_succ, List.countP_append, List.countP_singleton]
  simp
theorem seenC_pos {m : List Int} {j i : Nat} (h : 0 < seenC m j i) : ∃ x, x < j ∧ chain m x = i := by
  unfold seenC at h
  obtain ⟨x, hx, he⟩ := List.countP_pos_iff.1 h
  exact ⟨x, List.mem_range.1 hx, by simpa using he⟩
theorem seenC_le (m : List Int) (j i : Nat) : seenC m j i ≤ j := by
  unfold seenC
  have := List.countP_le_length (p := fun x => chain m x == i) (l := List.range j)
  simpa using this

/-- The text that the way back tells. -/
def textOf (m : List Int) : List Int := (List.range (m.length - 1)).map fun i => sy m (chain m (m.length - 2 - i)) - 1
theorem textOf_len (m : List Int) : (textOf m).length = m.length - 1 := by simp [textOf]
theorem textOf_get {m : List Int} {i : Nat} (h : i < m.length - 1) : (textOf m)[i]? = some (sy m (chain m (m.length - 2 - i)) - 1) := by simp [textOf, h]
theorem IsLast.text {t m : List Int} (h : IsLast t m) : t = textOf m := by
  have hl := h.len
  apply List.ext_getElem
  · rw [textOf_len]; omega
  · intro i h1 h2
    have e := h.sym (k := t.length - 1 - i) (by omega)
    have h3 := textOf_get (m := m) (i := i) (by omega)
    rw [List.getElem?_eq_getElem h2] at h3
    injection h3 with h3
    rw [h3, show m.length - 2 - i = t.length - 1 - i by omega, e]
    have : t.length - 1 - (t.length - 1 - i) = i := by omega
    simp only [this]; omega

theorem first_bad {α : Type} {P : α → Prop} : ∀ {l : List α}, ¬ (∀ x ∈ l, P x) → ∃ k, ∃ hk : k < l.length, (∀ i (hi : i < k), P (l[i]'(by omega))) ∧ ¬ P l[k]
  | [], h => absurd (fun x hx => by cases hx) h
  | a :: l, h => by
    by_cases ha : P a
    · have : ¬ ∀ x ∈ l, P x := fun hl => h (fun x hx => by
        rcases List.mem_cons.1 hx with rfl | hx
        · exact ha
        · exact hl x hx)
      obtain ⟨k, hk, h1, h2⟩ := first_bad this
      refine ⟨k + 1, by simpa using hk, fun i hi => ?_, by simpa using h2⟩
      cases i with
      | zero => exact ha
      | succ i => simpa using h1 i (by omega)
    · exact ⟨0, by simp, fun i hi => by omega, ha⟩

end Go.Proofs.YtacoeohmdngnkaaGreatDoor

namespace Go.Proofs.YtacoeohmdngnkaaGreatDoor
set_option linter.unusedVariables false
set_option linter.unusedSimpArgs false

/-- How many of the first k bits are 1. -/
def pc (w : Nat) : Nat → Nat
  | 0 => 0
  | k + 1 => pc w k + (w.testBit k).toNat

theorem pc_le (w k : Nat) : pc w k ≤ k := by
  induction k with
  | zero => exact Nat.le_refl _
  | succ k ih => have := Bool.toNat_le (w.testBit k); simp only [pc]; omega
theorem pc_mono (w : Nat) {i j : Nat} (h : i ≤ j) : pc w i ≤ pc w j := by
  induction j with
  | zero => have : i = 0 := by omega
            rw [this]; exact Nat.le_refl _
  | succ j ih =>
    rcases Nat.lt_or_ge j i with h1 | h1
    · have : i = j + 1 := by omega
      rw [this]; exact Nat.le_refl _
    · have := ih h1; simp only [pc]; omega
theorem pc_congr {w v k : Nat} (h : ∀ i, i < k → w.testBit i = v.testBit i) : pc w k = pc v k := by
  induction k with
  | zero => rfl
  | succ k ih => simp only [pc]; rw [ih (fun i hi => h i (by omega)), h k (by omega)]
theorem pc_zero (k : Nat) : pc 0 k = 0 := by
  induction k with
  | zero => rfl
  | succ k ih => simp [pc, ih]
theorem pc_add (w a b : Nat) : pc w (a + b) = pc w a + pc (w / 2 ^ a) b := by
  induction b with
  | zero => rfl
  | succ b ih =>
    rw [← Nat.add_assoc]; simp only [pc]; rw [ih, Nat.testBit_div_two_pow, Nat.add_comm b a]; omega
theorem pc_over {w m : Nat} (h : w < 2 ^ m) (b : Nat) : pc w (m + b) = pc w m := by
  rw [pc_add, Nat.div_eq_of_lt h, pc_zero]; rfl
theorem pc_ge {w m k : Nat} (h : w < 2 ^ m) (hk : m ≤ k) : pc w k = pc w m := by
  obtain ⟨b, rfl⟩ := Nat.exists_eq_add_of_le hk
  exact pc_over h b

/-! ### The count, eight bits at a time -/

def m55 : Nat → Nat | 0 => 0 | n + 1 => 256 * m55 n + 85
def m33 : Nat → Nat | 0 => 0 | n + 1 => 256 * m33 n + 51
def m0f : Nat → Nat | 0 => 0 | n + 1 => 256 * m0f n + 15
def st1 (n x : Nat) : Nat := (x / 2 &&& m55 n) + (x &&& m55 n)
def st2 (n x : Nat) : Nat := (x / 4 &&& m33 n) + (x &&& m33 n)
def st3 (n x : Nat) : Nat := (x / 16 + x) &&& m0f n

theorem and_split (k a b : Nat) : a &&& b = 2 ^ k * ((a / 2 ^ k) &&& (b / 2 ^ k)) + ((a % 2 ^ k) &&& (b % 2 ^ k)) := by
  apply Nat.eq_of_testBit_eq
  intro i
  have hlt : (a % 2 ^ k) &&& (b % 2 ^ k) < 2 ^ k := Nat.lt_of_le_of_lt Nat.and_le_left (Nat.mod_lt _ (Nat.two_pow_pos k))
  rw [Nat.testBit_two_pow_mul_add _ hlt]
  split
  · rename_i h
    simp [Nat.testBit_and, Nat.testBit_mod_two_pow, h]
  · rename_i h
    rw [Nat.testBit_and, Nat.testBit_and, Nat.testBit_div_two_pow, Nat.testBit_div_two_pow, Nat.sub_add_cancel (by omega)]

theorem and_split8 (a b c : Nat) (hc : c < 256) : a &&& (256 * b + c) = 256 * ((a / 256) &&& b) + ((a % 256) &&& c) := by
  have := and_split 8 a (256 * b + c)
  simp only [Nat.reducePow] at this
  rw [this, show (256 * b + c) / 256 = b by omega, show (256 * b + c) % 256 = c by omega]

theorem st1_succ (n x : Nat) : st1 (n + 1) x = 256 * st1 n (x / 256) + st1 1 (x % 256) := by
  have h7 : (x / 2 % 256) &&& 85 = (x % 256 / 2) &&& 85 := by
    have e1 := and_split 7 (x / 2 % 256) 85
    have e2 := and_split 7 (x % 256 / 2) 85
    simp only [Nat.reducePow, Nat.reduceDiv, Nat.and_zero, Nat.reduceMod] at e1 e2
    rw [e1, e2, show x / 2 % 256 % 128 = x % 256 / 2 % 128 by omega]
  have h8 : m55 1 = 85 := rfl
  simp only [st1, m55]
  rw [and_split8 _ _ _ (by omega), and_split8 _ _ _ (by omega), h7, show x / 2 / 256 = x / 256 / 2 by omega]
  simp only [Nat.mul_zero, Nat.zero_add]
  omega
theorem st2_succ (n x : Nat) : st2 (n + 1) x = 256 * st2 n (x / 256) + st2 1 (x % 256) := by
  have h7 : (x / 4 % 256) &&& 51 = (x % 256 / 4) &&& 51 := by
    have e1 := and_split 6 (x / 4 % 256) 51
    have e2 := and_split 6 (x % 256 / 4) 51
    simp only [Nat.reducePow, Nat.reduceDiv, Nat.and_zero, Nat.reduceMod] at e1 e2
    rw [e1, e2, show x / 4 % 256 % 64 = x % 256 / 4 % 64 by omega]
  simp only [st2, m33]
  rw [and_split8 _ _ _ (by omega), and_split8 _ _ _ (by omega), h7, show x / 4 / 256 = x / 256 / 4 by omega]
  simp only [Nat.mul_zero, Nat.zero_add]
  omega
theorem st3_succ (n x : Nat) (h0 : x % 256 ≤ 68) (h1 : x / 256 % 16 ≤ 4) : st3 (n + 1) x = 256 * st3 n (x / 256) + st3 1 (x % 256) := by
  have h7 : ((x / 16 + x) % 256) &&& 15 = (x % 256 / 16 + x % 256) &&& 15 := by
    have e1 := and_split 4 ((x / 16 + x) % 256) 15
    have e2 := and_split 4 (x % 256 / 16 + x % 256) 15
    simp only [Nat.reducePow, Nat.reduceDiv, Nat.and_zero, Nat.reduceMod] at e1 e2
    rw [e1, e2, show (x / 16 + x) % 256 % 16 = (x % 256 / 16 + x % 256) % 16 by omega]
  simp only [st3, m0f]
  rw [and_split8 _ _ _ (by omega), h7, show (x / 16 + x) / 256 = x / 256 / 16 + x / 256 by omega]

theorem byte_stages : ∀ b : Fin 256, st1 1 b.val < 256 ∧ st2 1 (st1 1 b.val) ≤ 68 ∧ st2 1 (st1 1 b.val) % 16 ≤ 4 ∧ st3 1 (st2 1 (st1 1 b.val)) = pc b.val 8 := by decide +kernel

/-- Of n bytes: what the three steps leave is the counts of each byte. -/
def tally8 : Nat → Nat → Nat | 0, _ => 0 | n + 1, x => 256 * tally8 n (x / 256) + pc (x % 256) 8
theorem st1_div (n x : Nat) : st1 (n + 1) x / 256 = st1 n (x / 256) ∧ st1 (n + 1) x % 256 = st1 1 (x % 256) := by
  have h := (byte_stages ⟨x % 256, by omega⟩).1
  simp only at h
  rw [st1_succ]; omega
theorem st2_div (n x : Nat) (h : st2 1 (x % 256) < 256) : st2 (n + 1) x / 256 = st2 n (x / 256) ∧ st2 (n + 1) x % 256 = st2 1 (x % 256) := by
  rw [st2_succ]; omega
theorem st12 (n x : Nat) : st2 (n + 1) (st1 (n + 1) x) / 256 = st2 n (st1 n (x / 256)) ∧ st2 (n + 1) (st1 (n + 1) x) % 256 = st2 1 (st1 1 (x % 256)) := by
  have h := byte_stages ⟨x % 256, by omega⟩
  simp only at h
  obtain ⟨e1, e2⟩ := st1_div n x
  have := st2_div n (st1 (n + 1) x) (by rw [e2]; omega)
  rw [e1, e2] at this
  exact this
theorem stages (n x : Nat) : st3 n (st2 n (st1 n x)) = tally8 n x := by
  induction n generalizing x with
  | zero => simp [st3, m0f, tally8]
  | succ n ih =>
    have h := byte_stages ⟨x % 256, by omega⟩
    simp only at h
    obtain ⟨e1, e2⟩ := st12 n x
    rw [st3_succ n _ (by rw [e2]; omega) ?_, e1, e2, ih, h.2.2.2]
    · rfl
    · rw [e1]
      cases n with
      | zero => simp [st2, m33]
      | succ n =>
        have h' := byte_stages ⟨x / 256 % 256, by omega⟩
        simp only at h'
        have := (st12 n (x / 256)).2
        omega

theorem pc_bytes (n x : Nat) : pc x (8 * (n + 1)) = pc (x % 256) 8 + pc (x / 256) (8 * n) := by
  rw [show 8 * (n + 1) = 8 + 8 * n by omega, pc_add]
  congr 1
  exact pc_congr (fun i hi => by rw [show 256 = 2 ^ 8 from rfl, Nat.testBit_mod_two_pow]; simp [hi])

/-- The end of the count: the bytes are put together. -/
def fold8 (x : Nat) : Nat := (x + x / 256 + (x + x / 256) / 65536) + (x + x / 256 + (x + x / 256) / 65536) / 4294967296
theorem dg {n b c : Nat} (h : n = 256 * b + c) (hc : c < 256) : n / 256 = b := by omega
theorem dg2 {n b c : Nat} (h : n = 256 * b + c) (hc : c < 256) : n % 256 = c := by omega
theorem dgs {x y a b c d : Nat} (h : x = 256 * a + c) (k : y = 256 * b + d) : x + y = 256 * (a + b) + (c + d) := by omega
theorem div4 (n : Nat) : n / 4294967296 = n / 256 / 256 / 256 / 256 := by rw [Nat.div_div_eq_div_mul, Nat.div_div_eq_div_mul, Nat.div_div_eq_div_mul]
theorem div2 (n : Nat) : n / 65536 = n / 256 / 256 := by rw [Nat.div_div_eq_div_mul]
theorem le2 {a b : Nat} (h : a ≤ 8) (k : b ≤ 8) : a + b < 256 := by omega
theorem le4 {a b c d : Nat} (h : a ≤ 8) (k : b ≤ 8) (l : c ≤ 8) (m : d ≤ 8) : a + b + (c + d) < 256 := by omega
theorem le8 {a b c d e f g i : Nat} (h : a ≤ 8) (k : b ≤ 8) (l : c ≤ 8) (m : d ≤ 8) (h' : e ≤ 8) (k' : f ≤ 8) (l' : g ≤ 8) (m' : i ≤ 8) : a + b + (c + d) + (e + f + (g + i)) < 256 := by omega
theorem fold_digits {X0 X1 X2 X3 X4 X5 X6 X7 c0 c1 c2 c3 c4 c5 c6 : Nat} (e0 : X0 = 256 * X1 + c0) (e1 : X1 = 256 * X2 + c1) (e2 : X2 = 256 * X3 + c2) (e3 : X3 = 256 * X4 + c3)
    (e4 : X4 = 256 * X5 + c4) (e5 : X5 = 256 * X6 + c5) (e6 : X6 = 256 * X7 + c6) (h0 : c0 ≤ 8) (h1 : c1 ≤ 8) (h2 : c2 ≤ 8) (h3 : c3 ≤ 8) (h4 : c4 ≤ 8) (h5 : c5 ≤ 8) (h6 : c6 ≤ 8) (h7 : X7 ≤ 8) :
    fold8 X0 % 256 = c0 + c1 + c2 + c3 + c4 + c5 + c6 + X7 := by
  have e7 : X7 = 256 * 0 + X7 := by simp
  have a0 : X0 / 256 = X1 := dg e0 (by omega)
  have a1 : X0 + X0 / 256 = 256 * (X1 + X2) + (c0 + c1) := by rw [a0]; exact dgs e0 e1
  have b1 := dgs e1 e2
  have b2 := dgs e2 e3
  have b3 := dgs e3 e4
  have b4 := dgs e4 e5
  have b5 := dgs e5 e6
  have b6 := dgs e6 e7
  have a2 : (256 * (X1 + X2) + (c0 + c1)) / 65536 = X2 + X3 := by
    rw [div2, dg rfl (le2 h0 h1)]; exact dg b1 (le2 h1 h2)
  have a3 : 256 * (X1 + X2) + (c0 + c1) + (X2 + X3) = 256 * (X1 + X2 + (X3 + X4)) + (c0 + c1 + (c2 + c3)) := dgs rfl b2
  have s1 := dgs b1 b3
  have s2 := dgs b2 b4
  have s3 := dgs b3 b5
  have s4 := dgs b4 b6
  unfold fold8
  rw [a1, a2, a3, div4, dg rfl (le4 h0 h1 h2 h3), dg s1 (le4 h1 h2 h3 h4), dg s2 (le4 h2 h3 h4 h5), dg s3 (le4 h3 h4 h5 h6)]
  rw [dg2 (dgs rfl s4) (le8 h0 h1 h2 h3 h4 h5 h6 h7)]
  simp only [Nat.add_assoc]

theorem tally_succ (n x : Nat) : tally8 (n + 1) x = 256 * tally8 n (x / 256) + pc (x % 256) 8 := rfl
theorem fold_tally (x : Nat) : fold8 (tally8 8 x) % 256 = pc x 64 := by
  have e7 : tally8 1 (x / 256 / 256 / 256 / 256 / 256 / 256 / 256) = pc (x / 256 / 256 / 256 / 256 / 256 / 256 / 256 % 256) 8 := by rw [tally_succ]; simp [tally8]
  have p0 : pc x 64 = _ := pc_bytes 7 x
  have p1 : pc (x / 256) (8 * 7) = _ := pc_bytes 6 (x / 256)
  have p2 : pc (x / 256 / 256) (8 * 6) = _ := pc_bytes 5 (x / 256 / 256)
  have p3 : pc (x / 256 / 256 / 256) (8 * 5) = _ := pc_bytes 4 (x / 256 / 256 / 256)
  have p4 : pc (x / 256 / 256 / 256 / 256) (8 * 4) = _ := pc_bytes 3 (x / 256 / 256 / 256 / 256)
  have p5 : pc (x / 256 / 256 / 256 / 256 / 256) (8 * 3) = _ := pc_bytes 2 (x / 256 / 256 / 256 / 256 / 256)
  have p6 : pc (x / 256 / 256 / 256 / 256 / 256 / 256) (8 * 2) = _ := pc_bytes 1 (x / 256 / 256 / 256 / 256 / 256 / 256)
  have p7 : pc (x / 256 / 256 / 256 / 256 / 256 / 256 / 256) (8 * 1) = _ := pc_bytes 0 (x / 256 / 256 / 256 / 256 / 256 / 256 / 256)
  have pz : pc (x / 256 / 256 / 256 / 256 / 256 / 256 / 256 / 256) (8 * 0) = 0 := rfl
  rw [fold_digits (tally_succ 7 x) (tally_succ 6 _) (tally_succ 5 _) (tally_succ 4 _) (tally_succ 3 _) (tally_succ 2 _) (tally_succ 1 _) (pc_le _ _) (pc_le _ _) (pc_le _ _) (pc_le _ _) (pc_le _ _) (pc_le _ _) (pc_le _ _) (by rw [e7]; exact pc_le _ _), e7, p0, p1, p2, p3, p4, p5, p6, p7, pz]
  omega
theorem tally_lt : ∀ (n x : Nat), tally8 n x * 31 < 256 ^ n
  | 0, x => by simp [tally8]
  | n + 1, x => by
    have := tally_lt n (x / 256)
    have h := pc_le (x % 256) 8
    rw [tally_succ, Nat.pow_succ]
    omega

end Go.Proofs.YtacoeohmdngnkaaGreatDoor

namespace Go.Proofs.YtacoeohmdngnkaaGreatDoor
set_option linter.unusedVariables false
set_option linter.unusedSimpArgs false

theorem pc_succ (w k : Nat) : pc w (k + 1) = pc w k + (w.testBit k).toNat := rfl
theorem pc_hit (w : Nat) {j k : Nat} (h : j < pc w k) : ∃ m, m < k ∧ w.testBit m = true ∧ pc w m = j := by
  induction k with
  | zero => simp [pc] at h
  | succ k ih =>
    rcases Nat.lt_or_ge j (pc w k) with h1 | h1
    · obtain ⟨m, a, b⟩ := ih h1; exact ⟨m, by omega, b⟩
    · rw [pc_succ] at h
      have hb := Bool.toNat_le (w.testBit k)
      cases hk : w.testBit k
      · rw [hk] at h; simp at h; omega
      · rw [hk] at h; simp at h; exact ⟨k, by omega, hk, by omega⟩
theorem pc_lt {w i j : Nat} (h : i < j) (hi : w.testBit i = true) : pc w i < pc w j := by
  have := pc_mono w (i := i + 1) (j := j) (by omega)
  rw [pc_succ, hi] at this
  simp at this; omega

/-- The place of the 1 with j ones ahead; -1. -/
def sel (w : Nat) (j : Int) : Int := match (List.range 64).find? fun i => w.testBit i && decide ((pc w i : Int) = j) with
  | some i => (i : Int)
  | none => -1
theorem sel_hit {w k : Nat} {j : Int} (hk : k < 64) (hb : w.testBit k = true) (hp : (pc w k : Int) = j) : sel w j = k := by
  unfold sel
  have : (List.range 64).find? (fun i => w.testBit i && decide ((pc w i : Int) = j)) = some k := by
    rw [List.find?_range_eq_some]
    refine ⟨by simp [hb, hp], by simpa using hk, fun i hi => ?_⟩
    cases hbi : w.testBit i
    · simp
    · have := pc_lt hi hbi
      simp; omega
  rw [this]
theorem sel_none {w : Nat} {j : Int} (h : j < 0 ∨ (pc w 64 : Int) ≤ j) : sel w j = -1 := by
  unfold sel
  have : (List.range 64).find? (fun i => w.testBit i && decide ((pc w i : Int) = j)) = none := by
    rw [List.find?_eq_none]
    intro i hi
    simp only [List.mem_range] at hi
    cases hbi : w.testBit i
    · simp
    · have := pc_lt (j := 64) hi hbi
      simp; omega
  rw [this]
theorem sel_some {w : Nat} {j : Nat} (h : j < pc w 64) : ∃ k, k < 64 ∧ w.testBit k = true ∧ pc w k = j ∧ sel w j = k := by
  obtain ⟨k, hk, hb, hp⟩ := pc_hit w h
  exact ⟨k, hk, hb, hp, sel_hit hk hb (by rw [hp])⟩

/-! ### The lowest 1 goes -/
theorem lowest {x : Nat} (h0 : x ≠ 0) (h : x < 2 ^ 64) : ∃ c, c < 64 ∧ Lib.ctz 64 x = c ∧ x.testBit c = true ∧ (∀ i, i < c → x.testBit i = false) ∧ ∀ i, (x &&& (x - 1)).testBit i = (x.testBit i && !decide (i = c)) := by
  obtain ⟨m, hm, hc⟩ := Lib.ctzFrom_spec 64 x (by omega) h
  generalize hcc : Lib.ctzFrom 64 x = c at *
  have e1 : x = 2 ^ c * (2 * m + 1) + 0 := by omega
  have hp := Nat.two_pow_pos c
  have e2 : x - 1 = 2 ^ c * (2 * m) + (2 ^ c - 1) := by rw [hm, Nat.mul_add]; omega
  have t1 : ∀ i, x.testBit i = if i < c then false else (2 * m + 1).testBit (i - c) := by
    intro i; rw [e1, Nat.testBit_two_pow_mul_add _ hp]; simp
  have t2 : ∀ i, (x - 1).testBit i = if i < c then (2 ^ c - 1).testBit i else (2 * m).testBit (i - c) := by
    intro i; rw [e2, Nat.testBit_two_pow_mul_add _ (by omega)]
  refine ⟨c, hc, ?_, ?_, ?_, ?_⟩
  · unfold Lib.ctz; rw [if_neg h0, hcc]
  · rw [t1]; simp
  · intro i hi; rw [t1, if_pos hi]
  · intro i
    rw [Nat.testBit_and, t1, t2]
    by_cases hi : i < c
    · simp [hi]
    · rw [if_neg hi, if_neg hi]
      by_cases hic : i = c
      · subst hic; simp
      · obtain ⟨d, hd⟩ : ∃ d, i - c = d + 1 := ⟨i - c - 1, by omega⟩
        rw [hd]
        simp only [Nat.testBit_succ, hic, decide_false, Bool.not_false, Bool.and_true]
        rw [show (2 * m + 1) / 2 = m by omega, show 2 * m / 2 = m by omega, Bool.and_self]

/-- Of w the first j ones are gone. -/
def Gone (w j x : Nat) : Prop := x < 2 ^ 64 ∧ ∀ i, x.testBit i = (w.testBit i && decide (j ≤ pc w i))
theorem gone_zero {w : Nat} (h : w < 2 ^ 64) : Gone w 0 w := ⟨h, fun i => by simp⟩
theorem gone_low {w j x : Nat} (hw : w < 2 ^ 64) (hg : Gone w j x) (hj : j < pc w 64) : ∃ c, c < 64 ∧ x ≠ 0 ∧ Lib.ctz 64 x = c ∧ w.testBit c = true ∧ pc w c = j ∧ ∀ i, (x &&& (x - 1)).testBit i = (x.testBit i && !decide (i = c)) := by
  obtain ⟨hx, hg⟩ := hg
  obtain ⟨m, hm, hb, hp⟩ := pc_hit w hj
  have hxm : x.testBit m = true := by rw [hg, hb, hp]; simp
  have h0 : x ≠ 0 := by intro e; rw [e] at hxm; simp at hxm
  obtain ⟨c, hc, hct, hxc, hlow, hand⟩ := lowest h0 hx
  have hwc : w.testBit c = true ∧ j ≤ pc w c := by
    have := hg c; rw [hxc] at this; simpa using this.symm
  have hpc : pc w c = j := by
    rcases Nat.lt_or_ge j (pc w c) with h1 | h1
    · obtain ⟨m', hm', hb', hp'⟩ := pc_hit w h1
      have : x.testBit m' = true := by rw [hg, hb', hp']; simp
      rw [hlow m' hm'] at this; cases this
    · omega
  exact ⟨c, hc, h0, hct, hwc.1, hpc, hand⟩
theorem gone_succ {w j x : Nat} (hw : w < 2 ^ 64) (hg : Gone w j x) (hj : j < pc w 64) : Gone w (j + 1) (x &&& (x - 1)) := by
  obtain ⟨c, hc, h0, hct, hwc, hpc, hand⟩ := gone_low hw hg hj
  refine ⟨Nat.lt_of_le_of_lt Nat.and_le_left hg.1, fun i => ?_⟩
  rw [hand, hg.2]
  cases hwi : w.testBit i
  · simp
  · simp only [Bool.true_and]
    rcases Nat.lt_trichotomy i c with h | h | h
    · have := pc_lt h hwi
      rw [Bool.eq_iff_iff]; simp; omega
    · subst h; simp; omega
    · have := pc_lt h hwc
      rw [Bool.eq_iff_iff]; simp; omega
theorem gone_sel {w j x : Nat} (hw : w < 2 ^ 64) (hg : Gone w j x) (hj : j < pc w 64) : (Lib.ctz 64 x : Int) = sel w j := by
  obtain ⟨c, hc, h0, hct, hwc, hpc, hand⟩ := gone_low hw hg hj
  rw [hct, sel_hit hc hwc (by rw [hpc])]

/-! ### A word out of its bits -/
def wordOf (f : Nat → Bool) : Nat → Nat
  | 0 => 0
  | n + 1 => wordOf f n + (if f n then 2 ^ n else 0)
theorem wordOf_lt (f : Nat → Bool) (n : Nat) : wordOf f n < 2 ^ n := by
  induction n with
  | zero => simp [wordOf]
  | succ n ih => simp only [wordOf]; rw [Nat.pow_succ]; split <;> omega
theorem wordOf_bit (f : Nat → Bool) (n i : Nat) : (wordOf f n).testBit i = (decide (i < n) && f i) := by
  induction n with
  | zero => simp [wordOf]
  | succ n ih =>
    have hl := wordOf_lt f n
    have e : wordOf f (n + 1) = 2 ^ n * (if f n then 1 else 0) + wordOf f n := by
      simp only [wordOf]; split <;> omega
    rw [e, Nat.testBit_two_pow_mul_add _ hl, ih]
    by_cases hi : i < n
    · rw [if_pos hi]; simp [hi]; omega
    · rw [if_neg hi]
      by_cases hn : i = n
      · subst hn
        cases hf : f i <;> simp
      · have h1 : ¬ i < n + 1 := by omega
        obtain ⟨d, hd⟩ : ∃ d, i - n = d + 1 := ⟨i - n - 1, by omega⟩
        rw [hd]
        cases f n <;> simp [h1, Nat.testBit_succ]
theorem word_ext {x y n : Nat} (hx : x < 2 ^ n) (hy : y < 2 ^ n) (h : ∀ i, i < n → x.testBit i = y.testBit i) : x = y := by
  apply Nat.eq_of_testBit_eq
  intro i
  by_cases hi : i < n
  · exact h i hi
  · rw [Nat.testBit_lt_two_pow (Nat.lt_of_lt_of_le hx (Nat.pow_le_pow_right (by omega) (by omega))), Nat.testBit_lt_two_pow (Nat.lt_of_lt_of_le hy (Nat.pow_le_pow_right (by omega) (by omega)))]
theorem some_bit (w k : Nat) : decide ((w / 2 ^ k) &&& 1 = 1) = w.testBit k := by
  rw [Nat.testBit_eq_decide_div_mod_eq, Nat.and_one_is_mod]

end Go.Proofs.YtacoeohmdngnkaaGreatDoor

namespace Go.Proofs.YtacoeohmdngnkaaGreatDoor
set_option linter.unusedVariables false
set_option linter.unusedSimpArgs false

/-- All bits turned. -/
def notW (x : Nat) : Nat := 2 ^ 64 - 1 - x
theorem notW_lt (x : Nat) : notW x < 2 ^ 64 := by unfold notW; omega
theorem notW_bit {x i : Nat} (hx : x < 2 ^ 64) (hi : i < 64) : (notW x).testBit i = !x.testBit i := by
  unfold notW
  rw [show 2 ^ 64 - 1 - x = 2 ^ 64 - (x + 1) by omega, Nat.testBit_two_pow_sub_succ hx]
  simp [hi]
/-- Which places are known after j rounds: first the ones, in their order, then the noughts. -/
def seen (x j i : Nat) : Bool := if x.testBit i then decide (pc x i < j) else decide (pc x 64 + pc (notW x) i < j)
end Go.Proofs.YtacoeohmdngnkaaGreatDoor

namespace Go.Proofs.YtacoeohmdngnkaaGreatDoor
set_option linter.unusedVariables false
set_option linter.unusedSimpArgs false

/-- A bit of a list; none is a nought. -/
def bitAt (l : List Bool) (i : Nat) : Bool := l[i]?.getD false
def loW (l : List Bool) : Nat := wordOf (bitAt l) 64
def hiW (l : List Bool) : Nat := wordOf (fun i => bitAt l (64 + i)) 64
theorem loW_lt (l : List Bool) : loW l < 2 ^ 64 := wordOf_lt _ _
theorem hiW_lt (l : List Bool) : hiW l < 2 ^ 64 := wordOf_lt _ _
theorem loW_bit {l : List Bool} {i : Nat} (h : i < 64) : (loW l).testBit i = bitAt l i := by unfold loW; rw [wordOf_bit]; simp [h]
theorem hiW_bit {l : List Bool} {i : Nat} (h : i < 64) : (hiW l).testBit i = bitAt l (64 + i) := by unfold hiW; rw [wordOf_bit]; simp [h]
theorem bitAt_over {l : List Bool} {i : Nat} (h : l.length ≤ i) : bitAt l i = false := by unfold bitAt; rw [List.getElem?_eq_none h]; rfl
theorem loW_nil : loW [] = 0 := by decide +kernel
theorem hiW_nil : hiW [] = 0 := by decide +kernel

/-- How many of the first k bits are like b. -/
def rankL (l : List Bool) (k : Nat) (b : Bool) : Nat := (l.take k).count b
theorem rankL_succ {l : List Bool} {k : Nat} (b : Bool) (h : k < l.length) : rankL l (k + 1) b = rankL l k b + (if l[k]?.getD false = b then 1 else 0) := by
  unfold rankL
  rw [List.take_add_one, List.getElem?_eq_getElem h, Option.toList_some, List.count_append, List.count_singleton]
  simp
theorem rankL_over {l : List Bool} {k : Nat} (b : Bool) (h : l.length ≤ k) : rankL l k b = l.count b := by unfold rankL; rw [List.take_of_length_le h]
theorem rankL_le (l : List Bool) (k : Nat) (b : Bool) : rankL l k b ≤ k ∧ rankL l k b ≤ l.length := by
  unfold rankL
  have := List.count_le_length (a := b) (l := l.take k)
  rw [List.length_take] at this; omega
theorem rankL_mono (l : List Bool) {i j : Nat} (b : Bool) (h : i ≤ j) : rankL l i b ≤ rankL l j b := by
  unfold rankL
  have : l.take i = (l.take j).take i := by rw [List.take_take, Nat.min_eq_left h]
  rw [this]
  exact List.Sublist.count_le _ (List.take_sublist _ _)
theorem rankL_lt {l : List Bool} {i j : Nat} {b : Bool} (h : i < j) (hi : i < l.length) (hb : l[i]?.getD false = b) : rankL l i b < rankL l j b := by
  have := rankL_mono l b (i := i + 1) (j := j) (by omega)
  rw [rankL_succ b hi, if_pos hb] at this
  omega
theorem rankL_both {l : List Bool} {k : Nat} (h : k ≤ l.length) : rankL l k true + rankL l k false = k := by
  induction k with
  | zero => simp [rankL]
  | succ k ih =>
    have := ih (by omega)
    rw [rankL_succ true (by omega), rankL_succ false (by omega)]
    cases l[k]?.getD false <;> simp <;> omega

/-- The words' ranks are the list's. -/
theorem pc_lo {l : List Bool} : ∀ {k : Nat}, k ≤ 64 → pc (loW l) k = rankL l k true
  | 0, _ => by simp [pc, rankL]
  | k + 1, h => by
    rw [pc_succ, pc_lo (by omega), loW_bit (by omega)]
    by_cases hk : k < l.length
    · rw [rankL_succ true hk]; unfold bitAt; cases l[k]?.getD false <;> simp
    · rw [bitAt_over (by omega), rankL_over true (by omega), rankL_over true (by omega)]; rfl
theorem pc_hi {l : List Bool} : ∀ {k : Nat}, k ≤ 64 → rankL l 64 true + pc (hiW l) k = rankL l (64 + k) true
  | 0, _ => by simp [pc]
  | k + 1, h => by
    rw [pc_succ, ← Nat.add_assoc, pc_hi (by omega), hiW_bit (by omega), ← Nat.add_assoc]
    by_cases hk : 64 + k < l.length
    · rw [rankL_succ true hk]; unfold bitAt; cases l[64 + k]?.getD false <;> simp
    · rw [bitAt_over (by omega), rankL_over true (by omega), rankL_over true (by omega)]; rfl
theorem pc_both {l : List Bool} (h : l.length ≤ 128) : pc (loW l) 64 + pc (hiW l) 64 = l.count true := by
  rw [pc_lo (Nat.le_refl _), pc_hi (Nat.le_refl _), rankL_over true (by omega)]

/-- The place of the bit like b with j such ones ahead; -1. -/
def selL (l : List Bool) (j : Int) (b : Bool) : Int := match (List.range l.length).find? fun i => decide (l[i]?.getD false = b) && decide ((rankL l i b : Int) = j) with
  | some i => (i : Int)
  | none => -1
theorem selL_hit {l : List Bool} {k : Nat} {j : Int} {b : Bool} (hk : k < l.length) (hb : l[k]?.getD false = b) (hp : (rankL l k b : Int) = j) : selL l j b = k := by
  unfold selL
  have : (List.range l.length).find? (fun i => decide (l[i]?.getD false = b) && decide ((rankL l i b : Int) = j)) = some k := by
    rw [List.find?_range_eq_some]
    refine ⟨by simp [hb, hp], by simpa using hk, fun i hi => ?_⟩
    by_cases hbi : l[i]?.getD false = b
    · have := rankL_lt (b := b) hi (by omega) hbi
      simp; omega
    · simp [hbi]
  rw [this]
theorem selL_none {l : List Bool} {j : Int} {b : Bool} (h : ∀ i, i < l.length → l[i]?.getD false = b → (rankL l i b : Int) ≠ j) : selL l j b = -1 := by
  unfold selL
  have : (List.range l.length).find? (fun i => decide (l[i]?.getD false = b) && decide ((rankL l i b : Int) = j)) = none := by
    rw [List.find?_eq_none]
    intro i hi
    simp only [List.mem_range] at hi
    by_cases hbi : l[i]?.getD false = b
    · have := h i hi hbi
      simp [this]
    · simp [hbi]
  rw [this]
theorem selL_neg {l : List Bool} {j : Int} {b : Bool} (h : j < 0) : selL l j b = -1 := selL_none (fun i _ _ => by omega)
theorem selL_many {l : List Bool} {j : Int} {b : Bool} (h : (l.count b : Int) ≤ j) : selL l j b = -1 := selL_none (fun i hi hb => by
  have := rankL_lt (b := b) (j := l.length) hi hi hb
  rw [rankL_over b (Nat.le_refl _)] at this
  omega)

/-- A word's bits that are like b. -/
def likeW (x : Nat) (b : Bool) : Nat := if b then x else notW x
theorem likeW_lt {x : Nat} (h : x < 2 ^ 64) (b : Bool) : likeW x b < 2 ^ 64 := by unfold likeW; split; exact h; exact notW_lt x
theorem likeW_bit {x i : Nat} (hx : x < 2 ^ 64) (hi : i < 64) (b : Bool) : (likeW x b).testBit i = decide (x.testBit i = b) := by
  unfold likeW; cases b
  · simp [notW_bit hx hi]
  · simp
theorem pc_likeLo {l : List Bool} (b : Bool) : ∀ {k : Nat}, k ≤ 64 → k ≤ l.length → pc (likeW (loW l) b) k = rankL l k b
  | 0, _, _ => by simp [pc, rankL]
  | k + 1, h, h2 => by
    rw [pc_succ, pc_likeLo b (by omega) (by omega), likeW_bit (loW_lt l) (by omega), loW_bit (by omega), rankL_succ b (by omega)]
    unfold bitAt
    by_cases e : l[k]?.getD false = b <;> simp [e]
theorem pc_likeHi {l : List Bool} (b : Bool) (h64 : 64 ≤ l.length) : ∀ {k : Nat}, k ≤ 64 → 64 + k ≤ l.length → rankL l 64 b + pc (likeW (hiW l) b) k = rankL l (64 + k) b
  | 0, _, _ => by simp [pc]
  | k + 1, h, h2 => by
    rw [pc_succ, ← Nat.add_assoc, pc_likeHi b h64 (by omega) (by omega), likeW_bit (hiW_lt l) (by omega), hiW_bit (by omega), ← Nat.add_assoc, rankL_succ b (by omega)]
    unfold bitAt
    by_cases e : l[64 + k]?.getD false = b <;> simp [e]
/-- The place is in the first word. -/
theorem sel_lo {l : List Bool} {j : Nat} {b : Bool} (h : j < pc (likeW (loW l) b) 64) : ∃ k : Nat, k < 64 ∧ sel (likeW (loW l) b) j = k ∧ selL l j b = if k < l.length then (k : Int) else -1 := by
  obtain ⟨k, hk, hb, hp, hs⟩ := sel_some h
  refine ⟨k, hk, hs, ?_⟩
  rw [likeW_bit (loW_lt l) hk, loW_bit hk, decide_eq_true_eq] at hb
  split
  · rename_i hkl
    exact selL_hit hkl hb (by rw [← pc_likeLo b (by omega) (by omega), hp])
  · rename_i hkl
    refine selL_none (fun i hi hbi => ?_)
    have h1 := rankL_lt (b := b) (j := l.length) hi hi hbi
    have h2 := pc_mono (likeW (loW l) b) (i := l.length) (j := k) (by omega)
    rw [pc_likeLo b (by omega) (Nat.le_refl _), hp] at h2
    omega
/-- The place is in the second word, or nowhere. -/
theorem sel_hi {l : List Bool} {j : Nat} {b : Bool} (h : pc (likeW (loW l) b) 64 ≤ j) (h1 : j - pc (likeW (loW l) b) 64 < pc (likeW (hiW l) b) 64) (h128 : l.length ≤ 128) :
    ∃ k : Nat, k < 64 ∧ sel (likeW (hiW l) b) ((j : Int) - (pc (likeW (loW l) b) 64 : Nat)) = k ∧ selL l j b = if 64 + k < l.length then ((64 + k : Nat) : Int) else -1 := by
  obtain ⟨k, hk, hb, hp, hs⟩ := sel_some h1
  refine ⟨k, hk, by rw [← hs]; congr 1; omega, ?_⟩
  rw [likeW_bit (hiW_lt l) hk, hiW_bit hk, decide_eq_true_eq] at hb
  by_cases h64 : 64 ≤ l.length
  · have e64 := pc_likeLo (l := l) b (Nat.le_refl 64) h64
    split
    · rename_i hkl
      exact selL_hit hkl hb (by rw [← pc_likeHi b h64 (by omega) (by omega), hp]; omega)
    · rename_i hkl
      refine selL_none (fun i hi hbi => ?_)
      have h3 := rankL_lt (b := b) (j := l.length) hi hi hbi
      have h2 := pc_mono (likeW (hiW l) b) (i := l.length - 64) (j := k) (by omega)
      have h4 := pc_likeHi (l := l) b h64 (k := l.length - 64) (by omega) (by omega)
      rw [show 64 + (l.length - 64) = l.length by omega] at h4
      omega
  · rw [if_neg (by omega)]
    refine selL_none (fun i hi hbi => ?_)
    have h3 := rankL_lt (b := b) (j := l.length) hi hi hbi
    have h2 := pc_mono (likeW (loW l) b) (i := l.length) (j := 64) (by omega)
    rw [pc_likeLo b (by omega) (Nat.le_refl _)] at h2
    omega
theorem sel_no {l : List Bool} {j : Nat} {b : Bool} (h : pc (likeW (loW l) b) 64 + pc (likeW (hiW l) b) 64 ≤ j) (h128 : l.length ≤ 128) : selL l j b = -1 := by
  refine selL_none (fun i hi hbi => ?_)
  have h3 := rankL_lt (b := b) (j := l.length) hi hi hbi
  by_cases h64 : 64 ≤ l.length
  · have e64 := pc_likeLo (l := l) b (Nat.le_refl 64) h64
    have h4 := pc_likeHi (l := l) b h64 (k := l.length - 64) (by omega) (by omega)
    rw [show 64 + (l.length - 64) = l.length by omega] at h4
    have h2 := pc_mono (likeW (hiW l) b) (i := l.length - 64) (j := 64) (by omega)
    omega
  · have h2 := pc_mono (likeW (loW l) b) (i := l.length) (j := 64) (by omega)
    rw [pc_likeLo b (by omega) (Nat.le_refl _)] at h2
    omega

/-- One bit more at the end. -/
theorem lo_snoc {l : List Bool} {b : Bool} (h : l.length < 64) : loW (l ++ [b]) = loW l ||| (if b then 2 ^ l.length else 0) := by
  refine word_ext (loW_lt _) (Nat.or_lt_two_pow (loW_lt _) ?_) (fun i hi => ?_)
  · have := Nat.pow_le_pow_right (n := 2) (i := l.length) (j := 63) (by omega) (by omega); split <;> omega
  · rw [loW_bit hi, Nat.testBit_or, loW_bit hi]
    have hb : (if b = true then 2 ^ l.length else 0 : Nat).testBit i = (b && decide (i = l.length)) := by
      cases b
      · simp
      · simp [Nat.testBit_two_pow, eq_comm]
    rw [hb]
    unfold bitAt
    rw [List.getElem?_append]
    split
    · rename_i h1
      have : ¬ i = l.length := by omega
      simp [this]
    · rename_i h1
      by_cases e : i = l.length
      · subst e; simp
      · rw [List.getElem?_eq_none (l := l) (by omega), List.getElem?_eq_none (l := [b]) (by simp; omega)]; simp [e]
theorem lo_snoc2 {l : List Bool} {b : Bool} (h : 64 ≤ l.length) : loW (l ++ [b]) = loW l := by
  refine word_ext (loW_lt _) (loW_lt _) (fun i hi => ?_)
  rw [loW_bit hi, loW_bit hi]; unfold bitAt; rw [List.getElem?_append_left (by omega)]
theorem hi_snoc {l : List Bool} {b : Bool} (h : l.length < 64) : hiW (l ++ [b]) = hiW l := by
  refine word_ext (hiW_lt _) (hiW_lt _) (fun i hi => ?_)
  rw [hiW_bit hi, hiW_bit hi, bitAt_over (l := l ++ [b]) (by simp; omega), bitAt_over (l := l) (by omega)]
theorem hi_snoc2 {l : List Bool} {b : Bool} (h : 64 ≤ l.length) (h128 : l.length < 128) : hiW (l ++ [b]) = hiW l ||| (if b then 2 ^ (l.length - 64) else 0) := by
  refine word_ext (hiW_lt _) (Nat.or_lt_two_pow (hiW_lt _) ?_) (fun i hi => ?_)
  · have := Nat.pow_le_pow_right (n := 2) (i := l.length - 64) (j := 63) (by omega) (by omega); split <;> omega
  · rw [hiW_bit hi, Nat.testBit_or, hiW_bit hi]
    have hb : (if b = true then 2 ^ (l.length - 64) else 0 : Nat).testBit i = (b && decide (i = l.length - 64)) := by
      cases b
      · simp
      · simp [Nat.testBit_two_pow, eq_comm]
    rw [hb]
    unfold bitAt
    rw [List.getElem?_append]
    split
    · rename_i h1
      have : ¬ i = l.length - 64 := by omega
      simp [this]
    · rename_i h1
      by_cases e : i = l.length - 64
      · subst e; rw [show 64 + (l.length - 64) = l.length by omega]; simp
      · rw [List.getElem?_eq_none (l := l) (by omega), List.getElem?_eq_none (l := [b]) (by simp; omega)]; simp [e]

end Go.Proofs.YtacoeohmdngnkaaGreatDoor

namespace Go.Proofs.YtacoeohmdngnkaaGreatDoor
set_option linter.unusedVariables false
set_option linter.unusedSimpArgs false

/-- A tree of bits. -/
inductive ST where
  | leaf (l : List Bool)
  | pair (a b : ST)

def ST.bits : ST → List Bool
  | .leaf l => l
  | .pair a b => a.bits ++ b.bits
def ST.high : ST → Nat
  | .leaf _ => 0
  | .pair a b => max a.high b.high + 1
def ST.leaves : ST → Nat
  | .leaf _ => 1
  | .pair a b => a.leaves + b.leaves
def ST.size : ST → Nat
  | .leaf _ => 1
  | .pair a b => a.size + b.size + 1
def ST.Avl : ST → Prop
  | .leaf _ => True
  | .pair a b => a.Avl ∧ b.Avl ∧ a.high ≤ b.high + 1 ∧ b.high ≤ a.high + 1
def ST.Fill : ST → Prop
  | .leaf l => 32 ≤ l.length ∧ l.length ≤ 128
  | .pair a b => a.Fill ∧ b.Fill
/-- As Fill; the only leaf may have less. -/
def ST.Root : ST → Prop
  | .leaf l => 1 ≤ l.length ∧ l.length ≤ 128
  | .pair a b => a.Fill ∧ b.Fill
/-- No leaf has too many. -/
def ST.Le : ST → Prop
  | .leaf l => l.length ≤ 128
  | .pair a b => a.Le ∧ b.Le
def ST.few : ST → Bool
  | .leaf l => decide (l.length < 32)
  | .pair _ _ => false
theorem ST.Fill.le {t : ST} (h : t.Fill) : t.Le := by
  induction t with
  | leaf l => exact h.2
  | pair a b iha ihb => exact ⟨iha h.1, ihb h.2⟩
theorem ST.Root.le {t : ST} (h : t.Root) : t.Le := by
  cases t with
  | leaf l => exact h.2
  | pair a b => exact ⟨h.1.le, h.2.le⟩
theorem ST.Fill.root {t : ST} (h : t.Fill) : t.Root := by
  cases t with
  | leaf l => obtain ⟨h1, h2⟩ := h; exact ⟨by omega, h2⟩
  | pair a b => exact h
theorem ST.size_leaves (t : ST) : t.size + 1 = 2 * t.leaves := by
  induction t with
  | leaf l => rfl
  | pair a b iha ihb => simp only [ST.size, ST.leaves]; omega
theorem ST.leaves_pos (t : ST) : 1 ≤ t.leaves := by have := t.size_leaves; omega
theorem ST.high_size (t : ST) : t.high < t.size := by
  induction t with
  | leaf l => simp [ST.high, ST.size]
  | pair a b iha ihb => simp only [ST.high, ST.size]; omega
theorem ST.Fill.len {t : ST} (h : t.Fill) : 32 * t.leaves ≤ t.bits.length := by
  induction t with
  | leaf l => obtain ⟨h1, h2⟩ := h; simp only [ST.leaves, ST.bits]; omega
  | pair a b iha ihb =>
    have := iha h.1; have := ihb h.2
    simp only [ST.leaves, ST.bits, List.length_append]; omega
theorem ST.Root.pos {t : ST} (h : t.Root) : 1 ≤ t.bits.length := by
  cases t with
  | leaf l => exact h.1
  | pair a b => have := h.1.len; have := a.leaves_pos; simp only [ST.bits, List.length_append]; omega
theorem ST.Root.len {t : ST} (h : t.Root) : 32 * (t.leaves - 1) ≤ t.bits.length := by
  cases t with
  | leaf l => simp [ST.leaves]
  | pair a b => have := h.1.len; have := h.2.len; simp only [ST.leaves, ST.bits, List.length_append]; omega

/-- The sides' heights, of a node. -/
def ST.hl : ST → Nat
  | .leaf _ => 0
  | .pair a _ => a.high
def ST.hr : ST → Nat
  | .leaf _ => 0
  | .pair _ b => b.high
/-- A subtree as it is behind a bit less: only it itself, if it is a leaf, may have too few. -/
def ST.Less : ST → Prop
  | .leaf l => 31 ≤ l.length ∧ l.length ≤ 128
  | .pair a b => a.Fill ∧ b.Fill
theorem ST.Less.fill {t : ST} (h : t.Less) (hf : t.few = false) : t.Fill := by
  cases t with
  | leaf l =>
    obtain ⟨h1, h2⟩ := h
    simp only [ST.few, decide_eq_false_iff_not] at hf
    exact ⟨by omega, h2⟩
  | pair a b => exact h
theorem ST.Fill.less {t : ST} (h : t.Fill) : t.Less := by
  cases t with
  | leaf l => obtain ⟨h1, h2⟩ := h; exact ⟨by omega, h2⟩
  | pair a b => exact h
end Go.Proofs.YtacoeohmdngnkaaGreatDoor

namespace Go.Proofs.YtacoeohmdngnkaaGreatDoor
set_option linter.unusedVariables false
set_option linter.unusedSimpArgs false

section
variable {a b l : List Bool} {k j : Nat} {x : Bool}
theorem bitAt_app_l (h : k < a.length) : bitAt (a ++ b) k = bitAt a k := by unfold bitAt; rw [List.getElem?_append_left h]
theorem bitAt_app_r (h : a.length ≤ k) : bitAt (a ++ b) k = bitAt b (k - a.length) := by unfold bitAt; rw [List.getElem?_append_right h]
theorem rankL_app_l (h : k ≤ a.length) : rankL (a ++ b) k x = rankL a k x := by unfold rankL; rw [List.take_append_of_le_length h]
theorem rankL_app_r (h : a.length ≤ k) : rankL (a ++ b) k x = a.count x + rankL b (k - a.length) x := by
  unfold rankL; rw [List.take_append, List.count_append, List.take_of_length_le h]
theorem count_both (l : List Bool) : l.count true + l.count false = l.length := by
  have := rankL_both (l := l) (k := l.length) (Nat.le_refl _)
  simpa [rankL] using this
theorem count_le (l : List Bool) (x : Bool) : l.count x ≤ l.length := List.count_le_length
/-- How many are like one, of so many of which so many are 1. -/
def likeN (n ones : Int) (x : Bool) : Int := if x then ones else n - ones
theorem likeN_count (l : List Bool) (x : Bool) : likeN l.length (l.count true) x = l.count x := by
  have := count_both l
  cases x <;> simp [likeN]; omega
theorem likeN_rank (h : k ≤ l.length) : likeN k (rankL l k true) x = rankL l k x := by
  have := rankL_both h
  cases x <;> simp [likeN]; omega

theorem sel_ex : ∀ (x : Bool) (l : List Bool) (j : Nat), j < l.count x → ∃ k, k < l.length ∧ l[k]?.getD false = x ∧ rankL l k x = j
  | x, [], j, h => by simp at h
  | x, y :: l, j, h => by
    by_cases e : y = x
    · subst e
      cases j with
      | zero => exact ⟨0, by simp, by simp, by simp [rankL]⟩
      | succ j =>
        rw [List.count_cons_self] at h
        obtain ⟨k, h1, h2, h3⟩ := sel_ex y l j (by omega)
        exact ⟨k + 1, by simp; omega, by simpa using h2, by unfold rankL at *; rw [List.take_succ_cons, List.count_cons_self, h3]⟩
    · rw [List.count_cons_of_ne e] at h
      obtain ⟨k, h1, h2, h3⟩ := sel_ex x l j h
      exact ⟨k + 1, by simp; omega, by simpa using h2, by unfold rankL at *; rw [List.take_succ_cons, List.count_cons_of_ne e, h3]⟩
theorem selL_app_l (h : j < a.count x) : selL (a ++ b) j x = selL a j x := by
  obtain ⟨k, h1, h2, h3⟩ := sel_ex x a j h
  rw [selL_hit h1 h2 (by rw [h3]), selL_hit (l := a ++ b) (k := k) (by simp; omega) (by rw [List.getElem?_append_left h1]; exact h2) (by rw [rankL_app_l (by omega), h3])]
theorem selL_app_r (h : a.count x ≤ j) (h2 : j < (a ++ b).count x) : selL (a ++ b) j x = a.length + selL b ((j - a.count x : Nat) : Int) x := by
  rw [List.count_append] at h2
  obtain ⟨k, h1, h3, h4⟩ := sel_ex x b (j - a.count x) (by omega)
  rw [selL_hit h1 h3 (by rw [h4]), selL_hit (l := a ++ b) (k := a.length + k) (by simp; omega) (by rw [List.getElem?_append_right (by omega), Nat.add_sub_cancel_left]; exact h3)
    (by rw [rankL_app_r (by omega), Nat.add_sub_cancel_left, h4]; omega)]
  omega
end

end Go.Proofs.YtacoeohmdngnkaaGreatDoor

namespace Go.Proofs.YtacoeohmdngnkaaGreatDoor
set_option linter.unusedVariables false
set_option linter.unusedSimpArgs false

/-- A symbol's path of a level, its bit there (symbols below 512). -/
def pth (s l : Nat) : Nat := s / 2 ^ (9 - l)
def bitS (s l : Nat) : Bool := decide (s / 2 ^ (8 - l) % 2 = 1)
def bnum (b : Bool) : Nat := if b then 1 else 0
theorem pth_zero {s : Nat} (h : s < 512) : pth s 0 = 0 := by unfold pth; exact Nat.div_eq_of_lt (by simpa using h)
theorem pth_nine (s : Nat) : pth s 9 = s := by simp [pth]
theorem pth_succ {s l : Nat} (h : l < 9) : pth s (l + 1) = 2 * pth s l + bnum (bitS s l) := by
  unfold pth bitS bnum
  rw [show 9 - (l + 1) = 8 - l by omega, show 9 - l = (8 - l) + 1 by omega, Nat.pow_succ, ← Nat.div_div_eq_div_mul]
  generalize s / 2 ^ (8 - l) = y
  by_cases h1 : y % 2 = 1
  · simp [h1]; omega
  · simp [h1]; omega
theorem pth_lt {s l : Nat} (hs : s < 512) (h : l ≤ 9) : pth s l < 2 ^ l := by
  unfold pth
  rw [Nat.div_lt_iff_lt_mul (Nat.two_pow_pos _), ← Nat.pow_add, show l + (9 - l) = 9 by omega]
  exact hs
/-- The bits of a level's symbols with a path; how many of the first k have that path. -/
def lvl (L : List Nat) (l π : Nat) : List Bool := (L.filter (fun s => pth s l = π)).map (bitS · l)
def cntP (L : List Nat) (l π k : Nat) : Nat := ((L.take k).filter (fun s => pth s l = π)).length

theorem cntP_zero {L : List Nat} (hL : ∀ s ∈ L, s < 512) (k : Nat) (hk : k ≤ L.length) : cntP L 0 0 k = k := by
  unfold cntP
  rw [List.filter_eq_self.2 (fun s hs => by simpa using pth_zero (hL s (List.mem_of_mem_take hs))), List.length_take]
  omega
theorem lvl_take (L : List Nat) (l π k : Nat) : lvl (L.take k) l π = (lvl L l π).take (cntP L l π k) := by
  unfold lvl cntP
  rw [← List.map_take]
  congr 1
  have h : L.filter (fun s => pth s l = π) = (L.take k).filter (fun s => pth s l = π) ++ (L.drop k).filter (fun s => pth s l = π) := by
    rw [← List.filter_append, List.take_append_drop]
  rw [h, List.take_left]
theorem filt_next (L : List Nat) (l : Nat) (hl : l < 9) (π : Nat) (b : Bool) : ((L.filter (fun s => pth s l = π)).filter (fun s => bitS s l = b)) = L.filter (fun s => pth s (l + 1) = 2 * π + bnum b) := by
  rw [List.filter_filter]
  congr 1
  funext s
  rw [pth_succ hl]
  cases b <;> cases h : bitS s l <;> simp [bnum] <;> omega
theorem count_filt (L : List Nat) (l : Nat) (b : Bool) : (L.map (bitS · l)).count b = (L.filter (fun s => bitS s l = b)).length := by
  induction L with
  | nil => rfl
  | cons s L ih =>
    simp only [List.map_cons, List.count_cons, ih, List.filter_cons]
    by_cases h : bitS s l = b <;> simp [h]
/-- A rank in a level is a place in the next one. -/
theorem wrank_next (L : List Nat) {l : Nat} (hl : l < 9) (π k : Nat) (b : Bool) : rankL (lvl L l π) (cntP L l π k) b = cntP L (l + 1) (2 * π + bnum b) k := by
  unfold rankL
  rw [← lvl_take]
  unfold lvl
  rw [count_filt, filt_next _ _ hl]
  rfl
/-- How many of the first k are s. -/
def rankS (L : List Nat) (k s : Nat) : Nat := (L.take k).count s
theorem cntP_nine (L : List Nat) (s k : Nat) : cntP L 9 s k = rankS L k s := by
  unfold cntP rankS
  rw [List.count_eq_length_filter]
  congr 1
  congr 1
  funext x
  rw [pth_nine]
  by_cases h : x = s <;> simp [h]

/-- What stands at a place, by the level's list. -/
theorem lvl_at {L : List Nat} {k s : Nat} (hk : L[k]? = some s) (l : Nat) : cntP L l (pth s l) k < (lvl L l (pth s l)).length ∧ bitAt (lvl L l (pth s l)) (cntP L l (pth s l) k) = bitS s l := by
  have hlt := (List.getElem?_eq_some_iff.1 hk).1
  have hs : L[k] = s := by rw [List.getElem?_eq_getElem hlt] at hk; injection hk
  have hd : L = L.take k ++ s :: L.drop (k + 1) := by
    rw [← hs]; simp
  have hf : L.filter (fun x => pth x l = pth s l) = (L.take k).filter (fun x => pth x l = pth s l) ++ s :: (L.drop (k + 1)).filter (fun x => pth x l = pth s l) := by
    conv => lhs; rw [hd]
    rw [List.filter_append, List.filter_cons, if_pos (by simp)]
  unfold lvl cntP bitAt
  rw [hf]
  constructor
  · rw [List.length_map, List.length_append, List.length_cons]; omega
  · rw [List.map_append, List.getElem?_append_right (by rw [List.length_map]; omega)]
    simp
/-- A place in a level's list is told by the place in the next one. -/
theorem sel_next {L : List Nat} {k s : Nat} (hk : L[k]? = some s) {l : Nat} (hl : l < 9) : selL (lvl L l (pth s l)) ((cntP L (l + 1) (pth s (l + 1)) k : Nat) : Int) (bitS s l) = (cntP L l (pth s l) k : Nat) := by
  obtain ⟨h1, h2⟩ := lvl_at hk l
  refine selL_hit h1 h2 ?_
  rw [wrank_next L hl, pth_succ hl]

end Go.Proofs.YtacoeohmdngnkaaGreatDoor

namespace Go.Proofs.YtacoeohmdngnkaaGreatDoor
open Go.RowKit

theorem ret_bool {a b : Bool} (h : a = b) : Ending.returned (.bool a) = Ending.returned (.bool b) := by rw [h]
theorem ret_int {k : IntKind} {a b : Int} (h : a = b) : Ending.returned (.int k a) = Ending.returned (.int k b) := by rw [h]

/-- An own row that is not empty has an address, and its cells. -/
theorem own_some {w : World} {base : Nat} {e : TypeId} {v : Value} {n : Nat} {xs : List Value} (h : w.ownsRow base e 1 v n xs) (hn : 0 < n) :
    ∃ g cap, v = .slice (some ⟨g, 0, none⟩) n cap ∧ base ≤ g ∧ g < w.heap.size ∧ n ≤ cap ∧ cap ≤ maxLen ∧ (∀ j, j < n → w.cell? ⟨g, j, none⟩ = xs[j]?) ∧ (∀ j, w.frozen? ⟨g, j, none⟩ = false) := by
  obtain ⟨hl, hh⟩ := h
  rcases hh with ⟨_, h0⟩ | ⟨g, cap, cur, hv, hb, hg, hc, hm, hs, ht⟩
  · omega
  · refine ⟨g, cap, hv, hb, (Array.getElem?_eq_some_iff.1 hg).1, hc, hm, fun j hj => ?_, fun j => frozen_of_row w g j cur e hg⟩
    rw [cell_of_row w g j cur e (0, 0) hg, ← ht, List.getElem?_take, if_pos (by omega)]
    simp

theorem own_len {w : World} {base : Nat} {e : TypeId} {v : Value} {n : Nat} {xs : List Value} (h : w.ownsRow base e 1 v n xs) : xs.length = n := by
  have := h.1; omega

/-- Behind a step that keeps all blocks below B an own row below it is kept. -/
theorem own_below {w w' : World} {base B : Nat} {e : TypeId} {v : Value} {n : Nat} {xs : List Value} (h : w.ownsRow base e 1 v n xs) (hb : Below B w w') (hB : ∀ k, v.ownBlock = some k → k < B) : w'.ownsRow base e 1 v n xs := by
  refine ⟨h.1, ?_⟩
  rcases h.2 with hn | ⟨g, cap, cur, rfl, hbg, hg, rest⟩
  · exact .inl hn
  · exact .inr ⟨g, cap, cur, rfl, hbg, by rw [hb.block g (hB g rfl)]; exact hg, rest⟩

theorem own_mono {w : World} {base base' : Nat} {e : TypeId} {v : Value} {n : Nat} {xs : List Value} (h : w.ownsRow base e 1 v n xs) (hb : base' ≤ base) : w.ownsRow base' e 1 v n xs := by
  refine ⟨h.1, ?_⟩
  rcases h.2 with hn | ⟨g, cap, cur, rfl, hbg, rest⟩
  · exact .inl hn
  · exact .inr ⟨g, cap, cur, rfl, by omega, rest⟩

/-- 'l = append(l, x)': one element is pushed on a row of the call's own. -/
theorem wpList_push {P : Program} {w : World} {ops : Array Oper} {rest : List Oper} {o : Oper} {a : Act} {Q : Exit → Act → World → Prop} {e' : TypeId} {u : Value} (hgd : o.guard = none) (s x : Operand) (t : TypeId)
    (ho : o.op = .call { callee := .builtin .append, args := #[s, x], argTypes := #[t, t] })
    (base : Nat) (e : TypeId) {z : Value} {bytes : Nat} (hinfo : (P.info? e).map (fun i => (i.zero, i.size, i.bytes)) = some (some z, 1, bytes)) (ht : P.underlying t = some (.slice e)) (hz1 : z.cells.size = 1)
    (v : Value) (n : Nat) (xs : List Value) (hs : a.eval s = v) (hown : w.ownsRow base e 1 v n xs)
    (hx : a.eval x = .slice (some ⟨w.heap.size, 0, none⟩) 1 1) (h1 : u.oneCell' = true)
    (h63 : n + 1 ≤ maxLen) (hbytes : (n + 1) * bytes ≤ 140737488355328) (hbase : base ≤ w.heap.size)
    (h : ∀ v' w', w'.ownsRow base e 1 v' (n + 1) (xs ++ [u]) → w.grownBy w' v.ownBlock → wpList P ops Q rest (a.put o.dst v') w') : wpList P ops Q (o :: rest) a (w.alloc (.cells #[u] e')) := by
  obtain ⟨i, hi, hz, hsz, hby⟩ := info_parts hinfo
  refine wpList_append_own (w.alloc (.cells #[u] e')) hgd s x t ho base e i z 1 bytes ht hi hz hsz hby hz1 (by omega) v n xs hs (hown.alloc _) ⟨w.heap.size, 0, none⟩ 1 1 [u] hx rfl ?_ ?_ h63 hbytes ?_ ?_
  · intro j u' hj
    match j, hj with
    | 0, hj => simp at hj; subst hj; simp [Addr.add]
  · intro u' hu; simp at hu; subst hu; exact h1
  · simp; omega
  · intro v' w' h1 h2 _
    exact h v' w' h1 ⟨h2.os, h2.tape, h2.output, by have := h2.size; simp at this; omega, fun k hk hne => by
      rw [h2.block k (by simp; omega) hne]; exact Below.heap_alloc w _ k hk⟩

/-- A slice that is read: its length, and where its elements lie. -/
def Reads (w : World) (k : IntKind) (a : Option Addr) (xs : List Int) : Prop :=
  ∀ i, i < xs.length → ∃ b off, a = some ⟨b, off, none⟩ ∧ b < w.heap.size ∧ ∀ j, j < xs.length → w.cell? ⟨b, off + j, none⟩ = some (.int k (xs[j]?.getD 0))

theorem Reads.some {w : World} {k : IntKind} {a : Option Addr} {xs : List Int} (h : Reads w k a xs) (hn : 0 < xs.length) :
    ∃ b off, a = some ⟨b, off, none⟩ ∧ b < w.heap.size ∧ ∀ j, j < xs.length → w.cell? ⟨b, off + j, none⟩ = some (.int k (xs[j]?.getD 0)) := h 0 hn

theorem Reads.below {w w' : World} {k : IntKind} {a : Option Addr} {xs : List Int} (h : Reads w k a xs) (hb : Below w.heap.size w w') : Reads w' k a xs := by
  intro i hi
  obtain ⟨b, off, ha, hlt, hc⟩ := h i hi
  exact ⟨b, off, ha, by have := hb.size; omega, fun j hj => (hb.cell hlt).trans (hc j hj)⟩

theorem Reads.nil {w : World} {k : IntKind} {a : Option Addr} : Reads w k a [] := fun i hi => absurd hi (by simp)

theorem reads_one {w : World} {k : IntKind} {b off : Nat} {x : Int} (h : w.cell? ⟨b, off, none⟩ = some (.int k x)) : Reads w k (some ⟨b, off, none⟩) [x] := by
  intro i hi
  refine ⟨b, off, rfl, World.block_lt_of_cell? w _ h, fun j hj => ?_⟩
  obtain rfl : j = 0 := by simpa using hj
  exact h

/-- All numbers of a list are bytes. -/
def Bytes (xs : List Int) : Prop := ∀ i, i < xs.length → 0 ≤ xs[i]?.getD 0 ∧ xs[i]?.getD 0 < 256
theorem bytes_nil : Bytes [] := fun i hi => absurd hi (by simp)
/-- A row of integers that came in: it can be read, its numbers fit their kind, its length is bounded. -/
structure ArgI (k : IntKind) (w : World) (a : Option Addr) (cap : Nat) (xs : List Int) : Prop where
  reads : Reads w k a xs
  wf : ∀ i, i < xs.length → (Lit.int k (xs[i]?.getD 0)).wf = true
  le : xs.length ≤ cap
  max : cap ≤ maxLen
  nil : a = none → cap = 0

/-- An own row of ints is one that is read. -/
theorem own_reads {w : World} {base : Nat} {e : TypeId} {k : IntKind} {a : Option Addr} {n c : Nat} {xs : List Int} (h : w.ownsRow base e 1 (.slice a n c) n (xs.map (Value.int k))) : Reads w k a xs := by
  have hl := own_len h
  rw [List.length_map] at hl
  intro i hi
  obtain ⟨g, cap, hv, hb, hg, hc, hm, hcell, _⟩ := own_some h (by omega)
  injection hv with h1 h2 h3
  refine ⟨g, 0, h1, hg, fun j hj => ?_⟩
  rw [Nat.zero_add, hcell j (by omega), List.getElem?_map, List.getElem?_eq_getElem hj]
  rfl

end Go.Proofs.YtacoeohmdngnkaaGreatDoor

namespace Go.Proofs.YtacoeohmdngnkaaGreatDoor
set_option linter.unusedVariables false
set_option linter.unusedSimpArgs false
open Go.RowKit

theorem u64w {n : Int} (h0 : 0 ≤ n) (h1 : n < 18446744073709551616) : IntKind.u64.wrap n = n := by rw [IntKind.wrap_u64]; omega
theorem and_u64 (a b : Nat) (ha : a < 2 ^ 64) (hb : b < 2 ^ 64) : bits .and .u64 (a : Int) (b : Int) = ((a &&& b : Nat) : Int) := u64_and_nat a b ha hb
theorem st1_walk {x : Nat} (hx : x < 2 ^ 64) : IntKind.u64.wrap (bits .and .u64 ((x : Int) / 2) 6148914691236517205 + bits .and .u64 (x : Int) 6148914691236517205) = ((st1 8 x : Nat) : Int) ∧ st1 8 x < 2 ^ 64 := by
  have e1 := and_u64 (x / 2) 6148914691236517205 (by omega) (by omega)
  have e2 := and_u64 x 6148914691236517205 hx (by omega)
  have l1 : x / 2 &&& 6148914691236517205 ≤ 6148914691236517205 := Nat.and_le_right
  have l2 : x &&& 6148914691236517205 ≤ 6148914691236517205 := Nat.and_le_right
  have es : st1 8 x = (x / 2 &&& 6148914691236517205) + (x &&& 6148914691236517205) := rfl
  rw [es]
  rw [show ((x / 2 : Nat) : Int) = (x : Int) / 2 by omega] at e1
  rw [show ((6148914691236517205 : Nat) : Int) = 6148914691236517205 from rfl] at e1 e2
  rw [e1, e2]
  generalize (x / 2 &&& 6148914691236517205) = p at *
  generalize (x &&& 6148914691236517205) = q at *
  exact ⟨by rw [u64w (by omega) (by omega)]; omega, by omega⟩
theorem st2_walk {x : Nat} (hx : x < 2 ^ 64) : IntKind.u64.wrap (bits .and .u64 ((x : Int) / 4) 3689348814741910323 + bits .and .u64 (x : Int) 3689348814741910323) = ((st2 8 x : Nat) : Int) ∧ st2 8 x < 9223372036854775808 := by
  have e1 := and_u64 (x / 4) 3689348814741910323 (by omega) (by omega)
  have e2 := and_u64 x 3689348814741910323 hx (by omega)
  have l1 : x / 4 &&& 3689348814741910323 ≤ 3689348814741910323 := Nat.and_le_right
  have l2 : x &&& 3689348814741910323 ≤ 3689348814741910323 := Nat.and_le_right
  have es : st2 8 x = (x / 4 &&& 3689348814741910323) + (x &&& 3689348814741910323) := rfl
  rw [es]
  rw [show ((x / 4 : Nat) : Int) = (x : Int) / 4 by omega] at e1
  rw [show ((3689348814741910323 : Nat) : Int) = 3689348814741910323 from rfl] at e1 e2
  rw [e1, e2]
  generalize (x / 4 &&& 3689348814741910323) = p at *
  generalize (x &&& 3689348814741910323) = q at *
  exact ⟨by rw [u64w (by omega) (by omega)]; omega, by omega⟩
theorem st3_walk {x : Nat} (hx : x < 9223372036854775808) : bits .and .u64 (IntKind.u64.wrap ((x : Int) / 16 + (x : Int))) 1085102592571150095 = ((st3 8 x : Nat) : Int) := by
  rw [u64w (by omega) (by omega)]
  have e1 := and_u64 (x / 16 + x) 1085102592571150095 (by omega) (by omega)
  rw [show ((x / 16 + x : Nat) : Int) = (x : Int) / 16 + x by omega, show ((1085102592571150095 : Nat) : Int) = 1085102592571150095 from rfl] at e1
  rw [e1]
  rfl
theorem i64_and_nat (a b : Nat) (ha : a < 2 ^ 63) (hb : b < 2 ^ 63) : bits .and .i64 (a : Int) (b : Int) = ((a &&& b : Nat) : Int) := by
  have hx : a &&& b < 2 ^ 63 := Nat.and_lt_two_pow _ hb
  have h1 : (BitVec.ofInt 64 (a : Int)).toNat = a := by
    rw [BitVec.ofInt_natCast, BitVec.toNat_ofNat]; exact Nat.mod_eq_of_lt (by omega)
  have h2 : (BitVec.ofInt 64 (b : Int)).toNat = b := by
    rw [BitVec.ofInt_natCast, BitVec.toNat_ofNat]; exact Nat.mod_eq_of_lt (by omega)
  show IntKind.i64.wrap ((BitVec.ofInt 64 (a : Int) &&& BitVec.ofInt 64 (b : Int)).toNat : Int) = _
  rw [BitVec.toNat_and, h1, h2]
  exact IntWalk.i64_in _ (by omega)
theorem fold_walk {x t : Nat} (ht : t * 31 < 2 ^ 64) (h : fold8 t % 256 = pc x 64) :
    bits .and .i64 ((t : Int) + t / 256 + (t + t / 256) / 65536 + (t + t / 256 + (t + t / 256) / 65536) / 4294967296) 127 = ((pc x 64 : Nat) : Int) := by
  have e : ((t : Int) + t / 256 + (t + t / 256) / 65536 + (t + t / 256 + (t + t / 256) / 65536) / 4294967296) = ((fold8 t : Nat) : Int) := by
    simp [fold8]
  have hl : fold8 t < 2 ^ 63 := by unfold fold8; omega
  have h64 := pc_le x 64
  rw [e, show (127 : Int) = ((127 : Nat) : Int) from rfl, i64_and_nat _ _ hl (by omega), show (127 : Nat) = 2 ^ 7 - 1 from rfl, Nat.and_two_pow_sub_one_eq_mod]
  omega

/-- 'math/bits.OnesCount64', every x. -/
theorem ones_any (x : Nat) (w : World) (hx : x < 2 ^ 64) :
    Calls Tryz.prog 104 #[.int .u64 x] w fun e w' => e = .returned (.int .i64 (pc x 64)) ∧ w = w' := by
  have hx' : (x : Int) < 18446744073709551616 := by omega
  have hx0 : (0 : Int) ≤ x := by omega
  have k1 := st1_walk hx
  have k2 := st2_walk k1.2
  have k3 := st3_walk k2.2
  have k4 : fold8 (st3 8 (st2 8 (st1 8 x))) % 256 = pc x 64 := by rw [stages]; exact fold_tally x
  have k5 : st3 8 (st2 8 (st1 8 x)) * 31 < 2 ^ 64 := by rw [stages]; exact tally_lt 8 x
  have K1 := Lib.hid k1.1
  have K2 := Lib.hid k2.1
  have K3 := Lib.hid k3
  have K4 := Lib.hid k4
  clear k1 k2 k3 k4
  go_enter Tryz.func104, Tryz.ntmps104
  go_upto_region 1 with fail
  go_cut [0] (fun v wx => v = .int .u64 (st1 8 x) ∧ w = wx)
  case first =>
    go_wp2_with fail
    go_meet
    case rel => exact ⟨by rw [K1.out], rfl⟩
  case rest =>
  obtain ⟨rfl, rfl⟩ := hcut
  clear hx hx' hx0 K1
  generalize st1 8 x = y at *
  go_upto_region 2 with fail
  go_cut [0] (fun v wx => v = .int .u64 (st2 8 y) ∧ w = wx)
  case first =>
    go_wp2_with fail
    go_meet
    case rel => exact ⟨by rw [K2.out], rfl⟩
  case rest =>
  obtain ⟨rfl, rfl⟩ := hcut
  clear K2
  generalize st2 8 y = z at *
  go_upto_region 3 with fail
  go_cut [0] (fun v wx => v = .int .u64 (st3 8 z) ∧ w = wx)
  case first =>
    go_wp2_with fail
    go_meet
    case rel => exact ⟨by rw [K3.out], rfl⟩
  case rest =>
  obtain ⟨rfl, rfl⟩ := hcut
  clear K3
  generalize st3 8 z = t at *
  have KF := Lib.hid (fold_walk k5 K4.out)
  have t0 : (0 : Int) ≤ t := by omega
  have t1 : (t : Int) ≤ 595056260442243600 := by omega
  clear k5
  go_wp2_with fail
  go_ret
  exact ⟨ret_int KF.out, rfl⟩

/-- The library's table, as its initialiser lays it. -/
def BitTab (w : World) : Prop := TabAt 0 Lib.deBruijn64tab w
theorem BitTab.below {w w' : World} {B : Nat} (h : BitTab w) (hb : Below B w w') (hB : 0 < B) : BitTab w' := fun j hj => (hb.cell (p := ⟨0, j, none⟩) hB).trans (h j hj)
theorem BitTab.below' {w w' : World} (h : BitTab w) (hb : Below w.heap.size w w') : BitTab w' := h.below hb (World.block_lt_of_cell? w _ (h 0 (by decide)))
theorem BitTab.lt {w : World} (h : BitTab w) : 0 < w.heap.size := World.block_lt_of_cell? w _ (h 0 (by decide))

theorem tz_core (x k idx : Nat) (w : World) (hx0 : ((x : Int) == 0) = false)
    (key : IntKind.u64.wrap (bits BinOp.and IntKind.u64 (x : Int) (IntKind.u64.wrap (-(x : Int))) * 285870213051353865) / 288230376151711744 = (idx : Int))
    (hi : idx < 64) (hk : k < 64) (hcell : w.cell? ⟨0, idx, none⟩ = some (.int .u8 k)) :
    Calls Tryz.prog 105 #[.int .u64 x] w fun e w' => e = .returned (.int .i64 k) ∧ w = w' := by
  have KEY := Lib.hid key; clear key
  go_enter Tryz.func105, Tryz.ntmps105
  go_wp2_with (simp only [KEY.out])
  go_ret
  exact ⟨rfl, rfl⟩

/-- 'math/bits.TrailingZeros64', every x that is not 0. -/
theorem tz_any (x : Nat) (w : World) (hx : x < 2 ^ 64) (h0 : x ≠ 0) (hT : BitTab w) :
    Calls Tryz.prog 105 #[.int .u64 x] w fun e w' => e = .returned (.int .i64 (Lib.ctz 64 x)) ∧ w = w' := by
  obtain ⟨hlow, hk⟩ := Lib.lowest_bit 64 x h0 hx
  obtain ⟨hi, htab⟩ := Lib.deBruijn64_at _ hk
  have hcell := hT _ hi
  rw [htab] at hcell
  exact tz_core x _ _ w (by simp; omega) (tz64_key x _ hx h0 hlow) hi hk hcell

def pcs (ws : List Nat) : Nat := (ws.map fun x => pc x 64).sum
theorem pcs_take {ws : List Nat} {k : Nat} (h : k < ws.length) : pcs (ws.take (k + 1)) = pcs (ws.take k) + pc (ws[k]?.getD 0) 64 := by
  unfold pcs
  rw [List.take_add_one, List.getElem?_eq_getElem h, List.map_append, List.sum_append]
  simp [-List.map_take]
theorem pcs_le (ws : List Nat) : pcs ws ≤ 64 * ws.length := by
  induction ws with
  | nil => simp [pcs]
  | cons x l ih => have := pc_le x 64; simp only [pcs, List.map_cons, List.sum_cons, List.length_cons] at *; omega
def natI (n : Nat) : Int := n

theorem count_any (a : Option Addr) (c : Nat) (ws : List Nat) (w : World) (hr : Reads w .u64 a (ws.map natI)) (hw : ∀ x ∈ ws, x < 2 ^ 64) (hl : ws.length ≤ 1000000000000000) :
    Calls Tryz.prog 88 #[.slice a ws.length c] w fun e w' => e = .returned (.int .i64 (pcs ws)) ∧ w = w' := by
  go_enter Tryz.func88, Tryz.ntmps88
  go_wp2_with fail
  go_loop [3, 8] (fun n i => ∃ k : Nat, k ≤ ws.length ∧ i = .int .i64 k ∧ n = .int .i64 (pcs (ws.take k))) (fun _ i => ws.length - (intOf i).toNat)
  case atStart => exact ⟨0, Nat.zero_le _, rfl, rfl⟩
  case round =>
    obtain ⟨k, hk, rfl, rfl⟩ := hrel
    have hp := pcs_le (ws.take k)
    rw [List.length_take] at hp
    by_cases hlt : k < ws.length
    · obtain ⟨b, off, rfl, hbl, hcells⟩ := hr.some (by simpa using Nat.lt_of_le_of_lt (Nat.zero_le _) hlt)
      have hc := hcells k (by simpa using hlt)
      rw [List.getElem?_map, List.getElem?_eq_getElem hlt] at hc
      simp only [Option.map_some, Option.getD_some, natI] at hc
      have hx := hw _ (List.getElem_mem hlt)
      have hst := pcs_take hlt
      rw [List.getElem?_eq_getElem hlt, Option.getD_some] at hst
      have HST := Lib.hid hst
      generalize ws[k] = x at *
      have h64 := pc_le x 64
      clear hst hcells hr hw
      generalize pcs (ws.take k) = s at *
      go_wp2_with (go_at_call 104; refine (ones_any x _ hx).mono ?_; rintro e w' ⟨rfl, rfl⟩)
      go_round
      case rel => exact ⟨k + 1, by omega, by go_num, by rw [HST.out]; go_num⟩
      case measure => simp [intOf]; omega
    · have hkn : k = ws.length := by omega
      clear hr
      go_wp2_with fail
      go_ret
      exact ⟨rfl, rfl⟩

/-- One word that is counted. -/
theorem count_one (x : Nat) (w : World) (b off c : Nat) (hc : w.cell? ⟨b, off, none⟩ = some (.int .u64 x)) (hx : x < 2 ^ 64) :
    Calls Tryz.prog 88 #[.slice (some ⟨b, off, none⟩) 1 c] w fun e w' => e = .returned (.int .i64 (pc x 64)) ∧ w = w' := by
  have := count_any (some ⟨b, off, none⟩) c [x] w (reads_one hc) (by simpa using hx) (by simp)
  simpa [pcs] using this

/-- The first k bits of a word. -/
def lowW (w : Nat) (k : Int) : Nat := if 64 ≤ k then w else w % 2 ^ k.toNat
theorem lowW_lt {w : Nat} (h : w < 2 ^ 64) (k : Int) : lowW w k < 2 ^ 64 := by
  unfold lowW; split
  · exact h
  · exact Nat.lt_of_le_of_lt (Nat.mod_le _ _) h
theorem two_pow_lt {k : Nat} (h : k < 64) : (2 : Nat) ^ k ≤ 9223372036854775808 := Nat.pow_le_pow_right (n := 2) (i := k) (j := 63) (by omega) (by omega)
theorem int_two_pow (k : Nat) : (2 : Int) ^ k = ((2 ^ k : Nat) : Int) := by simp
theorem low_walk {x : Nat} {k : Int} (hx : x < 2 ^ 64) (h0 : 0 < k) (h1 : k < 64) : bits .and .u64 (x : Int) (IntKind.u64.wrap (IntKind.u64.wrap ((2 : Int) ^ k.toNat) - 1)) = ((lowW x k : Nat) : Int) := by
  have h2 := two_pow_lt (k := k.toNat) (by omega)
  have h3 := Nat.two_pow_pos k.toNat
  have e1 : IntKind.u64.wrap (((2 ^ k.toNat : Nat) : Int)) = ((2 ^ k.toNat : Nat) : Int) := u64w (by omega) (by omega)
  have e2 : IntKind.u64.wrap (((2 ^ k.toNat : Nat) : Int) - 1) = ((2 ^ k.toNat : Nat) : Int) - 1 := u64w (by omega) (by omega)
  rw [int_two_pow, e1, e2, show (((2 ^ k.toNat : Nat) : Int) - 1) = ((2 ^ k.toNat - 1 : Nat) : Int) by omega, and_u64 _ _ hx (by omega), Nat.and_two_pow_sub_one_eq_mod]
  unfold lowW; rw [if_neg (by omega)]
theorem pc_low {x : Nat} (hx : x < 2 ^ 64) (k : Int) : pc (lowW x k) 64 = pc x (min k.toNat 64) := by
  unfold lowW
  split
  · congr 1; omega
  · have e : min k.toNat 64 = k.toNat := by omega
    rw [e, pc_ge (Nat.mod_lt x (Nat.two_pow_pos k.toNat)) (by omega)]
    exact pc_congr (fun i hi => by rw [Nat.testBit_mod_two_pow]; simp [hi])
theorem low_any (x : Nat) (k : Int) (w : World) (hx : x < 2 ^ 64) :
    Calls Tryz.prog 112 #[.int .u64 x, .int .i64 k] w fun e w' => e = .returned (.int .u64 (lowW x k)) ∧ w = w' := by
  by_cases h0 : k ≤ 0
  · have hR : Hid ((0 : Int) = (lowW x k : Nat)) := by
      show _ = _
      have : k.toNat = 0 := by omega
      unfold lowW; rw [if_neg (by omega), this]; simp [Nat.mod_one]
    go_enter Tryz.func112, Tryz.ntmps112
    go_wp2_with fail
    go_ret
    exact ⟨ret_int hR.out, rfl⟩
  · by_cases h64 : 64 ≤ k
    · have hR : Hid ((x : Int) = (lowW x k : Nat)) := by
        show _ = _
        unfold lowW; rw [if_pos h64]
      go_enter Tryz.func112, Tryz.ntmps112
      go_wp2_with fail
      go_ret
      exact ⟨ret_int hR.out, rfl⟩
    · go_enter Tryz.func112, Tryz.ntmps112
      go_wp2_with fail
      go_ret
      exact ⟨ret_int (low_walk hx (by omega) (by omega)), rfl⟩

theorem rank_any (x : Nat) (k : Int) (w : World) (hx : x < 2 ^ 64) :
    Calls Tryz.prog 103 #[.int .u64 x, .int .i64 k] w fun e w' => e = .returned (.int .i64 (pc x (min k.toNat 64))) ∧ Below w.heap.size w w' := by
  have hl := lowW_lt hx k
  have hR := Lib.hid (pc_low hx k)
  go_enter Tryz.func103, Tryz.ntmps103
  go_wp2_with fail
  refine (low_any x k _ hx).mono ?_
  rintro e w' ⟨rfl, rfl⟩
  generalize lowW x k = y at *
  go_wp2_with fail
  refine (count_one y _ _ _ _ (by simp [go_sem]) hl).mono ?_
  rintro e w' ⟨rfl, rfl⟩
  go_wp2_with fail
  go_ret
  exact ⟨ret_int (by rw [hR.out]), (Below.refl _ _).alloc (Nat.le_refl _) _⟩

theorem select_any (x : Nat) (j : Int) (w : World) (hx : x < 2 ^ 64) (hT : BitTab w) :
    Calls Tryz.prog 89 #[.int .u64 x, .int .i64 j] w fun e w' => e = .returned (.int .i64 (sel x j)) ∧ Below w.heap.size w w' := by
  by_cases h0 : j < 0
  · have hR := Lib.hid (sel_none (w := x) (j := j) (Or.inl h0))
    go_enter Tryz.func89, Tryz.ntmps89
    go_wp2_with fail
    go_ret
    exact ⟨ret_int hR.out.symm, Below.refl _ _⟩
  · have hp := pc_le x 64
    by_cases h1 : j < (pc x 64 : Nat)
    · obtain ⟨n, rfl⟩ := Int.eq_ofNat_of_zero_le (show 0 ≤ j by omega)
      have hg0 := gone_zero hx
      have hn : n < pc x 64 := by omega
      have HN := Lib.hid hn
      have HX := Lib.hid hx
      have HT := Lib.hid hT
      have hm : (pc x 64 : Int) ≤ 64 := by omega
      clear hn hT
      go_enter Tryz.func89, Tryz.ntmps89
      go_wp2_with fail
      refine (count_one x _ _ _ _ (by simp [go_sem]) hx).mono ?_
      rintro e w' ⟨rfl, rfl⟩
      go_wp2_with fail
      have hT2 : BitTab (w.alloc (.cells #[.int .u64 x] 109)) := HT.out.below' ((Below.refl _ _).alloc (Nat.le_refl _) _)
      have hB2 : Below w.heap.size w (w.alloc (.cells #[.int .u64 x] 109)) := (Below.refl _ _).alloc (Nat.le_refl _) _
      generalize w.alloc (.cells #[.int .u64 x] 109) = w2 at *
      clear hx
      go_loop [0, 15] (fun v i => ∃ k y : Nat, k ≤ n ∧ i = .int .i64 k ∧ v = .int .u64 y ∧ Gone x k y) (fun _ i => n - (intOf i).toNat)
      case atStart => exact ⟨0, x, Nat.zero_le _, rfl, rfl, hg0⟩
      case round =>
        obtain ⟨k, y, hk, rfl, rfl, hg⟩ := hrel
        by_cases hlt : k < n
        · obtain ⟨c, _, hy0, _, _, _, _⟩ := gone_low HX.out hg (by have := HN.out; omega)
          have hs := gone_succ HX.out hg (by have := HN.out; omega)
          have hy := hg.1
          have ea : bits .and .u64 (y : Int) ((y : Int) - 1) = ((y &&& (y - 1) : Nat) : Int) := by
            rw [show (y : Int) - 1 = ((y - 1 : Nat) : Int) by omega]; exact and_u64 y (y - 1) hy (by omega)
          have HA := Lib.hid ea
          have HS := Lib.hid hs
          clear hg hs ea hg0 h1
          go_wp2_with fail
          go_round
          case rel => exact ⟨k + 1, y &&& (y - 1), by omega, by go_num, by rw [HA.out], HS.out⟩
          case measure => simp [intOf]; omega
        · obtain rfl : k = n := by omega
          have hn := HN.out
          have hy0 : y ≠ 0 := by obtain ⟨c, _, h, _⟩ := gone_low HX.out hg hn; exact h
          have hselout := Lib.hid (gone_sel HX.out hg hn)
          have hy := hg.1
          clear hg hn hg0 h1
          go_wp2_with fail
          refine (tz_any y _ hy hy0 hT2).mono ?_
          rintro e w' ⟨rfl, rfl⟩
          go_wp2_with fail
          go_ret
          exact ⟨ret_int hselout.out, hB2⟩
    · have hR := Lib.hid (sel_none (w := x) (j := j) (Or.inr (by omega)))
      have hm : (pc x 64 : Int) ≤ 64 := by omega
      go_enter Tryz.func89, Tryz.ntmps89
      go_wp2_with fail
      refine (count_one x _ _ _ _ (by simp [go_sem]) hx).mono ?_
      rintro e w' ⟨rfl, rfl⟩
      go_wp2_with fail
      go_ret
      exact ⟨ret_int hR.out.symm, (Below.refl _ _).alloc (Nat.le_refl _) _⟩

theorem or_u64 (a b : Nat) (ha : a < 2 ^ 64) (hb : b < 2 ^ 64) : bits .or .u64 (a : Int) (b : Int) = ((a ||| b : Nat) : Int) := u64_or_nat a b ha hb
theorem bitk_walk {x k : Nat} (hx : x < 2 ^ 64) (hk : k < 64) : (bits .and .u64 ((x : Int) / 2 ^ k) 1 == 1) = x.testBit k := by
  rw [show ((x : Int) / 2 ^ k) = ((x / 2 ^ k : Nat) : Int) by simp, show (1 : Int) = ((1 : Nat) : Int) from rfl, and_u64 _ _ (Nat.lt_of_le_of_lt (Nat.div_le_self _ _) hx) (by omega), ← some_bit x k, Bool.eq_iff_iff]
  simp only [beq_iff_eq, decide_eq_true_eq]
  omega
end Go.Proofs.YtacoeohmdngnkaaGreatDoor

namespace Go.Proofs.YtacoeohmdngnkaaGreatDoor
set_option linter.unusedVariables false
set_option linter.unusedSimpArgs false
open Go.RowKit

theorem rank_lit {X K Y : Int} (x : Nat) (w : World) (hx : x < 2 ^ 64) (eX : X = (x : Int)) (eY : ((pc x (min K.toNat 64) : Nat) : Int) = Y) :
    Calls Tryz.prog 103 #[.int .u64 X, .int .i64 K] w fun e w' => e = .returned (.int .i64 Y) ∧ Below w.heap.size w w' := by
  subst eX eY; exact rank_any x K w hx
theorem select_lit {X K Y : Int} (x : Nat) (w : World) (hx : x < 2 ^ 64) (hT : BitTab w) (eX : X = (x : Int)) (eY : sel x K = Y) :
    Calls Tryz.prog 89 #[.int .u64 X, .int .i64 K] w fun e w' => e = .returned (.int .i64 Y) ∧ Below w.heap.size w w' := by
  subst eX eY; exact select_any x K w hx hT
theorem count_lit {a : Option Addr} {n c : Nat} {Y : Int} (ws : List Nat) (w : World) (hn : n = ws.length) (hr : Reads w .u64 a (ws.map natI)) (hw : ∀ x ∈ ws, x < 2 ^ 64) (hl : ws.length ≤ 1000000000000000) (eY : (pcs ws : Int) = Y) :
    Calls Tryz.prog 88 #[.slice a n c] w fun e w' => e = .returned (.int .i64 Y) ∧ w = w' := by
  subst hn eY; exact count_any a c ws w hr hw hl
theorem below_alloc (w : World) (o : Obj) : Below w.heap.size w (w.alloc o) := (Below.refl _ _).alloc (Nat.le_refl _) _

theorem not_u64 {x : Nat} (hx : x < 2 ^ 64) : bits .xor .u64 18446744073709551615 (x : Int) = ((notW x : Nat) : Int) := by
  have h := u64_xor_nat 18446744073709551615 x (by omega) hx
  rw [show ((18446744073709551615 : Nat) : Int) = 18446744073709551615 from rfl] at h
  rw [h]
  congr 1
  refine word_ext (n := 64) (Nat.xor_lt_two_pow (by omega) hx) (notW_lt x) (fun i hi => ?_)
  rw [Nat.testBit_xor, notW_bit hx hi, show (18446744073709551615 : Nat) = 2 ^ 64 - 1 from rfl, Nat.testBit_two_pow_sub_one]
  simp [hi]

theorem not_run {x : Nat} (hx : x < 2 ^ 64) : Op.unary .xor (.int .u64 (x : Int)) = pure (.int .u64 ((notW x : Nat) : Int)) := by
  have h : Op.unary .xor (.int .u64 (x : Int)) = pure (.int .u64 (bits .xor .u64 IntKind.u64.max (x : Int))) := rfl
  rw [h, show IntKind.u64.max = 18446744073709551615 by decide, not_u64 hx]

end Go.Proofs.YtacoeohmdngnkaaGreatDoor
