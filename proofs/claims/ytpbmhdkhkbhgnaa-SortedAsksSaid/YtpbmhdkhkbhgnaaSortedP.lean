/- Plain lemmas on suffixes of a list of symbols: their order by the first w symbols, ranks, rows. -/
import Derived.Below
namespace Go.Proofs.Ytpbmhdkhkbhgnaa
set_option linter.unusedVariables false
set_option linter.unusedSimpArgs false

/-- The symbol at a place; -1 beyond the end. -/
def sy (l : List Int) (i : Nat) : Int := l[i]?.getD (-1)
theorem sy_in {l : List Int} {i : Nat} (h : i < l.length) : sy l i = l[i] := by simp [sy, h]
theorem sy_over {l : List Int} {i : Nat} (h : l.length ≤ i) : sy l i = -1 := by simp [sy, h]

def eqK (l : List Int) (w a b : Nat) : Prop := ∀ d, d < w → sy l (a + d) = sy l (b + d)
def ltK (l : List Int) (w a b : Nat) : Prop := ∃ d, d < w ∧ eqK l d a b ∧ sy l (a + d) < sy l (b + d)

section
variable {l : List Int} {w v a b c : Nat}
theorem eqK.refl : eqK l w a a := fun _ _ => rfl
theorem eqK.symm (h : eqK l w a b) : eqK l w b a := fun d hd => (h d hd).symm
theorem eqK.trans (h : eqK l w a b) (k : eqK l w b c) : eqK l w a c := fun d hd => (h d hd).trans (k d hd)
theorem eqK.mono (h : eqK l w a b) (hv : v ≤ w) : eqK l v a b := fun d hd => h d (by omega)
theorem eqK_add : eqK l (w + v) a b ↔ eqK l w a b ∧ eqK l v (a + w) (b + w) := by
  constructor
  · intro h
    exact ⟨h.mono (by omega), fun d hd => by have := h (w + d) (by omega); rwa [← Nat.add_assoc, ← Nat.add_assoc] at this⟩
  · rintro ⟨h, k⟩ d hd
    by_cases hw : d < w
    · exact h d hw
    · obtain ⟨e, rfl⟩ := Nat.exists_eq_add_of_le (show w ≤ d by omega)
      have := k e (by omega)
      rwa [Nat.add_assoc, Nat.add_assoc] at this
theorem ltK_add : ltK l (w + v) a b ↔ ltK l w a b ∨ (eqK l w a b ∧ ltK l v (a + w) (b + w)) := by
  constructor
  · rintro ⟨d, hd, he, hlt⟩
    by_cases hw : d < w
    · exact Or.inl ⟨d, hw, he, hlt⟩
    · obtain ⟨e, rfl⟩ := Nat.exists_eq_add_of_le (show w ≤ d by omega)
      obtain ⟨h1, h2⟩ := eqK_add.1 he
      exact Or.inr ⟨h1, e, by omega, h2, by rwa [Nat.add_assoc, Nat.add_assoc]⟩
  · rintro (⟨d, hd, he, hlt⟩ | ⟨he, d, hd, h2, hlt⟩)
    · exact ⟨d, by omega, he, hlt⟩
    · exact ⟨w + d, by omega, eqK_add.2 ⟨he, h2⟩, by rwa [Nat.add_assoc, Nat.add_assoc] at hlt⟩
theorem ltK_not_eq (h : ltK l w a b) : ¬ eqK l w a b := by
  obtain ⟨d, hd, _, hlt⟩ := h
  intro he
  have := he d hd
  omega
theorem ltK_tri (l : List Int) (w a b : Nat) : ltK l w a b ∨ eqK l w a b ∨ ltK l w b a := by
  induction w with
  | zero => exact Or.inr (Or.inl (fun d hd => by omega))
  | succ w ih =>
    rcases ih with h | h | h
    · exact Or.inl (ltK_add.2 (Or.inl h))
    · rcases Int.lt_trichotomy (sy l (a + w)) (sy l (b + w)) with k | k | k
      · exact Or.inl ⟨w, by omega, h, k⟩
      · refine Or.inr (Or.inl (eqK_add.2 ⟨h, fun d hd => ?_⟩))
        obtain rfl : d = 0 := by omega
        simpa using k
      · exact Or.inr (Or.inr ⟨w, by omega, h.symm, k⟩)
    · exact Or.inr (Or.inr (ltK_add.2 (Or.inl h)))
theorem ltK_trans (h : ltK l w a b) (k : ltK l w b c) : ltK l w a c := by
  obtain ⟨d, hd, he, hlt⟩ := h
  obtain ⟨e, hE, hf, hlt2⟩ := k
  rcases Nat.lt_trichotomy d e with hc | hc | hc
  · exact ⟨d, hd, he.trans (hf.mono (by omega)), by have := hf d hc; omega⟩
  · subst hc; exact ⟨d, hd, he.trans hf, by omega⟩
  · exact ⟨e, hE, (he.mono (by omega)).trans hf, by have := he e hc; omega⟩
theorem ltK_irrefl : ¬ ltK l w a a := fun h => ltK_not_eq h eqK.refl
theorem ltK_asymm (h : ltK l w a b) : ¬ ltK l w b a := fun k => ltK_irrefl (ltK_trans h k)
theorem ltK_eq (h : ltK l w a b) (k : eqK l w b c) : ltK l w a c := by
  obtain ⟨d, hd, he, hlt⟩ := h
  exact ⟨d, hd, he.trans (k.mono (by omega)), by have := k d hd; omega⟩
theorem eq_ltK (k : eqK l w a b) (h : ltK l w b c) : ltK l w a c := by
  obtain ⟨d, hd, he, hlt⟩ := h
  exact ⟨d, hd, (k.mono (by omega)).trans he, by have := k d hd; omega⟩
theorem ltK.mono (h : ltK l w a b) (hv : w ≤ v) : ltK l v a b := by
  obtain ⟨d, hd, he, hlt⟩ := h
  exact ⟨d, by omega, he, hlt⟩
end

/-- The suffix from a on goes ahead of the one from b on. -/
def sufLt (l : List Int) (a b : Nat) : Prop := ∃ w, ltK l w a b
section
variable {l : List Int} {a b c : Nat}
theorem sufLt.trans (h : sufLt l a b) (k : sufLt l b c) : sufLt l a c := by
  obtain ⟨w, h⟩ := h
  obtain ⟨v, k⟩ := k
  exact ⟨max w v, ltK_trans (h.mono (by omega)) (k.mono (by omega))⟩
theorem sufLt.irrefl : ¬ sufLt l a a := fun ⟨w, h⟩ => ltK_irrefl h
theorem sufLt.asymm (h : sufLt l a b) : ¬ sufLt l b a := fun k => sufLt.irrefl (h.trans k)
theorem sufLt.ne (h : sufLt l a b) : a ≠ b := fun e => by subst e; exact sufLt.irrefl h
end

/-- All are at least 0. -/
def Nn (l : List Int) : Prop := ∀ i, i < l.length → 0 ≤ sy l i
theorem eqK_far {l : List Int} (hn : Nn l) {w a b : Nat} (ha : a < b) (hb : b ≤ l.length) (hw : l.length - b < w) : ¬ eqK l w a b := by
  intro h
  have h1 := h (l.length - b) hw
  rw [sy_over (i := b + (l.length - b)) (by omega)] at h1
  have := hn (a + (l.length - b)) (by omega)
  omega
theorem suf_tri {l : List Int} (hn : Nn l) {a b : Nat} (ha : a ≤ l.length) (hb : b ≤ l.length) (hne : a ≠ b) : sufLt l a b ∨ sufLt l b a := by
  rcases ltK_tri l (l.length + 1) a b with h | h | h
  · exact Or.inl ⟨_, h⟩
  · rcases Nat.lt_or_gt_of_ne hne with k | k
    · exact absurd h (eqK_far hn k hb (by omega))
    · exact absurd h.symm (eqK_far hn k ha (by omega))
  · exact Or.inr ⟨_, h⟩
/-- By their first symbols. -/
theorem suf_cons {l : List Int} {a b : Nat} : sufLt l a b ↔ sy l a < sy l b ∨ (sy l a = sy l b ∧ sufLt l (a + 1) (b + 1)) := by
  constructor
  · rintro ⟨w, h⟩
    rcases Nat.eq_zero_or_pos w with rfl | hw
    · obtain ⟨d, hd, _⟩ := h; omega
    · obtain ⟨v, rfl⟩ := Nat.exists_eq_add_of_le (show 1 ≤ w by omega)
      rcases ltK_add.1 h with ⟨d, hd, _, hlt⟩ | ⟨he, h2⟩
      · obtain rfl : d = 0 := by omega
        exact Or.inl (by simpa using hlt)
      · exact Or.inr ⟨by simpa using he 0 (by omega), _, h2⟩
  · rintro (h | ⟨h, w, h2⟩)
    · exact ⟨1, 0, by omega, fun d hd => by omega, by simpa using h⟩
    · refine ⟨1 + w, ltK_add.2 (Or.inr ⟨fun d hd => ?_, h2⟩)⟩
      obtain rfl : d = 0 := by omega
      simpa using h

/-- Ranks by the first w symbols. -/
structure RankOf (l : List Int) (w : Nat) (rk : List Int) : Prop where
  len : rk.length = l.length
  nn : Nn rk
  lt : ∀ a b, sy rk a < sy rk b ↔ ltK l w a b
  eq : ∀ a b, sy rk a = sy rk b ↔ eqK l w a b
theorem rankOf_one {l : List Int} (hn : Nn l) : RankOf l 1 l := by
  refine ⟨rfl, hn, fun a b => ⟨fun h => ⟨0, by omega, fun d hd => by omega, by simpa using h⟩, fun ⟨d, hd, _, h⟩ => ?_⟩, fun a b => ⟨fun h d hd => ?_, fun h => by simpa using h 0 (by omega)⟩⟩
  · obtain rfl : d = 0 := by omega
    simpa using h
  · obtain rfl : d = 0 := by omega
    simpa using h

/-- What order tells of two places. -/
def ordV (rk : List Int) (w a b : Nat) : Int := if sy rk a = sy rk b then sy rk (a + w) - sy rk (b + w) else sy rk a - sy rk b
theorem ordV_lt {l rk : List Int} {w : Nat} (h : RankOf l w rk) (a b : Nat) : ordV rk w a b < 0 ↔ ltK l (w + w) a b := by
  unfold ordV
  rw [ltK_add, ← h.lt, ← h.lt, ← h.eq]
  split
  · rename_i e; constructor
    · intro k; exact Or.inr ⟨e, by omega⟩
    · rintro (k | ⟨_, k⟩) <;> omega
  · rename_i e; constructor
    · intro k; exact Or.inl (by omega)
    · rintro (k | ⟨k, _⟩)
      · omega
      · exact absurd k e
theorem ordV_eq {l rk : List Int} {w : Nat} (h : RankOf l w rk) (a b : Nat) : ordV rk w a b = 0 ↔ eqK l (w + w) a b := by
  unfold ordV
  rw [eqK_add, ← h.eq, ← h.eq]
  split
  · rename_i e; constructor
    · intro k; exact ⟨e, by omega⟩
    · rintro ⟨_, k⟩; omega
  · rename_i e; constructor
    · intro k; omega
    · rintro ⟨k, _⟩; exact absurd k e

/-- Rows in the order of the first w symbols. -/
def SortedK (l : List Int) (w : Nat) (r : List Nat) : Prop := r.Perm (List.range l.length) ∧ r.Pairwise (fun a b => ¬ ltK l w b a)
/-- How many strict steps there are up to place i. -/
def cntR (rk : List Int) (w : Nat) (r : List Nat) : Nat → Nat
  | 0 => 0
  | i + 1 => cntR rk w r i + (if ordV rk w (r[i]?.getD 0) (r[i + 1]?.getD 0) = 0 then 0 else 1)
theorem cntR_le (rk : List Int) (w : Nat) (r : List Nat) : ∀ i, cntR rk w r i ≤ i
  | 0 => Nat.le_refl _
  | i + 1 => by have := cntR_le rk w r i; unfold cntR; split <;> omega
theorem cntR_mono (rk : List Int) (w : Nat) (r : List Nat) {i j : Nat} (h : i ≤ j) : cntR rk w r i ≤ cntR rk w r j := by
  induction j with
  | zero => obtain rfl : i = 0 := by omega
            exact Nat.le_refl _
  | succ j ih =>
    rcases Nat.lt_or_ge j i with k | k
    · obtain rfl : i = j + 1 := by omega
      exact Nat.le_refl _
    · refine Nat.le_trans (ih k) ?_
      show cntR rk w r j ≤ cntR rk w r j + _
      omega

section
variable {l rk : List Int} {w : Nat} {r : List Nat}
theorem getD_eq {α : Type} {l : List α} {i : Nat} {d : α} (h : i < l.length) : l[i]?.getD d = l[i] := by simp [h]
theorem srt_le (hs : SortedK l w r) {i j : Nat} (hij : i ≤ j) (hj : j < r.length) : ¬ ltK l w (r[j]?.getD 0) (r[i]?.getD 0) := by
  rcases Nat.lt_or_ge i j with h | h
  · rw [getD_eq (show i < r.length by omega), getD_eq hj]
    exact List.pairwise_iff_getElem.1 hs.2 i j (by omega) hj h
  · obtain rfl : i = j := by omega
    exact ltK_irrefl
theorem cnt_lt (h : RankOf l w rk) (hs : SortedK l (w + w) r) {i j : Nat} (hij : i ≤ j) (hj : j < r.length) :
    (cntR rk w r i < cntR rk w r j ↔ ltK l (w + w) (r[i]?.getD 0) (r[j]?.getD 0)) ∧ (cntR rk w r i = cntR rk w r j ↔ eqK l (w + w) (r[i]?.getD 0) (r[j]?.getD 0)) := by
  induction j with
  | zero =>
    obtain rfl : i = 0 := by omega
    exact ⟨⟨fun h => by omega, fun h => absurd h ltK_irrefl⟩, ⟨fun _ => eqK.refl, fun _ => rfl⟩⟩
  | succ j ih =>
    rcases Nat.lt_or_ge j i with k | k
    · obtain rfl : i = j + 1 := by omega
      exact ⟨⟨fun h => by omega, fun h => absurd h ltK_irrefl⟩, ⟨fun _ => eqK.refl, fun _ => rfl⟩⟩
    · obtain ⟨i1, i2⟩ := ih k (by omega)
      have hm := cntR_mono rk w r k
      have hle := srt_le hs (show j ≤ j + 1 by omega) hj
      have hle2 := srt_le hs k (by omega)
      have ho := ordV_eq h (r[j]?.getD 0) (r[j + 1]?.getD 0)
      have hex : cntR rk w r (j + 1) = cntR rk w r j + (if ordV rk w (r[j]?.getD 0) (r[j + 1]?.getD 0) = 0 then 0 else 1) := rfl
      by_cases e : ordV rk w (r[j]?.getD 0) (r[j + 1]?.getD 0) = 0
      · rw [if_pos e] at hex
        have hq := ho.1 e
        rw [hex, Nat.add_zero, i1, i2]
        exact ⟨⟨fun h => ltK_eq h hq, fun h => ltK_eq h hq.symm⟩, ⟨fun h => h.trans hq, fun h => h.trans hq.symm⟩⟩
      · rw [if_neg e] at hex
        have hne : ¬ eqK l (w + w) (r[j]?.getD 0) (r[j + 1]?.getD 0) := fun q => e (ho.2 q)
        have hlt : ltK l (w + w) (r[j]?.getD 0) (r[j + 1]?.getD 0) := by
          rcases ltK_tri l (w + w) (r[j]?.getD 0) (r[j + 1]?.getD 0) with q | q | q
          · exact q
          · exact absurd q hne
          · exact absurd q hle
        have hall : ltK l (w + w) (r[i]?.getD 0) (r[j + 1]?.getD 0) := by
          rcases ltK_tri l (w + w) (r[i]?.getD 0) (r[j]?.getD 0) with q | q | q
          · exact ltK_trans q hlt
          · exact eq_ltK q hlt
          · exact absurd q hle2
        exact ⟨⟨fun _ => hall, fun _ => by omega⟩, ⟨fun h => by omega, fun q => absurd q (ltK_not_eq hall)⟩⟩

/-- The next ranks. -/
theorem rank_next {nx : List Int} (h : RankOf l w rk) (hw : 0 < w) (hn : Nn l) (hs : SortedK l (w + w) r) (hl : nx.length = l.length) (hx : ∀ i, i < r.length → sy nx (r[i]?.getD 0) = (cntR rk w r i : Int)) : RankOf l (w + w) nx := by
  have hrl : r.length = l.length := by have := hs.1.length_eq; simpa using this
  have hfind : ∀ a, a < l.length → ∃ i, i < r.length ∧ r[i]?.getD 0 = a := by
    intro a ha
    have : a ∈ r := hs.1.mem_iff.2 (List.mem_range.2 ha)
    obtain ⟨i, hi, e⟩ := List.getElem_of_mem this
    exact ⟨i, hi, by rw [getD_eq hi, e]⟩
  have hnn : Nn nx := by
    intro a ha
    obtain ⟨i, hi, rfl⟩ := hfind a (by omega)
    rw [hx i hi]; omega
  have hkey : ∀ a b, a < l.length → b < l.length → (sy nx a < sy nx b ↔ ltK l (w + w) a b) ∧ (sy nx a = sy nx b ↔ eqK l (w + w) a b) := by
    intro a b ha hb
    obtain ⟨i, hi, rfl⟩ := hfind a ha
    obtain ⟨j, hj, rfl⟩ := hfind b hb
    rw [hx i hi, hx j hj]
    rcases Nat.le_total i j with k | k
    · obtain ⟨h1, h2⟩ := cnt_lt h hs k hj
      have hm := cntR_mono rk w r k
      exact ⟨⟨fun q => h1.1 (by omega), fun q => by have := h1.2 q; omega⟩, ⟨fun q => h2.1 (by omega), fun q => by have := h2.2 q; omega⟩⟩
    · obtain ⟨h1, h2⟩ := cnt_lt h hs k hi
      have hm := cntR_mono rk w r k
      exact ⟨⟨fun q => by omega, fun q => absurd q (srt_le hs k hi)⟩, ⟨fun q => (h2.1 (by omega)).symm, fun q => by have := h2.2 q.symm; omega⟩⟩
  have h0 : ∀ a b, l.length ≤ a → b < l.length → ltK l (w + w) a b := fun a b ha hb => ⟨0, by omega, fun d hd => by omega, by rw [sy_over (by omega)]; have := hn b hb; simpa using by omega⟩
  have h1 : ∀ a b, l.length ≤ a → l.length ≤ b → eqK l (w + w) a b := fun a b ha hb d hd => by rw [sy_over (by omega), sy_over (by omega)]
  refine ⟨hl, hnn, fun a b => ?_, fun a b => ?_⟩
  · by_cases ha : a < l.length <;> by_cases hb : b < l.length
    · exact (hkey a b ha hb).1
    · have := hnn a (by omega)
      rw [sy_over (i := b) (by omega)]
      exact ⟨fun q => by omega, fun q => absurd q (ltK_asymm (h0 b a (by omega) ha))⟩
    · have := hnn b (by omega)
      rw [sy_over (i := a) (by omega)]
      exact ⟨fun _ => h0 a b (by omega) hb, fun _ => by omega⟩
    · rw [sy_over (i := a) (by omega), sy_over (i := b) (by omega)]
      exact ⟨fun q => by omega, fun q => absurd (h1 a b (by omega) (by omega)) (ltK_not_eq q)⟩
  · by_cases ha : a < l.length <;> by_cases hb : b < l.length
    · exact (hkey a b ha hb).2
    · have := hnn a (by omega)
      rw [sy_over (i := b) (by omega)]
      exact ⟨fun q => by omega, fun q => absurd q.symm (ltK_not_eq (h0 b a (by omega) ha))⟩
    · have := hnn b (by omega)
      rw [sy_over (i := a) (by omega)]
      exact ⟨fun q => by omega, fun q => absurd q (ltK_not_eq (h0 a b (by omega) hb))⟩
    · rw [sy_over (i := a) (by omega), sy_over (i := b) (by omega)]
      exact ⟨fun _ => h1 a b (by omega) (by omega), fun _ => rfl⟩
end

/-- The rows of a text's symbols: all places, sorted. -/
def IsRows (l : List Int) (r : List Nat) : Prop := r.Perm (List.range l.length) ∧ r.Pairwise (sufLt l)
theorem IsRows.len {l : List Int} {r : List Nat} (h : IsRows l r) : r.length = l.length := by have := h.1.length_eq; simpa using this
theorem IsRows.lt {l : List Int} {r : List Nat} (h : IsRows l r) {i : Nat} (hi : i < r.length) : r[i] < l.length := List.mem_range.1 (h.1.mem_iff.1 (List.getElem_mem hi))
theorem IsRows.nodup {l : List Int} {r : List Nat} (h : IsRows l r) : r.Nodup := h.1.nodup_iff.2 List.nodup_range
theorem IsRows.find {l : List Int} {r : List Nat} (h : IsRows l r) {a : Nat} (ha : a < l.length) : ∃ i, ∃ hi : i < r.length, r[i] = a :=
  List.getElem_of_mem (h.1.mem_iff.2 (List.mem_range.2 ha))
/-- A list that is sorted strictly is told by what stands in it. -/
theorem sorted_unique {R : Nat → Nat → Prop} (has : ∀ a b, R a b → ¬ R b a) : ∀ {r s : List Nat}, r.Perm s → r.Pairwise R → s.Pairwise R → r = s
  | [], s, hp, _, _ => by have := hp.length_eq; exact (List.eq_nil_of_length_eq_zero (by simpa using this.symm)).symm
  | a :: r, [], hp, _, _ => by have := hp.length_eq; simp at this
  | a :: r, b :: s, hp, h1, h2 => by
    have hab : a = b := by
      have ha : a ∈ b :: s := hp.mem_iff.1 (List.mem_cons_self)
      have hb : b ∈ a :: r := hp.mem_iff.2 (List.mem_cons_self)
      rcases List.mem_cons.1 ha with e | e
      · exact e
      · rcases List.mem_cons.1 hb with e2 | e2
        · exact e2.symm
        · exact absurd (List.rel_of_pairwise_cons h1 e2) (has _ _ (List.rel_of_pairwise_cons h2 e))
    subst hab
    rw [sorted_unique has (List.Perm.cons_inv hp) (List.Pairwise.of_cons h1) (List.Pairwise.of_cons h2)]
theorem rows_unique {l : List Int} {r s : List Nat} (h : IsRows l r) (k : IsRows l s) : r = s :=
  sorted_unique (fun _ _ h => h.asymm) (h.1.trans k.1.symm) h.2 k.2
/-- All strict: these are the rows. -/
theorem rows_done {l rk : List Int} {w : Nat} {r : List Nat} (h : RankOf l w rk) (hs : SortedK l (w + w) r) (hc : cntR rk w r (r.length - 1) = r.length - 1) : IsRows l r := by
  refine ⟨hs.1, List.pairwise_iff_getElem.2 (fun i j hi hj hij => ?_)⟩
  have hstep : ∀ n, n ≤ r.length - 1 → cntR rk w r n = n := by
    intro n hn
    have : ∀ m, n + m = r.length - 1 → cntR rk w r n + m ≥ r.length - 1 := by
      intro m hm
      rw [← hm] at hc ⊢
      have hb : ∀ k, cntR rk w r (n + k) ≤ cntR rk w r n + k := by
        intro k
        induction k with
        | zero => exact Nat.le_refl _
        | succ k ih => rw [← Nat.add_assoc]; show cntR rk w r (n + k) + _ ≤ _; split <;> omega
      have := hb m
      omega
    have h1 := this (r.length - 1 - n) (by omega)
    have h2 := cntR_le rk w r n
    omega
  have := (cnt_lt h hs (show i ≤ j by omega) hj).1.1 (by rw [hstep i (by omega), hstep j (by omega)]; exact hij)
  rw [getD_eq hi, getD_eq hj] at this
  exact ⟨_, this⟩
/-- Not all strict: the symbols do not reach so far. -/
theorem rows_more {l rk : List Int} {w : Nat} {r : List Nat} (hn : Nn l) (h : RankOf l w rk) (hs : SortedK l (w + w) r) (hc : cntR rk w r (r.length - 1) ≠ r.length - 1) : w + w < l.length := by
  have hrl : r.length = l.length := by have := hs.1.length_eq; simpa using this
  rcases Nat.lt_or_ge (w + w) l.length with k | k
  · exact k
  · exfalso
    apply hc
    have : ∀ n, n ≤ r.length - 1 → cntR rk w r n = n := by
      intro n
      induction n with
      | zero => intro _; rfl
      | succ n ih =>
        intro hn'
        have hi := ih (by omega)
        show cntR rk w r n + _ = _
        have h1 : n < r.length := by omega
        have h2 : n + 1 < r.length := by omega
        rw [if_neg, hi]
        intro e
        have he := (ordV_eq h _ _).1 e
        rw [getD_eq h1, getD_eq h2] at he
        have l1 : r[n] < l.length := List.mem_range.1 (hs.1.mem_iff.1 (List.getElem_mem h1))
        have l2 : r[n + 1] < l.length := List.mem_range.1 (hs.1.mem_iff.1 (List.getElem_mem h2))
        have hne : r[n] ≠ r[n + 1] := fun e => by
          have hnd : r.Nodup := hs.1.nodup_iff.2 List.nodup_range
          exact List.pairwise_iff_getElem.1 hnd n (n + 1) h1 h2 (by omega) e
        rcases Nat.lt_or_gt_of_ne hne with q | q
        · rcases Nat.eq_zero_or_pos r[n] with z | z
          · exact eqK_far hn q (by omega) (by omega) he
          · exact eqK_far hn q (by omega) (by omega) he
        · exact eqK_far hn q (by omega) (by omega) he.symm
    exact this _ (Nat.le_refl _)

end Go.Proofs.Ytpbmhdkhkbhgnaa
