/- Plain lemmas on the transform: its symbols are the text's, its way back, other texts' rows. -/
import Derived.Test.YtpbmhdkhkbhgnaaSortedP
import Derived.Test.YtpbmhdkhkbhgnaaTallyP
namespace Go.Proofs.Ytpbmhdkhkbhgnaa
set_option linter.unusedVariables false
set_option linter.unusedSimpArgs false

noncomputable def sufB (l : List Int) (a b : Nat) : Bool := @decide (sufLt l a b) (Classical.propDecidable _)
theorem sufB_iff {l : List Int} {a b : Nat} : sufB l a b = true ↔ sufLt l a b := by unfold sufB; simp

theorem countP_or' {α : Type} {f g h : α → Bool} : ∀ {l : List α}, (∀ x ∈ l, f x = (g x || h x)) → (∀ x ∈ l, ¬ (g x = true ∧ h x = true)) → l.countP f = l.countP g + l.countP h
  | [], _, _ => rfl
  | x :: l, h1, h2 => by
    have ih := countP_or' (l := l) (fun y hy => h1 y (List.mem_cons_of_mem _ hy)) (fun y hy => h2 y (List.mem_cons_of_mem _ hy))
    have a := h1 x List.mem_cons_self
    have b := h2 x List.mem_cons_self
    rw [List.countP_cons, List.countP_cons, List.countP_cons, ih, a]
    cases hg : g x <;> cases hh : h x <;> simp_all <;> omega

/-- The symbols of a text: the end stands last, and nowhere else. -/
structure IsSyms (l : List Int) : Prop where
  pos : 0 < l.length
  last : sy l (l.length - 1) = 0
  rest : ∀ i, i < l.length - 1 → 0 < sy l i
theorem IsSyms.nn {l : List Int} (h : IsSyms l) : Nn l := fun i hi => by
  rcases Nat.lt_or_ge i (l.length - 1) with k | k
  · have := h.rest i k; omega
  · obtain rfl : i = l.length - 1 := by omega
    have := h.last; omega
theorem IsSyms.zero {l : List Int} (h : IsSyms l) {i : Nat} (hi : i < l.length) (hz : sy l i = 0) : i = l.length - 1 := by
  rcases Nat.lt_or_ge i (l.length - 1) with k | k
  · have := h.rest i k; omega
  · omega

/-- The transform. -/
def lastL (l : List Int) (r : List Nat) : List Int := r.map fun i => sy l ((i + l.length - 1) % l.length)
theorem lastL_len (l : List Int) (r : List Nat) : (lastL l r).length = r.length := by simp [lastL]
theorem lastL_sy {l : List Int} {r : List Nat} {i : Nat} (hi : i < r.length) : sy (lastL l r) i = sy l ((r[i] + l.length - 1) % l.length) := by
  unfold lastL sy; simp [hi]

theorem shift_perm (n : Nat) : (List.range n).Perm ((List.range n).map fun q => (q + 1) % n) := by
  cases n with
  | zero => exact List.Perm.refl _
  | succ m =>
    have e : ((List.range (m + 1)).map fun q => (q + 1) % (m + 1)) = (List.range m).map (· + 1) ++ [0] := by
      rw [List.range_succ, List.map_append]
      congr 1
      · apply List.map_congr_left
        intro q hq
        have := List.mem_range.1 hq
        exact Nat.mod_eq_of_lt (by omega)
      · simp
    rw [e, List.range_succ_eq_map]
    exact (List.perm_append_singleton _ _).symm
theorem range_map_sy (l : List Int) : (List.range l.length).map (sy l) = l := by
  apply List.ext_getElem?
  intro i
  by_cases h : i < l.length
  · simp [h, sy]
  · rw [List.getElem?_eq_none (by simp; omega), List.getElem?_eq_none (by omega)]
theorem shift_back {n q : Nat} (h : q < n) : ((q + 1) % n + n - 1) % n = q := by
  by_cases e : q + 1 = n
  · subst e; rw [Nat.mod_self, Nat.zero_add]; exact Nat.mod_eq_of_lt (by omega)
  · rw [Nat.mod_eq_of_lt (show q + 1 < n by omega), show q + 1 + n - 1 = q + n by omega, Nat.add_mod_right]
    exact Nat.mod_eq_of_lt h

/-- The transform has the text's symbols. -/
theorem last_perm {l : List Int} {r : List Nat} (h : IsRows l r) : (lastL l r).Perm l := by
  have h1 : (lastL l r).Perm ((List.range l.length).map fun i => sy l ((i + l.length - 1) % l.length)) := h.1.map _
  refine h1.trans (((shift_perm l.length).map _).trans (List.Perm.of_eq ?_))
  rw [List.map_map]
  refine Eq.trans (List.map_congr_left (fun q hq => ?_)) (range_map_sy l)
  show sy l (((q + 1) % l.length + l.length - 1) % l.length) = sy l q
  rw [shift_back (List.mem_range.1 hq)]

section
variable {l : List Int} {r : List Nat}
/-- A row is as many as go ahead of it. -/
theorem count_take (h : IsRows l r) {j : Nat} (hj : j < r.length) (f : Nat → Bool) : (r.take j).countP f = (List.range l.length).countP fun q => sufB l q r[j] && f q := by
  rw [← h.1.countP_eq]
  generalize hx : r[j] = x
  have hsp : r.countP (fun q => sufB l q x && f q) = (r.take j).countP (fun q => sufB l q x && f q) + (r.drop j).countP (fun q => sufB l q x && f q) := by
    rw [← List.countP_append, List.take_append_drop]
  rw [hsp]
  subst hx
  have h1 : (r.take j).countP (fun q => sufB l q r[j] && f q) = (r.take j).countP f := by
    refine List.countP_congr (fun q hq => ?_)
    obtain ⟨k, hk, rfl⟩ := List.getElem_of_mem hq
    rw [List.length_take] at hk
    have : sufB l r[k] r[j] = true := sufB_iff.2 (List.pairwise_iff_getElem.1 h.2 k j (by omega) hj (by omega))
    rw [List.getElem_take, this, Bool.true_and]
  have h2 : (r.drop j).countP (fun q => sufB l q r[j] && f q) = 0 := by
    rw [List.countP_eq_zero]
    intro q hq
    obtain ⟨k, hk, rfl⟩ := List.getElem_of_mem hq
    rw [List.length_drop] at hk
    rw [List.getElem_drop]
    have : ¬ sufLt l r[j + k] r[j] := by
      rcases Nat.eq_zero_or_pos k with rfl | k0
      · exact sufLt.irrefl
      · exact (List.pairwise_iff_getElem.1 h.2 j (j + k) hj (by omega) (by omega) : sufLt l _ _).asymm
    have : sufB l r[j + k] r[j] = false := by
      rw [← Bool.not_eq_true]; exact fun e => this (sufB_iff.1 e)
    rw [this]; simp
  rw [h1, h2]
  rfl
theorem pos_count (h : IsRows l r) {j : Nat} (hj : j < r.length) : (List.range l.length).countP (fun q => sufB l q r[j]) = j := by
  have := count_take h hj (fun _ => true)
  simp only [Bool.and_true] at this
  rw [← this, List.countP_true, List.length_take]
  omega

/-- How many are less; the row of the suffix one ahead. -/
def belowL (m : List Int) (s : Int) : Nat := m.countP fun x => decide (x < s)
def lfL (m : List Int) (row : Nat) : Nat := belowL m (sy m row) + cnt (m.take row) (sy m row)

theorem lf_rows (hs : IsSyms l) (h : IsRows l r) {i : Nat} (hi : i < r.length) : ∃ hj : lfL (lastL l r) i < r.length, r[lfL (lastL l r) i] = (r[i] + l.length - 1) % l.length := by
  have hn := hs.pos
  have hp : (r[i] + l.length - 1) % l.length < l.length := Nat.mod_lt _ hn
  obtain ⟨j, hj, ej⟩ := h.find hp
  have key : lfL (lastL l r) i = j := by
    have hri := h.lt hi
    rw [← pos_count h hj, ej]
    generalize hpe : (r[i] + l.length - 1) % l.length = p at *
    have hsy : sy (lastL l r) i = sy l p := by rw [lastL_sy hi, hpe]
    unfold lfL
    rw [hsy]
    rw [countP_or' (g := fun q => decide (sy l q < sy l p)) (h := fun q => decide (sy l q = sy l p) && sufB l (q + 1) (p + 1))]
    · congr 1
      · unfold belowL
        rw [(last_perm h).countP_eq]
        have e := congrArg (List.countP fun x => decide (x < sy l p)) (range_map_sy l)
        rw [List.countP_map] at e
        exact e.symm
      · unfold cnt lastL
        rw [← List.map_take, List.countP_map, count_take h hi, (shift_perm l.length).countP_eq, List.countP_map]
        refine List.countP_congr (fun q hq => ?_)
        have hq := List.mem_range.1 hq
        simp only [Function.comp, shift_back hq, Bool.and_eq_true, beq_iff_eq, decide_eq_true_eq, sufB_iff]
        rw [and_comm]
        refine and_congr_right (fun e => ?_)
        by_cases hz : r[i] = 0
        · rw [hz, Nat.zero_add, Nat.mod_eq_of_lt (show l.length - 1 < l.length by omega)] at hpe
          subst hpe
          rw [hs.last] at e
          obtain rfl := hs.zero hq e
          rw [hz, show l.length - 1 + 1 = l.length by omega, Nat.mod_self]
          exact ⟨fun h => absurd h sufLt.irrefl, fun h => absurd h sufLt.irrefl⟩
        · have hpe : p = r[i] - 1 := by
            rw [← hpe, show r[i] + l.length - 1 = (r[i] - 1) + l.length by omega, Nat.add_mod_right]
            exact Nat.mod_eq_of_lt (by omega)
          subst hpe
          have h0 := hs.rest (r[i] - 1) (by omega)
          have hq1 : q + 1 < l.length := by
            rcases Nat.lt_or_ge (q + 1) l.length with k | k
            · exact k
            · obtain rfl : q = l.length - 1 := by omega
              rw [hs.last] at e; omega
          rw [Nat.mod_eq_of_lt hq1, show r[i] - 1 + 1 = r[i] by omega]
    · intro q hq
      rw [Bool.eq_iff_iff, sufB_iff, suf_cons]
      simp [sufB_iff]
    · intro q hq
      simp only [Bool.and_eq_true, decide_eq_true_eq]
      omega
  exact ⟨by rw [key]; exact hj, by simp only [key]; exact ej⟩

theorem row_first (hs : IsSyms l) (h : IsRows l r) : ∃ h0 : 0 < r.length, r[0] = l.length - 1 := by
  have hn := hs.pos
  obtain ⟨j, hj, ej⟩ := h.find (show l.length - 1 < l.length by omega)
  have : j = 0 := by
    rw [← pos_count h hj, ej, List.countP_eq_zero]
    intro q hq e
    have hq := List.mem_range.1 hq
    rw [sufB_iff, suf_cons, hs.last] at e
    have := hs.nn q hq
    rcases e with e | ⟨e, e2⟩
    · omega
    · obtain rfl := hs.zero hq e
      exact sufLt.irrefl e2
  subst this
  exact ⟨hj, ej⟩

/-- The rows met on the way back from the end. -/
def chain (m : List Int) : Nat → Nat
  | 0 => 0
  | k + 1 => lfL m (chain m k)
theorem chain_row (hs : IsSyms l) (h : IsRows l r) : ∀ {k : Nat}, k < l.length → ∃ hk : chain (lastL l r) k < r.length, r[chain (lastL l r) k] = l.length - 1 - k
  | 0, _ => row_first hs h
  | k + 1, hk => by
    obtain ⟨h1, h2⟩ := chain_row hs h (show k < l.length by omega)
    obtain ⟨h3, h4⟩ := lf_rows hs h h1
    refine ⟨h3, ?_⟩
    show r[lfL (lastL l r) (chain (lastL l r) k)] = _
    rw [h4, h2, show l.length - 1 - k + l.length - 1 = (l.length - 1 - (k + 1)) + l.length by omega, Nat.add_mod_right]
    exact Nat.mod_eq_of_lt (by omega)
theorem chain_sym (hs : IsSyms l) (h : IsRows l r) {k : Nat} (hk : k + 1 < l.length) : sy (lastL l r) (chain (lastL l r) k) = sy l (l.length - 2 - k) := by
  obtain ⟨h1, h2⟩ := chain_row hs h (show k < l.length by omega)
  rw [lastL_sy h1, h2, show l.length - 1 - k + l.length - 1 = (l.length - 2 - k) + l.length by omega, Nat.add_mod_right, Nat.mod_eq_of_lt (by omega)]
theorem chain_end (hs : IsSyms l) (h : IsRows l r) : sy (lastL l r) (chain (lastL l r) (l.length - 1)) = 0 := by
  have hn := hs.pos
  obtain ⟨h1, h2⟩ := chain_row hs h (show l.length - 1 < l.length by omega)
  rw [lastL_sy h1, h2, Nat.sub_self, Nat.zero_add, Nat.mod_eq_of_lt (by omega)]
  exact hs.last
theorem chain_ne (hs : IsSyms l) (h : IsRows l r) {j k : Nat} (hj : j < l.length) (hk : k < l.length) (hne : j ≠ k) : chain (lastL l r) j ≠ chain (lastL l r) k := by
  intro e
  obtain ⟨h1, h2⟩ := chain_row hs h hj
  obtain ⟨h3, h4⟩ := chain_row hs h hk
  simp only [e] at h2
  omega
end

/-- A text's symbols. -/
def symsT (t : List Int) : List Int := t.map (· + 1) ++ [0]
theorem symsT_len (t : List Int) : (symsT t).length = t.length + 1 := by simp [symsT]
theorem symsT_sy {t : List Int} {i : Nat} (h : i < t.length) : sy (symsT t) i = t[i] + 1 := by
  unfold sy symsT; rw [List.getElem?_append_left (by simpa using h)]; simp [h]
theorem symsT_end (t : List Int) : sy (symsT t) t.length = 0 := by unfold sy symsT; simp
/-- All are bytes. -/
def ByteL (t : List Int) : Prop := ∀ x ∈ t, 0 ≤ x ∧ x < 256
theorem symsT_is {t : List Int} (h : ByteL t) : IsSyms (symsT t) := by
  refine ⟨by rw [symsT_len]; omega, by rw [symsT_len]; exact symsT_end t, fun i hi => ?_⟩
  rw [symsT_len] at hi
  rw [symsT_sy (by omega)]
  have := h _ (List.getElem_mem (show i < t.length by omega))
  omega
theorem symsT_range {t : List Int} (h : ByteL t) : ∀ x ∈ symsT t, 0 ≤ x ∧ x < 257 := by
  intro x hx
  unfold symsT at hx
  rcases List.mem_append.1 hx with k | k
  · obtain ⟨y, hy, rfl⟩ := List.mem_map.1 k
    have := h y hy; omega
  · simp at k; omega
theorem symsT_zero {t : List Int} (h : ByteL t) : cnt (symsT t) 0 = 1 := by
  unfold cnt symsT
  rw [List.countP_append, List.countP_map]
  have : t.countP ((fun x => x == 0) ∘ fun x => x + 1) = 0 := by
    rw [List.countP_eq_zero]
    intro x hx
    have := h x hx
    simp; omega
  rw [this]; rfl

/-- The transform of a text. -/
def IsLast (t m : List Int) : Prop := ByteL t ∧ ∃ r, IsRows (symsT t) r ∧ lastL (symsT t) r = m
section
variable {t m : List Int}
theorem IsLast.len (h : IsLast t m) : m.length = t.length + 1 := by
  obtain ⟨_, r, hr, rfl⟩ := h
  rw [lastL_len, hr.len, symsT_len]
theorem IsLast.perm (h : IsLast t m) : m.Perm (symsT t) := by
  obtain ⟨_, r, hr, rfl⟩ := h
  exact last_perm hr
theorem IsLast.range (h : IsLast t m) : ∀ x ∈ m, 0 ≤ x ∧ x < 257 := fun x hx => symsT_range h.1 x (h.perm.mem_iff.1 hx)
theorem IsLast.zero (h : IsLast t m) : cnt m 0 = 1 := by
  rw [← symsT_zero h.1]; exact h.perm.countP_eq _
theorem IsLast.sym (h : IsLast t m) {k : Nat} (hk : k < t.length) : sy m (chain m k) = t[t.length - 1 - k] + 1 := by
  obtain ⟨hb, r, hr, rfl⟩ := h
  rw [chain_sym (symsT_is hb) hr (by rw [symsT_len]; omega), symsT_len, show t.length + 1 - 2 - k = t.length - 1 - k by omega, symsT_sy (by omega)]
theorem IsLast.stop (h : IsLast t m) : sy m (chain m t.length) = 0 := by
  obtain ⟨hb, r, hr, rfl⟩ := h
  have := chain_end (symsT_is hb) hr
  rwa [symsT_len, Nat.add_sub_cancel] at this
theorem IsLast.ne (h : IsLast t m) {j k : Nat} (hj : j ≤ t.length) (hk : k ≤ t.length) (hne : j ≠ k) : chain m j ≠ chain m k := by
  obtain ⟨hb, r, hr, rfl⟩ := h
  exact chain_ne (symsT_is hb) hr (by rw [symsT_len]; omega) (by rw [symsT_len]; omega) hne
theorem IsLast.unique {t' : List Int} (h : IsLast t m) (h' : IsLast t' m) : t = t' := by
  have e : t.length = t'.length := by have := h.len; have := h'.len; omega
  apply List.ext_getElem e
  intro i h1 h2
  have a := h.sym (k := t.length - 1 - i) (by omega)
  have b := h'.sym (k := t.length - 1 - i) (by omega)
  rw [a] at b
  have e1 : t.length - 1 - (t.length - 1 - i) = i := by omega
  have e2 : t'.length - 1 - (t.length - 1 - i) = i := by omega
  simp only [e1, e2] at b
  omega
theorem IsLast.same {m' : List Int} (h : IsLast t m) (h' : IsLast t m') : m = m' := by
  obtain ⟨_, r, hr, rfl⟩ := h
  obtain ⟨_, r', hr', rfl⟩ := h'
  rw [rows_unique hr hr']
end

/-- Rows behind a part that stands ahead. -/
theorem sy_behind (u l : List Int) (i : Nat) : sy (u ++ l) (u.length + i) = sy l i := by
  unfold sy; rw [List.getElem?_append_right (by omega), Nat.add_sub_cancel_left]
theorem suf_behind {u l : List Int} {a b : Nat} : sufLt (u ++ l) (u.length + a) (u.length + b) ↔ sufLt l a b := by
  unfold sufLt ltK eqK
  simp only [Nat.add_assoc, sy_behind]
theorem rows_behind {u l : List Int} {r : List Nat} (h : IsRows (u ++ l) r) : IsRows l ((r.filter fun i => decide (u.length ≤ i)).map (· - u.length)) := by
  constructor
  · refine ((h.1.filter _).map _).trans (List.Perm.of_eq ?_)
    rw [List.length_append, List.range_add, List.filter_append, List.map_append]
    have h1 : (List.range u.length).filter (fun i => decide (u.length ≤ i)) = [] := by
      rw [List.filter_eq_nil_iff]
      intro x hx
      have := List.mem_range.1 hx
      simp; omega
    have h2 : ((List.range l.length).map (u.length + ·)).filter (fun i => decide (u.length ≤ i)) = (List.range l.length).map (u.length + ·) := by
      rw [List.filter_eq_self]
      intro x hx
      obtain ⟨y, _, rfl⟩ := List.mem_map.1 hx
      simp
    rw [h1, h2, List.map_nil, List.nil_append, List.map_map]
    refine Eq.trans (List.map_congr_left (fun q _ => ?_)) (List.map_id _)
    show u.length + q - u.length = q
    omega
  · rw [List.pairwise_map]
    refine List.Pairwise.imp_of_mem ?_ (h.2.filter _)
    intro a b ha hb hab
    have ha := (List.mem_filter.1 ha).2
    have hb := (List.mem_filter.1 hb).2
    simp only [decide_eq_true_eq] at ha hb
    rw [← suf_behind (u := u)]
    rwa [show u.length + (a - u.length) = a by omega, show u.length + (b - u.length) = b by omega]

end Go.Proofs.Ytpbmhdkhkbhgnaa
