/- Plain lemmas on blocks of up to 128 bits: two words and the list of bits that they hold. -/
import Derived.Test.YticbfhbilfgoiaaDoorBitsR
namespace Go.Proofs.YticbfhbilfgoiaaDoor
set_option linter.unusedVariables false
set_option linter.unusedSimpArgs false

/-- A bit of a list; none is a nought. -/
def bitAt (l : List Bool) (i : Nat) : Bool := l[i]?.getD false
def loW (l : List Bool) : Nat := wordOf (bitAt l) 64
def hiW (l : List Bool) : Nat := wordOf (fun i => bitAt l (64 + i)) 64
theorem loW_lt (l : List Bool) : loW l < 2 ^ 64 := wordOf_lt _ _
theorem hiW_lt (l : List Bool) : hiW l < 2 ^ 64 := wordOf_lt _ _
theorem loW_bit {l : List Bool} {i : Nat} (h : i < 64) : (loW l).testBit i = bitAt l i := by unfold loW; rw [wordOf_bit]; simp [h]
theorem hiW_bit {l : List Bool} {i : Nat} (h : i < 64) : (hiW l).testBit i = bitAt l (64 + i) := by unfold hiW; rw [wordOf_bit]; simp [h]
theorem bitAt_over {l : List Bool} {i : Nat} (h : l.length ≤ i) : bitAt l i = false := by unfold bitAt; rw [List.getElem?_eq_none h]; rfl
theorem loW_nil : loW [] = 0 := by decide +kernel
theorem hiW_nil : hiW [] = 0 := by decide +kernel

/-- A list with a bit more at a place; without the one at a place. -/
def inL {α : Type} (l : List α) (k : Nat) (b : α) : List α := l.take k ++ b :: l.drop k
def outL {α : Type} (l : List α) (k : Nat) : List α := l.take k ++ l.drop (k + 1)
theorem inL_len {α : Type} {l : List α} {k : Nat} {b : α} (h : k ≤ l.length) : (inL l k b).length = l.length + 1 := by simp [inL]; omega
theorem outL_len {α : Type} {l : List α} {k : Nat} (h : k < l.length) : (outL l k).length = l.length - 1 := by simp [outL]; omega
theorem inL_get {α : Type} {l : List α} {k : Nat} {b : α} (h : k ≤ l.length) (i : Nat) : (inL l k b)[i]? = if i < k then l[i]? else if i = k then some b else l[i - 1]? := by
  unfold inL
  rw [List.getElem?_append, List.length_take, Nat.min_eq_left h]
  split
  · rename_i hi; rw [List.getElem?_take, if_pos hi]
  · rename_i hi
    by_cases e : i = k
    · subst e; simp
    · rw [if_neg e]
      obtain ⟨d, hd⟩ : ∃ d, i - k = d + 1 := ⟨i - k - 1, by omega⟩
      rw [hd, List.getElem?_cons_succ, List.getElem?_drop]
      congr 1; omega
theorem outL_get {α : Type} {l : List α} {k : Nat} (h : k < l.length) (i : Nat) : (outL l k)[i]? = if i < k then l[i]? else l[i + 1]? := by
  unfold outL
  rw [List.getElem?_append, List.length_take, Nat.min_eq_left (by omega)]
  split
  · rename_i hi; rw [List.getElem?_take, if_pos hi]
  · rename_i hi
    rw [List.getElem?_drop]
    congr 1; omega
theorem bitAt_in {l : List Bool} {k : Nat} {b : Bool} (h : k ≤ l.length) (i : Nat) : bitAt (inL l k b) i = if i < k then bitAt l i else if i = k then b else bitAt l (i - 1) := by
  unfold bitAt; rw [inL_get h]; split
  · rfl
  · split <;> rfl
theorem bitAt_out {l : List Bool} {k : Nat} (h : k < l.length) (i : Nat) : bitAt (outL l k) i = if i < k then bitAt l i else bitAt l (i + 1) := by
  unfold bitAt; rw [outL_get h]; split <;> rfl

theorem lo_in {l : List Bool} {k : Nat} (b : Bool) (h : k ≤ l.length) (hk : k < 64) : loW (inL l k b) = putW (loW l) k b := by
  refine word_ext (loW_lt _) (putW_lt _ _ _) (fun i hi => ?_)
  rw [loW_bit hi, putW_bit hi, bitAt_in h]
  split
  · rw [loW_bit hi]
  · split
    · rfl
    · rw [loW_bit (by omega)]
theorem hi_in {l : List Bool} {k : Nat} (b : Bool) (h : k ≤ l.length) (hk : k < 64) : hiW (inL l k b) = putW (hiW l) 0 ((loW l).testBit 63) := by
  refine word_ext (hiW_lt _) (putW_lt _ _ _) (fun i hi => ?_)
  rw [hiW_bit hi, putW_bit hi, bitAt_in h, if_neg (by omega), if_neg (by omega), if_neg (by omega), loW_bit (by omega)]
  by_cases e : i = 0
  · subst e; rfl
  · rw [if_neg e, hiW_bit (by omega)]; congr 1; omega
theorem lo_in2 {l : List Bool} {k : Nat} (b : Bool) (h : k ≤ l.length) (hk : 64 ≤ k) : loW (inL l k b) = loW l := by
  refine word_ext (loW_lt _) (loW_lt _) (fun i hi => ?_)
  rw [loW_bit hi, loW_bit hi, bitAt_in h, if_pos (by omega)]
theorem hi_in2 {l : List Bool} {k : Nat} (b : Bool) (h : k ≤ l.length) (hk : 64 ≤ k) (h128 : k < 128) : hiW (inL l k b) = putW (hiW l) (k - 64) b := by
  refine word_ext (hiW_lt _) (putW_lt _ _ _) (fun i hi => ?_)
  rw [hiW_bit hi, putW_bit hi, bitAt_in h]
  by_cases h1 : i < k - 64
  · rw [if_pos (by omega), if_pos h1, hiW_bit hi]
  · rw [if_neg (by omega), if_neg h1]
    by_cases h2 : i = k - 64
    · rw [if_pos (by omega), if_pos h2]
    · rw [if_neg (by omega), if_neg h2, hiW_bit (by omega)]; congr 1; omega
theorem lo_out {l : List Bool} {k : Nat} (h : k < l.length) (hk : k < 64) : loW (outL l k) = cutW (loW l) k ((hiW l).testBit 0) := by
  refine word_ext (loW_lt _) (cutW_lt _ _ _) (fun i hi => ?_)
  rw [loW_bit hi, cutW_bit hi, bitAt_out h, hiW_bit (by omega)]
  split
  · rw [loW_bit hi]
  · split
    · rename_i e; subst e; rfl
    · rw [loW_bit (by omega)]
theorem hi_out {l : List Bool} {k : Nat} (h : k < l.length) (hk : k < 64) (h128 : l.length ≤ 128) : hiW (outL l k) = cutW (hiW l) 0 false := by
  refine word_ext (hiW_lt _) (cutW_lt _ _ _) (fun i hi => ?_)
  rw [hiW_bit hi, cutW_bit hi, bitAt_out h, if_neg (by omega), if_neg (by omega)]
  split
  · rw [bitAt_over (by omega)]
  · rw [hiW_bit (by omega)]; rfl
theorem lo_out2 {l : List Bool} {k : Nat} (h : k < l.length) (hk : 64 ≤ k) : loW (outL l k) = loW l := by
  refine word_ext (loW_lt _) (loW_lt _) (fun i hi => ?_)
  rw [loW_bit hi, loW_bit hi, bitAt_out h, if_pos (by omega)]
theorem hi_out2 {l : List Bool} {k : Nat} (h : k < l.length) (hk : 64 ≤ k) (h128 : l.length ≤ 128) : hiW (outL l k) = cutW (hiW l) (k - 64) false := by
  refine word_ext (hiW_lt _) (cutW_lt _ _ _) (fun i hi => ?_)
  rw [hiW_bit hi, cutW_bit hi, bitAt_out h]
  by_cases h1 : i < k - 64
  · rw [if_pos (by omega), if_pos h1, hiW_bit hi]
  · rw [if_neg (by omega), if_neg h1]
    split
    · rw [bitAt_over (by omega)]
    · rw [hiW_bit (by omega)]; rfl

/-- How many of the first k bits are like b. -/
def rankL (l : List Bool) (k : Nat) (b : Bool) : Nat := (l.take k).count b
theorem rankL_succ {l : List Bool} {k : Nat} (b : Bool) (h : k < l.length) : rankL l (k + 1) b = rankL l k b + (if l[k]?.getD false = b then 1 else 0) := by
  unfold rankL
  rw [List.take_add_one, List.getElem?_eq_getElem h, Option.toList_some, List.count_append, List.count_singleton]
  simp
theorem rankL_over {l : List Bool} {k : Nat} (b : Bool) (h : l.length ≤ k) : rankL l k b = l.count b := by unfold rankL; rw [List.take_of_length_le h]
theorem rankL_le (l : List Bool) (k : Nat) (b : Bool) : rankL l k b ≤ k ∧ rankL l k b ≤ l.length := by
  unfold rankL
  have := List.count_le_length (a := b) (l := l.take k)
  rw [List.length_take] at this; omega
theorem rankL_mono (l : List Bool) {i j : Nat} (b : Bool) (h : i ≤ j) : rankL l i b ≤ rankL l j b := by
  unfold rankL
  have : l.take i = (l.take j).take i := by rw [List.take_take, Nat.min_eq_left h]
  rw [this]
  exact List.Sublist.count_le _ (List.take_sublist _ _)
theorem rankL_lt {l : List Bool} {i j : Nat} {b : Bool} (h : i < j) (hi : i < l.length) (hb : l[i]?.getD false = b) : rankL l i b < rankL l j b := by
  have := rankL_mono l b (i := i + 1) (j := j) (by omega)
  rw [rankL_succ b hi, if_pos hb] at this
  omega
theorem rankL_both {l : List Bool} {k : Nat} (h : k ≤ l.length) : rankL l k true + rankL l k false = k := by
  induction k with
  | zero => simp [rankL]
  | succ k ih =>
    have := ih (by omega)
    rw [rankL_succ true (by omega), rankL_succ false (by omega)]
    cases l[k]?.getD false <;> simp <;> omega

/-- The words' ranks are the list's. -/
theorem pc_lo {l : List Bool} : ∀ {k : Nat}, k ≤ 64 → pc (loW l) k = rankL l k true
  | 0, _ => by simp [pc, rankL]
  | k + 1, h => by
    rw [pc_succ, pc_lo (by omega), loW_bit (by omega)]
    by_cases hk : k < l.length
    · rw [rankL_succ true hk]; unfold bitAt; cases l[k]?.getD false <;> simp
    · rw [bitAt_over (by omega), rankL_over true (by omega), rankL_over true (by omega)]; rfl
theorem pc_hi {l : List Bool} : ∀ {k : Nat}, k ≤ 64 → rankL l 64 true + pc (hiW l) k = rankL l (64 + k) true
  | 0, _ => by simp [pc]
  | k + 1, h => by
    rw [pc_succ, ← Nat.add_assoc, pc_hi (by omega), hiW_bit (by omega), ← Nat.add_assoc]
    by_cases hk : 64 + k < l.length
    · rw [rankL_succ true hk]; unfold bitAt; cases l[64 + k]?.getD false <;> simp
    · rw [bitAt_over (by omega), rankL_over true (by omega), rankL_over true (by omega)]; rfl
theorem pc_both {l : List Bool} (h : l.length ≤ 128) : pc (loW l) 64 + pc (hiW l) 64 = l.count true := by
  rw [pc_lo (Nat.le_refl _), pc_hi (Nat.le_refl _), rankL_over true (by omega)]

/-- The place of the bit like b with j such ones ahead; -1. -/
def selL (l : List Bool) (j : Int) (b : Bool) : Int := match (List.range l.length).find? fun i => decide (l[i]?.getD false = b) && decide ((rankL l i b : Int) = j) with
  | some i => (i : Int)
  | none => -1
theorem selL_hit {l : List Bool} {k : Nat} {j : Int} {b : Bool} (hk : k < l.length) (hb : l[k]?.getD false = b) (hp : (rankL l k b : Int) = j) : selL l j b = k := by
  unfold selL
  have : (List.range l.length).find? (fun i => decide (l[i]?.getD false = b) && decide ((rankL l i b : Int) = j)) = some k := by
    rw [List.find?_range_eq_some]
    refine ⟨by simp [hb, hp], by simpa using hk, fun i hi => ?_⟩
    by_cases hbi : l[i]?.getD false = b
    · have := rankL_lt (b := b) hi (by omega) hbi
      simp; omega
    · simp [hbi]
  rw [this]
theorem selL_none {l : List Bool} {j : Int} {b : Bool} (h : ∀ i, i < l.length → l[i]?.getD false = b → (rankL l i b : Int) ≠ j) : selL l j b = -1 := by
  unfold selL
  have : (List.range l.length).find? (fun i => decide (l[i]?.getD false = b) && decide ((rankL l i b : Int) = j)) = none := by
    rw [List.find?_eq_none]
    intro i hi
    simp only [List.mem_range] at hi
    by_cases hbi : l[i]?.getD false = b
    · have := h i hi hbi
      simp [this]
    · simp [hbi]
  rw [this]
theorem selL_neg {l : List Bool} {j : Int} {b : Bool} (h : j < 0) : selL l j b = -1 := selL_none (fun i _ _ => by omega)
theorem selL_many {l : List Bool} {j : Int} {b : Bool} (h : (l.count b : Int) ≤ j) : selL l j b = -1 := selL_none (fun i hi hb => by
  have := rankL_lt (b := b) (j := l.length) hi hi hb
  rw [rankL_over b (Nat.le_refl _)] at this
  omega)

/-- A word's bits that are like b. -/
def likeW (x : Nat) (b : Bool) : Nat := if b then x else notW x
theorem likeW_lt {x : Nat} (h : x < 2 ^ 64) (b : Bool) : likeW x b < 2 ^ 64 := by unfold likeW; split; exact h; exact notW_lt x
theorem likeW_bit {x i : Nat} (hx : x < 2 ^ 64) (hi : i < 64) (b : Bool) : (likeW x b).testBit i = decide (x.testBit i = b) := by
  unfold likeW; cases b
  · simp [notW_bit hx hi]
  · simp
theorem pc_likeLo {l : List Bool} (b : Bool) : ∀ {k : Nat}, k ≤ 64 → k ≤ l.length → pc (likeW (loW l) b) k = rankL l k b
  | 0, _, _ => by simp [pc, rankL]
  | k + 1, h, h2 => by
    rw [pc_succ, pc_likeLo b (by omega) (by omega), likeW_bit (loW_lt l) (by omega), loW_bit (by omega), rankL_succ b (by omega)]
    unfold bitAt
    by_cases e : l[k]?.getD false = b <;> simp [e]
theorem pc_likeHi {l : List Bool} (b : Bool) (h64 : 64 ≤ l.length) : ∀ {k : Nat}, k ≤ 64 → 64 + k ≤ l.length → rankL l 64 b + pc (likeW (hiW l) b) k = rankL l (64 + k) b
  | 0, _, _ => by simp [pc]
  | k + 1, h, h2 => by
    rw [pc_succ, ← Nat.add_assoc, pc_likeHi b h64 (by omega) (by omega), likeW_bit (hiW_lt l) (by omega), hiW_bit (by omega), ← Nat.add_assoc, rankL_succ b (by omega)]
    unfold bitAt
    by_cases e : l[64 + k]?.getD false = b <;> simp [e]
/-- The place is in the first word. -/
theorem sel_lo {l : List Bool} {j : Nat} {b : Bool} (h : j < pc (likeW (loW l) b) 64) : ∃ k : Nat, k < 64 ∧ sel (likeW (loW l) b) j = k ∧ selL l j b = if k < l.length then (k : Int) else -1 := by
  obtain ⟨k, hk, hb, hp, hs⟩ := sel_some h
  refine ⟨k, hk, hs, ?_⟩
  rw [likeW_bit (loW_lt l) hk, loW_bit hk, decide_eq_true_eq] at hb
  split
  · rename_i hkl
    exact selL_hit hkl hb (by rw [← pc_likeLo b (by omega) (by omega), hp])
  · rename_i hkl
    refine selL_none (fun i hi hbi => ?_)
    have h1 := rankL_lt (b := b) (j := l.length) hi hi hbi
    have h2 := pc_mono (likeW (loW l) b) (i := l.length) (j := k) (by omega)
    rw [pc_likeLo b (by omega) (Nat.le_refl _), hp] at h2
    omega
/-- The place is in the second word, or nowhere. -/
theorem sel_hi {l : List Bool} {j : Nat} {b : Bool} (h : pc (likeW (loW l) b) 64 ≤ j) (h1 : j - pc (likeW (loW l) b) 64 < pc (likeW (hiW l) b) 64) (h128 : l.length ≤ 128) :
    ∃ k : Nat, k < 64 ∧ sel (likeW (hiW l) b) ((j : Int) - (pc (likeW (loW l) b) 64 : Nat)) = k ∧ selL l j b = if 64 + k < l.length then ((64 + k : Nat) : Int) else -1 := by
  obtain ⟨k, hk, hb, hp, hs⟩ := sel_some h1
  refine ⟨k, hk, by rw [← hs]; congr 1; omega, ?_⟩
  rw [likeW_bit (hiW_lt l) hk, hiW_bit hk, decide_eq_true_eq] at hb
  by_cases h64 : 64 ≤ l.length
  · have e64 := pc_likeLo (l := l) b (Nat.le_refl 64) h64
    split
    · rename_i hkl
      exact selL_hit hkl hb (by rw [← pc_likeHi b h64 (by omega) (by omega), hp]; omega)
    · rename_i hkl
      refine selL_none (fun i hi hbi => ?_)
      have h3 := rankL_lt (b := b) (j := l.length) hi hi hbi
      have h2 := pc_mono (likeW (hiW l) b) (i := l.length - 64) (j := k) (by omega)
      have h4 := pc_likeHi (l := l) b h64 (k := l.length - 64) (by omega) (by omega)
      rw [show 64 + (l.length - 64) = l.length by omega] at h4
      omega
  · rw [if_neg (by omega)]
    refine selL_none (fun i hi hbi => ?_)
    have h3 := rankL_lt (b := b) (j := l.length) hi hi hbi
    have h2 := pc_mono (likeW (loW l) b) (i := l.length) (j := 64) (by omega)
    rw [pc_likeLo b (by omega) (Nat.le_refl _)] at h2
    omega
theorem sel_no {l : List Bool} {j : Nat} {b : Bool} (h : pc (likeW (loW l) b) 64 + pc (likeW (hiW l) b) 64 ≤ j) (h128 : l.length ≤ 128) : selL l j b = -1 := by
  refine selL_none (fun i hi hbi => ?_)
  have h3 := rankL_lt (b := b) (j := l.length) hi hi hbi
  by_cases h64 : 64 ≤ l.length
  · have e64 := pc_likeLo (l := l) b (Nat.le_refl 64) h64
    have h4 := pc_likeHi (l := l) b h64 (k := l.length - 64) (by omega) (by omega)
    rw [show 64 + (l.length - 64) = l.length by omega] at h4
    have h2 := pc_mono (likeW (hiW l) b) (i := l.length - 64) (j := 64) (by omega)
    omega
  · have h2 := pc_mono (likeW (loW l) b) (i := l.length) (j := 64) (by omega)
    rw [pc_likeLo b (by omega) (Nat.le_refl _)] at h2
    omega

/-- One bit more at the end. -/
theorem lo_snoc {l : List Bool} {b : Bool} (h : l.length < 64) : loW (l ++ [b]) = loW l ||| (if b then 2 ^ l.length else 0) := by
  refine word_ext (loW_lt _) (Nat.or_lt_two_pow (loW_lt _) ?_) (fun i hi => ?_)
  · have := Nat.pow_le_pow_right (n := 2) (i := l.length) (j := 63) (by omega) (by omega); split <;> omega
  · rw [loW_bit hi, Nat.testBit_or, loW_bit hi]
    have hb : (if b = true then 2 ^ l.length else 0 : Nat).testBit i = (b && decide (i = l.length)) := by
      cases b
      · simp
      · simp [Nat.testBit_two_pow, eq_comm]
    rw [hb]
    unfold bitAt
    rw [List.getElem?_append]
    split
    · rename_i h1
      have : ¬ i = l.length := by omega
      simp [this]
    · rename_i h1
      by_cases e : i = l.length
      · subst e; simp
      · rw [List.getElem?_eq_none (l := l) (by omega), List.getElem?_eq_none (l := [b]) (by simp; omega)]; simp [e]
theorem lo_snoc2 {l : List Bool} {b : Bool} (h : 64 ≤ l.length) : loW (l ++ [b]) = loW l := by
  refine word_ext (loW_lt _) (loW_lt _) (fun i hi => ?_)
  rw [loW_bit hi, loW_bit hi]; unfold bitAt; rw [List.getElem?_append_left (by omega)]
theorem hi_snoc {l : List Bool} {b : Bool} (h : l.length < 64) : hiW (l ++ [b]) = hiW l := by
  refine word_ext (hiW_lt _) (hiW_lt _) (fun i hi => ?_)
  rw [hiW_bit hi, hiW_bit hi, bitAt_over (l := l ++ [b]) (by simp; omega), bitAt_over (l := l) (by omega)]
theorem hi_snoc2 {l : List Bool} {b : Bool} (h : 64 ≤ l.length) (h128 : l.length < 128) : hiW (l ++ [b]) = hiW l ||| (if b then 2 ^ (l.length - 64) else 0) := by
  refine word_ext (hiW_lt _) (Nat.or_lt_two_pow (hiW_lt _) ?_) (fun i hi => ?_)
  · have := Nat.pow_le_pow_right (n := 2) (i := l.length - 64) (j := 63) (by omega) (by omega); split <;> omega
  · rw [hiW_bit hi, Nat.testBit_or, hiW_bit hi]
    have hb : (if b = true then 2 ^ (l.length - 64) else 0 : Nat).testBit i = (b && decide (i = l.length - 64)) := by
      cases b
      · simp
      · simp [Nat.testBit_two_pow, eq_comm]
    rw [hb]
    unfold bitAt
    rw [List.getElem?_append]
    split
    · rename_i h1
      have : ¬ i = l.length - 64 := by omega
      simp [this]
    · rename_i h1
      by_cases e : i = l.length - 64
      · subst e; rw [show 64 + (l.length - 64) = l.length by omega]; simp
      · rw [List.getElem?_eq_none (l := l) (by omega), List.getElem?_eq_none (l := [b]) (by simp; omega)]; simp [e]

end Go.Proofs.YticbfhbilfgoiaaDoor
