/- Plain lemmas on words of 64 bits, of no program: the place of a bit, words out of their bits, bits that go in and out. -/
import Derived.Test.YtcppgpjodfeigaaDoorBitsP
namespace Go.Proofs.YtcppgpjodfeigaaDoor
set_option linter.unusedVariables false
set_option linter.unusedSimpArgs false

theorem pc_succ (w k : Nat) : pc w (k + 1) = pc w k + (w.testBit k).toNat := rfl
theorem pc_hit (w : Nat) {j k : Nat} (h : j < pc w k) : ∃ m, m < k ∧ w.testBit m = true ∧ pc w m = j := by
  induction k with
  | zero => simp [pc] at h
  | succ k ih =>
    rcases Nat.lt_or_ge j (pc w k) with h1 | h1
    · obtain ⟨m, a, b⟩ := ih h1; exact ⟨m, by omega, b⟩
    · rw [pc_succ] at h
      have hb := Bool.toNat_le (w.testBit k)
      cases hk : w.testBit k
      · rw [hk] at h; simp at h; omega
      · rw [hk] at h; simp at h; exact ⟨k, by omega, hk, by omega⟩
theorem pc_lt {w i j : Nat} (h : i < j) (hi : w.testBit i = true) : pc w i < pc w j := by
  have := pc_mono w (i := i + 1) (j := j) (by omega)
  rw [pc_succ, hi] at this
  simp at this; omega

/-- The place of the 1 with j ones ahead; -1. -/
def sel (w : Nat) (j : Int) : Int := match (List.range 64).find? fun i => w.testBit i && decide ((pc w i : Int) = j) with
  | some i => (i : Int)
  | none => -1
theorem sel_hit {w k : Nat} {j : Int} (hk : k < 64) (hb : w.testBit k = true) (hp : (pc w k : Int) = j) : sel w j = k := by
  unfold sel
  have : (List.range 64).find? (fun i => w.testBit i && decide ((pc w i : Int) = j)) = some k := by
    rw [List.find?_range_eq_some]
    refine ⟨by simp [hb, hp], by simpa using hk, fun i hi => ?_⟩
    cases hbi : w.testBit i
    · simp
    · have := pc_lt hi hbi
      simp; omega
  rw [this]
theorem sel_none {w : Nat} {j : Int} (h : j < 0 ∨ (pc w 64 : Int) ≤ j) : sel w j = -1 := by
  unfold sel
  have : (List.range 64).find? (fun i => w.testBit i && decide ((pc w i : Int) = j)) = none := by
    rw [List.find?_eq_none]
    intro i hi
    simp only [List.mem_range] at hi
    cases hbi : w.testBit i
    · simp
    · have := pc_lt (j := 64) hi hbi
      simp; omega
  rw [this]
theorem sel_some {w : Nat} {j : Nat} (h : j < pc w 64) : ∃ k, k < 64 ∧ w.testBit k = true ∧ pc w k = j ∧ sel w j = k := by
  obtain ⟨k, hk, hb, hp⟩ := pc_hit w h
  exact ⟨k, hk, hb, hp, sel_hit hk hb (by rw [hp])⟩

/-! ### The lowest 1 goes -/
theorem lowest {x : Nat} (h0 : x ≠ 0) (h : x < 2 ^ 64) : ∃ c, c < 64 ∧ Lib.ctz 64 x = c ∧ x.testBit c = true ∧ (∀ i, i < c → x.testBit i = false) ∧ ∀ i, (x &&& (x - 1)).testBit i = (x.testBit i && !decide (i = c)) := by
  obtain ⟨m, hm, hc⟩ := Lib.ctzFrom_spec 64 x (by omega) h
  generalize hcc : Lib.ctzFrom 64 x = c at *
  have e1 : x = 2 ^ c * (2 * m + 1) + 0 := by omega
  have hp := Nat.two_pow_pos c
  have e2 : x - 1 = 2 ^ c * (2 * m) + (2 ^ c - 1) := by rw [hm, Nat.mul_add]; omega
  have t1 : ∀ i, x.testBit i = if i < c then false else (2 * m + 1).testBit (i - c) := by
    intro i; rw [e1, Nat.testBit_two_pow_mul_add _ hp]; simp
  have t2 : ∀ i, (x - 1).testBit i = if i < c then (2 ^ c - 1).testBit i else (2 * m).testBit (i - c) := by
    intro i; rw [e2, Nat.testBit_two_pow_mul_add _ (by omega)]
  refine ⟨c, hc, ?_, ?_, ?_, ?_⟩
  · unfold Lib.ctz; rw [if_neg h0, hcc]
  · rw [t1]; simp
  · intro i hi; rw [t1, if_pos hi]
  · intro i
    rw [Nat.testBit_and, t1, t2]
    by_cases hi : i < c
    · simp [hi]
    · rw [if_neg hi, if_neg hi]
      by_cases hic : i = c
      · subst hic; simp
      · obtain ⟨d, hd⟩ : ∃ d, i - c = d + 1 := ⟨i - c - 1, by omega⟩
        rw [hd]
        simp only [Nat.testBit_succ, hic, decide_false, Bool.not_false, Bool.and_true]
        rw [show (2 * m + 1) / 2 = m by omega, show 2 * m / 2 = m by omega, Bool.and_self]

/-- Of w the first j ones are gone. -/
def Gone (w j x : Nat) : Prop := x < 2 ^ 64 ∧ ∀ i, x.testBit i = (w.testBit i && decide (j ≤ pc w i))
theorem gone_zero {w : Nat} (h : w < 2 ^ 64) : Gone w 0 w := ⟨h, fun i => by simp⟩
theorem gone_low {w j x : Nat} (hw : w < 2 ^ 64) (hg : Gone w j x) (hj : j < pc w 64) : ∃ c, c < 64 ∧ x ≠ 0 ∧ Lib.ctz 64 x = c ∧ w.testBit c = true ∧ pc w c = j ∧ ∀ i, (x &&& (x - 1)).testBit i = (x.testBit i && !decide (i = c)) := by
  obtain ⟨hx, hg⟩ := hg
  obtain ⟨m, hm, hb, hp⟩ := pc_hit w hj
  have hxm : x.testBit m = true := by rw [hg, hb, hp]; simp
  have h0 : x ≠ 0 := by intro e; rw [e] at hxm; simp at hxm
  obtain ⟨c, hc, hct, hxc, hlow, hand⟩ := lowest h0 hx
  have hwc : w.testBit c = true ∧ j ≤ pc w c := by
    have := hg c; rw [hxc] at this; simpa using this.symm
  have hpc : pc w c = j := by
    rcases Nat.lt_or_ge j (pc w c) with h1 | h1
    · obtain ⟨m', hm', hb', hp'⟩ := pc_hit w h1
      have : x.testBit m' = true := by rw [hg, hb', hp']; simp
      rw [hlow m' hm'] at this; cases this
    · omega
  exact ⟨c, hc, h0, hct, hwc.1, hpc, hand⟩
theorem gone_succ {w j x : Nat} (hw : w < 2 ^ 64) (hg : Gone w j x) (hj : j < pc w 64) : Gone w (j + 1) (x &&& (x - 1)) := by
  obtain ⟨c, hc, h0, hct, hwc, hpc, hand⟩ := gone_low hw hg hj
  refine ⟨Nat.lt_of_le_of_lt Nat.and_le_left hg.1, fun i => ?_⟩
  rw [hand, hg.2]
  cases hwi : w.testBit i
  · simp
  · simp only [Bool.true_and]
    rcases Nat.lt_trichotomy i c with h | h | h
    · have := pc_lt h hwi
      rw [Bool.eq_iff_iff]; simp; omega
    · subst h; simp; omega
    · have := pc_lt h hwc
      rw [Bool.eq_iff_iff]; simp; omega
theorem gone_sel {w j x : Nat} (hw : w < 2 ^ 64) (hg : Gone w j x) (hj : j < pc w 64) : (Lib.ctz 64 x : Int) = sel w j := by
  obtain ⟨c, hc, h0, hct, hwc, hpc, hand⟩ := gone_low hw hg hj
  rw [hct, sel_hit hc hwc (by rw [hpc])]

/-! ### A word out of its bits -/
def wordOf (f : Nat → Bool) : Nat → Nat
  | 0 => 0
  | n + 1 => wordOf f n + (if f n then 2 ^ n else 0)
theorem wordOf_lt (f : Nat → Bool) (n : Nat) : wordOf f n < 2 ^ n := by
  induction n with
  | zero => simp [wordOf]
  | succ n ih => simp only [wordOf]; rw [Nat.pow_succ]; split <;> omega
theorem wordOf_bit (f : Nat → Bool) (n i : Nat) : (wordOf f n).testBit i = (decide (i < n) && f i) := by
  induction n with
  | zero => simp [wordOf]
  | succ n ih =>
    have hl := wordOf_lt f n
    have e : wordOf f (n + 1) = 2 ^ n * (if f n then 1 else 0) + wordOf f n := by
      simp only [wordOf]; split <;> omega
    rw [e, Nat.testBit_two_pow_mul_add _ hl, ih]
    by_cases hi : i < n
    · rw [if_pos hi]; simp [hi]; omega
    · rw [if_neg hi]
      by_cases hn : i = n
      · subst hn
        cases hf : f i <;> simp
      · have h1 : ¬ i < n + 1 := by omega
        obtain ⟨d, hd⟩ : ∃ d, i - n = d + 1 := ⟨i - n - 1, by omega⟩
        rw [hd]
        cases f n <;> simp [h1, Nat.testBit_succ]
theorem word_ext {x y n : Nat} (hx : x < 2 ^ n) (hy : y < 2 ^ n) (h : ∀ i, i < n → x.testBit i = y.testBit i) : x = y := by
  apply Nat.eq_of_testBit_eq
  intro i
  by_cases hi : i < n
  · exact h i hi
  · rw [Nat.testBit_lt_two_pow (Nat.lt_of_lt_of_le hx (Nat.pow_le_pow_right (by omega) (by omega))), Nat.testBit_lt_two_pow (Nat.lt_of_lt_of_le hy (Nat.pow_le_pow_right (by omega) (by omega)))]
theorem word_of {x n : Nat} (hx : x < 2 ^ n) (f : Nat → Bool) (h : ∀ i, i < n → x.testBit i = f i) : x = wordOf f n :=
  word_ext hx (wordOf_lt f n) (fun i hi => by rw [wordOf_bit, h i hi]; simp [hi])
theorem bit_over {x i : Nat} (hx : x < 2 ^ 64) (hi : 64 ≤ i) : x.testBit i = false :=
  Nat.testBit_lt_two_pow (Nat.lt_of_lt_of_le hx (Nat.pow_le_pow_right (by omega) hi))

/-- A bit goes in at k: the word. -/
def putW (w k : Nat) (b : Bool) : Nat := wordOf (fun i => if i < k then w.testBit i else if i = k then b else w.testBit (i - 1)) 64
/-- The bit at k goes, b is the highest then: the word. -/
def cutW (w k : Nat) (b : Bool) : Nat := wordOf (fun i => if i < k then w.testBit i else if i = 63 then b else w.testBit (i + 1)) 64
theorem putW_lt (w k : Nat) (b : Bool) : putW w k b < 2 ^ 64 := wordOf_lt _ _
theorem cutW_lt (w k : Nat) (b : Bool) : cutW w k b < 2 ^ 64 := wordOf_lt _ _
theorem putW_bit {w k i : Nat} {b : Bool} (hi : i < 64) : (putW w k b).testBit i = if i < k then w.testBit i else if i = k then b else w.testBit (i - 1) := by
  unfold putW; rw [wordOf_bit]; simp [hi]
theorem cutW_bit {w k i : Nat} {b : Bool} (hi : i < 64) : (cutW w k b).testBit i = if i < k then w.testBit i else if i = 63 then b else w.testBit (i + 1) := by
  unfold cutW; rw [wordOf_bit]; simp [hi]

/-- What Put computes. -/
theorem put_eq {w k : Nat} (b : Bool) (hk : k < 64) (hw : w < 2 ^ 64) : (w % 2 ^ k ||| (if b then 2 ^ k else 0)) ||| ((w &&& (2 ^ 64 - 1 - w % 2 ^ k)) * 2 % 2 ^ 64) = putW w k b := by
  have h2 : (2 : Nat) ^ k ≤ 2 ^ 63 := Nat.pow_le_pow_right (by omega) (by omega)
  have hl : w % 2 ^ k < 2 ^ 64 := by have := Nat.mod_lt w (Nat.two_pow_pos k); omega
  refine word_of (n := 64) (Nat.or_lt_two_pow (Nat.or_lt_two_pow hl (by split <;> omega)) (Nat.mod_lt _ (Nat.two_pow_pos _))) _ (fun i hi => ?_)
  have e : 2 ^ 64 - 1 - w % 2 ^ k = 2 ^ 64 - (w % 2 ^ k + 1) := by omega
  have hb : (if b = true then 2 ^ k else 0 : Nat).testBit i = (b && decide (i = k)) := by
    cases b
    · simp
    · simp [Nat.testBit_two_pow, eq_comm]
  have hs : ((w &&& (2 ^ 64 - 1 - w % 2 ^ k)) * 2 % 2 ^ 64).testBit i = (decide (k < i) && w.testBit (i - 1)) := by
    rw [Nat.testBit_mod_two_pow, e, Nat.mul_comm, show (2 : Nat) * (w &&& (2 ^ 64 - (w % 2 ^ k + 1))) = 2 ^ 1 * (w &&& (2 ^ 64 - (w % 2 ^ k + 1))) from rfl, Nat.testBit_two_pow_mul, Nat.testBit_and, Nat.testBit_two_pow_sub_succ hl, Nat.testBit_mod_two_pow]
    simp only [hi, decide_true, Bool.true_and]
    by_cases h1 : 1 ≤ i
    · have h3 : i - 1 < 64 := by omega
      by_cases h4 : i - 1 < k
      · have h5 : ¬ k < i := by omega
        simp [h1, h3, h4, h5]
      · have h5 : k < i := by omega
        simp [h1, h3, h4, h5]
    · have h5 : ¬ k < i := by omega
      simp [h1, h5]
  rw [Nat.testBit_or, Nat.testBit_or, hb, hs, Nat.testBit_mod_two_pow]
  by_cases h1 : i < k
  · have h2 : ¬ i = k := by omega
    have h3 : ¬ k < i := by omega
    simp [h1, h2, h3]
  · by_cases h2 : i = k
    · subst h2; simp
    · have h3 : k < i := by omega
      simp [h1, h2, h3]
/-- What Cut computes. -/
theorem cut_eq {w k : Nat} (b : Bool) (hk : k < 64) (hw : w < 2 ^ 64) : (w % 2 ^ k ||| (w / 2 &&& (2 ^ 64 - 1 - w / 2 % 2 ^ k))) ||| (if b then 2 ^ 63 else 0) = cutW w k b := by
  have h2 : (2 : Nat) ^ k ≤ 2 ^ 63 := Nat.pow_le_pow_right (by omega) (by omega)
  have hl : w % 2 ^ k < 2 ^ 64 := by have := Nat.mod_lt w (Nat.two_pow_pos k); omega
  have hl2 : w / 2 % 2 ^ k < 2 ^ 64 := by have := Nat.mod_lt (w / 2) (Nat.two_pow_pos k); omega
  have hand : w / 2 &&& (2 ^ 64 - 1 - w / 2 % 2 ^ k) < 2 ^ 64 := Nat.lt_of_le_of_lt Nat.and_le_left (by omega)
  refine word_of (n := 64) (Nat.or_lt_two_pow (Nat.or_lt_two_pow hl hand) (by split <;> omega)) _ (fun i hi => ?_)
  have e : 2 ^ 64 - 1 - w / 2 % 2 ^ k = 2 ^ 64 - (w / 2 % 2 ^ k + 1) := by omega
  have hb : (if b = true then 2 ^ 63 else 0 : Nat).testBit i = (b && decide (i = 63)) := by
    cases b
    · simp
    · rw [if_pos rfl, Nat.testBit_two_pow]; simp [eq_comm]
  have hd : (w / 2).testBit i = w.testBit (i + 1) := by rw [Nat.testBit_succ]
  have hs : (w / 2 &&& (2 ^ 64 - 1 - w / 2 % 2 ^ k)).testBit i = (!decide (i < k) && w.testBit (i + 1)) := by
    rw [e, Nat.testBit_and, Nat.testBit_two_pow_sub_succ hl2, Nat.testBit_mod_two_pow, hd]
    by_cases h1 : i < k <;> simp [h1, hi]
  rw [Nat.testBit_or, Nat.testBit_or, hb, hs, Nat.testBit_mod_two_pow]
  by_cases h1 : i < k
  · have h2 : ¬ i = 63 := by omega
    simp [h1, h2]
  · by_cases h2 : i = 63
    · have h3 : w.testBit 64 = false := bit_over hw (by omega)
      subst h2; simp [h1, h3]
    · simp [h1, h2]
theorem top_bit {w : Nat} (hw : w < 2 ^ 64) : decide (w / 2 ^ 63 = 1) = w.testBit 63 := by
  rw [Nat.testBit_eq_decide_div_mod_eq]
  have : w / 2 ^ 63 < 2 := by omega
  congr 1
  rw [Nat.mod_eq_of_lt this]
theorem some_bit (w k : Nat) : decide ((w / 2 ^ k) &&& 1 = 1) = w.testBit k := by
  rw [Nat.testBit_eq_decide_div_mod_eq, Nat.and_one_is_mod]

end Go.Proofs.YtcppgpjodfeigaaDoor
