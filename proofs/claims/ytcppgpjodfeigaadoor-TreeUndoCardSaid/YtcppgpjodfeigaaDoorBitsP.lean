/- Plain lemmas on words of 64 bits, of no program: how many are 1, which is the next, bits that go in and out. -/
import Derived.Lib.TrailingZeros
namespace Go.Proofs.YtcppgpjodfeigaaDoor
set_option linter.unusedVariables false
set_option linter.unusedSimpArgs false

/-- How many of the first k bits are 1. -/
def pc (w : Nat) : Nat → Nat
  | 0 => 0
  | k + 1 => pc w k + (w.testBit k).toNat

theorem pc_le (w k : Nat) : pc w k ≤ k := by
  induction k with
  | zero => exact Nat.le_refl _
  | succ k ih => have := Bool.toNat_le (w.testBit k); simp only [pc]; omega
theorem pc_mono (w : Nat) {i j : Nat} (h : i ≤ j) : pc w i ≤ pc w j := by
  induction j with
  | zero => have : i = 0 := by omega
            rw [this]; exact Nat.le_refl _
  | succ j ih =>
    rcases Nat.lt_or_ge j i with h1 | h1
    · have : i = j + 1 := by omega
      rw [this]; exact Nat.le_refl _
    · have := ih h1; simp only [pc]; omega
theorem pc_congr {w v k : Nat} (h : ∀ i, i < k → w.testBit i = v.testBit i) : pc w k = pc v k := by
  induction k with
  | zero => rfl
  | succ k ih => simp only [pc]; rw [ih (fun i hi => h i (by omega)), h k (by omega)]
theorem pc_zero (k : Nat) : pc 0 k = 0 := by
  induction k with
  | zero => rfl
  | succ k ih => simp [pc, ih]
theorem pc_add (w a b : Nat) : pc w (a + b) = pc w a + pc (w / 2 ^ a) b := by
  induction b with
  | zero => rfl
  | succ b ih =>
    rw [← Nat.add_assoc]; simp only [pc]; rw [ih, Nat.testBit_div_two_pow, Nat.add_comm b a]; omega
theorem pc_over {w m : Nat} (h : w < 2 ^ m) (b : Nat) : pc w (m + b) = pc w m := by
  rw [pc_add, Nat.div_eq_of_lt h, pc_zero]; rfl
theorem pc_ge {w m k : Nat} (h : w < 2 ^ m) (hk : m ≤ k) : pc w k = pc w m := by
  obtain ⟨b, rfl⟩ := Nat.exists_eq_add_of_le hk
  exact pc_over h b

/-! ### The count, eight bits at a time -/

def m55 : Nat → Nat | 0 => 0 | n + 1 => 256 * m55 n + 85
def m33 : Nat → Nat | 0 => 0 | n + 1 => 256 * m33 n + 51
def m0f : Nat → Nat | 0 => 0 | n + 1 => 256 * m0f n + 15
def st1 (n x : Nat) : Nat := (x / 2 &&& m55 n) + (x &&& m55 n)
def st2 (n x : Nat) : Nat := (x / 4 &&& m33 n) + (x &&& m33 n)
def st3 (n x : Nat) : Nat := (x / 16 + x) &&& m0f n

theorem and_split (k a b : Nat) : a &&& b = 2 ^ k * ((a / 2 ^ k) &&& (b / 2 ^ k)) + ((a % 2 ^ k) &&& (b % 2 ^ k)) := by
  apply Nat.eq_of_testBit_eq
  intro i
  have hlt : (a % 2 ^ k) &&& (b % 2 ^ k) < 2 ^ k := Nat.lt_of_le_of_lt Nat.and_le_left (Nat.mod_lt _ (Nat.two_pow_pos k))
  rw [Nat.testBit_two_pow_mul_add _ hlt]
  split
  · rename_i h
    simp [Nat.testBit_and, Nat.testBit_mod_two_pow, h]
  · rename_i h
    rw [Nat.testBit_and, Nat.testBit_and, Nat.testBit_div_two_pow, Nat.testBit_div_two_pow, Nat.sub_add_cancel (by omega)]

theorem and_split8 (a b c : Nat) (hc : c < 256) : a &&& (256 * b + c) = 256 * ((a / 256) &&& b) + ((a % 256) &&& c) := by
  have := and_split 8 a (256 * b + c)
  simp only [Nat.reducePow] at this
  rw [this, show (256 * b + c) / 256 = b by omega, show (256 * b + c) % 256 = c by omega]

theorem st1_succ (n x : Nat) : st1 (n + 1) x = 256 * st1 n (x / 256) + st1 1 (x % 256) := by
  have h7 : (x / 2 % 256) &&& 85 = (x % 256 / 2) &&& 85 := by
    have e1 := and_split 7 (x / 2 % 256) 85
    have e2 := and_split 7 (x % 256 / 2) 85
    simp only [Nat.reducePow, Nat.reduceDiv, Nat.and_zero, Nat.reduceMod] at e1 e2
    rw [e1, e2, show x / 2 % 256 % 128 = x % 256 / 2 % 128 by omega]
  have h8 : m55 1 = 85 := rfl
  simp only [st1, m55]
  rw [and_split8 _ _ _ (by omega), and_split8 _ _ _ (by omega), h7, show x / 2 / 256 = x / 256 / 2 by omega]
  simp only [Nat.mul_zero, Nat.zero_add]
  omega
theorem st2_succ (n x : Nat) : st2 (n + 1) x = 256 * st2 n (x / 256) + st2 1 (x % 256) := by
  have h7 : (x / 4 % 256) &&& 51 = (x % 256 / 4) &&& 51 := by
    have e1 := and_split 6 (x / 4 % 256) 51
    have e2 := and_split 6 (x % 256 / 4) 51
    simp only [Nat.reducePow, Nat.reduceDiv, Nat.and_zero, Nat.reduceMod] at e1 e2
    rw [e1, e2, show x / 4 % 256 % 64 = x % 256 / 4 % 64 by omega]
  simp only [st2, m33]
  rw [and_split8 _ _ _ (by omega), and_split8 _ _ _ (by omega), h7, show x / 4 / 256 = x / 256 / 4 by omega]
  simp only [Nat.mul_zero, Nat.zero_add]
  omega
theorem st3_succ (n x : Nat) (h0 : x % 256 ≤ 68) (h1 : x / 256 % 16 ≤ 4) : st3 (n + 1) x = 256 * st3 n (x / 256) + st3 1 (x % 256) := by
  have h7 : ((x / 16 + x) % 256) &&& 15 = (x % 256 / 16 + x % 256) &&& 15 := by
    have e1 := and_split 4 ((x / 16 + x) % 256) 15
    have e2 := and_split 4 (x % 256 / 16 + x % 256) 15
    simp only [Nat.reducePow, Nat.reduceDiv, Nat.and_zero, Nat.reduceMod] at e1 e2
    rw [e1, e2, show (x / 16 + x) % 256 % 16 = (x % 256 / 16 + x % 256) % 16 by omega]
  simp only [st3, m0f]
  rw [and_split8 _ _ _ (by omega), h7, show (x / 16 + x) / 256 = x / 256 / 16 + x / 256 by omega]

theorem byte_stages : ∀ b : Fin 256, st1 1 b.val < 256 ∧ st2 1 (st1 1 b.val) ≤ 68 ∧ st2 1 (st1 1 b.val) % 16 ≤ 4 ∧ st3 1 (st2 1 (st1 1 b.val)) = pc b.val 8 := by decide +kernel

/-- Of n bytes: what the three steps leave is the counts of each byte. -/
def tally8 : Nat → Nat → Nat | 0, _ => 0 | n + 1, x => 256 * tally8 n (x / 256) + pc (x % 256) 8
theorem st1_div (n x : Nat) : st1 (n + 1) x / 256 = st1 n (x / 256) ∧ st1 (n + 1) x % 256 = st1 1 (x % 256) := by
  have h := (byte_stages ⟨x % 256, by omega⟩).1
  simp only at h
  rw [st1_succ]; omega
theorem st2_div (n x : Nat) (h : st2 1 (x % 256) < 256) : st2 (n + 1) x / 256 = st2 n (x / 256) ∧ st2 (n + 1) x % 256 = st2 1 (x % 256) := by
  rw [st2_succ]; omega
theorem st12 (n x : Nat) : st2 (n + 1) (st1 (n + 1) x) / 256 = st2 n (st1 n (x / 256)) ∧ st2 (n + 1) (st1 (n + 1) x) % 256 = st2 1 (st1 1 (x % 256)) := by
  have h := byte_stages ⟨x % 256, by omega⟩
  simp only at h
  obtain ⟨e1, e2⟩ := st1_div n x
  have := st2_div n (st1 (n + 1) x) (by rw [e2]; omega)
  rw [e1, e2] at this
  exact this
theorem stages (n x : Nat) : st3 n (st2 n (st1 n x)) = tally8 n x := by
  induction n generalizing x with
  | zero => simp [st3, m0f, tally8]
  | succ n ih =>
    have h := byte_stages ⟨x % 256, by omega⟩
    simp only at h
    obtain ⟨e1, e2⟩ := st12 n x
    rw [st3_succ n _ (by rw [e2]; omega) ?_, e1, e2, ih, h.2.2.2]
    · rfl
    · rw [e1]
      cases n with
      | zero => simp [st2, m33]
      | succ n =>
        have h' := byte_stages ⟨x / 256 % 256, by omega⟩
        simp only at h'
        have := (st12 n (x / 256)).2
        omega

theorem pc_bytes (n x : Nat) : pc x (8 * (n + 1)) = pc (x % 256) 8 + pc (x / 256) (8 * n) := by
  rw [show 8 * (n + 1) = 8 + 8 * n by omega, pc_add]
  congr 1
  exact pc_congr (fun i hi => by rw [show 256 = 2 ^ 8 from rfl, Nat.testBit_mod_two_pow]; simp [hi])

/-- The end of the count: the bytes are put together. -/
def fold8 (x : Nat) : Nat := (x + x / 256 + (x + x / 256) / 65536) + (x + x / 256 + (x + x / 256) / 65536) / 4294967296
theorem dg {n b c : Nat} (h : n = 256 * b + c) (hc : c < 256) : n / 256 = b := by omega
theorem dg2 {n b c : Nat} (h : n = 256 * b + c) (hc : c < 256) : n % 256 = c := by omega
theorem dgs {x y a b c d : Nat} (h : x = 256 * a + c) (k : y = 256 * b + d) : x + y = 256 * (a + b) + (c + d) := by omega
theorem div4 (n : Nat) : n / 4294967296 = n / 256 / 256 / 256 / 256 := by rw [Nat.div_div_eq_div_mul, Nat.div_div_eq_div_mul, Nat.div_div_eq_div_mul]
theorem div2 (n : Nat) : n / 65536 = n / 256 / 256 := by rw [Nat.div_div_eq_div_mul]
theorem le2 {a b : Nat} (h : a ≤ 8) (k : b ≤ 8) : a + b < 256 := by omega
theorem le4 {a b c d : Nat} (h : a ≤ 8) (k : b ≤ 8) (l : c ≤ 8) (m : d ≤ 8) : a + b + (c + d) < 256 := by omega
theorem le8 {a b c d e f g i : Nat} (h : a ≤ 8) (k : b ≤ 8) (l : c ≤ 8) (m : d ≤ 8) (h' : e ≤ 8) (k' : f ≤ 8) (l' : g ≤ 8) (m' : i ≤ 8) : a + b + (c + d) + (e + f + (g + i)) < 256 := by omega
theorem fold_digits {X0 X1 X2 X3 X4 X5 X6 X7 c0 c1 c2 c3 c4 c5 c6 : Nat} (e0 : X0 = 256 * X1 + c0) (e1 : X1 = 256 * X2 + c1) (e2 : X2 = 256 * X3 + c2) (e3 : X3 = 256 * X4 + c3)
    (e4 : X4 = 256 * X5 + c4) (e5 : X5 = 256 * X6 + c5) (e6 : X6 = 256 * X7 + c6) (h0 : c0 ≤ 8) (h1 : c1 ≤ 8) (h2 : c2 ≤ 8) (h3 : c3 ≤ 8) (h4 : c4 ≤ 8) (h5 : c5 ≤ 8) (h6 : c6 ≤ 8) (h7 : X7 ≤ 8) :
    fold8 X0 % 256 = c0 + c1 + c2 + c3 + c4 + c5 + c6 + X7 := by
  have e7 : X7 = 256 * 0 + X7 := by simp
  have a0 : X0 / 256 = X1 := dg e0 (by omega)
  have a1 : X0 + X0 / 256 = 256 * (X1 + X2) + (c0 + c1) := by rw [a0]; exact dgs e0 e1
  have b1 := dgs e1 e2
  have b2 := dgs e2 e3
  have b3 := dgs e3 e4
  have b4 := dgs e4 e5
  have b5 := dgs e5 e6
  have b6 := dgs e6 e7
  have a2 : (256 * (X1 + X2) + (c0 + c1)) / 65536 = X2 + X3 := by
    rw [div2, dg rfl (le2 h0 h1)]; exact dg b1 (le2 h1 h2)
  have a3 : 256 * (X1 + X2) + (c0 + c1) + (X2 + X3) = 256 * (X1 + X2 + (X3 + X4)) + (c0 + c1 + (c2 + c3)) := dgs rfl b2
  have s1 := dgs b1 b3
  have s2 := dgs b2 b4
  have s3 := dgs b3 b5
  have s4 := dgs b4 b6
  unfold fold8
  rw [a1, a2, a3, div4, dg rfl (le4 h0 h1 h2 h3), dg s1 (le4 h1 h2 h3 h4), dg s2 (le4 h2 h3 h4 h5), dg s3 (le4 h3 h4 h5 h6)]
  rw [dg2 (dgs rfl s4) (le8 h0 h1 h2 h3 h4 h5 h6 h7)]
  simp only [Nat.add_assoc]

theorem tally_succ (n x : Nat) : tally8 (n + 1) x = 256 * tally8 n (x / 256) + pc (x % 256) 8 := rfl
theorem fold_tally (x : Nat) : fold8 (tally8 8 x) % 256 = pc x 64 := by
  have e7 : tally8 1 (x / 256 / 256 / 256 / 256 / 256 / 256 / 256) = pc (x / 256 / 256 / 256 / 256 / 256 / 256 / 256 % 256) 8 := by rw [tally_succ]; simp [tally8]
  have p0 : pc x 64 = _ := pc_bytes 7 x
  have p1 : pc (x / 256) (8 * 7) = _ := pc_bytes 6 (x / 256)
  have p2 : pc (x / 256 / 256) (8 * 6) = _ := pc_bytes 5 (x / 256 / 256)
  have p3 : pc (x / 256 / 256 / 256) (8 * 5) = _ := pc_bytes 4 (x / 256 / 256 / 256)
  have p4 : pc (x / 256 / 256 / 256 / 256) (8 * 4) = _ := pc_bytes 3 (x / 256 / 256 / 256 / 256)
  have p5 : pc (x / 256 / 256 / 256 / 256 / 256) (8 * 3) = _ := pc_bytes 2 (x / 256 / 256 / 256 / 256 / 256)
  have p6 : pc (x / 256 / 256 / 256 / 256 / 256 / 256) (8 * 2) = _ := pc_bytes 1 (x / 256 / 256 / 256 / 256 / 256 / 256)
  have p7 : pc (x / 256 / 256 / 256 / 256 / 256 / 256 / 256) (8 * 1) = _ := pc_bytes 0 (x / 256 / 256 / 256 / 256 / 256 / 256 / 256)
  have pz : pc (x / 256 / 256 / 256 / 256 / 256 / 256 / 256 / 256) (8 * 0) = 0 := rfl
  rw [fold_digits (tally_succ 7 x) (tally_succ 6 _) (tally_succ 5 _) (tally_succ 4 _) (tally_succ 3 _) (tally_succ 2 _) (tally_succ 1 _) (pc_le _ _) (pc_le _ _) (pc_le _ _) (pc_le _ _) (pc_le _ _) (pc_le _ _) (pc_le _ _) (by rw [e7]; exact pc_le _ _), e7, p0, p1, p2, p3, p4, p5, p6, p7, pz]
  omega
theorem tally_lt : ∀ (n x : Nat), tally8 n x * 31 < 256 ^ n
  | 0, x => by simp [tally8]
  | n + 1, x => by
    have := tally_lt n (x / 256)
    have h := pc_le (x % 256) 8
    rw [tally_succ, Nat.pow_succ]
    omega

end Go.Proofs.YtcppgpjodfeigaaDoor
