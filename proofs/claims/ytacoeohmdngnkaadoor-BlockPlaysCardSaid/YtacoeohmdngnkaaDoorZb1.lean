/- Lemmas and contracts under the claims of this seat: General lemmas, of no program: pushing one element, rows that are read, frames. Plain lemmas on words of 64 bits, of no program: how many are 1, which is the next, bits that go in and out. Plain lemmas on words of 64 bits, of no program: the place of a bit, words out of their bits, bits that go in and out. Contracts of package bits, and of the two functions of math/bits that it calls. Plain lemmas for the laws on words. scrimshawlaw1.told and the law's small helpers; contracts of package bits where arguments and answers are numerals. Plain lemmas on blocks of up to 128 bits: two words and the list of bits that they hold. Frames: which blocks a step may have changed; own rows and rows that are read behind it; of no program. Laws on append that say where the new row lies; of no program. Rows that are read, of whatever cells; slices of them; append, operation by operation; of no program. Laws to meet a region that draws its order, one operation after the other; of no program. Contracts of package block that read: Len, has, Get, Ones, Rank, Select. Contracts of block.Rank and block.Select. Arrays whose cells are told by a function of the place; of no program. -/
import Derived.Test.YtacoeohmdngnkaaDoorProg
import Derived.WalkKit
import Derived.WalkLawsBesides
import Derived.WalkSpells
import Derived.Lib.Hide
import Derived.Lib.TrailingZeros
import Derived.Shelf.Spec.TrailingZeros
import Derived.Deep.QuietTactic
import Derived.BigQuiet
import Derived.Deep.DeepCutAuto
import Derived.Deep.CutBlock
import Derived.Deep.CutRange
import Derived.Laws.AppendOwnNone
import Derived.Deep.Draws
import Derived.OneCell
import Derived.Deep.AppendLies
import Derived.Deep.RegionHeld3
import Derived.LoopN

namespace Go.Proofs.YtacoeohmdngnkaaDoor
open Go.RowKit

theorem ret_bool {a b : Bool} (h : a = b) : Ending.returned (.bool a) = Ending.returned (.bool b) := by rw [h]
theorem ret_int {k : IntKind} {a b : Int} (h : a = b) : Ending.returned (.int k a) = Ending.returned (.int k b) := by rw [h]

/-- An own row that is not empty has an address, and its cells. -/
theorem own_some {w : World} {base : Nat} {e : TypeId} {v : Value} {n : Nat} {xs : List Value} (h : w.ownsRow base e 1 v n xs) (hn : 0 < n) :
    ∃ g cap, v = .slice (some ⟨g, 0, none⟩) n cap ∧ base ≤ g ∧ g < w.heap.size ∧ n ≤ cap ∧ cap ≤ maxLen ∧ (∀ j, j < n → w.cell? ⟨g, j, none⟩ = xs[j]?) ∧ (∀ j, w.frozen? ⟨g, j, none⟩ = false) := by
  obtain ⟨hl, hh⟩ := h
  rcases hh with ⟨_, h0⟩ | ⟨g, cap, cur, hv, hb, hg, hc, hm, hs, ht⟩
  · omega
  · refine ⟨g, cap, hv, hb, (Array.getElem?_eq_some_iff.1 hg).1, hc, hm, fun j hj => ?_, fun j => frozen_of_row w g j cur e hg⟩
    rw [cell_of_row w g j cur e (0, 0) hg, ← ht, List.getElem?_take, if_pos (by omega)]
    simp

theorem own_len {w : World} {base : Nat} {e : TypeId} {v : Value} {n : Nat} {xs : List Value} (h : w.ownsRow base e 1 v n xs) : xs.length = n := by
  have := h.1; omega

theorem own_empty {w : World} {base : Nat} {e : TypeId} {v : Value} {xs : List Value} (h : w.ownsRow base e 1 v 0 xs) : xs = [] := List.eq_nil_of_length_eq_zero (by have := h.1; omega)

/-- Behind a step that keeps all blocks below B an own row below it is kept. -/
theorem own_below {w w' : World} {base B : Nat} {e : TypeId} {v : Value} {n : Nat} {xs : List Value} (h : w.ownsRow base e 1 v n xs) (hb : Below B w w') (hB : ∀ k, v.ownBlock = some k → k < B) : w'.ownsRow base e 1 v n xs := by
  refine ⟨h.1, ?_⟩
  rcases h.2 with hn | ⟨g, cap, cur, rfl, hbg, hg, rest⟩
  · exact .inl hn
  · exact .inr ⟨g, cap, cur, rfl, hbg, by rw [hb.block g (hB g rfl)]; exact hg, rest⟩

theorem own_mono {w : World} {base base' : Nat} {e : TypeId} {v : Value} {n : Nat} {xs : List Value} (h : w.ownsRow base e 1 v n xs) (hb : base' ≤ base) : w.ownsRow base' e 1 v n xs := by
  refine ⟨h.1, ?_⟩
  rcases h.2 with hn | ⟨g, cap, cur, rfl, hbg, rest⟩
  · exact .inl hn
  · exact .inr ⟨g, cap, cur, rfl, by omega, rest⟩

/-- 'l = append(l, x)': one element is pushed on a row of the call's own. -/
theorem wpList_push {P : Program} {w : World} {ops : Array Oper} {rest : List Oper} {o : Oper} {a : Act} {Q : Exit → Act → World → Prop} {e' : TypeId} {u : Value} (hgd : o.guard = none) (s x : Operand) (t : TypeId)
    (ho : o.op = .call { callee := .builtin .append, args := #[s, x], argTypes := #[t, t] })
    (base : Nat) (e : TypeId) {z : Value} {bytes : Nat} (hinfo : (P.info? e).map (fun i => (i.zero, i.size, i.bytes)) = some (some z, 1, bytes)) (ht : P.underlying t = some (.slice e)) (hz1 : z.cells.size = 1)
    (v : Value) (n : Nat) (xs : List Value) (hs : a.eval s = v) (hown : w.ownsRow base e 1 v n xs)
    (hx : a.eval x = .slice (some ⟨w.heap.size, 0, none⟩) 1 1) (h1 : u.oneCell' = true)
    (h63 : n + 1 ≤ maxLen) (hbytes : (n + 1) * bytes ≤ 140737488355328) (hbase : base ≤ w.heap.size)
    (h : ∀ v' w', w'.ownsRow base e 1 v' (n + 1) (xs ++ [u]) → w.grownBy w' v.ownBlock → wpList P ops Q rest (a.put o.dst v') w') : wpList P ops Q (o :: rest) a (w.alloc (.cells #[u] e')) := by
  obtain ⟨i, hi, hz, hsz, hby⟩ := info_parts hinfo
  refine wpList_append_own (w.alloc (.cells #[u] e')) hgd s x t ho base e i z 1 bytes ht hi hz hsz hby hz1 (by omega) v n xs hs (hown.alloc _) ⟨w.heap.size, 0, none⟩ 1 1 [u] hx rfl ?_ ?_ h63 hbytes ?_ ?_
  · intro j u' hj
    match j, hj with
    | 0, hj => simp at hj; subst hj; simp [Addr.add]
  · intro u' hu; simp at hu; subst hu; exact h1
  · simp; omega
  · intro v' w' h1 h2 _
    exact h v' w' h1 ⟨h2.os, h2.tape, h2.output, by have := h2.size; simp at this; omega, fun k hk hne => by
      rw [h2.block k (by simp; omega) hne]; exact Below.heap_alloc w _ k hk⟩

/-- A slice that is read: its length, and where its elements lie. -/
def Reads (w : World) (k : IntKind) (a : Option Addr) (xs : List Int) : Prop :=
  ∀ i, i < xs.length → ∃ b off, a = some ⟨b, off, none⟩ ∧ b < w.heap.size ∧ ∀ j, j < xs.length → w.cell? ⟨b, off + j, none⟩ = some (.int k (xs[j]?.getD 0))

theorem Reads.some {w : World} {k : IntKind} {a : Option Addr} {xs : List Int} (h : Reads w k a xs) (hn : 0 < xs.length) :
    ∃ b off, a = some ⟨b, off, none⟩ ∧ b < w.heap.size ∧ ∀ j, j < xs.length → w.cell? ⟨b, off + j, none⟩ = some (.int k (xs[j]?.getD 0)) := h 0 hn

theorem Reads.below {w w' : World} {k : IntKind} {a : Option Addr} {xs : List Int} (h : Reads w k a xs) (hb : Below w.heap.size w w') : Reads w' k a xs := by
  intro i hi
  obtain ⟨b, off, ha, hlt, hc⟩ := h i hi
  exact ⟨b, off, ha, by have := hb.size; omega, fun j hj => (hb.cell hlt).trans (hc j hj)⟩

theorem Reads.belowB {w w' : World} {B : Nat} {k : IntKind} {a : Option Addr} {xs : List Int} (h : Reads w k a xs) (hb : Below B w w') (hB : w.heap.size ≤ B) : Reads w' k a xs := h.below (hb.mono hB)

theorem Reads.nil {w : World} {k : IntKind} {a : Option Addr} : Reads w k a [] := fun i hi => absurd hi (by simp)

theorem reads_one {w : World} {k : IntKind} {b off : Nat} {x : Int} (h : w.cell? ⟨b, off, none⟩ = some (.int k x)) : Reads w k (some ⟨b, off, none⟩) [x] := by
  intro i hi
  refine ⟨b, off, rfl, World.block_lt_of_cell? w _ h, fun j hj => ?_⟩
  obtain rfl : j = 0 := by simpa using hj
  exact h

/-- All numbers of a list are bytes. -/
def Bytes (xs : List Int) : Prop := ∀ i, i < xs.length → 0 ≤ xs[i]?.getD 0 ∧ xs[i]?.getD 0 < 256
theorem bytes_nil : Bytes [] := fun i hi => absurd hi (by simp)
theorem bytes_one {x : Int} (h0 : 0 ≤ x) (h1 : x < 256) : Bytes [x] := fun i hi => by
  obtain rfl : i = 0 := by simpa using hi
  exact ⟨h0, h1⟩

/-- A row of integers that came in: it can be read, its numbers fit their kind, its length is bounded. -/
structure ArgI (k : IntKind) (w : World) (a : Option Addr) (cap : Nat) (xs : List Int) : Prop where
  reads : Reads w k a xs
  wf : ∀ i, i < xs.length → (Lit.int k (xs[i]?.getD 0)).wf = true
  le : xs.length ≤ cap
  max : cap ≤ maxLen
  nil : a = none → cap = 0

/-- An own row of ints is one that is read. -/
theorem own_reads {w : World} {base : Nat} {e : TypeId} {k : IntKind} {a : Option Addr} {n c : Nat} {xs : List Int} (h : w.ownsRow base e 1 (.slice a n c) n (xs.map (Value.int k))) : Reads w k a xs := by
  have hl := own_len h
  rw [List.length_map] at hl
  intro i hi
  obtain ⟨g, cap, hv, hb, hg, hc, hm, hcell, _⟩ := own_some h (by omega)
  injection hv with h1 h2 h3
  refine ⟨g, 0, h1, hg, fun j hj => ?_⟩
  rw [Nat.zero_add, hcell j (by omega), List.getElem?_map, List.getElem?_eq_getElem hj]
  rfl

end Go.Proofs.YtacoeohmdngnkaaDoor

namespace Go.Proofs.YtacoeohmdngnkaaDoor
set_option linter.unusedVariables false
set_option linter.unusedSimpArgs false

/-- How many of the first k bits are 1. -/
def pc (w : Nat) : Nat → Nat
  | 0 => 0
  | k + 1 => pc w k + (w.testBit k).toNat

theorem pc_le (w k : Nat) : pc w k ≤ k := by
  induction k with
  | zero => exact Nat.le_refl _
  | succ k ih => have := Bool.toNat_le (w.testBit k); simp only [pc]; omega
theorem pc_mono (w : Nat) {i j : Nat} (h : i ≤ j) : pc w i ≤ pc w j := by
  induction j with
  | zero => have : i = 0 := by omega
            rw [this]; exact Nat.le_refl _
  | succ j ih =>
    rcases Nat.lt_or_ge j i with h1 | h1
    · have : i = j + 1 := by omega
      rw [this]; exact Nat.le_refl _
    · have := ih h1; simp only [pc]; omega
theorem pc_congr {w v k : Nat} (h : ∀ i, i < k → w.testBit i = v.testBit i) : pc w k = pc v k := by
  induction k with
  | zero => rfl
  | succ k ih => simp only [pc]; rw [ih (fun i hi => h i (by omega)), h k (by omega)]
theorem pc_zero (k : Nat) : pc 0 k = 0 := by
  induction k with
  | zero => rfl
  | succ k ih => simp [pc, ih]
theorem pc_add (w a b : Nat) : pc w (a + b) = pc w a + pc (w / 2 ^ a) b := by
  induction b with
  | zero => rfl
  | succ b ih =>
    rw [← Nat.add_assoc]; simp only [pc]; rw [ih, Nat.testBit_div_two_pow, Nat.add_comm b a]; omega
theorem pc_over {w m : Nat} (h : w < 2 ^ m) (b : Nat) : pc w (m + b) = pc w m := by
  rw [pc_add, Nat.div_eq_of_lt h, pc_zero]; rfl
theorem pc_ge {w m k : Nat} (h : w < 2 ^ m) (hk : m ≤ k) : pc w k = pc w m := by
  obtain ⟨b, rfl⟩ := Nat.exists_eq_add_of_le hk
  exact pc_over h b

/-! ### The count, eight bits at a time -/

def m55 : Nat → Nat | 0 => 0 | n + 1 => 256 * m55 n + 85
def m33 : Nat → Nat | 0 => 0 | n + 1 => 256 * m33 n + 51
def m0f : Nat → Nat | 0 => 0 | n + 1 => 256 * m0f n + 15
def st1 (n x : Nat) : Nat := (x / 2 &&& m55 n) + (x &&& m55 n)
def st2 (n x : Nat) : Nat := (x / 4 &&& m33 n) + (x &&& m33 n)
def st3 (n x : Nat) : Nat := (x / 16 + x) &&& m0f n

theorem and_split (k a b : Nat) : a &&& b = 2 ^ k * ((a / 2 ^ k) &&& (b / 2 ^ k)) + ((a % 2 ^ k) &&& (b % 2 ^ k)) := by
  apply Nat.eq_of_testBit_eq
  intro i
  have hlt : (a % 2 ^ k) &&& (b % 2 ^ k) < 2 ^ k := Nat.lt_of_le_of_lt Nat.and_le_left (Nat.mod_lt _ (Nat.two_pow_pos k))
  rw [Nat.testBit_two_pow_mul_add _ hlt]
  split
  · rename_i h
    simp [Nat.testBit_and, Nat.testBit_mod_two_pow, h]
  · rename_i h
    rw [Nat.testBit_and, Nat.testBit_and, Nat.testBit_div_two_pow, Nat.testBit_div_two_pow, Nat.sub_add_cancel (by omega)]

theorem and_split8 (a b c : Nat) (hc : c < 256) : a &&& (256 * b + c) = 256 * ((a / 256) &&& b) + ((a % 256) &&& c) := by
  have := and_split 8 a (256 * b + c)
  simp only [Nat.reducePow] at this
  rw [this, show (256 * b + c) / 256 = b by omega, show (256 * b + c) % 256 = c by omega]

theorem st1_succ (n x : Nat) : st1 (n + 1) x = 256 * st1 n (x / 256) + st1 1 (x % 256) := by
  have h7 : (x / 2 % 256) &&& 85 = (x % 256 / 2) &&& 85 := by
    have e1 := and_split 7 (x / 2 % 256) 85
    have e2 := and_split 7 (x % 256 / 2) 85
    simp only [Nat.reducePow, Nat.reduceDiv, Nat.and_zero, Nat.reduceMod] at e1 e2
    rw [e1, e2, show x / 2 % 256 % 128 = x % 256 / 2 % 128 by omega]
  have h8 : m55 1 = 85 := rfl
  simp only [st1, m55]
  rw [and_split8 _ _ _ (by omega), and_split8 _ _ _ (by omega), h7, show x / 2 / 256 = x / 256 / 2 by omega]
  simp only [Nat.mul_zero, Nat.zero_add]
  omega
theorem st2_succ (n x : Nat) : st2 (n + 1) x = 256 * st2 n (x / 256) + st2 1 (x % 256) := by
  have h7 : (x / 4 % 256) &&& 51 = (x % 256 / 4) &&& 51 := by
    have e1 := and_split 6 (x / 4 % 256) 51
    have e2 := and_split 6 (x % 256 / 4) 51
    simp only [Nat.reducePow, Nat.reduceDiv, Nat.and_zero, Nat.reduceMod] at e1 e2
    rw [e1, e2, show x / 4 % 256 % 64 = x % 256 / 4 % 64 by omega]
  simp only [st2, m33]
  rw [and_split8 _ _ _ (by omega), and_split8 _ _ _ (by omega), h7, show x / 4 / 256 = x / 256 / 4 by omega]
  simp only [Nat.mul_zero, Nat.zero_add]
  omega
theorem st3_succ (n x : Nat) (h0 : x % 256 ≤ 68) (h1 : x / 256 % 16 ≤ 4) : st3 (n + 1) x = 256 * st3 n (x / 256) + st3 1 (x % 256) := by
  have h7 : ((x / 16 + x) % 256) &&& 15 = (x % 256 / 16 + x % 256) &&& 15 := by
    have e1 := and_split 4 ((x / 16 + x) % 256) 15
    have e2 := and_split 4 (x % 256 / 16 + x % 256) 15
    simp only [Nat.reducePow, Nat.reduceDiv, Nat.and_zero, Nat.reduceMod] at e1 e2
    rw [e1, e2, show (x / 16 + x) % 256 % 16 = (x % 256 / 16 + x % 256) % 16 by omega]
  simp only [st3, m0f]
  rw [and_split8 _ _ _ (by omega), h7, show (x / 16 + x) / 256 = x / 256 / 16 + x / 256 by omega]

theorem byte_stages : ∀ b : Fin 256, st1 1 b.val < 256 ∧ st2 1 (st1 1 b.val) ≤ 68 ∧ st2 1 (st1 1 b.val) % 16 ≤ 4 ∧ st3 1 (st2 1 (st1 1 b.val)) = pc b.val 8 := by decide +kernel

/-- Of n bytes: what the three steps leave is the counts of each byte. -/
def tally8 : Nat → Nat → Nat | 0, _ => 0 | n + 1, x => 256 * tally8 n (x / 256) + pc (x % 256) 8
theorem st1_div (n x : Nat) : st1 (n + 1) x / 256 = st1 n (x / 256) ∧ st1 (n + 1) x % 256 = st1 1 (x % 256) := by
  have h := (byte_stages ⟨x % 256, by omega⟩).1
  simp only at h
  rw [st1_succ]; omega
theorem st2_div (n x : Nat) (h : st2 1 (x % 256) < 256) : st2 (n + 1) x / 256 = st2 n (x / 256) ∧ st2 (n + 1) x % 256 = st2 1 (x % 256) := by
  rw [st2_succ]; omega
theorem st12 (n x : Nat) : st2 (n + 1) (st1 (n + 1) x) / 256 = st2 n (st1 n (x / 256)) ∧ st2 (n + 1) (st1 (n + 1) x) % 256 = st2 1 (st1 1 (x % 256)) := by
  have h := byte_stages ⟨x % 256, by omega⟩
  simp only at h
  obtain ⟨e1, e2⟩ := st1_div n x
  have := st2_div n (st1 (n + 1) x) (by rw [e2]; omega)
  rw [e1, e2] at this
  exact this
theorem stages (n x : Nat) : st3 n (st2 n (st1 n x)) = tally8 n x := by
  induction n generalizing x with
  | zero => simp [st3, m0f, tally8]
  | succ n ih =>
    have h := byte_stages ⟨x % 256, by omega⟩
    simp only at h
    obtain ⟨e1, e2⟩ := st12 n x
    rw [st3_succ n _ (by rw [e2]; omega) ?_, e1, e2, ih, h.2.2.2]
    · rfl
    · rw [e1]
      cases n with
      | zero => simp [st2, m33]
      | succ n =>
        have h' := byte_stages ⟨x / 256 % 256, by omega⟩
        simp only at h'
        have := (st12 n (x / 256)).2
        omega

theorem pc_bytes (n x : Nat) : pc x (8 * (n + 1)) = pc (x % 256) 8 + pc (x / 256) (8 * n) := by
  rw [show 8 * (n + 1) = 8 + 8 * n by omega, pc_add]
  congr 1
  exact pc_congr (fun i hi => by rw [show 256 = 2 ^ 8 from rfl, Nat.testBit_mod_two_pow]; simp [hi])

/-- The end of the count: the bytes are put together. -/
def fold8 (x : Nat) : Nat := (x + x / 256 + (x + x / 256) / 65536) + (x + x / 256 + (x + x / 256) / 65536) / 4294967296
theorem dg {n b c : Nat} (h : n = 256 * b + c) (hc : c < 256) : n / 256 = b := by omega
theorem dg2 {n b c : Nat} (h : n = 256 * b + c) (hc : c < 256) : n % 256 = c := by omega
theorem dgs {x y a b c d : Nat} (h : x = 256 * a + c) (k : y = 256 * b + d) : x + y = 256 * (a + b) + (c + d) := by omega
theorem div4 (n : Nat) : n / 4294967296 = n / 256 / 256 / 256 / 256 := by rw [Nat.div_div_eq_div_mul, Nat.div_div_eq_div_mul, Nat.div_div_eq_div_mul]
theorem div2 (n : Nat) : n / 65536 = n / 256 / 256 := by rw [Nat.div_div_eq_div_mul]
theorem le2 {a b : Nat} (h : a ≤ 8) (k : b ≤ 8) : a + b < 256 := by omega
theorem le4 {a b c d : Nat} (h : a ≤ 8) (k : b ≤ 8) (l : c ≤ 8) (m : d ≤ 8) : a + b + (c + d) < 256 := by omega
theorem le8 {a b c d e f g i : Nat} (h : a ≤ 8) (k : b ≤ 8) (l : c ≤ 8) (m : d ≤ 8) (h' : e ≤ 8) (k' : f ≤ 8) (l' : g ≤ 8) (m' : i ≤ 8) : a + b + (c + d) + (e + f + (g + i)) < 256 := by omega
theorem fold_digits {X0 X1 X2 X3 X4 X5 X6 X7 c0 c1 c2 c3 c4 c5 c6 : Nat} (e0 : X0 = 256 * X1 + c0) (e1 : X1 = 256 * X2 + c1) (e2 : X2 = 256 * X3 + c2) (e3 : X3 = 256 * X4 + c3)
    (e4 : X4 = 256 * X5 + c4) (e5 : X5 = 256 * X6 + c5) (e6 : X6 = 256 * X7 + c6) (h0 : c0 ≤ 8) (h1 : c1 ≤ 8) (h2 : c2 ≤ 8) (h3 : c3 ≤ 8) (h4 : c4 ≤ 8) (h5 : c5 ≤ 8) (h6 : c6 ≤ 8) (h7 : X7 ≤ 8) :
    fold8 X0 % 256 = c0 + c1 + c2 + c3 + c4 + c5 + c6 + X7 := by
  have e7 : X7 = 256 * 0 + X7 := by simp
  have a0 : X0 / 256 = X1 := dg e0 (by omega)
  have a1 : X0 + X0 / 256 = 256 * (X1 + X2) + (c0 + c1) := by rw [a0]; exact dgs e0 e1
  have b1 := dgs e1 e2
  have b2 := dgs e2 e3
  have b3 := dgs e3 e4
  have b4 := dgs e4 e5
  have b5 := dgs e5 e6
  have b6 := dgs e6 e7
  have a2 : (256 * (X1 + X2) + (c0 + c1)) / 65536 = X2 + X3 := by
    rw [div2, dg rfl (le2 h0 h1)]; exact dg b1 (le2 h1 h2)
  have a3 : 256 * (X1 + X2) + (c0 + c1) + (X2 + X3) = 256 * (X1 + X2 + (X3 + X4)) + (c0 + c1 + (c2 + c3)) := dgs rfl b2
  have s1 := dgs b1 b3
  have s2 := dgs b2 b4
  have s3 := dgs b3 b5
  have s4 := dgs b4 b6
  unfold fold8
  rw [a1, a2, a3, div4, dg rfl (le4 h0 h1 h2 h3), dg s1 (le4 h1 h2 h3 h4), dg s2 (le4 h2 h3 h4 h5), dg s3 (le4 h3 h4 h5 h6)]
  rw [dg2 (dgs rfl s4) (le8 h0 h1 h2 h3 h4 h5 h6 h7)]
  simp only [Nat.add_assoc]

theorem tally_succ (n x : Nat) : tally8 (n + 1) x = 256 * tally8 n (x / 256) + pc (x % 256) 8 := rfl
theorem fold_tally (x : Nat) : fold8 (tally8 8 x) % 256 = pc x 64 := by
  have e7 : tally8 1 (x / 256 / 256 / 256 / 256 / 256 / 256 / 256) = pc (x / 256 / 256 / 256 / 256 / 256 / 256 / 256 % 256) 8 := by rw [tally_succ]; simp [tally8]
  have p0 : pc x 64 = _ := pc_bytes 7 x
  have p1 : pc (x / 256) (8 * 7) = _ := pc_bytes 6 (x / 256)
  have p2 : pc (x / 256 / 256) (8 * 6) = _ := pc_bytes 5 (x / 256 / 256)
  have p3 : pc (x / 256 / 256 / 256) (8 * 5) = _ := pc_bytes 4 (x / 256 / 256 / 256)
  have p4 : pc (x / 256 / 256 / 256 / 256) (8 * 4) = _ := pc_bytes 3 (x / 256 / 256 / 256 / 256)
  have p5 : pc (x / 256 / 256 / 256 / 256 / 256) (8 * 3) = _ := pc_bytes 2 (x / 256 / 256 / 256 / 256 / 256)
  have p6 : pc (x / 256 / 256 / 256 / 256 / 256 / 256) (8 * 2) = _ := pc_bytes 1 (x / 256 / 256 / 256 / 256 / 256 / 256)
  have p7 : pc (x / 256 / 256 / 256 / 256 / 256 / 256 / 256) (8 * 1) = _ := pc_bytes 0 (x / 256 / 256 / 256 / 256 / 256 / 256 / 256)
  have pz : pc (x / 256 / 256 / 256 / 256 / 256 / 256 / 256 / 256) (8 * 0) = 0 := rfl
  rw [fold_digits (tally_succ 7 x) (tally_succ 6 _) (tally_succ 5 _) (tally_succ 4 _) (tally_succ 3 _) (tally_succ 2 _) (tally_succ 1 _) (pc_le _ _) (pc_le _ _) (pc_le _ _) (pc_le _ _) (pc_le _ _) (pc_le _ _) (pc_le _ _) (by rw [e7]; exact pc_le _ _), e7, p0, p1, p2, p3, p4, p5, p6, p7, pz]
  omega
theorem tally_lt : ∀ (n x : Nat), tally8 n x * 31 < 256 ^ n
  | 0, x => by simp [tally8]
  | n + 1, x => by
    have := tally_lt n (x / 256)
    have h := pc_le (x % 256) 8
    rw [tally_succ, Nat.pow_succ]
    omega

end Go.Proofs.YtacoeohmdngnkaaDoor

namespace Go.Proofs.YtacoeohmdngnkaaDoor
set_option linter.unusedVariables false
set_option linter.unusedSimpArgs false

theorem pc_succ (w k : Nat) : pc w (k + 1) = pc w k + (w.testBit k).toNat := rfl
theorem pc_hit (w : Nat) {j k : Nat} (h : j < pc w k) : ∃ m, m < k ∧ w.testBit m = true ∧ pc w m = j := by
  induction k with
  | zero => simp [pc] at h
  | succ k ih =>
    rcases Nat.lt_or_ge j (pc w k) with h1 | h1
    · obtain ⟨m, a, b⟩ := ih h1; exact ⟨m, by omega, b⟩
    · rw [pc_succ] at h
      have hb := Bool.toNat_le (w.testBit k)
      cases hk : w.testBit k
      · rw [hk] at h; simp at h; omega
      · rw [hk] at h; simp at h; exact ⟨k, by omega, hk, by omega⟩
theorem pc_lt {w i j : Nat} (h : i < j) (hi : w.testBit i = true) : pc w i < pc w j := by
  have := pc_mono w (i := i + 1) (j := j) (by omega)
  rw [pc_succ, hi] at this
  simp at this; omega

/-- The place of the 1 with j ones ahead; -1. -/
def sel (w : Nat) (j : Int) : Int := match (List.range 64).find? fun i => w.testBit i && decide ((pc w i : Int) = j) with
  | some i => (i : Int)
  | none => -1
theorem sel_hit {w k : Nat} {j : Int} (hk : k < 64) (hb : w.testBit k = true) (hp : (pc w k : Int) = j) : sel w j = k := by
  unfold sel
  have : (List.range 64).find? (fun i => w.testBit i && decide ((pc w i : Int) = j)) = some k := by
    rw [List.find?_range_eq_some]
    refine ⟨by simp [hb, hp], by simpa using hk, fun i hi => ?_⟩
    cases hbi : w.testBit i
    · simp
    · have := pc_lt hi hbi
      simp; omega
  rw [this]
theorem sel_none {w : Nat} {j : Int} (h : j < 0 ∨ (pc w 64 : Int) ≤ j) : sel w j = -1 := by
  unfold sel
  have : (List.range 64).find? (fun i => w.testBit i && decide ((pc w i : Int) = j)) = none := by
    rw [List.find?_eq_none]
    intro i hi
    simp only [List.mem_range] at hi
    cases hbi : w.testBit i
    · simp
    · have := pc_lt (j := 64) hi hbi
      simp; omega
  rw [this]
theorem sel_some {w : Nat} {j : Nat} (h : j < pc w 64) : ∃ k, k < 64 ∧ w.testBit k = true ∧ pc w k = j ∧ sel w j = k := by
  obtain ⟨k, hk, hb, hp⟩ := pc_hit w h
  exact ⟨k, hk, hb, hp, sel_hit hk hb (by rw [hp])⟩

/-! ### The lowest 1 goes -/
theorem lowest {x : Nat} (h0 : x ≠ 0) (h : x < 2 ^ 64) : ∃ c, c < 64 ∧ Lib.ctz 64 x = c ∧ x.testBit c = true ∧ (∀ i, i < c → x.testBit i = false) ∧ ∀ i, (x &&& (x - 1)).testBit i = (x.testBit i && !decide (i = c)) := by
  obtain ⟨m, hm, hc⟩ := Lib.ctzFrom_spec 64 x (by omega) h
  generalize hcc : Lib.ctzFrom 64 x = c at *
  have e1 : x = 2 ^ c * (2 * m + 1) + 0 := by omega
  have hp := Nat.two_pow_pos c
  have e2 : x - 1 = 2 ^ c * (2 * m) + (2 ^ c - 1) := by rw [hm, Nat.mul_add]; omega
  have t1 : ∀ i, x.testBit i = if i < c then false else (2 * m + 1).testBit (i - c) := by
    intro i; rw [e1, Nat.testBit_two_pow_mul_add _ hp]; simp
  have t2 : ∀ i, (x - 1).testBit i = if i < c then (2 ^ c - 1).testBit i else (2 * m).testBit (i - c) := by
    intro i; rw [e2, Nat.testBit_two_pow_mul_add _ (by omega)]
  refine ⟨c, hc, ?_, ?_, ?_, ?_⟩
  · unfold Lib.ctz; rw [if_neg h0, hcc]
  · rw [t1]; simp
  · intro i hi; rw [t1, if_pos hi]
  · intro i
    rw [Nat.testBit_and, t1, t2]
    by_cases hi : i < c
    · simp [hi]
    · rw [if_neg hi, if_neg hi]
      by_cases hic : i = c
      · subst hic; simp
      · obtain ⟨d, hd⟩ : ∃ d, i - c = d + 1 := ⟨i - c - 1, by omega⟩
        rw [hd]
        simp only [Nat.testBit_succ, hic, decide_false, Bool.not_false, Bool.and_true]
        rw [show (2 * m + 1) / 2 = m by omega, show 2 * m / 2 = m by omega, Bool.and_self]

/-- Of w the first j ones are gone. -/
def Gone (w j x : Nat) : Prop := x < 2 ^ 64 ∧ ∀ i, x.testBit i = (w.testBit i && decide (j ≤ pc w i))
theorem gone_zero {w : Nat} (h : w < 2 ^ 64) : Gone w 0 w := ⟨h, fun i => by simp⟩
theorem gone_low {w j x : Nat} (hw : w < 2 ^ 64) (hg : Gone w j x) (hj : j < pc w 64) : ∃ c, c < 64 ∧ x ≠ 0 ∧ Lib.ctz 64 x = c ∧ w.testBit c = true ∧ pc w c = j ∧ ∀ i, (x &&& (x - 1)).testBit i = (x.testBit i && !decide (i = c)) := by
  obtain ⟨hx, hg⟩ := hg
  obtain ⟨m, hm, hb, hp⟩ := pc_hit w hj
  have hxm : x.testBit m = true := by rw [hg, hb, hp]; simp
  have h0 : x ≠ 0 := by intro e; rw [e] at hxm; simp at hxm
  obtain ⟨c, hc, hct, hxc, hlow, hand⟩ := lowest h0 hx
  have hwc : w.testBit c = true ∧ j ≤ pc w c := by
    have := hg c; rw [hxc] at this; simpa using this.symm
  have hpc : pc w c = j := by
    rcases Nat.lt_or_ge j (pc w c) with h1 | h1
    · obtain ⟨m', hm', hb', hp'⟩ := pc_hit w h1
      have : x.testBit m' = true := by rw [hg, hb', hp']; simp
      rw [hlow m' hm'] at this; cases this
    · omega
  exact ⟨c, hc, h0, hct, hwc.1, hpc, hand⟩
theorem gone_succ {w j x : Nat} (hw : w < 2 ^ 64) (hg : Gone w j x) (hj : j < pc w 64) : Gone w (j + 1) (x &&& (x - 1)) := by
  obtain ⟨c, hc, h0, hct, hwc, hpc, hand⟩ := gone_low hw hg hj
  refine ⟨Nat.lt_of_le_of_lt Nat.and_le_left hg.1, fun i => ?_⟩
  rw [hand, hg.2]
  cases hwi : w.testBit i
  · simp
  · simp only [Bool.true_and]
    rcases Nat.lt_trichotomy i c with h | h | h
    · have := pc_lt h hwi
      rw [Bool.eq_iff_iff]; simp; omega
    · subst h; simp; omega
    · have := pc_lt h hwc
      rw [Bool.eq_iff_iff]; simp; omega
theorem gone_sel {w j x : Nat} (hw : w < 2 ^ 64) (hg : Gone w j x) (hj : j < pc w 64) : (Lib.ctz 64 x : Int) = sel w j := by
  obtain ⟨c, hc, h0, hct, hwc, hpc, hand⟩ := gone_low hw hg hj
  rw [hct, sel_hit hc hwc (by rw [hpc])]

/-! ### A word out of its bits -/
def wordOf (f : Nat → Bool) : Nat → Nat
  | 0 => 0
  | n + 1 => wordOf f n + (if f n then 2 ^ n else 0)
theorem wordOf_lt (f : Nat → Bool) (n : Nat) : wordOf f n < 2 ^ n := by
  induction n with
  | zero => simp [wordOf]
  | succ n ih => simp only [wordOf]; rw [Nat.pow_succ]; split <;> omega
theorem wordOf_bit (f : Nat → Bool) (n i : Nat) : (wordOf f n).testBit i = (decide (i < n) && f i) := by
  induction n with
  | zero => simp [wordOf]
  | succ n ih =>
    have hl := wordOf_lt f n
    have e : wordOf f (n + 1) = 2 ^ n * (if f n then 1 else 0) + wordOf f n := by
      simp only [wordOf]; split <;> omega
    rw [e, Nat.testBit_two_pow_mul_add _ hl, ih]
    by_cases hi : i < n
    · rw [if_pos hi]; simp [hi]; omega
    · rw [if_neg hi]
      by_cases hn : i = n
      · subst hn
        cases hf : f i <;> simp
      · have h1 : ¬ i < n + 1 := by omega
        obtain ⟨d, hd⟩ : ∃ d, i - n = d + 1 := ⟨i - n - 1, by omega⟩
        rw [hd]
        cases f n <;> simp [h1, Nat.testBit_succ]
theorem word_ext {x y n : Nat} (hx : x < 2 ^ n) (hy : y < 2 ^ n) (h : ∀ i, i < n → x.testBit i = y.testBit i) : x = y := by
  apply Nat.eq_of_testBit_eq
  intro i
  by_cases hi : i < n
  · exact h i hi
  · rw [Nat.testBit_lt_two_pow (Nat.lt_of_lt_of_le hx (Nat.pow_le_pow_right (by omega) (by omega))), Nat.testBit_lt_two_pow (Nat.lt_of_lt_of_le hy (Nat.pow_le_pow_right (by omega) (by omega)))]
theorem word_of {x n : Nat} (hx : x < 2 ^ n) (f : Nat → Bool) (h : ∀ i, i < n → x.testBit i = f i) : x = wordOf f n :=
  word_ext hx (wordOf_lt f n) (fun i hi => by rw [wordOf_bit, h i hi]; simp [hi])
theorem bit_over {x i : Nat} (hx : x < 2 ^ 64) (hi : 64 ≤ i) : x.testBit i = false :=
  Nat.testBit_lt_two_pow (Nat.lt_of_lt_of_le hx (Nat.pow_le_pow_right (by omega) hi))

/-- A bit goes in at k: the word. -/
def putW (w k : Nat) (b : Bool) : Nat := wordOf (fun i => if i < k then w.testBit i else if i = k then b else w.testBit (i - 1)) 64
/-- The bit at k goes, b is the highest then: the word. -/
def cutW (w k : Nat) (b : Bool) : Nat := wordOf (fun i => if i < k then w.testBit i else if i = 63 then b else w.testBit (i + 1)) 64
theorem putW_lt (w k : Nat) (b : Bool) : putW w k b < 2 ^ 64 := wordOf_lt _ _
theorem cutW_lt (w k : Nat) (b : Bool) : cutW w k b < 2 ^ 64 := wordOf_lt _ _
theorem putW_bit {w k i : Nat} {b : Bool} (hi : i < 64) : (putW w k b).testBit i = if i < k then w.testBit i else if i = k then b else w.testBit (i - 1) := by
  unfold putW; rw [wordOf_bit]; simp [hi]
theorem cutW_bit {w k i : Nat} {b : Bool} (hi : i < 64) : (cutW w k b).testBit i = if i < k then w.testBit i else if i = 63 then b else w.testBit (i + 1) := by
  unfold cutW; rw [wordOf_bit]; simp [hi]

/-- What Put computes. -/
theorem put_eq {w k : Nat} (b : Bool) (hk : k < 64) (hw : w < 2 ^ 64) : (w % 2 ^ k ||| (if b then 2 ^ k else 0)) ||| ((w &&& (2 ^ 64 - 1 - w % 2 ^ k)) * 2 % 2 ^ 64) = putW w k b := by
  have h2 : (2 : Nat) ^ k ≤ 2 ^ 63 := Nat.pow_le_pow_right (by omega) (by omega)
  have hl : w % 2 ^ k < 2 ^ 64 := by have := Nat.mod_lt w (Nat.two_pow_pos k); omega
  refine word_of (n := 64) (Nat.or_lt_two_pow (Nat.or_lt_two_pow hl (by split <;> omega)) (Nat.mod_lt _ (Nat.two_pow_pos _))) _ (fun i hi => ?_)
  have e : 2 ^ 64 - 1 - w % 2 ^ k = 2 ^ 64 - (w % 2 ^ k + 1) := by omega
  have hb : (if b = true then 2 ^ k else 0 : Nat).testBit i = (b && decide (i = k)) := by
    cases b
    · simp
    · simp [Nat.testBit_two_pow, eq_comm]
  have hs : ((w &&& (2 ^ 64 - 1 - w % 2 ^ k)) * 2 % 2 ^ 64).testBit i = (decide (k < i) && w.testBit (i - 1)) := by
    rw [Nat.testBit_mod_two_pow, e, Nat.mul_comm, show (2 : Nat) * (w &&& (2 ^ 64 - (w % 2 ^ k + 1))) = 2 ^ 1 * (w &&& (2 ^ 64 - (w % 2 ^ k + 1))) from rfl, Nat.testBit_two_pow_mul, Nat.testBit_and, Nat.testBit_two_pow_sub_succ hl, Nat.testBit_mod_two_pow]
    simp only [hi, decide_true, Bool.true_and]
    by_cases h1 : 1 ≤ i
    · have h3 : i - 1 < 64 := by omega
      by_cases h4 : i - 1 < k
      · have h5 : ¬ k < i := by omega
        simp [h1, h3, h4, h5]
      · have h5 : k < i := by omega
        simp [h1, h3, h4, h5]
    · have h5 : ¬ k < i := by omega
      simp [h1, h5]
  rw [Nat.testBit_or, Nat.testBit_or, hb, hs, Nat.testBit_mod_two_pow]
  by_cases h1 : i < k
  · have h2 : ¬ i = k := by omega
    have h3 : ¬ k < i := by omega
    simp [h1, h2, h3]
  · by_cases h2 : i = k
    · subst h2; simp
    · have h3 : k < i := by omega
      simp [h1, h2, h3]
/-- What Cut computes. -/
theorem cut_eq {w k : Nat} (b : Bool) (hk : k < 64) (hw : w < 2 ^ 64) : (w % 2 ^ k ||| (w / 2 &&& (2 ^ 64 - 1 - w / 2 % 2 ^ k))) ||| (if b then 2 ^ 63 else 0) = cutW w k b := by
  have h2 : (2 : Nat) ^ k ≤ 2 ^ 63 := Nat.pow_le_pow_right (by omega) (by omega)
  have hl : w % 2 ^ k < 2 ^ 64 := by have := Nat.mod_lt w (Nat.two_pow_pos k); omega
  have hl2 : w / 2 % 2 ^ k < 2 ^ 64 := by have := Nat.mod_lt (w / 2) (Nat.two_pow_pos k); omega
  have hand : w / 2 &&& (2 ^ 64 - 1 - w / 2 % 2 ^ k) < 2 ^ 64 := Nat.lt_of_le_of_lt Nat.and_le_left (by omega)
  refine word_of (n := 64) (Nat.or_lt_two_pow (Nat.or_lt_two_pow hl hand) (by split <;> omega)) _ (fun i hi => ?_)
  have e : 2 ^ 64 - 1 - w / 2 % 2 ^ k = 2 ^ 64 - (w / 2 % 2 ^ k + 1) := by omega
  have hb : (if b = true then 2 ^ 63 else 0 : Nat).testBit i = (b && decide (i = 63)) := by
    cases b
    · simp
    · rw [if_pos rfl, Nat.testBit_two_pow]; simp [eq_comm]
  have hd : (w / 2).testBit i = w.testBit (i + 1) := by rw [Nat.testBit_succ]
  have hs : (w / 2 &&& (2 ^ 64 - 1 - w / 2 % 2 ^ k)).testBit i = (!decide (i < k) && w.testBit (i + 1)) := by
    rw [e, Nat.testBit_and, Nat.testBit_two_pow_sub_succ hl2, Nat.testBit_mod_two_pow, hd]
    by_cases h1 : i < k <;> simp [h1, hi]
  rw [Nat.testBit_or, Nat.testBit_or, hb, hs, Nat.testBit_mod_two_pow]
  by_cases h1 : i < k
  · have h2 : ¬ i = 63 := by omega
    simp [h1, h2]
  · by_cases h2 : i = 63
    · have h3 : w.testBit 64 = false := bit_over hw (by omega)
      subst h2; simp [h1, h3]
    · simp [h1, h2]
theorem top_bit {w : Nat} (hw : w < 2 ^ 64) : decide (w / 2 ^ 63 = 1) = w.testBit 63 := by
  rw [Nat.testBit_eq_decide_div_mod_eq]
  have : w / 2 ^ 63 < 2 := by omega
  congr 1
  rw [Nat.mod_eq_of_lt this]
theorem some_bit (w k : Nat) : decide ((w / 2 ^ k) &&& 1 = 1) = w.testBit k := by
  rw [Nat.testBit_eq_decide_div_mod_eq, Nat.and_one_is_mod]

end Go.Proofs.YtacoeohmdngnkaaDoor

namespace Go.Proofs.YtacoeohmdngnkaaDoor
set_option linter.unusedVariables false
set_option linter.unusedSimpArgs false
open Go.RowKit

theorem u64w {n : Int} (h0 : 0 ≤ n) (h1 : n < 18446744073709551616) : IntKind.u64.wrap n = n := by rw [IntKind.wrap_u64]; omega
theorem and_u64 (a b : Nat) (ha : a < 2 ^ 64) (hb : b < 2 ^ 64) : bits .and .u64 (a : Int) (b : Int) = ((a &&& b : Nat) : Int) := u64_and_nat a b ha hb
theorem st1_walk {x : Nat} (hx : x < 2 ^ 64) : IntKind.u64.wrap (bits .and .u64 ((x : Int) / 2) 6148914691236517205 + bits .and .u64 (x : Int) 6148914691236517205) = ((st1 8 x : Nat) : Int) ∧ st1 8 x < 2 ^ 64 := by
  have e1 := and_u64 (x / 2) 6148914691236517205 (by omega) (by omega)
  have e2 := and_u64 x 6148914691236517205 hx (by omega)
  have l1 : x / 2 &&& 6148914691236517205 ≤ 6148914691236517205 := Nat.and_le_right
  have l2 : x &&& 6148914691236517205 ≤ 6148914691236517205 := Nat.and_le_right
  have es : st1 8 x = (x / 2 &&& 6148914691236517205) + (x &&& 6148914691236517205) := rfl
  rw [es]
  rw [show ((x / 2 : Nat) : Int) = (x : Int) / 2 by omega] at e1
  rw [show ((6148914691236517205 : Nat) : Int) = 6148914691236517205 from rfl] at e1 e2
  rw [e1, e2]
  generalize (x / 2 &&& 6148914691236517205) = p at *
  generalize (x &&& 6148914691236517205) = q at *
  exact ⟨by rw [u64w (by omega) (by omega)]; omega, by omega⟩
theorem st2_walk {x : Nat} (hx : x < 2 ^ 64) : IntKind.u64.wrap (bits .and .u64 ((x : Int) / 4) 3689348814741910323 + bits .and .u64 (x : Int) 3689348814741910323) = ((st2 8 x : Nat) : Int) ∧ st2 8 x < 9223372036854775808 := by
  have e1 := and_u64 (x / 4) 3689348814741910323 (by omega) (by omega)
  have e2 := and_u64 x 3689348814741910323 hx (by omega)
  have l1 : x / 4 &&& 3689348814741910323 ≤ 3689348814741910323 := Nat.and_le_right
  have l2 : x &&& 3689348814741910323 ≤ 3689348814741910323 := Nat.and_le_right
  have es : st2 8 x = (x / 4 &&& 3689348814741910323) + (x &&& 3689348814741910323) := rfl
  rw [es]
  rw [show ((x / 4 : Nat) : Int) = (x : Int) / 4 by omega] at e1
  rw [show ((3689348814741910323 : Nat) : Int) = 3689348814741910323 from rfl] at e1 e2
  rw [e1, e2]
  generalize (x / 4 &&& 3689348814741910323) = p at *
  generalize (x &&& 3689348814741910323) = q at *
  exact ⟨by rw [u64w (by omega) (by omega)]; omega, by omega⟩
theorem st3_walk {x : Nat} (hx : x < 9223372036854775808) : bits .and .u64 (IntKind.u64.wrap ((x : Int) / 16 + (x : Int))) 1085102592571150095 = ((st3 8 x : Nat) : Int) := by
  rw [u64w (by omega) (by omega)]
  have e1 := and_u64 (x / 16 + x) 1085102592571150095 (by omega) (by omega)
  rw [show ((x / 16 + x : Nat) : Int) = (x : Int) / 16 + x by omega, show ((1085102592571150095 : Nat) : Int) = 1085102592571150095 from rfl] at e1
  rw [e1]
  rfl
theorem i64_and_nat (a b : Nat) (ha : a < 2 ^ 63) (hb : b < 2 ^ 63) : bits .and .i64 (a : Int) (b : Int) = ((a &&& b : Nat) : Int) := by
  have hx : a &&& b < 2 ^ 63 := Nat.and_lt_two_pow _ hb
  have h1 : (BitVec.ofInt 64 (a : Int)).toNat = a := by
    rw [BitVec.ofInt_natCast, BitVec.toNat_ofNat]; exact Nat.mod_eq_of_lt (by omega)
  have h2 : (BitVec.ofInt 64 (b : Int)).toNat = b := by
    rw [BitVec.ofInt_natCast, BitVec.toNat_ofNat]; exact Nat.mod_eq_of_lt (by omega)
  show IntKind.i64.wrap ((BitVec.ofInt 64 (a : Int) &&& BitVec.ofInt 64 (b : Int)).toNat : Int) = _
  rw [BitVec.toNat_and, h1, h2]
  exact IntWalk.i64_in _ (by omega)
theorem fold_walk {x t : Nat} (ht : t * 31 < 2 ^ 64) (h : fold8 t % 256 = pc x 64) :
    bits .and .i64 ((t : Int) + t / 256 + (t + t / 256) / 65536 + (t + t / 256 + (t + t / 256) / 65536) / 4294967296) 127 = ((pc x 64 : Nat) : Int) := by
  have e : ((t : Int) + t / 256 + (t + t / 256) / 65536 + (t + t / 256 + (t + t / 256) / 65536) / 4294967296) = ((fold8 t : Nat) : Int) := by
    simp [fold8]
  have hl : fold8 t < 2 ^ 63 := by unfold fold8; omega
  have h64 := pc_le x 64
  rw [e, show (127 : Int) = ((127 : Nat) : Int) from rfl, i64_and_nat _ _ hl (by omega), show (127 : Nat) = 2 ^ 7 - 1 from rfl, Nat.and_two_pow_sub_one_eq_mod]
  omega

/-- 'math/bits.OnesCount64', every x. -/
theorem ones_any (x : Nat) (w : World) (hx : x < 2 ^ 64) :
    Calls Tryd.prog 90 #[.int .u64 x] w fun e w' => e = .returned (.int .i64 (pc x 64)) ∧ w = w' := by
  have hx' : (x : Int) < 18446744073709551616 := by omega
  have hx0 : (0 : Int) ≤ x := by omega
  have k1 := st1_walk hx
  have k2 := st2_walk k1.2
  have k3 := st3_walk k2.2
  have k4 : fold8 (st3 8 (st2 8 (st1 8 x))) % 256 = pc x 64 := by rw [stages]; exact fold_tally x
  have k5 : st3 8 (st2 8 (st1 8 x)) * 31 < 2 ^ 64 := by rw [stages]; exact tally_lt 8 x
  have K1 := Lib.hid k1.1
  have K2 := Lib.hid k2.1
  have K3 := Lib.hid k3
  have K4 := Lib.hid k4
  clear k1 k2 k3 k4
  go_enter Tryd.func90, Tryd.ntmps90
  go_upto_region 1 with fail
  go_cut [0] (fun v wx => v = .int .u64 (st1 8 x) ∧ w = wx)
  case first =>
    go_wp2_with fail
    go_meet
    case rel => exact ⟨by rw [K1.out], rfl⟩
  case rest =>
  obtain ⟨rfl, rfl⟩ := hcut
  clear hx hx' hx0 K1
  generalize st1 8 x = y at *
  go_upto_region 2 with fail
  go_cut [0] (fun v wx => v = .int .u64 (st2 8 y) ∧ w = wx)
  case first =>
    go_wp2_with fail
    go_meet
    case rel => exact ⟨by rw [K2.out], rfl⟩
  case rest =>
  obtain ⟨rfl, rfl⟩ := hcut
  clear K2
  generalize st2 8 y = z at *
  go_upto_region 3 with fail
  go_cut [0] (fun v wx => v = .int .u64 (st3 8 z) ∧ w = wx)
  case first =>
    go_wp2_with fail
    go_meet
    case rel => exact ⟨by rw [K3.out], rfl⟩
  case rest =>
  obtain ⟨rfl, rfl⟩ := hcut
  clear K3
  generalize st3 8 z = t at *
  have KF := Lib.hid (fold_walk k5 K4.out)
  have t0 : (0 : Int) ≤ t := by omega
  have t1 : (t : Int) ≤ 595056260442243600 := by omega
  clear k5
  go_wp2_with fail
  go_ret
  exact ⟨ret_int KF.out, rfl⟩

/-- The library's table, as its initialiser lays it. -/
def BitTab (w : World) : Prop := TabAt 0 Lib.deBruijn64tab w
theorem BitTab.below {w w' : World} {B : Nat} (h : BitTab w) (hb : Below B w w') (hB : 0 < B) : BitTab w' := fun j hj => (hb.cell (p := ⟨0, j, none⟩) hB).trans (h j hj)
theorem BitTab.below' {w w' : World} (h : BitTab w) (hb : Below w.heap.size w w') : BitTab w' := h.below hb (World.block_lt_of_cell? w _ (h 0 (by decide)))
theorem BitTab.lt {w : World} (h : BitTab w) : 0 < w.heap.size := World.block_lt_of_cell? w _ (h 0 (by decide))

theorem tz_core (x k idx : Nat) (w : World) (hx0 : ((x : Int) == 0) = false)
    (key : IntKind.u64.wrap (bits BinOp.and IntKind.u64 (x : Int) (IntKind.u64.wrap (-(x : Int))) * 285870213051353865) / 288230376151711744 = (idx : Int))
    (hi : idx < 64) (hk : k < 64) (hcell : w.cell? ⟨0, idx, none⟩ = some (.int .u8 k)) :
    Calls Tryd.prog 91 #[.int .u64 x] w fun e w' => e = .returned (.int .i64 k) ∧ w = w' := by
  have KEY := Lib.hid key; clear key
  go_enter Tryd.func91, Tryd.ntmps91
  go_wp2_with (simp only [KEY.out])
  go_ret
  exact ⟨rfl, rfl⟩

/-- 'math/bits.TrailingZeros64', every x that is not 0. -/
theorem tz_any (x : Nat) (w : World) (hx : x < 2 ^ 64) (h0 : x ≠ 0) (hT : BitTab w) :
    Calls Tryd.prog 91 #[.int .u64 x] w fun e w' => e = .returned (.int .i64 (Lib.ctz 64 x)) ∧ w = w' := by
  obtain ⟨hlow, hk⟩ := Lib.lowest_bit 64 x h0 hx
  obtain ⟨hi, htab⟩ := Lib.deBruijn64_at _ hk
  have hcell := hT _ hi
  rw [htab] at hcell
  exact tz_core x _ _ w (by simp; omega) (tz64_key x _ hx h0 hlow) hi hk hcell

def pcs (ws : List Nat) : Nat := (ws.map fun x => pc x 64).sum
theorem pcs_take {ws : List Nat} {k : Nat} (h : k < ws.length) : pcs (ws.take (k + 1)) = pcs (ws.take k) + pc (ws[k]?.getD 0) 64 := by
  unfold pcs
  rw [List.take_add_one, List.getElem?_eq_getElem h, List.map_append, List.sum_append]
  simp [-List.map_take]
theorem pcs_le (ws : List Nat) : pcs ws ≤ 64 * ws.length := by
  induction ws with
  | nil => simp [pcs]
  | cons x l ih => have := pc_le x 64; simp only [pcs, List.map_cons, List.sum_cons, List.length_cons] at *; omega
def natI (n : Nat) : Int := n

theorem count_any (a : Option Addr) (c : Nat) (ws : List Nat) (w : World) (hr : Reads w .u64 a (ws.map natI)) (hw : ∀ x ∈ ws, x < 2 ^ 64) (hl : ws.length ≤ 1000000000000000) :
    Calls Tryd.prog 70 #[.slice a ws.length c] w fun e w' => e = .returned (.int .i64 (pcs ws)) ∧ w = w' := by
  go_enter Tryd.func70, Tryd.ntmps70
  go_wp2_with fail
  go_loop [3, 8] (fun n i => ∃ k : Nat, k ≤ ws.length ∧ i = .int .i64 k ∧ n = .int .i64 (pcs (ws.take k))) (fun _ i => ws.length - (intOf i).toNat)
  case atStart => exact ⟨0, Nat.zero_le _, rfl, rfl⟩
  case round =>
    obtain ⟨k, hk, rfl, rfl⟩ := hrel
    have hp := pcs_le (ws.take k)
    rw [List.length_take] at hp
    by_cases hlt : k < ws.length
    · obtain ⟨b, off, rfl, hbl, hcells⟩ := hr.some (by simpa using Nat.lt_of_le_of_lt (Nat.zero_le _) hlt)
      have hc := hcells k (by simpa using hlt)
      rw [List.getElem?_map, List.getElem?_eq_getElem hlt] at hc
      simp only [Option.map_some, Option.getD_some, natI] at hc
      have hx := hw _ (List.getElem_mem hlt)
      have hst := pcs_take hlt
      rw [List.getElem?_eq_getElem hlt, Option.getD_some] at hst
      have HST := Lib.hid hst
      generalize ws[k] = x at *
      have h64 := pc_le x 64
      clear hst hcells hr hw
      generalize pcs (ws.take k) = s at *
      go_wp2_with (go_at_call 90; refine (ones_any x _ hx).mono ?_; rintro e w' ⟨rfl, rfl⟩)
      go_round
      case rel => exact ⟨k + 1, by omega, by go_num, by rw [HST.out]; go_num⟩
      case measure => simp [intOf]; omega
    · have hkn : k = ws.length := by omega
      clear hr
      go_wp2_with fail
      go_ret
      exact ⟨rfl, rfl⟩

/-- One word that is counted. -/
theorem count_one (x : Nat) (w : World) (b off c : Nat) (hc : w.cell? ⟨b, off, none⟩ = some (.int .u64 x)) (hx : x < 2 ^ 64) :
    Calls Tryd.prog 70 #[.slice (some ⟨b, off, none⟩) 1 c] w fun e w' => e = .returned (.int .i64 (pc x 64)) ∧ w = w' := by
  have := count_any (some ⟨b, off, none⟩) c [x] w (reads_one hc) (by simpa using hx) (by simp)
  simpa [pcs] using this

/-- The first k bits of a word. -/
def lowW (w : Nat) (k : Int) : Nat := if 64 ≤ k then w else w % 2 ^ k.toNat
theorem lowW_lt {w : Nat} (h : w < 2 ^ 64) (k : Int) : lowW w k < 2 ^ 64 := by
  unfold lowW; split
  · exact h
  · exact Nat.lt_of_le_of_lt (Nat.mod_le _ _) h
theorem two_pow_lt {k : Nat} (h : k < 64) : (2 : Nat) ^ k ≤ 9223372036854775808 := Nat.pow_le_pow_right (n := 2) (i := k) (j := 63) (by omega) (by omega)
theorem int_two_pow (k : Nat) : (2 : Int) ^ k = ((2 ^ k : Nat) : Int) := by simp
theorem low_walk {x : Nat} {k : Int} (hx : x < 2 ^ 64) (h0 : 0 < k) (h1 : k < 64) : bits .and .u64 (x : Int) (IntKind.u64.wrap (IntKind.u64.wrap ((2 : Int) ^ k.toNat) - 1)) = ((lowW x k : Nat) : Int) := by
  have h2 := two_pow_lt (k := k.toNat) (by omega)
  have h3 := Nat.two_pow_pos k.toNat
  have e1 : IntKind.u64.wrap (((2 ^ k.toNat : Nat) : Int)) = ((2 ^ k.toNat : Nat) : Int) := u64w (by omega) (by omega)
  have e2 : IntKind.u64.wrap (((2 ^ k.toNat : Nat) : Int) - 1) = ((2 ^ k.toNat : Nat) : Int) - 1 := u64w (by omega) (by omega)
  rw [int_two_pow, e1, e2, show (((2 ^ k.toNat : Nat) : Int) - 1) = ((2 ^ k.toNat - 1 : Nat) : Int) by omega, and_u64 _ _ hx (by omega), Nat.and_two_pow_sub_one_eq_mod]
  unfold lowW; rw [if_neg (by omega)]
theorem pc_low {x : Nat} (hx : x < 2 ^ 64) (k : Int) : pc (lowW x k) 64 = pc x (min k.toNat 64) := by
  unfold lowW
  split
  · congr 1; omega
  · have e : min k.toNat 64 = k.toNat := by omega
    rw [e, pc_ge (Nat.mod_lt x (Nat.two_pow_pos k.toNat)) (by omega)]
    exact pc_congr (fun i hi => by rw [Nat.testBit_mod_two_pow]; simp [hi])
theorem low_any (x : Nat) (k : Int) (w : World) (hx : x < 2 ^ 64) :
    Calls Tryd.prog 73 #[.int .u64 x, .int .i64 k] w fun e w' => e = .returned (.int .u64 (lowW x k)) ∧ w = w' := by
  by_cases h0 : k ≤ 0
  · have hR : Hid ((0 : Int) = (lowW x k : Nat)) := by
      show _ = _
      have : k.toNat = 0 := by omega
      unfold lowW; rw [if_neg (by omega), this]; simp [Nat.mod_one]
    go_enter Tryd.func73, Tryd.ntmps73
    go_wp2_with fail
    go_ret
    exact ⟨ret_int hR.out, rfl⟩
  · by_cases h64 : 64 ≤ k
    · have hR : Hid ((x : Int) = (lowW x k : Nat)) := by
        show _ = _
        unfold lowW; rw [if_pos h64]
      go_enter Tryd.func73, Tryd.ntmps73
      go_wp2_with fail
      go_ret
      exact ⟨ret_int hR.out, rfl⟩
    · go_enter Tryd.func73, Tryd.ntmps73
      go_wp2_with fail
      go_ret
      exact ⟨ret_int (low_walk hx (by omega) (by omega)), rfl⟩

theorem rank_any (x : Nat) (k : Int) (w : World) (hx : x < 2 ^ 64) :
    Calls Tryd.prog 71 #[.int .u64 x, .int .i64 k] w fun e w' => e = .returned (.int .i64 (pc x (min k.toNat 64))) ∧ Below w.heap.size w w' := by
  have hl := lowW_lt hx k
  have hR := Lib.hid (pc_low hx k)
  go_enter Tryd.func71, Tryd.ntmps71
  go_wp2_with fail
  refine (low_any x k _ hx).mono ?_
  rintro e w' ⟨rfl, rfl⟩
  generalize lowW x k = y at *
  go_wp2_with fail
  refine (count_one y _ _ _ _ (by simp [go_sem]) hl).mono ?_
  rintro e w' ⟨rfl, rfl⟩
  go_wp2_with fail
  go_ret
  exact ⟨ret_int (by rw [hR.out]), (Below.refl _ _).alloc (Nat.le_refl _) _⟩

theorem select_any (x : Nat) (j : Int) (w : World) (hx : x < 2 ^ 64) (hT : BitTab w) :
    Calls Tryd.prog 72 #[.int .u64 x, .int .i64 j] w fun e w' => e = .returned (.int .i64 (sel x j)) ∧ Below w.heap.size w w' := by
  by_cases h0 : j < 0
  · have hR := Lib.hid (sel_none (w := x) (j := j) (Or.inl h0))
    go_enter Tryd.func72, Tryd.ntmps72
    go_wp2_with fail
    go_ret
    exact ⟨ret_int hR.out.symm, Below.refl _ _⟩
  · have hp := pc_le x 64
    by_cases h1 : j < (pc x 64 : Nat)
    · obtain ⟨n, rfl⟩ := Int.eq_ofNat_of_zero_le (show 0 ≤ j by omega)
      have hg0 := gone_zero hx
      have hn : n < pc x 64 := by omega
      have HN := Lib.hid hn
      have HX := Lib.hid hx
      have HT := Lib.hid hT
      have hm : (pc x 64 : Int) ≤ 64 := by omega
      clear hn hT
      go_enter Tryd.func72, Tryd.ntmps72
      go_wp2_with fail
      refine (count_one x _ _ _ _ (by simp [go_sem]) hx).mono ?_
      rintro e w' ⟨rfl, rfl⟩
      go_wp2_with fail
      have hT2 : BitTab (w.alloc (.cells #[.int .u64 x] 68)) := HT.out.below' ((Below.refl _ _).alloc (Nat.le_refl _) _)
      have hB2 : Below w.heap.size w (w.alloc (.cells #[.int .u64 x] 68)) := (Below.refl _ _).alloc (Nat.le_refl _) _
      generalize w.alloc (.cells #[.int .u64 x] 68) = w2 at *
      clear hx
      go_loop [0, 15] (fun v i => ∃ k y : Nat, k ≤ n ∧ i = .int .i64 k ∧ v = .int .u64 y ∧ Gone x k y) (fun _ i => n - (intOf i).toNat)
      case atStart => exact ⟨0, x, Nat.zero_le _, rfl, rfl, hg0⟩
      case round =>
        obtain ⟨k, y, hk, rfl, rfl, hg⟩ := hrel
        by_cases hlt : k < n
        · obtain ⟨c, _, hy0, _, _, _, _⟩ := gone_low HX.out hg (by have := HN.out; omega)
          have hs := gone_succ HX.out hg (by have := HN.out; omega)
          have hy := hg.1
          have ea : bits .and .u64 (y : Int) ((y : Int) - 1) = ((y &&& (y - 1) : Nat) : Int) := by
            rw [show (y : Int) - 1 = ((y - 1 : Nat) : Int) by omega]; exact and_u64 y (y - 1) hy (by omega)
          have HA := Lib.hid ea
          have HS := Lib.hid hs
          clear hg hs ea hg0 h1
          go_wp2_with fail
          go_round
          case rel => exact ⟨k + 1, y &&& (y - 1), by omega, by go_num, by rw [HA.out], HS.out⟩
          case measure => simp [intOf]; omega
        · obtain rfl : k = n := by omega
          have hn := HN.out
          have hy0 : y ≠ 0 := by obtain ⟨c, _, h, _⟩ := gone_low HX.out hg hn; exact h
          have hselout := Lib.hid (gone_sel HX.out hg hn)
          have hy := hg.1
          clear hg hn hg0 h1
          go_wp2_with fail
          refine (tz_any y _ hy hy0 hT2).mono ?_
          rintro e w' ⟨rfl, rfl⟩
          go_wp2_with fail
          go_ret
          exact ⟨ret_int hselout.out, hB2⟩
    · have hR := Lib.hid (sel_none (w := x) (j := j) (Or.inr (by omega)))
      have hm : (pc x 64 : Int) ≤ 64 := by omega
      go_enter Tryd.func72, Tryd.ntmps72
      go_wp2_with fail
      refine (count_one x _ _ _ _ (by simp [go_sem]) hx).mono ?_
      rintro e w' ⟨rfl, rfl⟩
      go_wp2_with fail
      go_ret
      exact ⟨ret_int hR.out.symm, (Below.refl _ _).alloc (Nat.le_refl _) _⟩

theorem put_bad (x : Nat) (k : Int) (b : Bool) (w : World) (h : k < 0 ∨ 64 ≤ k) :
    Calls Tryd.prog 45 #[.int .u64 x, .int .i64 k, .bool b] w fun e w' => e = .returned (.tuple #[.int .u64 x, .bool false]) ∧ w = w' := by
  rcases h with h | h
  all_goals
    go_enter Tryd.func45, Tryd.ntmps45
    go_wp2_with fail
    go_ret2
    exact ⟨rfl, rfl⟩
theorem cut_bad (x : Nat) (k : Int) (b : Bool) (w : World) (h : k < 0 ∨ 64 ≤ k) :
    Calls Tryd.prog 47 #[.int .u64 x, .int .i64 k, .bool b] w fun e w' => e = .returned (.tuple #[.int .u64 x, .bool false]) ∧ w = w' := by
  rcases h with h | h
  all_goals
    go_enter Tryd.func47, Tryd.ntmps47
    go_wp2_with fail
    go_ret2
    exact ⟨rfl, rfl⟩
theorem ret_ib {k : IntKind} {a a' : Int} {b b' : Bool} (h : a = a') (h' : b = b') : Ending.returned (.tuple #[.int k a, .bool b]) = Ending.returned (.tuple #[.int k a', .bool b']) := by rw [h, h']
theorem or_u64 (a b : Nat) (ha : a < 2 ^ 64) (hb : b < 2 ^ 64) : bits .or .u64 (a : Int) (b : Int) = ((a ||| b : Nat) : Int) := u64_or_nat a b ha hb
theorem andNot_u64 (a b : Nat) (ha : a < 2 ^ 64) (hb : b < 2 ^ 64) : bits .andNot .u64 (a : Int) (b : Int) = ((a &&& (2 ^ 64 - 1 - b) : Nat) : Int) := u64_andNot_nat a b ha hb
theorem wrap_u64_nat (a : Nat) : IntKind.u64.wrap (a : Int) = ((a % 2 ^ 64 : Nat) : Int) := by rw [IntKind.wrap_u64]; omega

theorem put_walk {x y k n : Nat} {b : Bool} (hx : x < 2 ^ 64) (hk : k < 64) (hy : x % 2 ^ k = y) (hn : n = if b then 2 ^ k else 0) :
    bits .or .u64 (bits .or .u64 (y : Int) (n : Int)) (IntKind.u64.wrap (bits .andNot .u64 (x : Int) (y : Int) * 2)) = ((putW x k b : Nat) : Int) := by
  have h2 := two_pow_lt hk
  have hyl : y < 2 ^ 64 := by rw [← hy]; exact Nat.lt_of_le_of_lt (Nat.mod_le _ _) hx
  have hnl : n < 2 ^ 64 := by rw [hn]; split <;> omega
  have hol : y ||| n < 2 ^ 64 := Nat.or_lt_two_pow hyl hnl
  rw [andNot_u64 _ _ hx hyl, show (((x &&& (2 ^ 64 - 1 - y) : Nat) : Int) * 2) = ((((x &&& (2 ^ 64 - 1 - y)) * 2 : Nat)) : Int) by omega, wrap_u64_nat, or_u64 _ _ hyl hnl, or_u64 _ _ hol (Nat.mod_lt _ (Nat.two_pow_pos _))]
  rw [← put_eq b hk hx, hy, ← hn]
theorem bit63_walk {x : Nat} (hx : x < 2 ^ 64) : ((x : Int) / 9223372036854775808 == 1) = x.testBit 63 := by
  rw [← top_bit hx, Bool.eq_iff_iff]
  simp only [beq_iff_eq, decide_eq_true_eq]
  have : (2 : Nat) ^ 63 = 9223372036854775808 := by decide
  rw [this]; omega
theorem put_good (x k : Nat) (b : Bool) (w : World) (hx : x < 2 ^ 64) (hk : k < 64) :
    Calls Tryd.prog 45 #[.int .u64 x, .int .i64 k, .bool b] w fun e w' => e = .returned (.tuple #[.int .u64 (putW x k b), .bool (x.testBit 63)]) ∧ w = w' := by
  have el : lowW x k = x % 2 ^ k := by unfold lowW; rw [if_neg (by omega)]; rfl
  have hp := two_pow_lt hk
  have hpw : IntKind.u64.wrap ((2 : Int) ^ k) = ((2 ^ k : Nat) : Int) := by rw [int_two_pow, u64w (by omega) (by omega)]
  have B1 := Lib.hid (bit63_walk hx)
  have PF := Lib.hid (put_walk (b := false) (n := 0) hx hk rfl rfl)
  have PT := Lib.hid (put_walk (b := true) (n := 2 ^ k) hx hk rfl rfl)
  have HPW := Lib.hid hpw
  have EL := Lib.hid el
  clear el hpw hp
  cases b
  all_goals
    go_enter Tryd.func45, Tryd.ntmps45
    go_wp2_with fail
    refine (low_any x k _ hx).mono ?_
    rintro e w' ⟨rfl, rfl⟩
    rw [EL.out]
    generalize x % 2 ^ k = y at *
    go_wp2_with fail
    go_ret2
  · exact ⟨ret_ib PF.out B1.out, rfl⟩
  · exact ⟨ret_ib (by rw [HPW.out]; exact PT.out) B1.out, rfl⟩

theorem cut_walk {x y z k n : Nat} {b : Bool} (hx : x < 2 ^ 64) (hk : k < 64) (hy : x % 2 ^ k = y) (hz : x / 2 % 2 ^ k = z) (hn : n = if b then 2 ^ 63 else 0) :
    bits .or .u64 (bits .or .u64 (y : Int) (bits .andNot .u64 ((x : Int) / 2) (z : Int))) (n : Int) = ((cutW x k b : Nat) : Int) := by
  have hyl : y < 2 ^ 64 := by rw [← hy]; exact Nat.lt_of_le_of_lt (Nat.mod_le _ _) hx
  have hzl : z < 2 ^ 64 := by rw [← hz]; exact Nat.lt_of_le_of_lt (Nat.mod_le _ _) (by omega)
  have hnl : n < 2 ^ 64 := by rw [hn]; split <;> omega
  have hal : x / 2 &&& (2 ^ 64 - 1 - z) < 2 ^ 64 := Nat.lt_of_le_of_lt Nat.and_le_left (by omega)
  rw [show ((x : Int) / 2) = ((x / 2 : Nat) : Int) by omega, andNot_u64 _ _ (by omega) hzl, or_u64 _ _ hyl hal, or_u64 _ _ (Nat.or_lt_two_pow hyl hal) hnl]
  rw [← cut_eq b hk hx, hy, hz, ← hn]
theorem bitk_walk {x k : Nat} (hx : x < 2 ^ 64) (hk : k < 64) : (bits .and .u64 ((x : Int) / 2 ^ k) 1 == 1) = x.testBit k := by
  rw [show ((x : Int) / 2 ^ k) = ((x / 2 ^ k : Nat) : Int) by simp, show (1 : Int) = ((1 : Nat) : Int) from rfl, and_u64 _ _ (Nat.lt_of_le_of_lt (Nat.div_le_self _ _) hx) (by omega), ← some_bit x k, Bool.eq_iff_iff]
  simp only [beq_iff_eq, decide_eq_true_eq]
  omega
theorem cut_good (x k : Nat) (b : Bool) (w : World) (hx : x < 2 ^ 64) (hk : k < 64) :
    Calls Tryd.prog 47 #[.int .u64 x, .int .i64 k, .bool b] w fun e w' => e = .returned (.tuple #[.int .u64 (cutW x k b), .bool (x.testBit k)]) ∧ w = w' := by
  have el : lowW x k = x % 2 ^ k := by unfold lowW; rw [if_neg (by omega)]; rfl
  have el2 : lowW (x / 2) k = x / 2 % 2 ^ k := by unfold lowW; rw [if_neg (by omega)]; rfl
  have hx2 : x / 2 < 2 ^ 64 := by omega
  have ed : (x : Int) / 2 = ((x / 2 : Nat) : Int) := by omega
  have B1 := Lib.hid (bitk_walk hx hk)
  have CF := Lib.hid (cut_walk (b := false) (n := 0) hx hk rfl rfl rfl)
  have CT := Lib.hid (cut_walk (b := true) (n := 2 ^ 63) hx hk rfl rfl rfl)
  have EL := Lib.hid el
  have EL2 := Lib.hid el2
  have ED := Lib.hid ed
  clear el el2 ed
  cases b
  all_goals
    go_enter Tryd.func47, Tryd.ntmps47
    go_wp2_with fail
    refine (low_any x k _ hx).mono ?_
    rintro e w' ⟨rfl, rfl⟩
    rw [EL.out]
    generalize x % 2 ^ k = y at *
    go_wp2_with fail
    rw [ED.out]
    refine (low_any (x / 2) k _ hx2).mono ?_
    rintro e w' ⟨rfl, rfl⟩
    rw [EL2.out]
    generalize x / 2 % 2 ^ k = z at *
    go_wp2_with fail
    go_ret2
  · exact ⟨ret_ib CF.out B1.out, rfl⟩
  · exact ⟨ret_ib CT.out B1.out, rfl⟩

end Go.Proofs.YtacoeohmdngnkaaDoor

namespace Go.Proofs.YtacoeohmdngnkaaDoor
set_option linter.unusedVariables false
set_option linter.unusedSimpArgs false

theorem cut_put {x n : Nat} (b : Bool) (hx : x < 2 ^ 64) (hn : n < 64) : cutW (putW x n b) n (x.testBit 63) = x := by
  refine word_ext (cutW_lt _ _ _) hx (fun i hi => ?_)
  rw [cutW_bit hi]
  split
  · rename_i h; rw [putW_bit hi, if_pos h]
  · split
    · rename_i h; rw [h]
    · rw [putW_bit (by omega), if_neg (by omega), if_neg (by omega)]; rfl
theorem put_cut {x n : Nat} (b : Bool) (hx : x < 2 ^ 64) (hn : n < 64) : putW (cutW x n b) n (x.testBit n) = x := by
  refine word_ext (putW_lt _ _ _) hx (fun i hi => ?_)
  rw [putW_bit hi]
  split
  · rename_i h; rw [cutW_bit hi, if_pos h]
  · split
    · rename_i h; rw [h]
    · rw [cutW_bit (by omega), if_neg (by omega), if_neg (by omega)]; congr 1; omega
theorem put_bit {x n : Nat} (b : Bool) (hn : n < 64) : (putW x n b).testBit n = b := by rw [putW_bit hn, if_neg (by omega), if_pos rfl]
theorem cut_top {x n : Nat} (b : Bool) (hn : n < 64) : (cutW x n b).testBit 63 = b := by rw [cutW_bit (by omega), if_neg (by omega), if_pos rfl]
theorem pc_put_low {x n : Nat} (b : Bool) (hn : n < 64) : ∀ m, n + 1 + m ≤ 64 → pc (putW x n b) (n + 1 + m) = pc x (n + m) + b.toNat
  | 0, h => by
    rw [Nat.add_zero, Nat.add_zero, pc_succ, put_bit b hn]
    congr 1
    exact pc_congr (fun i hi => by rw [putW_bit (by omega), if_pos hi])
  | m + 1, h => by
    rw [← Nat.add_assoc, pc_succ, pc_put_low b hn m (by omega), ← Nat.add_assoc, pc_succ, putW_bit (by omega), if_neg (by omega), if_neg (by omega), show n + 1 + m - 1 = n + m by omega]
    omega
theorem pc_put {x n : Nat} (b : Bool) (hn : n < 64) : pc (putW x n b) 64 + (x.testBit 63).toNat = pc x 64 + b.toNat := by
  have h := pc_put_low (x := x) b hn (63 - n) (by omega)
  rw [show n + 1 + (63 - n) = 64 by omega, show n + (63 - n) = 63 by omega] at h
  have h2 : pc x 64 = pc x 63 + (x.testBit 63).toNat := rfl
  omega

/-- All bits turned. -/
def notW (x : Nat) : Nat := 2 ^ 64 - 1 - x
theorem notW_lt (x : Nat) : notW x < 2 ^ 64 := by unfold notW; omega
theorem notW_bit {x i : Nat} (hx : x < 2 ^ 64) (hi : i < 64) : (notW x).testBit i = !x.testBit i := by
  unfold notW
  rw [show 2 ^ 64 - 1 - x = 2 ^ 64 - (x + 1) by omega, Nat.testBit_two_pow_sub_succ hx]
  simp [hi]
theorem pc_not {x : Nat} (hx : x < 2 ^ 64) : ∀ k, k ≤ 64 → pc x k + pc (notW x) k = k
  | 0, _ => rfl
  | k + 1, h => by
    have := pc_not hx k (by omega)
    rw [pc_succ, pc_succ, notW_bit hx (by omega)]
    cases x.testBit k <;> simp <;> omega
theorem pc_shift {x n : Nat} (hx : x < 2 ^ 64) (hn : n < 64) : pc x 64 = pc x n + pc (x / 2 ^ n) 64 := by
  have h := pc_add x n (64 - n)
  rw [show n + (64 - n) = 64 by omega] at h
  rw [h]
  congr 1
  refine (pc_ge ?_ (by omega)).symm
  rw [Nat.div_lt_iff_lt_mul (Nat.two_pow_pos n), ← Nat.pow_add, show 64 - n + n = 64 by omega]
  exact hx

/-- Which places are known after j rounds: first the ones, in their order, then the noughts. -/
def seen (x j i : Nat) : Bool := if x.testBit i then decide (pc x i < j) else decide (pc x 64 + pc (notW x) i < j)
theorem seen_zero (x i : Nat) : seen x 0 i = false := by unfold seen; split <;> simp
/-- The place that comes up in round j. -/
theorem place_at {x j : Nat} (hx : x < 2 ^ 64) (hj : j < 64) : ∃ k, k < 64 ∧ seen x j k = false ∧ (∀ i, i < 64 → seen x (j + 1) i = (decide (i = k) || seen x j i)) ∧
    ((j < pc x 64 → sel x j = k) ∧ (pc x 64 ≤ j → sel (notW x) ((j : Int) - (pc x 64 : Nat)) = k)) := by
  have htot := pc_not hx 64 (Nat.le_refl _)
  by_cases h : j < pc x 64
  · obtain ⟨k, hk, hb, hp, hs⟩ := sel_some h
    refine ⟨k, hk, by unfold seen; rw [if_pos hb]; simp; omega, fun i hi => ?_, fun _ => hs, fun h' => by omega⟩
    unfold seen
    by_cases hbi : x.testBit i = true
    · rw [if_pos hbi, if_pos hbi]
      rcases Nat.lt_trichotomy i k with h1 | h1 | h1
      · have := pc_lt h1 hbi; rw [Bool.eq_iff_iff]; simp; omega
      · subst h1; simp; omega
      · have := pc_lt h1 hb; rw [Bool.eq_iff_iff]; simp; omega
    · rw [if_neg hbi, if_neg hbi]
      have : i ≠ k := fun e => hbi (e ▸ hb)
      rw [Bool.eq_iff_iff]; simp; omega
  · obtain ⟨k, hk, hb, hp, hs⟩ := sel_some (w := notW x) (j := j - pc x 64) (by omega)
    rw [notW_bit hx hk] at hb
    have hbk : ¬ x.testBit k = true := by simpa using hb
    refine ⟨k, hk, by unfold seen; rw [if_neg hbk]; simp; omega, fun i hi => ?_, fun h' => by omega, fun _ => by rw [← hs]; congr 1; omega⟩
    unfold seen
    by_cases hbi : x.testBit i = true
    · rw [if_pos hbi, if_pos hbi]
      have : i ≠ k := fun e => hbk (e ▸ hbi)
      have h3 := pc_lt (j := 64) hi hbi
      rw [Bool.eq_iff_iff]; simp; omega
    · rw [if_neg hbi, if_neg hbi]
      have hni : (notW x).testBit i = true := by rw [notW_bit hx hi]; simpa using hbi
      have hnk : (notW x).testBit k = true := by rw [notW_bit hx hk]; simpa using hbk
      rcases Nat.lt_trichotomy i k with h1 | h1 | h1
      · have := pc_lt h1 hni; rw [Bool.eq_iff_iff]; simp; omega
      · subst h1; simp; omega
      · have := pc_lt h1 hnk; rw [Bool.eq_iff_iff]; simp; omega

end Go.Proofs.YtacoeohmdngnkaaDoor

namespace Go.Proofs.YtacoeohmdngnkaaDoor
set_option linter.unusedVariables false
set_option linter.unusedSimpArgs false
open Go.RowKit

theorem put_lit {X K Y : Int} {b c : Bool} (x k : Nat) (w : World) (hx : x < 2 ^ 64) (hk : k < 64) (eX : X = (x : Int)) (eK : K = (k : Int)) (eY : ((putW x k b : Nat) : Int) = Y) (ec : x.testBit 63 = c) :
    Calls Tryd.prog 45 #[.int .u64 X, .int .i64 K, .bool b] w fun e w' => e = .returned (.tuple #[.int .u64 Y, .bool c]) ∧ w = w' := by
  subst eX eK eY ec; exact put_good x k b w hx hk
theorem cut_lit {X K Y : Int} {b c : Bool} (x k : Nat) (w : World) (hx : x < 2 ^ 64) (hk : k < 64) (eX : X = (x : Int)) (eK : K = (k : Int)) (eY : ((cutW x k b : Nat) : Int) = Y) (ec : x.testBit k = c) :
    Calls Tryd.prog 47 #[.int .u64 X, .int .i64 K, .bool b] w fun e w' => e = .returned (.tuple #[.int .u64 Y, .bool c]) ∧ w = w' := by
  subst eX eK eY ec; exact cut_good x k b w hx hk
theorem rank_lit {X K Y : Int} (x : Nat) (w : World) (hx : x < 2 ^ 64) (eX : X = (x : Int)) (eY : ((pc x (min K.toNat 64) : Nat) : Int) = Y) :
    Calls Tryd.prog 71 #[.int .u64 X, .int .i64 K] w fun e w' => e = .returned (.int .i64 Y) ∧ Below w.heap.size w w' := by
  subst eX eY; exact rank_any x K w hx
theorem select_lit {X K Y : Int} (x : Nat) (w : World) (hx : x < 2 ^ 64) (hT : BitTab w) (eX : X = (x : Int)) (eY : sel x K = Y) :
    Calls Tryd.prog 72 #[.int .u64 X, .int .i64 K] w fun e w' => e = .returned (.int .i64 Y) ∧ Below w.heap.size w w' := by
  subst eX eY; exact select_any x K w hx hT
theorem count_lit {a : Option Addr} {n c : Nat} {Y : Int} (ws : List Nat) (w : World) (hn : n = ws.length) (hr : Reads w .u64 a (ws.map natI)) (hw : ∀ x ∈ ws, x < 2 ^ 64) (hl : ws.length ≤ 1000000000000000) (eY : (pcs ws : Int) = Y) :
    Calls Tryd.prog 70 #[.slice a n c] w fun e w' => e = .returned (.int .i64 Y) ∧ w = w' := by
  subst hn eY; exact count_any a c ws w hr hw hl
theorem reads_cells {w : World} {k : IntKind} {b : Nat} {xs : List Int} {T : TypeId} (h : w.heap[b]? = some (.cells (xs.map (Value.int k)).toArray T (0, 0))) : Reads w k (some ⟨b, 0, none⟩) xs := by
  intro i hi
  refine ⟨b, 0, rfl, (Array.getElem?_eq_some_iff.1 h).1, fun j hj => ?_⟩
  rw [cell_of_row w b (0 + j) _ _ _ h]
  simp [hj]
theorem below_alloc (w : World) (o : Obj) : Below w.heap.size w (w.alloc o) := (Below.refl _ _).alloc (Nat.le_refl _) _

theorem u64_nat {a : Int} (h : (Lit.int .u64 a).wf = true) : ∃ x : Nat, a = (x : Int) ∧ x < 2 ^ 64 := by
  simp [Lit.wf, IntKind.min, IntKind.max, IntKind.signed, IntKind.bits] at h
  exact ⟨a.toNat, by omega, by omega⟩
/-- A number that is taken as one without a sign, over m. -/
theorem mod_nat (a : Int) (m : Nat) (hm : 0 < m) (hm2 : m < 1000000) : ∃ n : Nat, n < m ∧ wrap64 ((IntKind.u64.wrap a).tmod m) = (n : Int) := by
  have h0 : 0 ≤ IntKind.u64.wrap a := by rw [IntKind.wrap_u64]; omega
  have h1 : (IntKind.u64.wrap a).tmod m = IntKind.u64.wrap a % m := Int.tmod_eq_emod_of_nonneg h0
  have h2 := Int.emod_nonneg (IntKind.u64.wrap a) (show (m : Int) ≠ 0 by omega)
  have h3 := Int.emod_lt_of_pos (IntKind.u64.wrap a) (show (0 : Int) < m by omega)
  refine ⟨(IntKind.u64.wrap a % m).toNat, by omega, ?_⟩
  rw [h1]
  generalize IntKind.u64.wrap a % (m : Int) = z at *
  unfold wrap64; omega
theorem not_u64 {x : Nat} (hx : x < 2 ^ 64) : bits .xor .u64 18446744073709551615 (x : Int) = ((notW x : Nat) : Int) := by
  have h := u64_xor_nat 18446744073709551615 x (by omega) hx
  rw [show ((18446744073709551615 : Nat) : Int) = 18446744073709551615 from rfl] at h
  rw [h]
  congr 1
  refine word_ext (n := 64) (Nat.xor_lt_two_pow (by omega) hx) (notW_lt x) (fun i hi => ?_)
  rw [Nat.testBit_xor, notW_bit hx hi, show (18446744073709551615 : Nat) = 2 ^ 64 - 1 from rfl, Nat.testBit_two_pow_sub_one]
  simp [hi]

theorem not_run {x : Nat} (hx : x < 2 ^ 64) : Op.unary .xor (.int .u64 (x : Int)) = pure (.int .u64 ((notW x : Nat) : Int)) := by
  have h : Op.unary .xor (.int .u64 (x : Int)) = pure (.int .u64 (bits .xor .u64 IntKind.u64.max (x : Int))) := rfl
  rw [h, show IntKind.u64.max = 18446744073709551615 by decide, not_u64 hx]

end Go.Proofs.YtacoeohmdngnkaaDoor

namespace Go.Proofs.YtacoeohmdngnkaaDoor
set_option linter.unusedVariables false
set_option linter.unusedSimpArgs false

/-- A bit of a list; none is a nought. -/
def bitAt (l : List Bool) (i : Nat) : Bool := l[i]?.getD false
def loW (l : List Bool) : Nat := wordOf (bitAt l) 64
def hiW (l : List Bool) : Nat := wordOf (fun i => bitAt l (64 + i)) 64
theorem loW_lt (l : List Bool) : loW l < 2 ^ 64 := wordOf_lt _ _
theorem hiW_lt (l : List Bool) : hiW l < 2 ^ 64 := wordOf_lt _ _
theorem loW_bit {l : List Bool} {i : Nat} (h : i < 64) : (loW l).testBit i = bitAt l i := by unfold loW; rw [wordOf_bit]; simp [h]
theorem hiW_bit {l : List Bool} {i : Nat} (h : i < 64) : (hiW l).testBit i = bitAt l (64 + i) := by unfold hiW; rw [wordOf_bit]; simp [h]
theorem bitAt_over {l : List Bool} {i : Nat} (h : l.length ≤ i) : bitAt l i = false := by unfold bitAt; rw [List.getElem?_eq_none h]; rfl
theorem loW_nil : loW [] = 0 := by decide +kernel
theorem hiW_nil : hiW [] = 0 := by decide +kernel

/-- A list with a bit more at a place; without the one at a place. -/
def inL {α : Type} (l : List α) (k : Nat) (b : α) : List α := l.take k ++ b :: l.drop k
def outL {α : Type} (l : List α) (k : Nat) : List α := l.take k ++ l.drop (k + 1)
theorem inL_len {α : Type} {l : List α} {k : Nat} {b : α} (h : k ≤ l.length) : (inL l k b).length = l.length + 1 := by simp [inL]; omega
theorem outL_len {α : Type} {l : List α} {k : Nat} (h : k < l.length) : (outL l k).length = l.length - 1 := by simp [outL]; omega
theorem inL_get {α : Type} {l : List α} {k : Nat} {b : α} (h : k ≤ l.length) (i : Nat) : (inL l k b)[i]? = if i < k then l[i]? else if i = k then some b else l[i - 1]? := by
  unfold inL
  rw [List.getElem?_append, List.length_take, Nat.min_eq_left h]
  split
  · rename_i hi; rw [List.getElem?_take, if_pos hi]
  · rename_i hi
    by_cases e : i = k
    · subst e; simp
    · rw [if_neg e]
      obtain ⟨d, hd⟩ : ∃ d, i - k = d + 1 := ⟨i - k - 1, by omega⟩
      rw [hd, List.getElem?_cons_succ, List.getElem?_drop]
      congr 1; omega
theorem outL_get {α : Type} {l : List α} {k : Nat} (h : k < l.length) (i : Nat) : (outL l k)[i]? = if i < k then l[i]? else l[i + 1]? := by
  unfold outL
  rw [List.getElem?_append, List.length_take, Nat.min_eq_left (by omega)]
  split
  · rename_i hi; rw [List.getElem?_take, if_pos hi]
  · rename_i hi
    rw [List.getElem?_drop]
    congr 1; omega
theorem bitAt_in {l : List Bool} {k : Nat} {b : Bool} (h : k ≤ l.length) (i : Nat) : bitAt (inL l k b) i = if i < k then bitAt l i else if i = k then b else bitAt l (i - 1) := by
  unfold bitAt; rw [inL_get h]; split
  · rfl
  · split <;> rfl
theorem bitAt_out {l : List Bool} {k : Nat} (h : k < l.length) (i : Nat) : bitAt (outL l k) i = if i < k then bitAt l i else bitAt l (i + 1) := by
  unfold bitAt; rw [outL_get h]; split <;> rfl

theorem lo_in {l : List Bool} {k : Nat} (b : Bool) (h : k ≤ l.length) (hk : k < 64) : loW (inL l k b) = putW (loW l) k b := by
  refine word_ext (loW_lt _) (putW_lt _ _ _) (fun i hi => ?_)
  rw [loW_bit hi, putW_bit hi, bitAt_in h]
  split
  · rw [loW_bit hi]
  · split
    · rfl
    · rw [loW_bit (by omega)]
theorem hi_in {l : List Bool} {k : Nat} (b : Bool) (h : k ≤ l.length) (hk : k < 64) : hiW (inL l k b) = putW (hiW l) 0 ((loW l).testBit 63) := by
  refine word_ext (hiW_lt _) (putW_lt _ _ _) (fun i hi => ?_)
  rw [hiW_bit hi, putW_bit hi, bitAt_in h, if_neg (by omega), if_neg (by omega), if_neg (by omega), loW_bit (by omega)]
  by_cases e : i = 0
  · subst e; rfl
  · rw [if_neg e, hiW_bit (by omega)]; congr 1; omega
theorem lo_in2 {l : List Bool} {k : Nat} (b : Bool) (h : k ≤ l.length) (hk : 64 ≤ k) : loW (inL l k b) = loW l := by
  refine word_ext (loW_lt _) (loW_lt _) (fun i hi => ?_)
  rw [loW_bit hi, loW_bit hi, bitAt_in h, if_pos (by omega)]
theorem hi_in2 {l : List Bool} {k : Nat} (b : Bool) (h : k ≤ l.length) (hk : 64 ≤ k) (h128 : k < 128) : hiW (inL l k b) = putW (hiW l) (k - 64) b := by
  refine word_ext (hiW_lt _) (putW_lt _ _ _) (fun i hi => ?_)
  rw [hiW_bit hi, putW_bit hi, bitAt_in h]
  by_cases h1 : i < k - 64
  · rw [if_pos (by omega), if_pos h1, hiW_bit hi]
  · rw [if_neg (by omega), if_neg h1]
    by_cases h2 : i = k - 64
    · rw [if_pos (by omega), if_pos h2]
    · rw [if_neg (by omega), if_neg h2, hiW_bit (by omega)]; congr 1; omega
theorem lo_out {l : List Bool} {k : Nat} (h : k < l.length) (hk : k < 64) : loW (outL l k) = cutW (loW l) k ((hiW l).testBit 0) := by
  refine word_ext (loW_lt _) (cutW_lt _ _ _) (fun i hi => ?_)
  rw [loW_bit hi, cutW_bit hi, bitAt_out h, hiW_bit (by omega)]
  split
  · rw [loW_bit hi]
  · split
    · rename_i e; subst e; rfl
    · rw [loW_bit (by omega)]
theorem hi_out {l : List Bool} {k : Nat} (h : k < l.length) (hk : k < 64) (h128 : l.length ≤ 128) : hiW (outL l k) = cutW (hiW l) 0 false := by
  refine word_ext (hiW_lt _) (cutW_lt _ _ _) (fun i hi => ?_)
  rw [hiW_bit hi, cutW_bit hi, bitAt_out h, if_neg (by omega), if_neg (by omega)]
  split
  · rw [bitAt_over (by omega)]
  · rw [hiW_bit (by omega)]; rfl
theorem lo_out2 {l : List Bool} {k : Nat} (h : k < l.length) (hk : 64 ≤ k) : loW (outL l k) = loW l := by
  refine word_ext (loW_lt _) (loW_lt _) (fun i hi => ?_)
  rw [loW_bit hi, loW_bit hi, bitAt_out h, if_pos (by omega)]
theorem hi_out2 {l : List Bool} {k : Nat} (h : k < l.length) (hk : 64 ≤ k) (h128 : l.length ≤ 128) : hiW (outL l k) = cutW (hiW l) (k - 64) false := by
  refine word_ext (hiW_lt _) (cutW_lt _ _ _) (fun i hi => ?_)
  rw [hiW_bit hi, cutW_bit hi, bitAt_out h]
  by_cases h1 : i < k - 64
  · rw [if_pos (by omega), if_pos h1, hiW_bit hi]
  · rw [if_neg (by omega), if_neg h1]
    split
    · rw [bitAt_over (by omega)]
    · rw [hiW_bit (by omega)]; rfl

/-- How many of the first k bits are like b. -/
def rankL (l : List Bool) (k : Nat) (b : Bool) : Nat := (l.take k).count b
theorem rankL_succ {l : List Bool} {k : Nat} (b : Bool) (h : k < l.length) : rankL l (k + 1) b = rankL l k b + (if l[k]?.getD false = b then 1 else 0) := by
  unfold rankL
  rw [List.take_add_one, List.getElem?_eq_getElem h, Option.toList_some, List.count_append, List.count_singleton]
  simp
theorem rankL_over {l : List Bool} {k : Nat} (b : Bool) (h : l.length ≤ k) : rankL l k b = l.count b := by unfold rankL; rw [List.take_of_length_le h]
theorem rankL_le (l : List Bool) (k : Nat) (b : Bool) : rankL l k b ≤ k ∧ rankL l k b ≤ l.length := by
  unfold rankL
  have := List.count_le_length (a := b) (l := l.take k)
  rw [List.length_take] at this; omega
theorem rankL_mono (l : List Bool) {i j : Nat} (b : Bool) (h : i ≤ j) : rankL l i b ≤ rankL l j b := by
  unfold rankL
  have : l.take i = (l.take j).take i := by rw [List.take_take, Nat.min_eq_left h]
  rw [this]
  exact List.Sublist.count_le _ (List.take_sublist _ _)
theorem rankL_lt {l : List Bool} {i j : Nat} {b : Bool} (h : i < j) (hi : i < l.length) (hb : l[i]?.getD false = b) : rankL l i b < rankL l j b := by
  have := rankL_mono l b (i := i + 1) (j := j) (by omega)
  rw [rankL_succ b hi, if_pos hb] at this
  omega
theorem rankL_both {l : List Bool} {k : Nat} (h : k ≤ l.length) : rankL l k true + rankL l k false = k := by
  induction k with
  | zero => simp [rankL]
  | succ k ih =>
    have := ih (by omega)
    rw [rankL_succ true (by omega), rankL_succ false (by omega)]
    cases l[k]?.getD false <;> simp <;> omega

/-- The words' ranks are the list's. -/
theorem pc_lo {l : List Bool} : ∀ {k : Nat}, k ≤ 64 → pc (loW l) k = rankL l k true
  | 0, _ => by simp [pc, rankL]
  | k + 1, h => by
    rw [pc_succ, pc_lo (by omega), loW_bit (by omega)]
    by_cases hk : k < l.length
    · rw [rankL_succ true hk]; unfold bitAt; cases l[k]?.getD false <;> simp
    · rw [bitAt_over (by omega), rankL_over true (by omega), rankL_over true (by omega)]; rfl
theorem pc_hi {l : List Bool} : ∀ {k : Nat}, k ≤ 64 → rankL l 64 true + pc (hiW l) k = rankL l (64 + k) true
  | 0, _ => by simp [pc]
  | k + 1, h => by
    rw [pc_succ, ← Nat.add_assoc, pc_hi (by omega), hiW_bit (by omega), ← Nat.add_assoc]
    by_cases hk : 64 + k < l.length
    · rw [rankL_succ true hk]; unfold bitAt; cases l[64 + k]?.getD false <;> simp
    · rw [bitAt_over (by omega), rankL_over true (by omega), rankL_over true (by omega)]; rfl
theorem pc_both {l : List Bool} (h : l.length ≤ 128) : pc (loW l) 64 + pc (hiW l) 64 = l.count true := by
  rw [pc_lo (Nat.le_refl _), pc_hi (Nat.le_refl _), rankL_over true (by omega)]

/-- The place of the bit like b with j such ones ahead; -1. -/
def selL (l : List Bool) (j : Int) (b : Bool) : Int := match (List.range l.length).find? fun i => decide (l[i]?.getD false = b) && decide ((rankL l i b : Int) = j) with
  | some i => (i : Int)
  | none => -1
theorem selL_hit {l : List Bool} {k : Nat} {j : Int} {b : Bool} (hk : k < l.length) (hb : l[k]?.getD false = b) (hp : (rankL l k b : Int) = j) : selL l j b = k := by
  unfold selL
  have : (List.range l.length).find? (fun i => decide (l[i]?.getD false = b) && decide ((rankL l i b : Int) = j)) = some k := by
    rw [List.find?_range_eq_some]
    refine ⟨by simp [hb, hp], by simpa using hk, fun i hi => ?_⟩
    by_cases hbi : l[i]?.getD false = b
    · have := rankL_lt (b := b) hi (by omega) hbi
      simp; omega
    · simp [hbi]
  rw [this]
theorem selL_none {l : List Bool} {j : Int} {b : Bool} (h : ∀ i, i < l.length → l[i]?.getD false = b → (rankL l i b : Int) ≠ j) : selL l j b = -1 := by
  unfold selL
  have : (List.range l.length).find? (fun i => decide (l[i]?.getD false = b) && decide ((rankL l i b : Int) = j)) = none := by
    rw [List.find?_eq_none]
    intro i hi
    simp only [List.mem_range] at hi
    by_cases hbi : l[i]?.getD false = b
    · have := h i hi hbi
      simp [this]
    · simp [hbi]
  rw [this]
theorem selL_neg {l : List Bool} {j : Int} {b : Bool} (h : j < 0) : selL l j b = -1 := selL_none (fun i _ _ => by omega)
theorem selL_many {l : List Bool} {j : Int} {b : Bool} (h : (l.count b : Int) ≤ j) : selL l j b = -1 := selL_none (fun i hi hb => by
  have := rankL_lt (b := b) (j := l.length) hi hi hb
  rw [rankL_over b (Nat.le_refl _)] at this
  omega)

/-- A word's bits that are like b. -/
def likeW (x : Nat) (b : Bool) : Nat := if b then x else notW x
theorem likeW_lt {x : Nat} (h : x < 2 ^ 64) (b : Bool) : likeW x b < 2 ^ 64 := by unfold likeW; split; exact h; exact notW_lt x
theorem likeW_bit {x i : Nat} (hx : x < 2 ^ 64) (hi : i < 64) (b : Bool) : (likeW x b).testBit i = decide (x.testBit i = b) := by
  unfold likeW; cases b
  · simp [notW_bit hx hi]
  · simp
theorem pc_likeLo {l : List Bool} (b : Bool) : ∀ {k : Nat}, k ≤ 64 → k ≤ l.length → pc (likeW (loW l) b) k = rankL l k b
  | 0, _, _ => by simp [pc, rankL]
  | k + 1, h, h2 => by
    rw [pc_succ, pc_likeLo b (by omega) (by omega), likeW_bit (loW_lt l) (by omega), loW_bit (by omega), rankL_succ b (by omega)]
    unfold bitAt
    by_cases e : l[k]?.getD false = b <;> simp [e]
theorem pc_likeHi {l : List Bool} (b : Bool) (h64 : 64 ≤ l.length) : ∀ {k : Nat}, k ≤ 64 → 64 + k ≤ l.length → rankL l 64 b + pc (likeW (hiW l) b) k = rankL l (64 + k) b
  | 0, _, _ => by simp [pc]
  | k + 1, h, h2 => by
    rw [pc_succ, ← Nat.add_assoc, pc_likeHi b h64 (by omega) (by omega), likeW_bit (hiW_lt l) (by omega), hiW_bit (by omega), ← Nat.add_assoc, rankL_succ b (by omega)]
    unfold bitAt
    by_cases e : l[64 + k]?.getD false = b <;> simp [e]
/-- The place is in the first word. -/
theorem sel_lo {l : List Bool} {j : Nat} {b : Bool} (h : j < pc (likeW (loW l) b) 64) : ∃ k : Nat, k < 64 ∧ sel (likeW (loW l) b) j = k ∧ selL l j b = if k < l.length then (k : Int) else -1 := by
  obtain ⟨k, hk, hb, hp, hs⟩ := sel_some h
  refine ⟨k, hk, hs, ?_⟩
  rw [likeW_bit (loW_lt l) hk, loW_bit hk, decide_eq_true_eq] at hb
  split
  · rename_i hkl
    exact selL_hit hkl hb (by rw [← pc_likeLo b (by omega) (by omega), hp])
  · rename_i hkl
    refine selL_none (fun i hi hbi => ?_)
    have h1 := rankL_lt (b := b) (j := l.length) hi hi hbi
    have h2 := pc_mono (likeW (loW l) b) (i := l.length) (j := k) (by omega)
    rw [pc_likeLo b (by omega) (Nat.le_refl _), hp] at h2
    omega
/-- The place is in the second word, or nowhere. -/
theorem sel_hi {l : List Bool} {j : Nat} {b : Bool} (h : pc (likeW (loW l) b) 64 ≤ j) (h1 : j - pc (likeW (loW l) b) 64 < pc (likeW (hiW l) b) 64) (h128 : l.length ≤ 128) :
    ∃ k : Nat, k < 64 ∧ sel (likeW (hiW l) b) ((j : Int) - (pc (likeW (loW l) b) 64 : Nat)) = k ∧ selL l j b = if 64 + k < l.length then ((64 + k : Nat) : Int) else -1 := by
  obtain ⟨k, hk, hb, hp, hs⟩ := sel_some h1
  refine ⟨k, hk, by rw [← hs]; congr 1; omega, ?_⟩
  rw [likeW_bit (hiW_lt l) hk, hiW_bit hk, decide_eq_true_eq] at hb
  by_cases h64 : 64 ≤ l.length
  · have e64 := pc_likeLo (l := l) b (Nat.le_refl 64) h64
    split
    · rename_i hkl
      exact selL_hit hkl hb (by rw [← pc_likeHi b h64 (by omega) (by omega), hp]; omega)
    · rename_i hkl
      refine selL_none (fun i hi hbi => ?_)
      have h3 := rankL_lt (b := b) (j := l.length) hi hi hbi
      have h2 := pc_mono (likeW (hiW l) b) (i := l.length - 64) (j := k) (by omega)
      have h4 := pc_likeHi (l := l) b h64 (k := l.length - 64) (by omega) (by omega)
      rw [show 64 + (l.length - 64) = l.length by omega] at h4
      omega
  · rw [if_neg (by omega)]
    refine selL_none (fun i hi hbi => ?_)
    have h3 := rankL_lt (b := b) (j := l.length) hi hi hbi
    have h2 := pc_mono (likeW (loW l) b) (i := l.length) (j := 64) (by omega)
    rw [pc_likeLo b (by omega) (Nat.le_refl _)] at h2
    omega
theorem sel_no {l : List Bool} {j : Nat} {b : Bool} (h : pc (likeW (loW l) b) 64 + pc (likeW (hiW l) b) 64 ≤ j) (h128 : l.length ≤ 128) : selL l j b = -1 := by
  refine selL_none (fun i hi hbi => ?_)
  have h3 := rankL_lt (b := b) (j := l.length) hi hi hbi
  by_cases h64 : 64 ≤ l.length
  · have e64 := pc_likeLo (l := l) b (Nat.le_refl 64) h64
    have h4 := pc_likeHi (l := l) b h64 (k := l.length - 64) (by omega) (by omega)
    rw [show 64 + (l.length - 64) = l.length by omega] at h4
    have h2 := pc_mono (likeW (hiW l) b) (i := l.length - 64) (j := 64) (by omega)
    omega
  · have h2 := pc_mono (likeW (loW l) b) (i := l.length) (j := 64) (by omega)
    rw [pc_likeLo b (by omega) (Nat.le_refl _)] at h2
    omega

/-- One bit more at the end. -/
theorem lo_snoc {l : List Bool} {b : Bool} (h : l.length < 64) : loW (l ++ [b]) = loW l ||| (if b then 2 ^ l.length else 0) := by
  refine word_ext (loW_lt _) (Nat.or_lt_two_pow (loW_lt _) ?_) (fun i hi => ?_)
  · have := Nat.pow_le_pow_right (n := 2) (i := l.length) (j := 63) (by omega) (by omega); split <;> omega
  · rw [loW_bit hi, Nat.testBit_or, loW_bit hi]
    have hb : (if b = true then 2 ^ l.length else 0 : Nat).testBit i = (b && decide (i = l.length)) := by
      cases b
      · simp
      · simp [Nat.testBit_two_pow, eq_comm]
    rw [hb]
    unfold bitAt
    rw [List.getElem?_append]
    split
    · rename_i h1
      have : ¬ i = l.length := by omega
      simp [this]
    · rename_i h1
      by_cases e : i = l.length
      · subst e; simp
      · rw [List.getElem?_eq_none (l := l) (by omega), List.getElem?_eq_none (l := [b]) (by simp; omega)]; simp [e]
theorem lo_snoc2 {l : List Bool} {b : Bool} (h : 64 ≤ l.length) : loW (l ++ [b]) = loW l := by
  refine word_ext (loW_lt _) (loW_lt _) (fun i hi => ?_)
  rw [loW_bit hi, loW_bit hi]; unfold bitAt; rw [List.getElem?_append_left (by omega)]
theorem hi_snoc {l : List Bool} {b : Bool} (h : l.length < 64) : hiW (l ++ [b]) = hiW l := by
  refine word_ext (hiW_lt _) (hiW_lt _) (fun i hi => ?_)
  rw [hiW_bit hi, hiW_bit hi, bitAt_over (l := l ++ [b]) (by simp; omega), bitAt_over (l := l) (by omega)]
theorem hi_snoc2 {l : List Bool} {b : Bool} (h : 64 ≤ l.length) (h128 : l.length < 128) : hiW (l ++ [b]) = hiW l ||| (if b then 2 ^ (l.length - 64) else 0) := by
  refine word_ext (hiW_lt _) (Nat.or_lt_two_pow (hiW_lt _) ?_) (fun i hi => ?_)
  · have := Nat.pow_le_pow_right (n := 2) (i := l.length - 64) (j := 63) (by omega) (by omega); split <;> omega
  · rw [hiW_bit hi, Nat.testBit_or, hiW_bit hi]
    have hb : (if b = true then 2 ^ (l.length - 64) else 0 : Nat).testBit i = (b && decide (i = l.length - 64)) := by
      cases b
      · simp
      · simp [Nat.testBit_two_pow, eq_comm]
    rw [hb]
    unfold bitAt
    rw [List.getElem?_append]
    split
    · rename_i h1
      have : ¬ i = l.length - 64 := by omega
      simp [this]
    · rename_i h1
      by_cases e : i = l.length - 64
      · subst e; rw [show 64 + (l.length - 64) = l.length by omega]; simp
      · rw [List.getElem?_eq_none (l := l) (by omega), List.getElem?_eq_none (l := [b]) (by simp; omega)]; simp [e]

end Go.Proofs.YtacoeohmdngnkaaDoor

namespace Go.Proofs.YtacoeohmdngnkaaDoor
set_option linter.unusedVariables false
set_option linter.unusedSimpArgs false
open Go.RowKit

/-- Outside S all blocks that were there are as they were. -/
structure Chg (S : Nat → Prop) (w w' : World) : Prop where
  os : w'.os = w.os
  tape : w'.tape = w.tape
  output : w'.output = w.output
  size : w.heap.size ≤ w'.heap.size
  block : ∀ k, k < w.heap.size → ¬ S k → w'.heap[k]? = w.heap[k]?

section
variable {S S' : Nat → Prop} {w w1 w2 w' : World}

theorem Chg.refl : Chg S w w := ⟨rfl, rfl, rfl, Nat.le_refl _, fun _ _ _ => rfl⟩
theorem Chg.trans (h : Chg S w w1) (k : Chg S' w1 w2) (hs : ∀ b, S' b → S b ∨ w.heap.size ≤ b) : Chg S w w2 :=
  ⟨k.os.trans h.os, k.tape.trans h.tape, k.output.trans h.output, Nat.le_trans h.size k.size, fun b hb hn =>
    (k.block b (Nat.lt_of_lt_of_le hb h.size) (fun hs' => (hs b hs').elim hn (fun h' => by omega))).trans (h.block b hb hn)⟩
theorem Chg.mono (h : Chg S w w') (hs : ∀ b, S b → S' b) : Chg S' w w' := ⟨h.os, h.tape, h.output, h.size, fun b hb hn => h.block b hb (fun x => hn (hs b x))⟩
theorem Chg.drew (h : Chg S w w') : Chg S w w'.drew := ⟨h.os, h.tape, h.output, h.size, h.block⟩
theorem Chg.drewN (h : Chg S w w') (n : Nat) : Chg S w (w'.drewN n) := ⟨h.os, h.tape, h.output, h.size, h.block⟩
theorem Chg.alloc (h : Chg S w w') (o : Obj) : Chg S w (w'.alloc o) :=
  ⟨h.os, h.tape, h.output, by have := h.size; simp; omega, fun b hb hn => by rw [Below.heap_alloc w' o b (by have := h.size; omega)]; exact h.block b hb hn⟩
theorem Chg.setCell (h : Chg S w w') (p : Addr) (hp : S p.block ∨ w.heap.size ≤ p.block) (u : Value) : Chg S w (w'.setCell p u) :=
  ⟨h.os, h.tape, h.output, by have := h.size; simpa [World.setCell] using this, fun b hb hn => by
    rw [Below.heap_setCell w' p u b (fun e => by subst e; exact hp.elim hn (fun h' => by omega))]; exact h.block b hb hn⟩
theorem Chg.grown {row : Option Nat} (h : Chg S w w1) (hg : w1.grownBy w' row) (hr : ∀ k, row = some k → S k ∨ w.heap.size ≤ k) : Chg S w w' :=
  ⟨hg.os.trans h.os, hg.tape.trans h.tape, hg.output.trans h.output, Nat.le_trans h.size hg.size, fun b hb hn =>
    (hg.block b (Nat.lt_of_lt_of_le hb h.size) (fun e => (hr b e.symm).elim hn (fun h' => by omega))).trans (h.block b hb hn)⟩
theorem Chg.below (h : Chg S w w') {B : Nat} (hs : ∀ b, S b → B ≤ b) (hB : B ≤ w.heap.size) : Below B w w' :=
  ⟨h.os, h.tape, h.output, h.size, fun b hb => h.block b (by omega) (fun x => by have := hs b x; omega)⟩
theorem Chg.of_below (h : Below w.heap.size w w') : Chg S w w' := ⟨h.os, h.tape, h.output, h.size, fun b hb _ => h.block b hb⟩
theorem Chg.of_belowB {B : Nat} (h : Below B w w') (hs : ∀ b, B ≤ b → b < w.heap.size → S b) : Chg S w w' := ⟨h.os, h.tape, h.output, h.size, fun b hb hn => h.block b (by
  rcases Nat.lt_or_ge b B with h' | h'
  · exact h'
  · exact absurd (hs b h' hb) hn)⟩

theorem Chg.heap (h : Chg S w w') {b : Nat} {o : Obj} (hb : w.heap[b]? = some o) (hn : ¬ S b) : w'.heap[b]? = some o :=
  (h.block b (Array.getElem?_eq_some_iff.1 hb).1 hn).trans hb
theorem Chg.cell (h : Chg S w w') {p : Addr} {v : Value} (hc : w.cell? p = some v) (hn : ¬ S p.block) : w'.cell? p = some v :=
  (World.cell?_of_block (h.block p.block (World.block_lt_of_cell? w p hc) hn)).trans hc
theorem Chg.own (h : Chg S w w') {base : Nat} {e : TypeId} {sz : Nat} {v : Value} {n : Nat} {xs : List Value} (ho : w.ownsRow base e sz v n xs) (hn : ∀ k, v.ownBlock = some k → ¬ S k) : w'.ownsRow base e sz v n xs := by
  refine ⟨ho.1, ?_⟩
  rcases ho.2 with hx | ⟨g, cap, cur, rfl, hbg, hg, rest⟩
  · exact .inl hx
  · exact .inr ⟨g, cap, cur, rfl, hbg, h.heap hg (hn g rfl), rest⟩
theorem Chg.reads (h : Chg S w w') {k : IntKind} {a : Option Addr} {xs : List Int} (hr : Reads w k a xs) (hn : ∀ ad, a = some ad → ¬ S ad.block) : Reads w' k a xs := by
  intro i hi
  obtain ⟨b, off, rfl, hlt, hc⟩ := hr i hi
  exact ⟨b, off, rfl, by have := h.size; omega, fun j hj => h.cell (hc j hj) (hn ⟨b, off, none⟩ rfl)⟩
end

/-- An own row, as a slice: its address is nothing or the head of a block; a row that is read. -/
theorem own_slice {w : World} {base : Nat} {e : TypeId} {sz : Nat} {v : Value} {n : Nat} {xs : List Value} (h : w.ownsRow base e sz v n xs) :
    ∃ a c, v = .slice a n c ∧ (a = none → n = 0 ∧ c = 0) ∧ (∀ ad, a = some ad → ∃ g, ad = ⟨g, 0, none⟩ ∧ base ≤ g ∧ g < w.heap.size ∧ v.ownBlock = some g) := by
  rcases h.2 with ⟨rfl, rfl⟩ | ⟨g, cap, cur, rfl, hbg, hg, rest⟩
  · exact ⟨none, 0, rfl, (fun _ => ⟨rfl, rfl⟩), fun ad h => by cases h⟩
  · exact ⟨some ⟨g, 0, none⟩, cap, rfl, (fun h => by cases h), fun ad h => by cases h; exact ⟨g, rfl, hbg, (Array.getElem?_eq_some_iff.1 hg).1, rfl⟩⟩

theorem own_lt {w : World} {base : Nat} {e : TypeId} {sz : Nat} {v : Value} {n : Nat} {xs : List Value} (h : w.ownsRow base e sz v n xs) {k : Nat} (hk : v.ownBlock = some k) : base ≤ k ∧ k < w.heap.size := h.lt k hk

/-- A store into an own row of one-cell elements. -/
theorem own_set {w : World} {base : Nat} {e : TypeId} {g cap n : Nat} {xs : List Value} (h : w.ownsRow base e 1 (.slice (some ⟨g, 0, none⟩) n cap) n xs) (j : Nat) (u : Value) :
    (w.setCell ⟨g, j, none⟩ u).ownsRow base e 1 (.slice (some ⟨g, 0, none⟩) n cap) n (xs.set j u) := by
  obtain ⟨h1, h2⟩ := h
  refine ⟨by simpa using h1, ?_⟩
  rcases h2 with ⟨h, _⟩ | ⟨g', cap', cur, hv, hb, hg, hc, hm, hs, ht⟩
  · cases h
  · injection hv with e1 e2 e3
    simp only [Option.some.injEq, Addr.mk.injEq, and_true] at e1
    subst e1; subst e3
    refine .inr ⟨g, cap, cur.setIfInBounds j u, rfl, hb, heap_setCell_same w g j cur e u hg, hc, hm, by simpa using hs, ?_⟩
    rw [Array.toList_setIfInBounds, ← ht, List.take_set]

/-- The first elements of an own row. -/
theorem own_take {w : World} {base : Nat} {e : TypeId} {g cap n m : Nat} {xs : List Value} (h : w.ownsRow base e 1 (.slice (some ⟨g, 0, none⟩) n cap) n xs) (hm : m ≤ n) :
    w.ownsRow base e 1 (.slice (some ⟨g, 0, none⟩) m cap) m (xs.take m) := by
  obtain ⟨h1, h2⟩ := h
  refine ⟨by rw [List.length_take]; omega, ?_⟩
  rcases h2 with ⟨h, _⟩ | ⟨g', cap', cur, hv, hb, hg, hc, hmx, hs, ht⟩
  · cases h
  · injection hv with e1 e2 e3
    simp only [Option.some.injEq, Addr.mk.injEq, and_true] at e1
    subst e1; subst e3
    refine .inr ⟨g, cap, cur, rfl, hb, hg, by omega, hmx, hs, ?_⟩
    rw [← ht, List.take_take]
    congr 1; omega

/-- 'append(s, x...)' onto an own row, whatever slice is appended: nil, empty or not. -/
theorem wpList_appendR {P : Program} {w : World} {ops : Array Oper} {rest : List Oper} {o : Oper} {a : Act} {Q : Exit → Act → World → Prop} (hgd : o.guard = none) (s x : Operand) (t : TypeId)
    (ho : o.op = .call { callee := .builtin .append, args := #[s, x], argTypes := #[t, t] })
    (base : Nat) (e : TypeId) {z : Value} {bytes : Nat} (hinfo : (P.info? e).map (fun i => (i.zero, i.size, i.bytes)) = some (some z, 1, bytes)) (ht : P.underlying t = some (.slice e)) (hz1 : z.cells.size = 1)
    (v : Value) (n : Nat) (xs : List Value) (hs : a.eval s = v) (hown : w.ownsRow base e 1 v n xs)
    (ad : Option Addr) (m c : Nat) (news : List Value) (hx : a.eval x = .slice ad m c) (hl : news.length = m) (hnil : ad = none → m = 0 ∧ c = 0)
    (hnews : ∀ p, ad = some p → ∀ j u, news[j]? = some u → w.cell? (p.add j) = some u) (h1 : ∀ u ∈ news, u.oneCell' = true)
    (h63 : n + m ≤ maxLen) (hbytes : (n + m) * bytes ≤ 140737488355328) (hbase : base ≤ w.heap.size)
    (h : ∀ v' w', w'.ownsRow base e 1 v' (n + m) (xs ++ news) → w.grownBy w' v.ownBlock → wpList P ops Q rest (a.put o.dst v') w') : wpList P ops Q (o :: rest) a w := by
  obtain ⟨i, hi, hz, hsz, hby⟩ := info_parts hinfo
  cases ad with
  | none =>
    obtain ⟨rfl, rfl⟩ := hnil rfl
    have hn : news = [] := List.eq_nil_of_length_eq_zero hl
    subst hn
    refine wpList_append_own_none hgd s x t ho base e i 1 ht hi v n xs hs hown hx ?_
    exact h v w (by simpa using hown) (World.grownBy.refl _ _)
  | some p =>
    exact wpList_append_own w hgd s x t ho base e i z 1 bytes ht hi hz hsz hby hz1 (by omega) v n xs hs hown p m c news hx (by omega) (hnews p rfl) h1 h63 hbytes hbase (fun v' w' a b _ => h v' w' a b)

end Go.Proofs.YtacoeohmdngnkaaDoor

namespace Go.Proofs.YtacoeohmdngnkaaDoor
set_option linter.unusedVariables false
set_option linter.unusedSimpArgs false
open Go.RowKit

/-- 'l = append(l, x)': one element is pushed; the new row is the old one or a new block. -/
theorem wpList_pushL {P : Program} {w : World} {ops : Array Oper} {rest : List Oper} {o : Oper} {a : Act} {Q : Exit → Act → World → Prop} {e' : TypeId} {u : Value} (hgd : o.guard = none) (s x : Operand) (t : TypeId)
    (ho : o.op = .call { callee := .builtin .append, args := #[s, x], argTypes := #[t, t] })
    (base : Nat) (e : TypeId) {z : Value} {bytes : Nat} (hinfo : (P.info? e).map (fun i => (i.zero, i.size, i.bytes)) = some (some z, 1, bytes)) (ht : P.underlying t = some (.slice e)) (hz1 : z.cells.size = 1)
    (v : Value) (n : Nat) (xs : List Value) (hs : a.eval s = v) (hown : w.ownsRow base e 1 v n xs)
    (hx : a.eval x = .slice (some ⟨w.heap.size, 0, none⟩) 1 1) (h1 : u.oneCell' = true)
    (h63 : n + 1 ≤ maxLen) (hbytes : (n + 1) * bytes ≤ 140737488355328) (hbase : base ≤ w.heap.size)
    (h : ∀ g cap w', w'.ownsRow base e 1 (.slice (some ⟨g, 0, none⟩) (n + 1) cap) (n + 1) (xs ++ [u]) → w.grownBy w' v.ownBlock → (v.ownBlock = some g ∨ w.heap.size ≤ g) → g < w'.heap.size →
      wpList P ops Q rest (a.put o.dst (.slice (some ⟨g, 0, none⟩) (n + 1) cap)) w') : wpList P ops Q (o :: rest) a (w.alloc (.cells #[u] e')) := by
  obtain ⟨i, hi, hz, hsz, hby⟩ := info_parts hinfo
  refine wpList_append_lies (w.alloc (.cells #[u] e')) hgd s x t ho base e i z 1 bytes ht hi hz hsz hby hz1 (by omega) v n xs hs (hown.alloc _) ⟨w.heap.size, 0, none⟩ 1 1 [u] hx rfl ?_ ?_ (by omega) h63 hbytes ?_ _ rfl ?_
  · intro j u' hj
    match j, hj with
    | 0, hj => simp at hj; subst hj; simp [Addr.add]
  · intro u' hu; simp at hu; subst hu; exact h1
  · simp; omega
  · intro g cap w' h1 h2 h3 h4
    exact h g cap w' h1 ⟨h2.os, h2.tape, h2.output, by have := h2.size; simp at this; omega, fun k hk hne => by
      rw [h2.block k (by simp; omega) hne]; exact Below.heap_alloc w _ k hk⟩ (h3.imp id (fun h => by simp at h; omega)) h4

/-- 'append(s, x...)' onto an own row, whatever slice is appended: nil, empty or not; the new row is the old one or a new block. -/
theorem wpList_appendL {P : Program} {w : World} {ops : Array Oper} {rest : List Oper} {o : Oper} {a : Act} {Q : Exit → Act → World → Prop} (hgd : o.guard = none) (s x : Operand) (t : TypeId)
    (ho : o.op = .call { callee := .builtin .append, args := #[s, x], argTypes := #[t, t] })
    (base : Nat) (e : TypeId) {z : Value} {bytes : Nat} (hinfo : (P.info? e).map (fun i => (i.zero, i.size, i.bytes)) = some (some z, 1, bytes)) (ht : P.underlying t = some (.slice e)) (hz1 : z.cells.size = 1)
    (v : Value) (n : Nat) (xs : List Value) (hs : a.eval s = v) (hown : w.ownsRow base e 1 v n xs)
    (ad : Option Addr) (m c : Nat) (news : List Value) (hx : a.eval x = .slice ad m c) (hl : news.length = m) (hnil : ad = none → m = 0 ∧ c = 0)
    (hnews : ∀ p, ad = some p → ∀ j u, news[j]? = some u → w.cell? (p.add j) = some u) (h1 : ∀ u ∈ news, u.oneCell' = true)
    (h63 : n + m ≤ maxLen) (hbytes : (n + m) * bytes ≤ 140737488355328) (hbase : base ≤ w.heap.size)
    (h : ∀ a' c' w', w'.ownsRow base e 1 (.slice a' (n + m) c') (n + m) (xs ++ news) → w.grownBy w' v.ownBlock → (∀ g, a' = some ⟨g, 0, none⟩ → v.ownBlock = some g ∨ w.heap.size ≤ g) →
      wpList P ops Q rest (a.put o.dst (.slice a' (n + m) c')) w') : wpList P ops Q (o :: rest) a w := by
  obtain ⟨i, hi, hz, hsz, hby⟩ := info_parts hinfo
  by_cases hm : m = 0
  · subst hm
    have hn : news = [] := List.eq_nil_of_length_eq_zero hl
    subst hn
    have key : ∀ v' w', w'.ownsRow base e 1 v' (n + 0) (xs ++ []) → w.grownBy w' v.ownBlock → (v'.ownBlock = v.ownBlock ∨ v'.ownBlock = some w.heap.size) → wpList P ops Q rest (a.put o.dst v') w' := by
      intro v' w' ho' hg' hor
      obtain ⟨a', c', rfl, _, hb⟩ := own_slice ho'
      refine h a' c' w' ho' hg' (fun g hg => ?_)
      subst hg
      obtain ⟨g', e1, _, _, e2⟩ := hb _ rfl
      cases e1
      rcases hor with hor | hor
      · left; rw [← hor]; exact e2
      · right; rw [hor] at e2; injection e2 with e2; omega
    cases ad with
    | none =>
      obtain ⟨_, rfl⟩ := hnil rfl
      exact wpList_append_own_none hgd s x t ho base e i 1 ht hi v n xs hs hown hx (key v w (by simpa using hown) (World.grownBy.refl _ _) (Or.inl rfl))
    | some p =>
      refine wpList_plain hgd fun K hK => ?_
      obtain ⟨v', w', hr, h2, h3, _, h5⟩ := run_append_own_at (P := P) w base t o.type e i z 1 bytes ht hi hz hsz hby hz1 (by omega) v n xs hown p 0 c [] (by simp) (by simp) (by simp) h63 hbytes hbase
      unfold Oper.wp execOp
      simp only [ho, resolve, invoke, builtin, Sem.run_bind, Sem.run_pure, Result.andThen_ok, List.map_toArray, List.map_cons, List.map_nil, hs, hx, hr]
      exact hK _ _ (key v' w' h2 h3 h5)
  · cases ad with
    | none => exact absurd (hnil rfl).1 hm
    | some p =>
      refine wpList_append_lies w hgd s x t ho base e i z 1 bytes ht hi hz hsz hby hz1 (by omega) v n xs hs hown p m c news hx (by omega) (hnews p rfl) h1 (by omega) h63 hbytes hbase _ rfl ?_
      intro g cap w' a1 a2 a3 a4
      exact h _ _ w' a1 a2 (fun g' hg' => by cases hg'; exact a3.imp id (fun h => by omega))

end Go.Proofs.YtacoeohmdngnkaaDoor

namespace Go.Proofs.YtacoeohmdngnkaaDoor
set_option linter.unusedVariables false
set_option linter.unusedSimpArgs false
open Go.RowKit

/-- A row that is read: its cells. -/
def ReadsV (w : World) (a : Option Addr) (xs : List Value) : Prop :=
  ∀ i, i < xs.length → ∃ b off, a = some ⟨b, off, none⟩ ∧ b < w.heap.size ∧ ∀ j u, xs[j]? = some u → w.cell? ⟨b, off + j, none⟩ = some u

section
variable {w w' : World} {a : Option Addr} {xs : List Value}
theorem ReadsV.nil : ReadsV w a [] := fun i hi => absurd hi (by simp)
theorem ReadsV.some (h : ReadsV w a xs) (hn : 0 < xs.length) : ∃ b off, a = some ⟨b, off, none⟩ ∧ b < w.heap.size ∧ ∀ j u, xs[j]? = some u → w.cell? ⟨b, off + j, none⟩ = some u := h 0 hn
theorem ReadsV.below {B : Nat} (h : ReadsV w a xs) (hb : Below B w w') (hB : ∀ ad, a = Option.some ad → ad.block < B) : ReadsV w' a xs := by
  intro i hi
  obtain ⟨b, off, rfl, hlt, hc⟩ := h i hi
  exact ⟨b, off, rfl, by have := hb.size; omega, fun j u hj => (hb.cell (p := ⟨b, off + j, none⟩) (hB ⟨b, off, none⟩ rfl)).trans (hc j u hj)⟩
theorem ReadsV.below' (h : ReadsV w a xs) (hb : Below w.heap.size w w') : ReadsV w' a xs := by
  intro i hi
  obtain ⟨b, off, rfl, hlt, hc⟩ := h i hi
  exact ⟨b, off, rfl, by have := hb.size; omega, fun j u hj => (hb.cell (p := ⟨b, off + j, none⟩) hlt).trans (hc j u hj)⟩
theorem ReadsV.chg {S : Nat → Prop} (h : ReadsV w a xs) (hc : Chg S w w') (hn : ∀ ad, a = Option.some ad → ¬ S ad.block) : ReadsV w' a xs := by
  intro i hi
  obtain ⟨b, off, rfl, hlt, hk⟩ := h i hi
  exact ⟨b, off, rfl, by have := hc.size; omega, fun j u hj => hc.cell (hk j u hj) (hn ⟨b, off, none⟩ rfl)⟩
theorem ReadsV.take (h : ReadsV w a xs) (k : Nat) : ReadsV w a (xs.take k) := by
  intro i hi
  rw [List.length_take] at hi
  obtain ⟨b, off, ha, hlt, hc⟩ := h i (by omega)
  exact ⟨b, off, ha, hlt, fun j u hj => hc j u (by
    rw [List.getElem?_take] at hj
    split at hj
    · exact hj
    · cases hj)⟩

/-- The address of a slice from k on. -/
def offA (a : Option Addr) (k cap : Nat) : Option Addr := if cap = k then a else a.map (·.add k)
theorem ReadsV.drop (h : ReadsV w a xs) {k cap : Nat} (hc : xs.length ≤ cap) : ReadsV w (offA a k cap) (xs.drop k) := by
  intro i hi
  rw [List.length_drop] at hi
  obtain ⟨b, off, rfl, hlt, hx⟩ := h i (by omega)
  have hne : ¬ cap = k := by omega
  refine ⟨b, off + k, by simp [offA, hne, Addr.add_lit], hlt, fun j u hj => ?_⟩
  rw [List.getElem?_drop] at hj
  have := hx (k + j) u hj
  rwa [Nat.add_assoc]
theorem offA_nil {a : Option Addr} {k cap len : Nat} (h : a = none → len = 0 ∧ cap = 0) : offA a k cap = none → len - k = 0 ∧ cap - k = 0 := by
  intro hn
  cases a with
  | none => obtain ⟨rfl, rfl⟩ := h rfl; simp
  | some ad =>
    unfold offA at hn
    split at hn
    · cases hn
    · cases hn

theorem ReadsV.hnews (h : ReadsV w a xs) : ∀ p, a = Option.some p → ∀ j u, xs[j]? = Option.some u → w.cell? (p.add j) = Option.some u := by
  intro p hp j u hu
  have hlt : j < xs.length := (List.getElem?_eq_some_iff.1 hu).1
  obtain ⟨b, off, hab, _, hc⟩ := h j hlt
  rw [hp] at hab; cases hab
  rw [Addr.add_lit]; exact hc j u hu
theorem readsV_own {base : Nat} {e : TypeId} {n c : Nat} {a : Option Addr} (h : w.ownsRow base e 1 (.slice a n c) n xs) : ReadsV w a xs := by
  have hl := own_len h
  intro i hi
  obtain ⟨g, cap, hv, hb, hg, hc, hm, hcell, _⟩ := own_some h (by omega)
  injection hv with h1 h2 h3
  exact ⟨g, 0, h1, hg, fun j u hj => by rw [Nat.zero_add, hcell j (by have := (List.getElem?_eq_some_iff.1 hj).1; omega), hj]⟩
theorem readsV_block {b : Nat} {T : TypeId} (h : w.heap[b]? = some (.cells xs.toArray T (0, 0))) : ReadsV w (some ⟨b, 0, none⟩) xs := by
  intro i hi
  refine ⟨b, 0, rfl, (Array.getElem?_eq_some_iff.1 h).1, fun j u hj => ?_⟩
  rw [cell_of_row w b (0 + j) _ _ _ h, Nat.zero_add, List.getElem?_toArray, hj]
theorem own_zero {g : Nat} {base : Nat} {e : TypeId} (hb : base ≤ g) (h : w.heap[g]? = some (.cells #[] e (0, 0))) : w.ownsRow base e 1 (.slice (some ⟨g, 0, none⟩) 0 0) 0 [] :=
  ⟨rfl, .inr ⟨g, 0, #[], rfl, hb, h, Nat.le_refl _, by unfold maxLen; omega, rfl, rfl⟩⟩
end

section
variable {P : Program} {w : World}
theorem run_sliceTo {t e : TypeId} {a : Option Addr} {len cap k : Nat} (ht : P.underlying t = some (.slice e)) (hinfo : (P.info? e).map (fun i => i.size) = some 1) (hk : k ≤ cap) :
    (Instr.slice t (.slice a len cap) none (some (.int .i64 (k : Int))) none).run P w = .ok (.slice a k cap) w := by
  obtain ⟨i, hi, hs⟩ := Option.map_eq_some_iff.1 hinfo
  have hk' : (k : Int) ≤ (cap : Int) := by omega
  simp [Instr.slice, run_underlying ht, Instr.sliceBounds, Instr.sliceBound, asIntOf, hk', sizeOf, typeInfo, hi, hs, go_sem]
  intro h; omega
theorem run_sliceFrom {t e : TypeId} {a : Option Addr} {len cap k : Nat} (ht : P.underlying t = some (.slice e)) (hinfo : (P.info? e).map (fun i => i.size) = some 1) (hk : k ≤ len) :
    (Instr.slice t (.slice a len cap) (some (.int .i64 (k : Int))) none none).run P w = .ok (.slice (offA a k cap) (len - k) (cap - k)) w := by
  obtain ⟨i, hi, hs⟩ := Option.map_eq_some_iff.1 hinfo
  have hk' : (k : Int) ≤ (len : Int) := by omega
  simp [Instr.slice, run_underlying ht, Instr.sliceBounds, Instr.sliceBound, asIntOf, hk', sizeOf, typeInfo, hi, hs, go_sem, offA]
  intro h; omega
end

theorem oneB (l : List Bool) : ∀ u ∈ l.map Value.bool, u.oneCell' = true := fun u hu => by obtain ⟨b, _, rfl⟩ := List.mem_map.1 hu; rfl
theorem oneI (k : IntKind) (l : List Int) : ∀ u ∈ l.map (Value.int k), u.oneCell' = true := fun u hu => by obtain ⟨b, _, rfl⟩ := List.mem_map.1 hu; rfl

/-- 'append(s, x...)' onto an own row, one operation. -/
theorem wp_appendL {P : Program} {w : World} {o : Oper} {a : Act} {K : Act → World → Prop} {Q : Exit → Act → World → Prop} (s x : Operand) (t : TypeId)
    (ho : o.op = .call { callee := .builtin .append, args := #[s, x], argTypes := #[t, t] })
    (base : Nat) (e : TypeId) {z : Value} {bytes : Nat} (hinfo : (P.info? e).map (fun i => (i.zero, i.size, i.bytes)) = some (some z, 1, bytes)) (ht : P.underlying t = some (.slice e)) (hz1 : z.cells.size = 1)
    (v : Value) (n : Nat) (xs : List Value) (hs : a.eval s = v) (hown : w.ownsRow base e 1 v n xs)
    (ad : Option Addr) (m c : Nat) (news : List Value) (hx : a.eval x = .slice ad m c) (hl : news.length = m) (hnil : ad = none → m = 0 ∧ c = 0)
    (hnews : ∀ p, ad = some p → ∀ j u, news[j]? = some u → w.cell? (p.add j) = some u) (h1 : ∀ u ∈ news, u.oneCell' = true)
    (h63 : n + m ≤ maxLen) (hbytes : (n + m) * bytes ≤ 140737488355328) (hbase : base ≤ w.heap.size)
    (h : ∀ a' c' w', w'.ownsRow base e 1 (.slice a' (n + m) c') (n + m) (xs ++ news) → w.grownBy w' v.ownBlock → (∀ g, a' = some ⟨g, 0, none⟩ → v.ownBlock = some g ∨ w.heap.size ≤ g) →
      K (a.put o.dst (.slice a' (n + m) c')) w') : Oper.wp P o a w K Q := by
  obtain ⟨i, hi, hz, hsz, hby⟩ := info_parts hinfo
  cases ad with
  | none =>
    obtain ⟨rfl, rfl⟩ := hnil rfl
    have hn : news = [] := List.eq_nil_of_length_eq_zero hl
    subst hn
    obtain ⟨a', c', hv, _, hb⟩ := own_slice hown
    have hrun := run_append_owned_none (P := P) (w := w) base t o.type e i 1 ht hi v n xs hown
    unfold Oper.wp execOp
    simp only [ho, resolve, invoke, builtin, Sem.run_bind, Sem.run_pure, Result.andThen_ok, List.map_toArray, List.map_cons, List.map_nil, hs, hx, hrun]
    subst hv
    exact h a' c' w (by simpa using hown) (World.grownBy.refl _ _) (fun g hg => by
      subst hg
      obtain ⟨g', e1, _, _, e2⟩ := hb _ rfl
      cases e1; exact Or.inl e2)
  | some p =>
    obtain ⟨v', w', hr, h2, h3, _, h5⟩ := run_append_own_at (P := P) w base t o.type e i z 1 bytes ht hi hz hsz hby hz1 (by omega) v n xs hown p m c news (by omega) (hnews p rfl) h1 h63 hbytes hbase
    unfold Oper.wp execOp
    simp only [ho, resolve, invoke, builtin, Sem.run_bind, Sem.run_pure, Result.andThen_ok, List.map_toArray, List.map_cons, List.map_nil, hs, hx, hr]
    obtain ⟨a', c', rfl, _, hb⟩ := own_slice h2
    refine h a' c' w' h2 h3 (fun g hg => ?_)
    subst hg
    obtain ⟨g', e1, _, _, e2⟩ := hb _ rfl
    cases e1
    rcases h5 with hor | hor
    · left; rw [← hor]; exact e2
    · right; rw [hor] at e2; injection e2 with e2; omega

/-- What is returned is a row of bools of the call's own. -/
def GivesB (B : Nat) (w : World) (l : List Bool) (e : Ending) (w' : World) : Prop := ∃ v, e = .returned v ∧ w'.ownsRow B 4 1 v l.length (l.map Value.bool) ∧ Below B w w'
theorem Tryd.infoBoolR : (Tryd.prog.info? 4).map (fun i => (i.zero, i.size, i.bytes)) = some (some (.bool false), 1, 1) := by kernel_rfl

end Go.Proofs.YtacoeohmdngnkaaDoor

namespace Go.Proofs.YtacoeohmdngnkaaDoor
open Go.RowKit

section
variable {P : Program} {md : Region.Mode} {l : List Oper} {Q : Exit → Act → World → Prop} {S : World → Prop} {i : Nat} {oi : Oper} {fuel : Nat} {listed : Array Bool} {a : Act} {w : World}

theorem reg_get (hi : (l.drop i).head? = some oi) : l.toArray[i]? = some oi := by
  rw [List.head?_drop] at hi
  simpa using hi

/-- The beginning. -/
theorem reg_start {id : Nat} (S : World → Prop) (hm : P.follows .mixedOrders = true) (hS : S w.drew)
    (h : S w.drew → wpAnyH P .any l.toArray (NoPanic Q) S l.length (Array.replicate l.length false) a w.drew) : (Code.region id l.toArray true).wp P Q a w := by
  refine wp_region_noPanic (wp_region_held_drew hm hS ?_)
  rw [List.size_toArray]
  exact h

/-- Operation i yields its value in every world that meets S: it is taken now. -/
theorem reg_take {v : Value} (hi : (l.drop i).head? = some oi) (hk : (Region.noSelect l.toArray && Region.free md l.toArray listed i && (Region.ready md l.toArray listed).contains i) = true)
    (hw : Region.wanted oi (yielded l.toArray a.tmps) = true) (hS : S w) (hy : ∀ w, S w → (execOp a.eval oi).run P w = .ok (.value v) w)
    (h : wpAnyH P md l.toArray (NoPanic Q) S fuel (listed.setIfInBounds i true) (a.put oi.dst v) w) : wpAnyH P md l.toArray (NoPanic Q) S (fuel + 1) listed a w := by
  simp only [Bool.and_eq_true] at hk
  exact wpAnyH_take (reg_get hi) hk.1.1 hk.1.2 hk.2 (fun _ _ _ h => h) (Or.inl ⟨hw, hy⟩) hS h

/-- Operation i is not wanted: it is passed over. -/
theorem reg_skip (hi : (l.drop i).head? = some oi) (hk : (Region.noSelect l.toArray && Region.free md l.toArray listed i && (Region.ready md l.toArray listed).contains i) = true)
    (hw : Region.wanted oi (yielded l.toArray a.tmps) = false) (hS : S w)
    (h : wpAnyH P md l.toArray (NoPanic Q) S fuel (listed.setIfInBounds i true) (a.put oi.dst undef) w) : wpAnyH P md l.toArray (NoPanic Q) S (fuel + 1) listed a w := by
  simp only [Bool.and_eq_true] at hk
  exact wpAnyH_take (reg_get hi) hk.1.1 hk.1.2 hk.2 (fun _ _ _ h => h) (Or.inr ⟨hw, rfl⟩) hS h

/-- Operation i alone may come up: it is carried out; behind it S is shown anew. -/
theorem reg_loud (hi : (l.drop i).head? = some oi) (hr : Region.ready md l.toArray listed = [i]) (hw : Region.wanted oi (yielded l.toArray a.tmps) = true)
    (h : ∀ K : Act → World → Prop, Shut (∀ a w, S w → (S w → wpAnyH P md l.toArray (NoPanic Q) S fuel (listed.setIfInBounds i true) a w) → K a w) → Oper.wp P oi a w K (NoPanic Q)) :
    wpAnyH P md l.toArray (NoPanic Q) S (fuel + 1) listed a w := by
  refine wpAnyH_ready hr (by simp) (AllReadyH.cons (reg_get hi) (fun K hK => ?_) AllReadyH.nil)
  rw [if_pos hw]
  exact h K hK

/-- Two operations may come up: either is carried out first; behind it S is shown anew. -/
theorem reg_loud2 {j : Nat} {oj : Oper} (hi : (l.drop i).head? = some oi) (hj : (l.drop j).head? = some oj) (hr : Region.ready md l.toArray listed = [i, j]) (hwi : Region.wanted oi (yielded l.toArray a.tmps) = true) (hwj : Region.wanted oj (yielded l.toArray a.tmps) = true)
    (h1 : ∀ K : Act → World → Prop, Shut (∀ a w, S w → (S w → wpAnyH P md l.toArray (NoPanic Q) S fuel (listed.setIfInBounds i true) a w) → K a w) → Oper.wp P oi a w K (NoPanic Q))
    (h2 : ∀ K : Act → World → Prop, Shut (∀ a w, S w → (S w → wpAnyH P md l.toArray (NoPanic Q) S fuel (listed.setIfInBounds j true) a w) → K a w) → Oper.wp P oj a w K (NoPanic Q)) :
    wpAnyH P md l.toArray (NoPanic Q) S (fuel + 1) listed a w := by
  refine wpAnyH_ready hr (by simp) (AllReadyH.cons (reg_get hi) (fun K hK => ?_) (AllReadyH.cons (reg_get hj) (fun K hK => ?_) AllReadyH.nil))
  · rw [if_pos hwi]
    exact h1 K hK
  · rw [if_pos hwj]
    exact h2 K hK

/-- Three operations may come up. -/
theorem reg_loud3 {j k : Nat} {oj ok : Oper} (hi : (l.drop i).head? = some oi) (hj : (l.drop j).head? = some oj) (hk : (l.drop k).head? = some ok) (hr : Region.ready md l.toArray listed = [i, j, k]) (hwi : Region.wanted oi (yielded l.toArray a.tmps) = true) (hwj : Region.wanted oj (yielded l.toArray a.tmps) = true) (hwk : Region.wanted ok (yielded l.toArray a.tmps) = true)
    (h1 : ∀ K : Act → World → Prop, Shut (∀ a w, S w → (S w → wpAnyH P md l.toArray (NoPanic Q) S fuel (listed.setIfInBounds i true) a w) → K a w) → Oper.wp P oi a w K (NoPanic Q))
    (h2 : ∀ K : Act → World → Prop, Shut (∀ a w, S w → (S w → wpAnyH P md l.toArray (NoPanic Q) S fuel (listed.setIfInBounds j true) a w) → K a w) → Oper.wp P oj a w K (NoPanic Q))
    (h3 : ∀ K : Act → World → Prop, Shut (∀ a w, S w → (S w → wpAnyH P md l.toArray (NoPanic Q) S fuel (listed.setIfInBounds k true) a w) → K a w) → Oper.wp P ok a w K (NoPanic Q)) :
    wpAnyH P md l.toArray (NoPanic Q) S (fuel + 1) listed a w := by
  refine wpAnyH_ready hr (by simp) (AllReadyH.cons (reg_get hi) (fun K hK => ?_) (AllReadyH.cons (reg_get hj) (fun K hK => ?_) (AllReadyH.cons (reg_get hk) (fun K hK => ?_) AllReadyH.nil)))
  · rw [if_pos hwi]
    exact h1 K hK
  · rw [if_pos hwj]
    exact h2 K hK
  · rw [if_pos hwk]
    exact h3 K hK

/-- Four operations may come up. -/
theorem reg_loud4 {j k m : Nat} {oj ok om : Oper} (hi : (l.drop i).head? = some oi) (hj : (l.drop j).head? = some oj) (hk : (l.drop k).head? = some ok) (hm : (l.drop m).head? = some om) (hr : Region.ready md l.toArray listed = [i, j, k, m]) (hwi : Region.wanted oi (yielded l.toArray a.tmps) = true) (hwj : Region.wanted oj (yielded l.toArray a.tmps) = true) (hwk : Region.wanted ok (yielded l.toArray a.tmps) = true) (hwm : Region.wanted om (yielded l.toArray a.tmps) = true)
    (h1 : ∀ K : Act → World → Prop, Shut (∀ a w, S w → (S w → wpAnyH P md l.toArray (NoPanic Q) S fuel (listed.setIfInBounds i true) a w) → K a w) → Oper.wp P oi a w K (NoPanic Q))
    (h2 : ∀ K : Act → World → Prop, Shut (∀ a w, S w → (S w → wpAnyH P md l.toArray (NoPanic Q) S fuel (listed.setIfInBounds j true) a w) → K a w) → Oper.wp P oj a w K (NoPanic Q))
    (h3 : ∀ K : Act → World → Prop, Shut (∀ a w, S w → (S w → wpAnyH P md l.toArray (NoPanic Q) S fuel (listed.setIfInBounds k true) a w) → K a w) → Oper.wp P ok a w K (NoPanic Q))
    (h4 : ∀ K : Act → World → Prop, Shut (∀ a w, S w → (S w → wpAnyH P md l.toArray (NoPanic Q) S fuel (listed.setIfInBounds m true) a w) → K a w) → Oper.wp P om a w K (NoPanic Q)) :
    wpAnyH P md l.toArray (NoPanic Q) S (fuel + 1) listed a w := by
  refine wpAnyH_ready hr (by simp) (AllReadyH.cons (reg_get hi) (fun K hK => ?_) (AllReadyH.cons (reg_get hj) (fun K hK => ?_) (AllReadyH.cons (reg_get hk) (fun K hK => ?_) (AllReadyH.cons (reg_get hm) (fun K hK => ?_) AllReadyH.nil))))
  · rw [if_pos hwi]
    exact h1 K hK
  · rw [if_pos hwj]
    exact h2 K hK
  · rw [if_pos hwk]
    exact h3 K hK
  · rw [if_pos hwm]
    exact h4 K hK

/-- All have come up. -/
theorem reg_done (hr : Region.ready md l.toArray listed = []) (h : Q .normal a w) (n : Nat) : wpAnyH P md l.toArray (NoPanic Q) S n listed a w :=
  wpAnyH_done hr (NoPanic.normal h) n
/-- Operation i is taken now, as reg_take; its value and the frame behind it are found. -/
theorem rt {v : Value} {a' : Act} (i : Nat) {oi : Oper} (hS : S w) (h : wpAnyH P md l.toArray (NoPanic Q) S fuel (listed.setIfInBounds i true) a' w)
    (hi : (l.drop i).head? = some oi := by rfl) (hk : (Region.noSelect l.toArray && Region.free md l.toArray listed i && (Region.ready md l.toArray listed).contains i) = true := by kernel_rfl)
    (hw : Region.wanted oi (yielded l.toArray a.tmps) = true := by rfl) (hy : ∀ w, S w → (execOp a.eval oi).run P w = .ok (.value v) w := by (intro w hSw; (try dsimp only at hSw); go_simp; all_goals with_reducible rfl))
    (hp : a.put oi.dst v = a' := by ((try simp only [Act.put, List.setIfInBounds_toArray, List.set_cons_zero, List.set_cons_succ]); rfl)) : wpAnyH P md l.toArray (NoPanic Q) S (fuel + 1) listed a w := by
  subst hp
  exact reg_take hi hk hw hS hy h
end

end Go.Proofs.YtacoeohmdngnkaaDoor

namespace Go.Proofs.YtacoeohmdngnkaaDoor
set_option linter.unusedVariables false
set_option linter.unusedSimpArgs false
open Go.RowKit

/-- Block p holds a block of bits. -/
def IsBlock (w : World) (p : Nat) (l : List Bool) : Prop :=
  l.length ≤ 128 ∧ w.heap[p]? = some (.cells #[.int .i64 l.length, .int .u64 (loW l), .int .u64 (hiW l)] 71 (0, 0))

section
variable {w w' : World} {p : Nat} {l : List Bool}
theorem IsBlock.lt (h : IsBlock w p l) : p < w.heap.size := (Array.getElem?_eq_some_iff.1 h.2).1
theorem IsBlock.chg {S : Nat → Prop} (h : IsBlock w p l) (hc : Chg S w w') (hn : ¬ S p) : IsBlock w' p l := ⟨h.1, hc.heap h.2 hn⟩
theorem IsBlock.below {B : Nat} (h : IsBlock w p l) (hb : Below B w w') (hp : p < B) : IsBlock w' p l := ⟨h.1, (hb.block p hp).trans h.2⟩
theorem IsBlock.below' (h : IsBlock w p l) (hb : Below w.heap.size w w') : IsBlock w' p l := h.below hb h.lt
theorem IsBlock.drewN (h : IsBlock w p l) (n : Nat) : IsBlock (w.drewN n) p l := h
theorem IsBlock.cells (h : IsBlock w p l) : w.cell? ⟨p, 0, none⟩ = some (.int .i64 l.length) ∧ w.cell? ⟨p, 1, none⟩ = some (.int .u64 (loW l)) ∧ w.cell? ⟨p, 2, none⟩ = some (.int .u64 (hiW l)) ∧ ∀ j, w.frozen? ⟨p, j, none⟩ = false :=
  ⟨by rw [cell_of_row w p 0 _ _ _ h.2]; rfl, by rw [cell_of_row w p 1 _ _ _ h.2]; rfl, by rw [cell_of_row w p 2 _ _ _ h.2]; rfl, fun j => frozen_of_row w p j _ _ h.2⟩
end

theorem blkLen_nil (w : World) : Calls Tryd.prog 27 #[.pointer none] w fun e w' => e = .returned (.int .i64 0) ∧ w = w' := by
  go_enter Tryd.func27, Tryd.ntmps27
  go_wp2_with fail
  go_ret
  exact ⟨rfl, rfl⟩
theorem blkLen {w : World} {p : Nat} {l : List Bool} (h : IsBlock w p l) : Calls Tryd.prog 27 #[.pointer (some ⟨p, 0, none⟩)] w fun e w' => e = .returned (.int .i64 l.length) ∧ w = w' := by
  obtain ⟨h0, _⟩ := h.cells
  go_enter Tryd.func27, Tryd.ntmps27
  go_wp2_with fail
  go_ret
  exact ⟨rfl, rfl⟩

/-- Is there such a bit? -/
def hasL (l : List Bool) (k : Int) : Int := if 0 ≤ k ∧ k < l.length then 0 else 2
theorem blkHas {w : World} {p : Nat} {l : List Bool} (h : IsBlock w p l) (k : Int) : Calls Tryd.prog 46 #[.pointer (some ⟨p, 0, none⟩), .int .i64 k] w fun e w' => e = .returned (.int .i64 (hasL l k)) ∧ w = w' := by
  obtain ⟨h0, _⟩ := h.cells
  by_cases h1 : k < 0
  · have hR := Lib.hid (show (2 : Int) = hasL l k by unfold hasL; rw [if_neg (by omega)])
    go_enter Tryd.func46, Tryd.ntmps46
    go_wp2_with fail
    go_ret
    exact ⟨ret_int hR.out, rfl⟩
  · by_cases h2 : k < l.length
    · have hR := Lib.hid (show (0 : Int) = hasL l k by unfold hasL; rw [if_pos (by omega)])
      have d : decide ((l.length : Int) ≤ k) = false := by simp; omega
      go_enter Tryd.func46, Tryd.ntmps46
      go_wp2_with fail
      go_ret
      exact ⟨ret_int hR.out, rfl⟩
    · have hR := Lib.hid (show (2 : Int) = hasL l k by unfold hasL; rw [if_neg (by omega)])
      have d : decide ((l.length : Int) ≤ k) = true := by simp; omega
      go_enter Tryd.func46, Tryd.ntmps46
      go_wp2_with fail
      go_ret
      exact ⟨ret_int hR.out, rfl⟩

theorem ret_bi {k : IntKind} {b b' : Bool} {a a' : Int} (h : b = b') (h' : a = a') : Ending.returned (.tuple #[.bool b, .int k a]) = Ending.returned (.tuple #[.bool b', .int k a']) := by rw [h, h']
theorem blkGet_bad {w : World} {p : Nat} {l : List Bool} (h : IsBlock w p l) (k : Int) (hk : k < 0 ∨ (l.length : Int) ≤ k) :
    Calls Tryd.prog 41 #[.pointer (some ⟨p, 0, none⟩), .int .i64 k] w fun e w' => e = .returned (.tuple #[.bool false, .int .i64 2]) ∧ w = w' := by
  have hR : hasL l k = 2 := by unfold hasL; rw [if_neg (by omega)]
  have HR := Lib.hid hR
  clear hR
  go_enter Tryd.func41, Tryd.ntmps41
  go_wp2_with fail
  refine (blkHas h k).mono ?_
  rintro e w' ⟨rfl, rfl⟩
  rw [HR.out]
  go_wp2_with fail
  go_ret2
  exact ⟨rfl, rfl⟩
theorem blkGet {w : World} {p : Nat} {l : List Bool} (h : IsBlock w p l) (k : Nat) (hk : k < l.length) :
    Calls Tryd.prog 41 #[.pointer (some ⟨p, 0, none⟩), .int .i64 k] w fun e w' => e = .returned (.tuple #[.bool (bitAt l k), .int .i64 0]) ∧ w = w' := by
  obtain ⟨h0, h1, h2, _⟩ := h.cells
  have hR : hasL l k = 0 := by unfold hasL; rw [if_pos (by omega)]
  have hm := h.1
  have HR := Lib.hid hR
  have HB := Lib.hid h
  clear hR h
  by_cases hk64 : k < 64
  · have b1 := bitk_walk (loW_lt l) hk64
    rw [loW_bit hk64] at b1
    have B1 := Lib.hid b1
    have q1 : (k : Int) / 64 = 0 := by omega
    have q2 : (k : Int) % 64 = k := by omega
    clear b1 h2
    go_enter Tryd.func41, Tryd.ntmps41
    go_wp2_with fail
    refine (blkHas HB.out k).mono ?_
    rintro e w' ⟨rfl, rfl⟩
    rw [HR.out]
    go_wp2_with fail
    go_ret2
    exact ⟨ret_bi B1.out rfl, rfl⟩
  · obtain ⟨m, rfl⟩ := Nat.exists_eq_add_of_le (show 64 ≤ k by omega)
    have hm64 : m < 64 := by omega
    have b1 := bitk_walk (hiW_lt l) hm64
    rw [hiW_bit hm64] at b1
    have B1 := Lib.hid b1
    have q1 : ((64 + m : Nat) : Int) / 64 = 1 := by omega
    have q2 : ((64 + m : Nat) : Int) % 64 = m := by omega
    clear b1 h1
    generalize hg : 64 + m = k at *
    have HG := Lib.hid hg
    clear hg
    go_enter Tryd.func41, Tryd.ntmps41
    go_wp2_with fail
    refine (blkHas HB.out k).mono ?_
    rintro e w' ⟨rfl, rfl⟩
    rw [HR.out]
    go_wp2_with fail
    go_ret2
    exact ⟨ret_bi B1.out rfl, rfl⟩

theorem blkOnes_nil (w : World) : Calls Tryd.prog 42 #[.pointer none] w fun e w' => e = .returned (.int .i64 0) ∧ w = w' := by
  go_enter Tryd.func42, Tryd.ntmps42
  go_wp2_with fail
  go_ret
  exact ⟨rfl, rfl⟩
theorem blkOnes {w : World} {p : Nat} {l : List Bool} (h : IsBlock w p l) : Calls Tryd.prog 42 #[.pointer (some ⟨p, 0, none⟩)] w fun e w' => e = .returned (.int .i64 (l.count true)) ∧ w = w' := by
  obtain ⟨h0, h1, h2, _⟩ := h.cells
  have hc : pcs [loW l, hiW l] = l.count true := by simp [pcs]; exact pc_both h.1
  have HC := Lib.hid hc
  have hr : Reads w .u64 (some ⟨p, 1, none⟩) ([loW l, hiW l].map natI) := by
    intro i hi
    refine ⟨p, 1, rfl, h.lt, fun j hj => ?_⟩
    match j, hj with
    | 0, _ => exact h1
    | 1, _ => exact h2
  have HR := Lib.hid hr
  clear hr hc h0 h1 h2
  go_enter Tryd.func42, Tryd.ntmps42
  go_wp2_with fail
  refine (count_lit (Y := (l.count true : Int)) [loW l, hiW l] _ rfl HR.out (by intro x hx; simp only [List.mem_cons, List.not_mem_nil, or_false] at hx; rcases hx with rfl | rfl; exact loW_lt l; exact hiW_lt l) (by simp) (by rw [HC.out])).mono ?_
  rintro e w' ⟨rfl, rfl⟩
  go_wp2_with fail
  go_ret
  exact ⟨rfl, rfl⟩

end Go.Proofs.YtacoeohmdngnkaaDoor

namespace Go.Proofs.YtacoeohmdngnkaaDoor
set_option linter.unusedVariables false
set_option linter.unusedSimpArgs false
open Go.RowKit
theorem blkRank_nil (w : World) (k : Int) : Calls Tryd.prog 43 #[.pointer none, .int .i64 k] w fun e w' => e = .returned (.int .i64 0) ∧ w = w' := by
  go_enter Tryd.func43, Tryd.ntmps43
  go_wp2_with fail
  go_ret
  exact ⟨rfl, rfl⟩
theorem rank_two {l : List Bool} {K : Nat} (h : K ≤ l.length) (h128 : l.length ≤ 128) : pc (loW l) (min K 64) + pc (hiW l) (min (K - 64) 64) = rankL l K true := by
  by_cases h64 : K ≤ 64
  · rw [Nat.min_eq_left h64, pc_lo h64, show min (K - 64) 64 = 0 by omega]; rfl
  · rw [Nat.min_eq_right (by omega), pc_lo (Nat.le_refl _), Nat.min_eq_left (by omega), pc_hi (by omega), show 64 + (K - 64) = K by omega]
theorem idx0 (a b : Value) (w : World) : (Instr.index 69 (.agg #[a, b]) (.int .i64 0)).run Tryd.prog w = .ok a w := by kernel_rfl
theorem idx1 (a b : Value) (w : World) : (Instr.index 69 (.agg #[a, b]) (.int .i64 1)).run Tryd.prog w = .ok b w := by kernel_rfl

set_option maxHeartbeats 1600000 in
theorem blkRank_core {w : World} {p : Nat} {l : List Bool} (h : IsBlock w p l) (k : Int) (K : Nat) (hk : (k < 0 ∧ K = 0) ∨ (0 ≤ k ∧ k ≤ l.length ∧ k = K) ∨ ((l.length : Int) < k ∧ K = l.length)) :
    Calls Tryd.prog 43 #[.pointer (some ⟨p, 0, none⟩), .int .i64 k] w fun e w' => e = .returned (.int .i64 (rankL l K true)) ∧ Below w.heap.size w w' := by
  obtain ⟨h0, h1, h2, _⟩ := h.cells
  have hl := h.1
  have hR : pc (loW l) (min K 64) + pc (hiW l) (min (K - 64) 64) = rankL l K true := rank_two (by omega) hl
  have hx := loW_lt l
  have hy := hiW_lt l
  have q1 := pc_le (loW l) (min K 64)
  have q2 := pc_le (hiW l) (min (K - 64) 64)
  have q1' : pc (loW l) (min K 64) ≤ 64 := by omega
  have q2' : pc (hiW l) (min (K - 64) 64) ≤ 64 := by omega
  have R1 : Hid (∀ (a : Int) (w : World), a = (K : Int) → Calls Tryd.prog 71 #[.int .u64 (loW l), .int .i64 a] w fun e w' => e = .returned (.int .i64 (pc (loW l) (min K 64))) ∧ Below w.heap.size w w') :=
    fun a w ha => rank_lit (loW l) w hx rfl (by rw [ha, Int.toNat_natCast])
  have R2 : Hid (∀ (a : Int) (w : World), a = (K : Int) - 64 → Calls Tryd.prog 71 #[.int .u64 (hiW l), .int .i64 a] w fun e w' => e = .returned (.int .i64 (pc (hiW l) (min (K - 64) 64))) ∧ Below w.heap.size w w') :=
    fun a w ha => rank_lit (hiW l) w hy rfl (by rw [ha]; congr 2; omega)
  have HR := Lib.hid hR
  have HB := Lib.hid h
  have I0 := idx0 (.int .u64 (loW l)) (.int .u64 (hiW l))
  have I1 := idx1 (.int .u64 (loW l)) (.int .u64 (hiW l))
  clear q1 q2 hR h hx hy
  generalize pc (loW l) (min K 64) = A at *
  generalize pc (hiW l) (min (K - 64) 64) = B at *
  rcases hk with ⟨hk, rfl⟩ | ⟨hk1, hk2, rfl⟩ | ⟨hk, rfl⟩
  all_goals
    go_enter Tryd.func43, Tryd.ntmps43
    go_wp2_with fail
    refine wp_loop_rounds 3 ?_
    rw [rounds_succ]
    go_wp2_with fail
    refine (R1.out _ _ (by omega)).mono ?_
    rintro e w1 ⟨rfl, hb⟩
    obtain ⟨g0, _⟩ := (HB.out.below' hb).cells
    go_wp2_with fail
    rw [rounds_succ]
    go_wp2_with fail
    refine (R2.out _ _ (by omega)).mono ?_
    rintro e w2 ⟨rfl, hb2⟩
    have hb3 := hb.trans (hb2.mono hb.size)
    clear hb hb2
    go_wp2_with fail
    rw [rounds_succ]
    go_wp2_with fail
    go_ret
    exact ⟨ret_int (by rw [← HR.out]; simp), hb3⟩

/-- Rank, whatever is asked. -/
theorem blkRank {w : World} {p : Nat} {l : List Bool} (h : IsBlock w p l) (k : Int) :
    Calls Tryd.prog 43 #[.pointer (some ⟨p, 0, none⟩), .int .i64 k] w fun e w' => e = .returned (.int .i64 (rankL l k.toNat true)) ∧ Below w.heap.size w w' := by
  by_cases h1 : k < 0
  · have := blkRank_core h k 0 (Or.inl ⟨h1, rfl⟩)
    rwa [show k.toNat = 0 by omega]
  · by_cases h2 : k ≤ l.length
    · exact blkRank_core h k k.toNat (Or.inr (Or.inl ⟨by omega, h2, by omega⟩))
    · have := blkRank_core h k l.length (Or.inr (Or.inr ⟨by omega, rfl⟩))
      rwa [rankL_over true (Nat.le_refl _), ← rankL_over (k := k.toNat) true (by omega)] at this

theorem blkSelect_none (w : World) (j : Int) (b : Bool) : Calls Tryd.prog 44 #[.pointer none, .int .i64 j, .bool b] w fun e w' => e = .returned (.int .i64 (-1)) ∧ w = w' := by
  go_enter Tryd.func44, Tryd.ntmps44
  go_wp2_with fail
  go_ret
  exact ⟨rfl, rfl⟩
theorem blkSelect_neg (w : World) (p : Nat) (j : Int) (b : Bool) (hj : j < 0) : Calls Tryd.prog 44 #[.pointer (some ⟨p, 0, none⟩), .int .i64 j, .bool b] w fun e w' => e = .returned (.int .i64 (-1)) ∧ w = w' := by
  go_enter Tryd.func44, Tryd.ntmps44
  go_wp2_with fail
  go_ret
  exact ⟨rfl, rfl⟩


set_option maxHeartbeats 3200000 in
theorem blkSelect_true {w : World} {p : Nat} {l : List Bool} (h : IsBlock w p l) (hT : BitTab w) (j : Nat) (hjm : (j : Int) ≤ 9223372036854775807) :
    Calls Tryd.prog 44 #[.pointer (some ⟨p, 0, none⟩), .int .i64 j, .bool true] w fun e w' => e = .returned (.int .i64 (selL l j true)) ∧ Below w.heap.size w w' := by
  obtain ⟨h0, h1, h2, _⟩ := h.cells
  have hl := h.1
  have hx := loW_lt l
  have hy := hiW_lt l
  have I0 := idx0 (.int .u64 (loW l)) (.int .u64 (hiW l))
  have I1 := idx1 (.int .u64 (loW l)) (.int .u64 (hiW l))
  have LX : Hid (loW l < 2 ^ 64) := likeW_lt hx true
  have LY : Hid (hiW l < 2 ^ 64) := likeW_lt hy true
  have p1 : pc (loW l) 64 ≤ 64 := pc_le _ 64
  have p2 : pc (hiW l) 64 ≤ 64 := pc_le _ 64
  have S1 : Hid (j < pc (loW l) 64 → ∃ k : Nat, k < 64 ∧ sel (loW l) j = k ∧ selL l j true = if k < l.length then (k : Int) else -1) := sel_lo (l := l) (j := j) (b := true)
  have S2 : Hid (pc (loW l) 64 ≤ j → j - pc (loW l) 64 < pc (hiW l) 64 → ∃ k : Nat, k < 64 ∧ sel (hiW l) ((j : Int) - (pc (loW l) 64 : Nat)) = k ∧ selL l j true = if 64 + k < l.length then ((64 + k : Nat) : Int) else -1) :=
    fun a b => sel_hi (l := l) (j := j) (b := true) a b hl
  have S3 : Hid (pc (loW l) 64 + pc (hiW l) 64 ≤ j → selL l j true = -1) := fun a => sel_no (l := l) (j := j) (b := true) a hl
  have C0 : Hid (∀ (w : World) (b off c : Nat), w.cell? ⟨b, off, none⟩ = some (.int .u64 (loW l)) → Calls Tryd.prog 70 #[.slice (some ⟨b, off, none⟩) 1 c] w fun e w' => e = .returned (.int .i64 (pc (loW l) 64)) ∧ w = w') :=
    fun w b off c hc => count_one _ w b off c hc LX.out
  have C1 : Hid (∀ (w : World) (b off c : Nat), w.cell? ⟨b, off, none⟩ = some (.int .u64 (hiW l)) → Calls Tryd.prog 70 #[.slice (some ⟨b, off, none⟩) 1 c] w fun e w' => e = .returned (.int .i64 (pc (hiW l) 64)) ∧ w = w') :=
    fun w b off c hc => count_one _ w b off c hc LY.out
  have HT := Lib.hid hT
  have HB := Lib.hid h
  clear hT h hx hy
  generalize pc (loW l) 64 = n0 at *
  generalize pc (hiW l) 64 = n1 at *
  by_cases hj0 : j < n0
  · obtain ⟨k, hk, hs, hr⟩ := S1.out hj0
    have HS := Lib.hid hs
    have HR := Lib.hid hr
    clear hs hr S1 S2 S3 C1
    by_cases hkl : k < l.length
    all_goals
      go_enter Tryd.func44, Tryd.ntmps44
      go_wp2_with fail
      refine wp_loop_rounds 3 ?_
      rw [rounds_succ]
      go_wp2_with fail
      refine (C0.out _ _ _ _ (by simp [go_sem])).mono ?_
      rintro e w' ⟨rfl, rfl⟩
      have hb := below_alloc w (.cells #[.int .u64 (loW l)] 68)
      have hs1 := hb.size
      generalize w.alloc (.cells #[.int .u64 (loW l)] 68) = w1 at *
      go_wp2_with fail
      refine (select_lit (Y := (k : Int)) (loW l) _ LX.out (HT.out.below' hb) rfl HS.out).mono ?_
      rintro e w2 ⟨rfl, hb2⟩
      have hb := hb.trans (hb2.mono hs1)
      obtain ⟨g0, _⟩ := (HB.out.below' hb).cells
      clear hb2
      go_wp2_with fail
      go_ret
      exact ⟨ret_int (by rw [HR.out]; simp [hkl]), hb⟩
  · by_cases hj1 : j < n0 + n1
    · obtain ⟨k, hk, hs, hr⟩ := S2.out (by omega) (by omega)
      have HS := Lib.hid hs
      have HR := Lib.hid hr
      clear hs hr S1 S2 S3
      by_cases hkl : 64 + k < l.length
      all_goals
        go_enter Tryd.func44, Tryd.ntmps44
        go_wp2_with fail
        refine wp_loop_rounds 3 ?_
        rw [rounds_succ]
        go_wp2_with fail
        refine (C0.out _ _ _ _ (by simp [go_sem])).mono ?_
        rintro e w' ⟨rfl, rfl⟩
        have hb := below_alloc w (.cells #[.int .u64 (loW l)] 68)
        have hs1 := hb.size
        generalize w.alloc (.cells #[.int .u64 (loW l)] 68) = w1 at *
        go_wp2_with fail
        rw [rounds_succ]
        go_wp2_with fail
        refine (C1.out _ _ _ _ (by simp [go_sem])).mono ?_
        rintro e w' ⟨rfl, rfl⟩
        have hb := hb.alloc hs1 (.cells #[.int .u64 (hiW l)] 68)
        have hs1 := hb.size
        generalize w1.alloc (.cells #[.int .u64 (hiW l)] 68) = w2 at *
        go_wp2_with fail
        refine (select_lit (Y := (k : Int)) (hiW l) _ LY.out (HT.out.below' hb) rfl HS.out).mono ?_
        rintro e w3 ⟨rfl, hb2⟩
        have hb := hb.trans (hb2.mono hs1)
        obtain ⟨g0, _⟩ := (HB.out.below' hb).cells
        clear hb2
        go_wp2_with fail
        go_ret
        exact ⟨ret_int (by rw [HR.out]; simp [hkl]), hb⟩
    · have hr := S3.out (by omega)
      have HR := Lib.hid hr
      clear hr S1 S2 S3
      go_enter Tryd.func44, Tryd.ntmps44
      go_wp2_with fail
      refine wp_loop_rounds 3 ?_
      rw [rounds_succ]
      go_wp2_with fail
      refine (C0.out _ _ _ _ (by simp [go_sem])).mono ?_
      rintro e w' ⟨rfl, rfl⟩
      have hb := below_alloc w (.cells #[.int .u64 (loW l)] 68)
      have hs1 := hb.size
      generalize w.alloc (.cells #[.int .u64 (loW l)] 68) = w1 at *
      go_wp2_with fail
      rw [rounds_succ]
      go_wp2_with fail
      refine (C1.out _ _ _ _ (by simp [go_sem])).mono ?_
      rintro e w' ⟨rfl, rfl⟩
      have hb := hb.alloc hs1 (.cells #[.int .u64 (hiW l)] 68)
      generalize w1.alloc (.cells #[.int .u64 (hiW l)] 68) = w2 at *
      go_wp2_with fail
      rw [rounds_succ]
      go_wp2_with fail
      go_ret
      exact ⟨ret_int HR.out.symm, hb⟩

set_option maxHeartbeats 3200000 in
theorem blkSelect_false {w : World} {p : Nat} {l : List Bool} (h : IsBlock w p l) (hT : BitTab w) (j : Nat) (hjm : (j : Int) ≤ 9223372036854775807) :
    Calls Tryd.prog 44 #[.pointer (some ⟨p, 0, none⟩), .int .i64 j, .bool false] w fun e w' => e = .returned (.int .i64 (selL l j false)) ∧ Below w.heap.size w w' := by
  obtain ⟨h0, h1, h2, _⟩ := h.cells
  have hl := h.1
  have hx := loW_lt l
  have hy := hiW_lt l
  have N1 := not_run hx
  have N2 := not_run hy
  have I0 := idx0 (.int .u64 (loW l)) (.int .u64 (hiW l))
  have I1 := idx1 (.int .u64 (loW l)) (.int .u64 (hiW l))
  have LX : Hid (notW (loW l) < 2 ^ 64) := likeW_lt hx false
  have LY : Hid (notW (hiW l) < 2 ^ 64) := likeW_lt hy false
  have p1 : pc (notW (loW l)) 64 ≤ 64 := pc_le _ 64
  have p2 : pc (notW (hiW l)) 64 ≤ 64 := pc_le _ 64
  have S1 : Hid (j < pc (notW (loW l)) 64 → ∃ k : Nat, k < 64 ∧ sel (notW (loW l)) j = k ∧ selL l j false = if k < l.length then (k : Int) else -1) := sel_lo (l := l) (j := j) (b := false)
  have S2 : Hid (pc (notW (loW l)) 64 ≤ j → j - pc (notW (loW l)) 64 < pc (notW (hiW l)) 64 → ∃ k : Nat, k < 64 ∧ sel (notW (hiW l)) ((j : Int) - (pc (notW (loW l)) 64 : Nat)) = k ∧ selL l j false = if 64 + k < l.length then ((64 + k : Nat) : Int) else -1) :=
    fun a b => sel_hi (l := l) (j := j) (b := false) a b hl
  have S3 : Hid (pc (notW (loW l)) 64 + pc (notW (hiW l)) 64 ≤ j → selL l j false = -1) := fun a => sel_no (l := l) (j := j) (b := false) a hl
  have C0 : Hid (∀ (w : World) (b off c : Nat), w.cell? ⟨b, off, none⟩ = some (.int .u64 (notW (loW l))) → Calls Tryd.prog 70 #[.slice (some ⟨b, off, none⟩) 1 c] w fun e w' => e = .returned (.int .i64 (pc (notW (loW l)) 64)) ∧ w = w') :=
    fun w b off c hc => count_one _ w b off c hc LX.out
  have C1 : Hid (∀ (w : World) (b off c : Nat), w.cell? ⟨b, off, none⟩ = some (.int .u64 (notW (hiW l))) → Calls Tryd.prog 70 #[.slice (some ⟨b, off, none⟩) 1 c] w fun e w' => e = .returned (.int .i64 (pc (notW (hiW l)) 64)) ∧ w = w') :=
    fun w b off c hc => count_one _ w b off c hc LY.out
  have HT := Lib.hid hT
  have HB := Lib.hid h
  clear hT h hx hy
  generalize pc (notW (loW l)) 64 = n0 at *
  generalize pc (notW (hiW l)) 64 = n1 at *
  by_cases hj0 : j < n0
  · obtain ⟨k, hk, hs, hr⟩ := S1.out hj0
    have HS := Lib.hid hs
    have HR := Lib.hid hr
    clear hs hr S1 S2 S3 C1
    by_cases hkl : k < l.length
    all_goals
      go_enter Tryd.func44, Tryd.ntmps44
      go_wp2_with fail
      refine wp_loop_rounds 3 ?_
      rw [rounds_succ]
      go_wp2_with fail
      refine (C0.out _ _ _ _ (by simp [go_sem])).mono ?_
      rintro e w' ⟨rfl, rfl⟩
      have hb := below_alloc w (.cells #[.int .u64 (notW (loW l))] 68)
      have hs1 := hb.size
      generalize w.alloc (.cells #[.int .u64 (notW (loW l))] 68) = w1 at *
      go_wp2_with fail
      refine (select_lit (Y := (k : Int)) (notW (loW l)) _ LX.out (HT.out.below' hb) rfl HS.out).mono ?_
      rintro e w2 ⟨rfl, hb2⟩
      have hb := hb.trans (hb2.mono hs1)
      obtain ⟨g0, _⟩ := (HB.out.below' hb).cells
      clear hb2
      go_wp2_with fail
      go_ret
      exact ⟨ret_int (by rw [HR.out]; simp [hkl]), hb⟩
  · by_cases hj1 : j < n0 + n1
    · obtain ⟨k, hk, hs, hr⟩ := S2.out (by omega) (by omega)
      have HS := Lib.hid hs
      have HR := Lib.hid hr
      clear hs hr S1 S2 S3
      by_cases hkl : 64 + k < l.length
      all_goals
        go_enter Tryd.func44, Tryd.ntmps44
        go_wp2_with fail
        refine wp_loop_rounds 3 ?_
        rw [rounds_succ]
        go_wp2_with fail
        refine (C0.out _ _ _ _ (by simp [go_sem])).mono ?_
        rintro e w' ⟨rfl, rfl⟩
        have hb := below_alloc w (.cells #[.int .u64 (notW (loW l))] 68)
        have hs1 := hb.size
        generalize w.alloc (.cells #[.int .u64 (notW (loW l))] 68) = w1 at *
        go_wp2_with fail
        rw [rounds_succ]
        go_wp2_with fail
        refine (C1.out _ _ _ _ (by simp [go_sem])).mono ?_
        rintro e w' ⟨rfl, rfl⟩
        have hb := hb.alloc hs1 (.cells #[.int .u64 (notW (hiW l))] 68)
        have hs1 := hb.size
        generalize w1.alloc (.cells #[.int .u64 (notW (hiW l))] 68) = w2 at *
        go_wp2_with fail
        refine (select_lit (Y := (k : Int)) (notW (hiW l)) _ LY.out (HT.out.below' hb) rfl HS.out).mono ?_
        rintro e w3 ⟨rfl, hb2⟩
        have hb := hb.trans (hb2.mono hs1)
        obtain ⟨g0, _⟩ := (HB.out.below' hb).cells
        clear hb2
        go_wp2_with fail
        go_ret
        exact ⟨ret_int (by rw [HR.out]; simp [hkl]), hb⟩
    · have hr := S3.out (by omega)
      have HR := Lib.hid hr
      clear hr S1 S2 S3
      go_enter Tryd.func44, Tryd.ntmps44
      go_wp2_with fail
      refine wp_loop_rounds 3 ?_
      rw [rounds_succ]
      go_wp2_with fail
      refine (C0.out _ _ _ _ (by simp [go_sem])).mono ?_
      rintro e w' ⟨rfl, rfl⟩
      have hb := below_alloc w (.cells #[.int .u64 (notW (loW l))] 68)
      have hs1 := hb.size
      generalize w.alloc (.cells #[.int .u64 (notW (loW l))] 68) = w1 at *
      go_wp2_with fail
      rw [rounds_succ]
      go_wp2_with fail
      refine (C1.out _ _ _ _ (by simp [go_sem])).mono ?_
      rintro e w' ⟨rfl, rfl⟩
      have hb := hb.alloc hs1 (.cells #[.int .u64 (notW (hiW l))] 68)
      generalize w1.alloc (.cells #[.int .u64 (notW (hiW l))] 68) = w2 at *
      go_wp2_with fail
      rw [rounds_succ]
      go_wp2_with fail
      go_ret
      exact ⟨ret_int HR.out.symm, hb⟩

/-- Select, whatever is asked. -/
theorem blkSelect {w : World} {p : Nat} {l : List Bool} (h : IsBlock w p l) (hT : BitTab w) (j : Int) (b : Bool) (hjm : j ≤ 9223372036854775807) :
    Calls Tryd.prog 44 #[.pointer (some ⟨p, 0, none⟩), .int .i64 j, .bool b] w fun e w' => e = .returned (.int .i64 (selL l j b)) ∧ Below w.heap.size w w' := by
  by_cases hj : j < 0
  · rw [selL_neg hj]
    refine (blkSelect_neg w p j b hj).mono ?_
    rintro e w' ⟨rfl, rfl⟩
    exact ⟨rfl, Below.refl _ _⟩
  · obtain ⟨n, rfl⟩ := Int.eq_ofNat_of_zero_le (show 0 ≤ j by omega)
    cases b
    · exact blkSelect_false h hT n hjm
    · exact blkSelect_true h hT n hjm

end Go.Proofs.YtacoeohmdngnkaaDoor

namespace Go.Proofs.YtacoeohmdngnkaaDoor
set_option linter.unusedVariables false
set_option linter.unusedSimpArgs false
open Go.RowKit

def vecL (f : Nat → Value) (n : Nat) : List Value := (List.range n).map f
theorem vecL_get {f : Nat → Value} {n i : Nat} (h : i < n) : (vecL f n)[i]? = some (f i) := by simp [vecL, h]
theorem vecL_len (f : Nat → Value) (n : Nat) : (vecL f n).length = n := by simp [vecL]
theorem vecL_set {f : Nat → Value} {n s : Nat} (v : Value) : (vecL f n).set s v = vecL (fun i => if i = s then v else f i) n := by
  apply List.ext_getElem?
  intro i
  rw [List.getElem?_set]
  by_cases hi : i < n
  · rw [vecL_get hi, vecL_get hi, vecL_len]
    by_cases e : s = i
    · subst e; simp [hi]
    · rw [if_neg e, if_neg (fun h => e h.symm)]
  · rw [List.getElem?_eq_none (by rw [vecL_len]; omega), List.getElem?_eq_none (by rw [vecL_len]; omega), vecL_len]
    split
    · rw [if_neg (by omega)]
    · rfl
theorem vecL_congr {f g : Nat → Value} {n : Nat} (h : ∀ i, i < n → f i = g i) : vecL f n = vecL g n := by
  apply List.ext_getElem?
  intro i
  by_cases hi : i < n
  · rw [vecL_get hi, vecL_get hi, h i hi]
  · rw [List.getElem?_eq_none (by rw [vecL_len]; omega), List.getElem?_eq_none (by rw [vecL_len]; omega)]

theorem vec_cell {w : World} {Q n i : Nat} {f : Nat → Value} {T : TypeId} (h : w.heap[Q]? = some (.cells (vecL f n).toArray T (0, 0))) (hi : i < n) : w.cell? ⟨Q, i, none⟩ = some (f i) := by
  rw [cell_of_row w Q i _ _ _ h, List.getElem?_toArray, vecL_get hi]
theorem vec_set {w : World} {Q n s : Nat} {f : Nat → Value} {T : TypeId} (h : w.heap[Q]? = some (.cells (vecL f n).toArray T (0, 0))) (v : Value) :
    (w.setCell ⟨Q, s, none⟩ v).heap[Q]? = some (.cells (vecL (fun i => if i = s then v else f i) n).toArray T (0, 0)) := by
  have h2 := heap_setCell_same w Q s _ _ v h
  rw [List.setIfInBounds_toArray, vecL_set] at h2
  exact h2
theorem below_setQ {B : Nat} {w w' : World} (h : Below B w w') (hB : B ≤ w'.heap.size) {Q s : Nat} (hQ : B ≤ Q) (u : Value) : Below B w (w'.setCell ⟨Q, s, none⟩ u) :=
  h.trans (((Chg.refl (S := fun k => k = Q)).setCell ⟨Q, s, none⟩ (Or.inl rfl) u).below (fun b hb => by rw [hb]; exact hQ) hB)
theorem below_drewQ {B : Nat} {w w' : World} (h : Below B w w') (n : Nat) : Below B w (w'.drewN n) := ⟨h.os, h.tape, h.output, h.size, h.block⟩
theorem below_heap {w w' : World} {Q : Nat} {o : Obj} (h : Below w.heap.size w w') (hq : w.heap[Q]? = some o) : w'.heap[Q]? = some o :=
  (h.block Q (Array.getElem?_eq_some_iff.1 hq).1).trans hq

end Go.Proofs.YtacoeohmdngnkaaDoor
