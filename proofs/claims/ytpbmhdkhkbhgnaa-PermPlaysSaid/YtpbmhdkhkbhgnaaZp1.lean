/- Lemmas and contracts under the claims of this seat: General lemmas, of no program: pushing one element, rows that are read, frames. Frames: which blocks a step may have changed; own rows and rows that are read behind it; of no program. Arrays whose cells are told by a function of the place; of no program. Laws on append that say where the new row lies; of no program. Rows that are read, of whatever cells; slices of them; append, operation by operation; of no program. Laws to meet a region that draws its order, one operation after the other; of no program. General lemmas, of no program: makes, own rows told by a function of the place, quiet calls. Plain lemmas on suffixes of a list of symbols: their order by the first w symbols, ranks, rows. Plain lemmas on tallies, of no program: how many there are of each symbol, below, and in all. Plain lemmas on the transform: its symbols are the text's, its way back, other texts' rows. Plain lemmas for the document's answer of layers 6 to 11: a string's numbers, suffixes behind equal parts, a place among sorted rows. Contracts of package sorted: the closures of Rows. slices.SortFunc with the closures of sorted.Rows. Contracts of package sym's small functions (Is, Of, Byte, Bit, Path), for whatever arguments. The contract of sym.All: the symbols of all parts, and the end, in memory of the call's own. sym.All of one, two and three parts. -/
import Derived.Test.YtpbmhdkhkbhgnaaProg
import Derived.WalkKit
import Derived.WalkLawsBesides
import Derived.WalkSpells
import Derived.Lib.Hide
import Derived.Laws.AppendOwnNone
import Derived.Deep.Draws
import Derived.OneCell
import Derived.Deep.AppendLies
import Derived.Deep.RegionHeld3
import Derived.Laws.MakeOwn
import Derived.Below
import Derived.Laws.BytesArg
import Derived.Deep.QuietTactic
import Derived.BigQuiet
import Derived.Test.YtpbmhdkhkbhgnaaShelf
import Derived.Shelf.SlSortCmp.Whole1
import Derived.Lib.RabinKarpLaws

namespace Go.Proofs.Ytpbmhdkhkbhgnaa
open Go.RowKit

theorem ret_bool {a b : Bool} (h : a = b) : Ending.returned (.bool a) = Ending.returned (.bool b) := by rw [h]
theorem ret_int {k : IntKind} {a b : Int} (h : a = b) : Ending.returned (.int k a) = Ending.returned (.int k b) := by rw [h]

/-- An own row that is not empty has an address, and its cells. -/
theorem own_some {w : World} {base : Nat} {e : TypeId} {v : Value} {n : Nat} {xs : List Value} (h : w.ownsRow base e 1 v n xs) (hn : 0 < n) :
    ∃ g cap, v = .slice (some ⟨g, 0, none⟩) n cap ∧ base ≤ g ∧ g < w.heap.size ∧ n ≤ cap ∧ cap ≤ maxLen ∧ (∀ j, j < n → w.cell? ⟨g, j, none⟩ = xs[j]?) ∧ (∀ j, w.frozen? ⟨g, j, none⟩ = false) := by
  obtain ⟨hl, hh⟩ := h
  rcases hh with ⟨_, h0⟩ | ⟨g, cap, cur, hv, hb, hg, hc, hm, hs, ht⟩
  · omega
  · refine ⟨g, cap, hv, hb, (Array.getElem?_eq_some_iff.1 hg).1, hc, hm, fun j hj => ?_, fun j => frozen_of_row w g j cur e hg⟩
    rw [cell_of_row w g j cur e (0, 0) hg, ← ht, List.getElem?_take, if_pos (by omega)]
    simp

theorem own_len {w : World} {base : Nat} {e : TypeId} {v : Value} {n : Nat} {xs : List Value} (h : w.ownsRow base e 1 v n xs) : xs.length = n := by
  have := h.1; omega

theorem own_empty {w : World} {base : Nat} {e : TypeId} {v : Value} {xs : List Value} (h : w.ownsRow base e 1 v 0 xs) : xs = [] := List.eq_nil_of_length_eq_zero (by have := h.1; omega)

/-- Behind a step that keeps all blocks below B an own row below it is kept. -/
theorem own_below {w w' : World} {base B : Nat} {e : TypeId} {v : Value} {n : Nat} {xs : List Value} (h : w.ownsRow base e 1 v n xs) (hb : Below B w w') (hB : ∀ k, v.ownBlock = some k → k < B) : w'.ownsRow base e 1 v n xs := by
  refine ⟨h.1, ?_⟩
  rcases h.2 with hn | ⟨g, cap, cur, rfl, hbg, hg, rest⟩
  · exact .inl hn
  · exact .inr ⟨g, cap, cur, rfl, hbg, by rw [hb.block g (hB g rfl)]; exact hg, rest⟩

theorem own_mono {w : World} {base base' : Nat} {e : TypeId} {v : Value} {n : Nat} {xs : List Value} (h : w.ownsRow base e 1 v n xs) (hb : base' ≤ base) : w.ownsRow base' e 1 v n xs := by
  refine ⟨h.1, ?_⟩
  rcases h.2 with hn | ⟨g, cap, cur, rfl, hbg, rest⟩
  · exact .inl hn
  · exact .inr ⟨g, cap, cur, rfl, by omega, rest⟩

/-- 'l = append(l, x)': one element is pushed on a row of the call's own. -/
theorem wpList_push {P : Program} {w : World} {ops : Array Oper} {rest : List Oper} {o : Oper} {a : Act} {Q : Exit → Act → World → Prop} {e' : TypeId} {u : Value} (hgd : o.guard = none) (s x : Operand) (t : TypeId)
    (ho : o.op = .call { callee := .builtin .append, args := #[s, x], argTypes := #[t, t] })
    (base : Nat) (e : TypeId) {z : Value} {bytes : Nat} (hinfo : (P.info? e).map (fun i => (i.zero, i.size, i.bytes)) = some (some z, 1, bytes)) (ht : P.underlying t = some (.slice e)) (hz1 : z.cells.size = 1)
    (v : Value) (n : Nat) (xs : List Value) (hs : a.eval s = v) (hown : w.ownsRow base e 1 v n xs)
    (hx : a.eval x = .slice (some ⟨w.heap.size, 0, none⟩) 1 1) (h1 : u.oneCell' = true)
    (h63 : n + 1 ≤ maxLen) (hbytes : (n + 1) * bytes ≤ 140737488355328) (hbase : base ≤ w.heap.size)
    (h : ∀ v' w', w'.ownsRow base e 1 v' (n + 1) (xs ++ [u]) → w.grownBy w' v.ownBlock → wpList P ops Q rest (a.put o.dst v') w') : wpList P ops Q (o :: rest) a (w.alloc (.cells #[u] e')) := by
  obtain ⟨i, hi, hz, hsz, hby⟩ := info_parts hinfo
  refine wpList_append_own (w.alloc (.cells #[u] e')) hgd s x t ho base e i z 1 bytes ht hi hz hsz hby hz1 (by omega) v n xs hs (hown.alloc _) ⟨w.heap.size, 0, none⟩ 1 1 [u] hx rfl ?_ ?_ h63 hbytes ?_ ?_
  · intro j u' hj
    match j, hj with
    | 0, hj => simp at hj; subst hj; simp [Addr.add]
  · intro u' hu; simp at hu; subst hu; exact h1
  · simp; omega
  · intro v' w' h1 h2 _
    exact h v' w' h1 ⟨h2.os, h2.tape, h2.output, by have := h2.size; simp at this; omega, fun k hk hne => by
      rw [h2.block k (by simp; omega) hne]; exact Below.heap_alloc w _ k hk⟩

/-- A slice that is read: its length, and where its elements lie. -/
def Reads (w : World) (k : IntKind) (a : Option Addr) (xs : List Int) : Prop :=
  ∀ i, i < xs.length → ∃ b off, a = some ⟨b, off, none⟩ ∧ b < w.heap.size ∧ ∀ j, j < xs.length → w.cell? ⟨b, off + j, none⟩ = some (.int k (xs[j]?.getD 0))

theorem Reads.some {w : World} {k : IntKind} {a : Option Addr} {xs : List Int} (h : Reads w k a xs) (hn : 0 < xs.length) :
    ∃ b off, a = some ⟨b, off, none⟩ ∧ b < w.heap.size ∧ ∀ j, j < xs.length → w.cell? ⟨b, off + j, none⟩ = some (.int k (xs[j]?.getD 0)) := h 0 hn

theorem Reads.below {w w' : World} {k : IntKind} {a : Option Addr} {xs : List Int} (h : Reads w k a xs) (hb : Below w.heap.size w w') : Reads w' k a xs := by
  intro i hi
  obtain ⟨b, off, ha, hlt, hc⟩ := h i hi
  exact ⟨b, off, ha, by have := hb.size; omega, fun j hj => (hb.cell hlt).trans (hc j hj)⟩

theorem Reads.belowB {w w' : World} {B : Nat} {k : IntKind} {a : Option Addr} {xs : List Int} (h : Reads w k a xs) (hb : Below B w w') (hB : w.heap.size ≤ B) : Reads w' k a xs := h.below (hb.mono hB)

theorem Reads.nil {w : World} {k : IntKind} {a : Option Addr} : Reads w k a [] := fun i hi => absurd hi (by simp)

theorem reads_one {w : World} {k : IntKind} {b off : Nat} {x : Int} (h : w.cell? ⟨b, off, none⟩ = some (.int k x)) : Reads w k (some ⟨b, off, none⟩) [x] := by
  intro i hi
  refine ⟨b, off, rfl, World.block_lt_of_cell? w _ h, fun j hj => ?_⟩
  obtain rfl : j = 0 := by simpa using hj
  exact h

/-- All numbers of a list are bytes. -/
def Bytes (xs : List Int) : Prop := ∀ i, i < xs.length → 0 ≤ xs[i]?.getD 0 ∧ xs[i]?.getD 0 < 256
theorem bytes_nil : Bytes [] := fun i hi => absurd hi (by simp)
theorem bytes_one {x : Int} (h0 : 0 ≤ x) (h1 : x < 256) : Bytes [x] := fun i hi => by
  obtain rfl : i = 0 := by simpa using hi
  exact ⟨h0, h1⟩

/-- A row of integers that came in: it can be read, its numbers fit their kind, its length is bounded. -/
structure ArgI (k : IntKind) (w : World) (a : Option Addr) (cap : Nat) (xs : List Int) : Prop where
  reads : Reads w k a xs
  wf : ∀ i, i < xs.length → (Lit.int k (xs[i]?.getD 0)).wf = true
  le : xs.length ≤ cap
  max : cap ≤ maxLen
  nil : a = none → cap = 0

/-- An own row of ints is one that is read. -/
theorem own_reads {w : World} {base : Nat} {e : TypeId} {k : IntKind} {a : Option Addr} {n c : Nat} {xs : List Int} (h : w.ownsRow base e 1 (.slice a n c) n (xs.map (Value.int k))) : Reads w k a xs := by
  have hl := own_len h
  rw [List.length_map] at hl
  intro i hi
  obtain ⟨g, cap, hv, hb, hg, hc, hm, hcell, _⟩ := own_some h (by omega)
  injection hv with h1 h2 h3
  refine ⟨g, 0, h1, hg, fun j hj => ?_⟩
  rw [Nat.zero_add, hcell j (by omega), List.getElem?_map, List.getElem?_eq_getElem hj]
  rfl

end Go.Proofs.Ytpbmhdkhkbhgnaa

namespace Go.Proofs.Ytpbmhdkhkbhgnaa
set_option linter.unusedVariables false
set_option linter.unusedSimpArgs false
open Go.RowKit

/-- Outside S all blocks that were there are as they were. -/
structure Chg (S : Nat → Prop) (w w' : World) : Prop where
  os : w'.os = w.os
  tape : w'.tape = w.tape
  output : w'.output = w.output
  size : w.heap.size ≤ w'.heap.size
  block : ∀ k, k < w.heap.size → ¬ S k → w'.heap[k]? = w.heap[k]?

section
variable {S S' : Nat → Prop} {w w1 w2 w' : World}

theorem Chg.refl : Chg S w w := ⟨rfl, rfl, rfl, Nat.le_refl _, fun _ _ _ => rfl⟩
theorem Chg.trans (h : Chg S w w1) (k : Chg S' w1 w2) (hs : ∀ b, S' b → S b ∨ w.heap.size ≤ b) : Chg S w w2 :=
  ⟨k.os.trans h.os, k.tape.trans h.tape, k.output.trans h.output, Nat.le_trans h.size k.size, fun b hb hn =>
    (k.block b (Nat.lt_of_lt_of_le hb h.size) (fun hs' => (hs b hs').elim hn (fun h' => by omega))).trans (h.block b hb hn)⟩
theorem Chg.mono (h : Chg S w w') (hs : ∀ b, S b → S' b) : Chg S' w w' := ⟨h.os, h.tape, h.output, h.size, fun b hb hn => h.block b hb (fun x => hn (hs b x))⟩
theorem Chg.drew (h : Chg S w w') : Chg S w w'.drew := ⟨h.os, h.tape, h.output, h.size, h.block⟩
theorem Chg.drewN (h : Chg S w w') (n : Nat) : Chg S w (w'.drewN n) := ⟨h.os, h.tape, h.output, h.size, h.block⟩
theorem Chg.alloc (h : Chg S w w') (o : Obj) : Chg S w (w'.alloc o) :=
  ⟨h.os, h.tape, h.output, by have := h.size; simp; omega, fun b hb hn => by rw [Below.heap_alloc w' o b (by have := h.size; omega)]; exact h.block b hb hn⟩
theorem Chg.setCell (h : Chg S w w') (p : Addr) (hp : S p.block ∨ w.heap.size ≤ p.block) (u : Value) : Chg S w (w'.setCell p u) :=
  ⟨h.os, h.tape, h.output, by have := h.size; simpa [World.setCell] using this, fun b hb hn => by
    rw [Below.heap_setCell w' p u b (fun e => by subst e; exact hp.elim hn (fun h' => by omega))]; exact h.block b hb hn⟩
theorem Chg.grown {row : Option Nat} (h : Chg S w w1) (hg : w1.grownBy w' row) (hr : ∀ k, row = some k → S k ∨ w.heap.size ≤ k) : Chg S w w' :=
  ⟨hg.os.trans h.os, hg.tape.trans h.tape, hg.output.trans h.output, Nat.le_trans h.size hg.size, fun b hb hn =>
    (hg.block b (Nat.lt_of_lt_of_le hb h.size) (fun e => (hr b e.symm).elim hn (fun h' => by omega))).trans (h.block b hb hn)⟩
theorem Chg.below (h : Chg S w w') {B : Nat} (hs : ∀ b, S b → B ≤ b) (hB : B ≤ w.heap.size) : Below B w w' :=
  ⟨h.os, h.tape, h.output, h.size, fun b hb => h.block b (by omega) (fun x => by have := hs b x; omega)⟩
theorem Chg.of_below (h : Below w.heap.size w w') : Chg S w w' := ⟨h.os, h.tape, h.output, h.size, fun b hb _ => h.block b hb⟩
theorem Chg.of_belowB {B : Nat} (h : Below B w w') (hs : ∀ b, B ≤ b → b < w.heap.size → S b) : Chg S w w' := ⟨h.os, h.tape, h.output, h.size, fun b hb hn => h.block b (by
  rcases Nat.lt_or_ge b B with h' | h'
  · exact h'
  · exact absurd (hs b h' hb) hn)⟩

theorem Chg.heap (h : Chg S w w') {b : Nat} {o : Obj} (hb : w.heap[b]? = some o) (hn : ¬ S b) : w'.heap[b]? = some o :=
  (h.block b (Array.getElem?_eq_some_iff.1 hb).1 hn).trans hb
theorem Chg.cell (h : Chg S w w') {p : Addr} {v : Value} (hc : w.cell? p = some v) (hn : ¬ S p.block) : w'.cell? p = some v :=
  (World.cell?_of_block (h.block p.block (World.block_lt_of_cell? w p hc) hn)).trans hc
theorem Chg.own (h : Chg S w w') {base : Nat} {e : TypeId} {sz : Nat} {v : Value} {n : Nat} {xs : List Value} (ho : w.ownsRow base e sz v n xs) (hn : ∀ k, v.ownBlock = some k → ¬ S k) : w'.ownsRow base e sz v n xs := by
  refine ⟨ho.1, ?_⟩
  rcases ho.2 with hx | ⟨g, cap, cur, rfl, hbg, hg, rest⟩
  · exact .inl hx
  · exact .inr ⟨g, cap, cur, rfl, hbg, h.heap hg (hn g rfl), rest⟩
theorem Chg.reads (h : Chg S w w') {k : IntKind} {a : Option Addr} {xs : List Int} (hr : Reads w k a xs) (hn : ∀ ad, a = some ad → ¬ S ad.block) : Reads w' k a xs := by
  intro i hi
  obtain ⟨b, off, rfl, hlt, hc⟩ := hr i hi
  exact ⟨b, off, rfl, by have := h.size; omega, fun j hj => h.cell (hc j hj) (hn ⟨b, off, none⟩ rfl)⟩
end

/-- An own row, as a slice: its address is nothing or the head of a block; a row that is read. -/
theorem own_slice {w : World} {base : Nat} {e : TypeId} {sz : Nat} {v : Value} {n : Nat} {xs : List Value} (h : w.ownsRow base e sz v n xs) :
    ∃ a c, v = .slice a n c ∧ (a = none → n = 0 ∧ c = 0) ∧ (∀ ad, a = some ad → ∃ g, ad = ⟨g, 0, none⟩ ∧ base ≤ g ∧ g < w.heap.size ∧ v.ownBlock = some g) := by
  rcases h.2 with ⟨rfl, rfl⟩ | ⟨g, cap, cur, rfl, hbg, hg, rest⟩
  · exact ⟨none, 0, rfl, (fun _ => ⟨rfl, rfl⟩), fun ad h => by cases h⟩
  · exact ⟨some ⟨g, 0, none⟩, cap, rfl, (fun h => by cases h), fun ad h => by cases h; exact ⟨g, rfl, hbg, (Array.getElem?_eq_some_iff.1 hg).1, rfl⟩⟩

theorem own_lt {w : World} {base : Nat} {e : TypeId} {sz : Nat} {v : Value} {n : Nat} {xs : List Value} (h : w.ownsRow base e sz v n xs) {k : Nat} (hk : v.ownBlock = some k) : base ≤ k ∧ k < w.heap.size := h.lt k hk

/-- A store into an own row of one-cell elements. -/
theorem own_set {w : World} {base : Nat} {e : TypeId} {g cap n : Nat} {xs : List Value} (h : w.ownsRow base e 1 (.slice (some ⟨g, 0, none⟩) n cap) n xs) (j : Nat) (u : Value) :
    (w.setCell ⟨g, j, none⟩ u).ownsRow base e 1 (.slice (some ⟨g, 0, none⟩) n cap) n (xs.set j u) := by
  obtain ⟨h1, h2⟩ := h
  refine ⟨by simpa using h1, ?_⟩
  rcases h2 with ⟨h, _⟩ | ⟨g', cap', cur, hv, hb, hg, hc, hm, hs, ht⟩
  · cases h
  · injection hv with e1 e2 e3
    simp only [Option.some.injEq, Addr.mk.injEq, and_true] at e1
    subst e1; subst e3
    refine .inr ⟨g, cap, cur.setIfInBounds j u, rfl, hb, heap_setCell_same w g j cur e u hg, hc, hm, by simpa using hs, ?_⟩
    rw [Array.toList_setIfInBounds, ← ht, List.take_set]

/-- The first elements of an own row. -/
theorem own_take {w : World} {base : Nat} {e : TypeId} {g cap n m : Nat} {xs : List Value} (h : w.ownsRow base e 1 (.slice (some ⟨g, 0, none⟩) n cap) n xs) (hm : m ≤ n) :
    w.ownsRow base e 1 (.slice (some ⟨g, 0, none⟩) m cap) m (xs.take m) := by
  obtain ⟨h1, h2⟩ := h
  refine ⟨by rw [List.length_take]; omega, ?_⟩
  rcases h2 with ⟨h, _⟩ | ⟨g', cap', cur, hv, hb, hg, hc, hmx, hs, ht⟩
  · cases h
  · injection hv with e1 e2 e3
    simp only [Option.some.injEq, Addr.mk.injEq, and_true] at e1
    subst e1; subst e3
    refine .inr ⟨g, cap, cur, rfl, hb, hg, by omega, hmx, hs, ?_⟩
    rw [← ht, List.take_take]
    congr 1; omega

/-- 'append(s, x...)' onto an own row, whatever slice is appended: nil, empty or not. -/
theorem wpList_appendR {P : Program} {w : World} {ops : Array Oper} {rest : List Oper} {o : Oper} {a : Act} {Q : Exit → Act → World → Prop} (hgd : o.guard = none) (s x : Operand) (t : TypeId)
    (ho : o.op = .call { callee := .builtin .append, args := #[s, x], argTypes := #[t, t] })
    (base : Nat) (e : TypeId) {z : Value} {bytes : Nat} (hinfo : (P.info? e).map (fun i => (i.zero, i.size, i.bytes)) = some (some z, 1, bytes)) (ht : P.underlying t = some (.slice e)) (hz1 : z.cells.size = 1)
    (v : Value) (n : Nat) (xs : List Value) (hs : a.eval s = v) (hown : w.ownsRow base e 1 v n xs)
    (ad : Option Addr) (m c : Nat) (news : List Value) (hx : a.eval x = .slice ad m c) (hl : news.length = m) (hnil : ad = none → m = 0 ∧ c = 0)
    (hnews : ∀ p, ad = some p → ∀ j u, news[j]? = some u → w.cell? (p.add j) = some u) (h1 : ∀ u ∈ news, u.oneCell' = true)
    (h63 : n + m ≤ maxLen) (hbytes : (n + m) * bytes ≤ 140737488355328) (hbase : base ≤ w.heap.size)
    (h : ∀ v' w', w'.ownsRow base e 1 v' (n + m) (xs ++ news) → w.grownBy w' v.ownBlock → wpList P ops Q rest (a.put o.dst v') w') : wpList P ops Q (o :: rest) a w := by
  obtain ⟨i, hi, hz, hsz, hby⟩ := info_parts hinfo
  cases ad with
  | none =>
    obtain ⟨rfl, rfl⟩ := hnil rfl
    have hn : news = [] := List.eq_nil_of_length_eq_zero hl
    subst hn
    refine wpList_append_own_none hgd s x t ho base e i 1 ht hi v n xs hs hown hx ?_
    exact h v w (by simpa using hown) (World.grownBy.refl _ _)
  | some p =>
    exact wpList_append_own w hgd s x t ho base e i z 1 bytes ht hi hz hsz hby hz1 (by omega) v n xs hs hown p m c news hx (by omega) (hnews p rfl) h1 h63 hbytes hbase (fun v' w' a b _ => h v' w' a b)

end Go.Proofs.Ytpbmhdkhkbhgnaa

namespace Go.Proofs.Ytpbmhdkhkbhgnaa
set_option linter.unusedVariables false
set_option linter.unusedSimpArgs false
open Go.RowKit

def vecL (f : Nat → Value) (n : Nat) : List Value := (List.range n).map f
theorem vecL_get {f : Nat → Value} {n i : Nat} (h : i < n) : (vecL f n)[i]? = some (f i) := by simp [vecL, h]
theorem vecL_len (f : Nat → Value) (n : Nat) : (vecL f n).length = n := by simp [vecL]
theorem vecL_set {f : Nat → Value} {n s : Nat} (v : Value) : (vecL f n).set s v = vecL (fun i => if i = s then v else f i) n := by
  apply List.ext_getElem?
  intro i
  rw [List.getElem?_set]
  by_cases hi : i < n
  · rw [vecL_get hi, vecL_get hi, vecL_len]
    by_cases e : s = i
    · subst e; simp [hi]
    · rw [if_neg e, if_neg (fun h => e h.symm)]
  · rw [List.getElem?_eq_none (by rw [vecL_len]; omega), List.getElem?_eq_none (by rw [vecL_len]; omega), vecL_len]
    split
    · rw [if_neg (by omega)]
    · rfl
theorem vecL_congr {f g : Nat → Value} {n : Nat} (h : ∀ i, i < n → f i = g i) : vecL f n = vecL g n := by
  apply List.ext_getElem?
  intro i
  by_cases hi : i < n
  · rw [vecL_get hi, vecL_get hi, h i hi]
  · rw [List.getElem?_eq_none (by rw [vecL_len]; omega), List.getElem?_eq_none (by rw [vecL_len]; omega)]

theorem vec_cell {w : World} {Q n i : Nat} {f : Nat → Value} {T : TypeId} (h : w.heap[Q]? = some (.cells (vecL f n).toArray T (0, 0))) (hi : i < n) : w.cell? ⟨Q, i, none⟩ = some (f i) := by
  rw [cell_of_row w Q i _ _ _ h, List.getElem?_toArray, vecL_get hi]
theorem vec_set {w : World} {Q n s : Nat} {f : Nat → Value} {T : TypeId} (h : w.heap[Q]? = some (.cells (vecL f n).toArray T (0, 0))) (v : Value) :
    (w.setCell ⟨Q, s, none⟩ v).heap[Q]? = some (.cells (vecL (fun i => if i = s then v else f i) n).toArray T (0, 0)) := by
  have h2 := heap_setCell_same w Q s _ _ v h
  rw [List.setIfInBounds_toArray, vecL_set] at h2
  exact h2
theorem below_setQ {B : Nat} {w w' : World} (h : Below B w w') (hB : B ≤ w'.heap.size) {Q s : Nat} (hQ : B ≤ Q) (u : Value) : Below B w (w'.setCell ⟨Q, s, none⟩ u) :=
  h.trans (((Chg.refl (S := fun k => k = Q)).setCell ⟨Q, s, none⟩ (Or.inl rfl) u).below (fun b hb => by rw [hb]; exact hQ) hB)
theorem below_drewQ {B : Nat} {w w' : World} (h : Below B w w') (n : Nat) : Below B w (w'.drewN n) := ⟨h.os, h.tape, h.output, h.size, h.block⟩
theorem below_heap {w w' : World} {Q : Nat} {o : Obj} (h : Below w.heap.size w w') (hq : w.heap[Q]? = some o) : w'.heap[Q]? = some o :=
  (h.block Q (Array.getElem?_eq_some_iff.1 hq).1).trans hq

end Go.Proofs.Ytpbmhdkhkbhgnaa

namespace Go.Proofs.Ytpbmhdkhkbhgnaa
set_option linter.unusedVariables false
set_option linter.unusedSimpArgs false
open Go.RowKit

/-- 'l = append(l, x)': one element is pushed; the new row is the old one or a new block. -/
theorem wpList_pushL {P : Program} {w : World} {ops : Array Oper} {rest : List Oper} {o : Oper} {a : Act} {Q : Exit → Act → World → Prop} {e' : TypeId} {u : Value} (hgd : o.guard = none) (s x : Operand) (t : TypeId)
    (ho : o.op = .call { callee := .builtin .append, args := #[s, x], argTypes := #[t, t] })
    (base : Nat) (e : TypeId) {z : Value} {bytes : Nat} (hinfo : (P.info? e).map (fun i => (i.zero, i.size, i.bytes)) = some (some z, 1, bytes)) (ht : P.underlying t = some (.slice e)) (hz1 : z.cells.size = 1)
    (v : Value) (n : Nat) (xs : List Value) (hs : a.eval s = v) (hown : w.ownsRow base e 1 v n xs)
    (hx : a.eval x = .slice (some ⟨w.heap.size, 0, none⟩) 1 1) (h1 : u.oneCell' = true)
    (h63 : n + 1 ≤ maxLen) (hbytes : (n + 1) * bytes ≤ 140737488355328) (hbase : base ≤ w.heap.size)
    (h : ∀ g cap w', w'.ownsRow base e 1 (.slice (some ⟨g, 0, none⟩) (n + 1) cap) (n + 1) (xs ++ [u]) → w.grownBy w' v.ownBlock → (v.ownBlock = some g ∨ w.heap.size ≤ g) → g < w'.heap.size →
      wpList P ops Q rest (a.put o.dst (.slice (some ⟨g, 0, none⟩) (n + 1) cap)) w') : wpList P ops Q (o :: rest) a (w.alloc (.cells #[u] e')) := by
  obtain ⟨i, hi, hz, hsz, hby⟩ := info_parts hinfo
  refine wpList_append_lies (w.alloc (.cells #[u] e')) hgd s x t ho base e i z 1 bytes ht hi hz hsz hby hz1 (by omega) v n xs hs (hown.alloc _) ⟨w.heap.size, 0, none⟩ 1 1 [u] hx rfl ?_ ?_ (by omega) h63 hbytes ?_ _ rfl ?_
  · intro j u' hj
    match j, hj with
    | 0, hj => simp at hj; subst hj; simp [Addr.add]
  · intro u' hu; simp at hu; subst hu; exact h1
  · simp; omega
  · intro g cap w' h1 h2 h3 h4
    exact h g cap w' h1 ⟨h2.os, h2.tape, h2.output, by have := h2.size; simp at this; omega, fun k hk hne => by
      rw [h2.block k (by simp; omega) hne]; exact Below.heap_alloc w _ k hk⟩ (h3.imp id (fun h => by simp at h; omega)) h4

/-- 'append(s, x...)' onto an own row, whatever slice is appended: nil, empty or not; the new row is the old one or a new block. -/
theorem wpList_appendL {P : Program} {w : World} {ops : Array Oper} {rest : List Oper} {o : Oper} {a : Act} {Q : Exit → Act → World → Prop} (hgd : o.guard = none) (s x : Operand) (t : TypeId)
    (ho : o.op = .call { callee := .builtin .append, args := #[s, x], argTypes := #[t, t] })
    (base : Nat) (e : TypeId) {z : Value} {bytes : Nat} (hinfo : (P.info? e).map (fun i => (i.zero, i.size, i.bytes)) = some (some z, 1, bytes)) (ht : P.underlying t = some (.slice e)) (hz1 : z.cells.size = 1)
    (v : Value) (n : Nat) (xs : List Value) (hs : a.eval s = v) (hown : w.ownsRow base e 1 v n xs)
    (ad : Option Addr) (m c : Nat) (news : List Value) (hx : a.eval x = .slice ad m c) (hl : news.length = m) (hnil : ad = none → m = 0 ∧ c = 0)
    (hnews : ∀ p, ad = some p → ∀ j u, news[j]? = some u → w.cell? (p.add j) = some u) (h1 : ∀ u ∈ news, u.oneCell' = true)
    (h63 : n + m ≤ maxLen) (hbytes : (n + m) * bytes ≤ 140737488355328) (hbase : base ≤ w.heap.size)
    (h : ∀ a' c' w', w'.ownsRow base e 1 (.slice a' (n + m) c') (n + m) (xs ++ news) → w.grownBy w' v.ownBlock → (∀ g, a' = some ⟨g, 0, none⟩ → v.ownBlock = some g ∨ w.heap.size ≤ g) →
      wpList P ops Q rest (a.put o.dst (.slice a' (n + m) c')) w') : wpList P ops Q (o :: rest) a w := by
  obtain ⟨i, hi, hz, hsz, hby⟩ := info_parts hinfo
  by_cases hm : m = 0
  · subst hm
    have hn : news = [] := List.eq_nil_of_length_eq_zero hl
    subst hn
    have key : ∀ v' w', w'.ownsRow base e 1 v' (n + 0) (xs ++ []) → w.grownBy w' v.ownBlock → (v'.ownBlock = v.ownBlock ∨ v'.ownBlock = some w.heap.size) → wpList P ops Q rest (a.put o.dst v') w' := by
      intro v' w' ho' hg' hor
      obtain ⟨a', c', rfl, _, hb⟩ := own_slice ho'
      refine h a' c' w' ho' hg' (fun g hg => ?_)
      subst hg
      obtain ⟨g', e1, _, _, e2⟩ := hb _ rfl
      cases e1
      rcases hor with hor | hor
      · left; rw [← hor]; exact e2
      · right; rw [hor] at e2; injection e2 with e2; omega
    cases ad with
    | none =>
      obtain ⟨_, rfl⟩ := hnil rfl
      exact wpList_append_own_none hgd s x t ho base e i 1 ht hi v n xs hs hown hx (key v w (by simpa using hown) (World.grownBy.refl _ _) (Or.inl rfl))
    | some p =>
      refine wpList_plain hgd fun K hK => ?_
      obtain ⟨v', w', hr, h2, h3, _, h5⟩ := run_append_own_at (P := P) w base t o.type e i z 1 bytes ht hi hz hsz hby hz1 (by omega) v n xs hown p 0 c [] (by simp) (by simp) (by simp) h63 hbytes hbase
      unfold Oper.wp execOp
      simp only [ho, resolve, invoke, builtin, Sem.run_bind, Sem.run_pure, Result.andThen_ok, List.map_toArray, List.map_cons, List.map_nil, hs, hx, hr]
      exact hK _ _ (key v' w' h2 h3 h5)
  · cases ad with
    | none => exact absurd (hnil rfl).1 hm
    | some p =>
      refine wpList_append_lies w hgd s x t ho base e i z 1 bytes ht hi hz hsz hby hz1 (by omega) v n xs hs hown p m c news hx (by omega) (hnews p rfl) h1 (by omega) h63 hbytes hbase _ rfl ?_
      intro g cap w' a1 a2 a3 a4
      exact h _ _ w' a1 a2 (fun g' hg' => by cases hg'; exact a3.imp id (fun h => by omega))

end Go.Proofs.Ytpbmhdkhkbhgnaa

namespace Go.Proofs.Ytpbmhdkhkbhgnaa
set_option linter.unusedVariables false
set_option linter.unusedSimpArgs false
open Go.RowKit

/-- A row that is read: its cells. -/
def ReadsV (w : World) (a : Option Addr) (xs : List Value) : Prop :=
  ∀ i, i < xs.length → ∃ b off, a = some ⟨b, off, none⟩ ∧ b < w.heap.size ∧ ∀ j u, xs[j]? = some u → w.cell? ⟨b, off + j, none⟩ = some u

section
variable {w w' : World} {a : Option Addr} {xs : List Value}
theorem ReadsV.nil : ReadsV w a [] := fun i hi => absurd hi (by simp)
theorem ReadsV.some (h : ReadsV w a xs) (hn : 0 < xs.length) : ∃ b off, a = some ⟨b, off, none⟩ ∧ b < w.heap.size ∧ ∀ j u, xs[j]? = some u → w.cell? ⟨b, off + j, none⟩ = some u := h 0 hn
theorem ReadsV.below {B : Nat} (h : ReadsV w a xs) (hb : Below B w w') (hB : ∀ ad, a = Option.some ad → ad.block < B) : ReadsV w' a xs := by
  intro i hi
  obtain ⟨b, off, rfl, hlt, hc⟩ := h i hi
  exact ⟨b, off, rfl, by have := hb.size; omega, fun j u hj => (hb.cell (p := ⟨b, off + j, none⟩) (hB ⟨b, off, none⟩ rfl)).trans (hc j u hj)⟩
theorem ReadsV.below' (h : ReadsV w a xs) (hb : Below w.heap.size w w') : ReadsV w' a xs := by
  intro i hi
  obtain ⟨b, off, rfl, hlt, hc⟩ := h i hi
  exact ⟨b, off, rfl, by have := hb.size; omega, fun j u hj => (hb.cell (p := ⟨b, off + j, none⟩) hlt).trans (hc j u hj)⟩
theorem ReadsV.chg {S : Nat → Prop} (h : ReadsV w a xs) (hc : Chg S w w') (hn : ∀ ad, a = Option.some ad → ¬ S ad.block) : ReadsV w' a xs := by
  intro i hi
  obtain ⟨b, off, rfl, hlt, hk⟩ := h i hi
  exact ⟨b, off, rfl, by have := hc.size; omega, fun j u hj => hc.cell (hk j u hj) (hn ⟨b, off, none⟩ rfl)⟩
theorem ReadsV.take (h : ReadsV w a xs) (k : Nat) : ReadsV w a (xs.take k) := by
  intro i hi
  rw [List.length_take] at hi
  obtain ⟨b, off, ha, hlt, hc⟩ := h i (by omega)
  exact ⟨b, off, ha, hlt, fun j u hj => hc j u (by
    rw [List.getElem?_take] at hj
    split at hj
    · exact hj
    · cases hj)⟩

/-- The address of a slice from k on. -/
def offA (a : Option Addr) (k cap : Nat) : Option Addr := if cap = k then a else a.map (·.add k)
theorem ReadsV.drop (h : ReadsV w a xs) {k cap : Nat} (hc : xs.length ≤ cap) : ReadsV w (offA a k cap) (xs.drop k) := by
  intro i hi
  rw [List.length_drop] at hi
  obtain ⟨b, off, rfl, hlt, hx⟩ := h i (by omega)
  have hne : ¬ cap = k := by omega
  refine ⟨b, off + k, by simp [offA, hne, Addr.add_lit], hlt, fun j u hj => ?_⟩
  rw [List.getElem?_drop] at hj
  have := hx (k + j) u hj
  rwa [Nat.add_assoc]
theorem offA_nil {a : Option Addr} {k cap len : Nat} (h : a = none → len = 0 ∧ cap = 0) : offA a k cap = none → len - k = 0 ∧ cap - k = 0 := by
  intro hn
  cases a with
  | none => obtain ⟨rfl, rfl⟩ := h rfl; simp
  | some ad =>
    unfold offA at hn
    split at hn
    · cases hn
    · cases hn

theorem ReadsV.hnews (h : ReadsV w a xs) : ∀ p, a = Option.some p → ∀ j u, xs[j]? = Option.some u → w.cell? (p.add j) = Option.some u := by
  intro p hp j u hu
  have hlt : j < xs.length := (List.getElem?_eq_some_iff.1 hu).1
  obtain ⟨b, off, hab, _, hc⟩ := h j hlt
  rw [hp] at hab; cases hab
  rw [Addr.add_lit]; exact hc j u hu
theorem readsV_own {base : Nat} {e : TypeId} {n c : Nat} {a : Option Addr} (h : w.ownsRow base e 1 (.slice a n c) n xs) : ReadsV w a xs := by
  have hl := own_len h
  intro i hi
  obtain ⟨g, cap, hv, hb, hg, hc, hm, hcell, _⟩ := own_some h (by omega)
  injection hv with h1 h2 h3
  exact ⟨g, 0, h1, hg, fun j u hj => by rw [Nat.zero_add, hcell j (by have := (List.getElem?_eq_some_iff.1 hj).1; omega), hj]⟩
theorem readsV_block {b : Nat} {T : TypeId} (h : w.heap[b]? = some (.cells xs.toArray T (0, 0))) : ReadsV w (some ⟨b, 0, none⟩) xs := by
  intro i hi
  refine ⟨b, 0, rfl, (Array.getElem?_eq_some_iff.1 h).1, fun j u hj => ?_⟩
  rw [cell_of_row w b (0 + j) _ _ _ h, Nat.zero_add, List.getElem?_toArray, hj]
theorem own_zero {g : Nat} {base : Nat} {e : TypeId} (hb : base ≤ g) (h : w.heap[g]? = some (.cells #[] e (0, 0))) : w.ownsRow base e 1 (.slice (some ⟨g, 0, none⟩) 0 0) 0 [] :=
  ⟨rfl, .inr ⟨g, 0, #[], rfl, hb, h, Nat.le_refl _, by unfold maxLen; omega, rfl, rfl⟩⟩
end

section
variable {P : Program} {w : World}
theorem run_sliceTo {t e : TypeId} {a : Option Addr} {len cap k : Nat} (ht : P.underlying t = some (.slice e)) (hinfo : (P.info? e).map (fun i => i.size) = some 1) (hk : k ≤ cap) :
    (Instr.slice t (.slice a len cap) none (some (.int .i64 (k : Int))) none).run P w = .ok (.slice a k cap) w := by
  obtain ⟨i, hi, hs⟩ := Option.map_eq_some_iff.1 hinfo
  have hk' : (k : Int) ≤ (cap : Int) := by omega
  simp [Instr.slice, run_underlying ht, Instr.sliceBounds, Instr.sliceBound, asIntOf, hk', sizeOf, typeInfo, hi, hs, go_sem]
  intro h; omega
theorem run_sliceFrom {t e : TypeId} {a : Option Addr} {len cap k : Nat} (ht : P.underlying t = some (.slice e)) (hinfo : (P.info? e).map (fun i => i.size) = some 1) (hk : k ≤ len) :
    (Instr.slice t (.slice a len cap) (some (.int .i64 (k : Int))) none none).run P w = .ok (.slice (offA a k cap) (len - k) (cap - k)) w := by
  obtain ⟨i, hi, hs⟩ := Option.map_eq_some_iff.1 hinfo
  have hk' : (k : Int) ≤ (len : Int) := by omega
  simp [Instr.slice, run_underlying ht, Instr.sliceBounds, Instr.sliceBound, asIntOf, hk', sizeOf, typeInfo, hi, hs, go_sem, offA]
  intro h; omega
end

theorem oneB (l : List Bool) : ∀ u ∈ l.map Value.bool, u.oneCell' = true := fun u hu => by obtain ⟨b, _, rfl⟩ := List.mem_map.1 hu; rfl
theorem oneI (k : IntKind) (l : List Int) : ∀ u ∈ l.map (Value.int k), u.oneCell' = true := fun u hu => by obtain ⟨b, _, rfl⟩ := List.mem_map.1 hu; rfl

/-- 'append(s, x...)' onto an own row, one operation. -/
theorem wp_appendL {P : Program} {w : World} {o : Oper} {a : Act} {K : Act → World → Prop} {Q : Exit → Act → World → Prop} (s x : Operand) (t : TypeId)
    (ho : o.op = .call { callee := .builtin .append, args := #[s, x], argTypes := #[t, t] })
    (base : Nat) (e : TypeId) {z : Value} {bytes : Nat} (hinfo : (P.info? e).map (fun i => (i.zero, i.size, i.bytes)) = some (some z, 1, bytes)) (ht : P.underlying t = some (.slice e)) (hz1 : z.cells.size = 1)
    (v : Value) (n : Nat) (xs : List Value) (hs : a.eval s = v) (hown : w.ownsRow base e 1 v n xs)
    (ad : Option Addr) (m c : Nat) (news : List Value) (hx : a.eval x = .slice ad m c) (hl : news.length = m) (hnil : ad = none → m = 0 ∧ c = 0)
    (hnews : ∀ p, ad = some p → ∀ j u, news[j]? = some u → w.cell? (p.add j) = some u) (h1 : ∀ u ∈ news, u.oneCell' = true)
    (h63 : n + m ≤ maxLen) (hbytes : (n + m) * bytes ≤ 140737488355328) (hbase : base ≤ w.heap.size)
    (h : ∀ a' c' w', w'.ownsRow base e 1 (.slice a' (n + m) c') (n + m) (xs ++ news) → w.grownBy w' v.ownBlock → (∀ g, a' = some ⟨g, 0, none⟩ → v.ownBlock = some g ∨ w.heap.size ≤ g) →
      K (a.put o.dst (.slice a' (n + m) c')) w') : Oper.wp P o a w K Q := by
  obtain ⟨i, hi, hz, hsz, hby⟩ := info_parts hinfo
  cases ad with
  | none =>
    obtain ⟨rfl, rfl⟩ := hnil rfl
    have hn : news = [] := List.eq_nil_of_length_eq_zero hl
    subst hn
    obtain ⟨a', c', hv, _, hb⟩ := own_slice hown
    have hrun := run_append_owned_none (P := P) (w := w) base t o.type e i 1 ht hi v n xs hown
    unfold Oper.wp execOp
    simp only [ho, resolve, invoke, builtin, Sem.run_bind, Sem.run_pure, Result.andThen_ok, List.map_toArray, List.map_cons, List.map_nil, hs, hx, hrun]
    subst hv
    exact h a' c' w (by simpa using hown) (World.grownBy.refl _ _) (fun g hg => by
      subst hg
      obtain ⟨g', e1, _, _, e2⟩ := hb _ rfl
      cases e1; exact Or.inl e2)
  | some p =>
    obtain ⟨v', w', hr, h2, h3, _, h5⟩ := run_append_own_at (P := P) w base t o.type e i z 1 bytes ht hi hz hsz hby hz1 (by omega) v n xs hown p m c news (by omega) (hnews p rfl) h1 h63 hbytes hbase
    unfold Oper.wp execOp
    simp only [ho, resolve, invoke, builtin, Sem.run_bind, Sem.run_pure, Result.andThen_ok, List.map_toArray, List.map_cons, List.map_nil, hs, hx, hr]
    obtain ⟨a', c', rfl, _, hb⟩ := own_slice h2
    refine h a' c' w' h2 h3 (fun g hg => ?_)
    subst hg
    obtain ⟨g', e1, _, _, e2⟩ := hb _ rfl
    cases e1
    rcases h5 with hor | hor
    · left; rw [← hor]; exact e2
    · right; rw [hor] at e2; injection e2 with e2; omega

/-- What is returned is a row of bools of the call's own. -/
def GivesB (B : Nat) (w : World) (l : List Bool) (e : Ending) (w' : World) : Prop := ∃ v, e = .returned v ∧ w'.ownsRow B 4 1 v l.length (l.map Value.bool) ∧ Below B w w'
theorem Try.infoBoolR : (Try.prog.info? 4).map (fun i => (i.zero, i.size, i.bytes)) = some (some (.bool false), 1, 1) := by kernel_rfl

end Go.Proofs.Ytpbmhdkhkbhgnaa

namespace Go.Proofs.Ytpbmhdkhkbhgnaa
open Go.RowKit

section
variable {P : Program} {md : Region.Mode} {l : List Oper} {Q : Exit → Act → World → Prop} {S : World → Prop} {i : Nat} {oi : Oper} {fuel : Nat} {listed : Array Bool} {a : Act} {w : World}

theorem reg_get (hi : (l.drop i).head? = some oi) : l.toArray[i]? = some oi := by
  rw [List.head?_drop] at hi
  simpa using hi

/-- The beginning. -/
theorem reg_start {id : Nat} (S : World → Prop) (hm : P.follows .mixedOrders = true) (hS : S w.drew)
    (h : S w.drew → wpAnyH P .any l.toArray (NoPanic Q) S l.length (Array.replicate l.length false) a w.drew) : (Code.region id l.toArray true).wp P Q a w := by
  refine wp_region_noPanic (wp_region_held_drew hm hS ?_)
  rw [List.size_toArray]
  exact h

/-- Operation i yields its value in every world that meets S: it is taken now. -/
theorem reg_take {v : Value} (hi : (l.drop i).head? = some oi) (hk : (Region.noSelect l.toArray && Region.free md l.toArray listed i && (Region.ready md l.toArray listed).contains i) = true)
    (hw : Region.wanted oi (yielded l.toArray a.tmps) = true) (hS : S w) (hy : ∀ w, S w → (execOp a.eval oi).run P w = .ok (.value v) w)
    (h : wpAnyH P md l.toArray (NoPanic Q) S fuel (listed.setIfInBounds i true) (a.put oi.dst v) w) : wpAnyH P md l.toArray (NoPanic Q) S (fuel + 1) listed a w := by
  simp only [Bool.and_eq_true] at hk
  exact wpAnyH_take (reg_get hi) hk.1.1 hk.1.2 hk.2 (fun _ _ _ h => h) (Or.inl ⟨hw, hy⟩) hS h

/-- Operation i is not wanted: it is passed over. -/
theorem reg_skip (hi : (l.drop i).head? = some oi) (hk : (Region.noSelect l.toArray && Region.free md l.toArray listed i && (Region.ready md l.toArray listed).contains i) = true)
    (hw : Region.wanted oi (yielded l.toArray a.tmps) = false) (hS : S w)
    (h : wpAnyH P md l.toArray (NoPanic Q) S fuel (listed.setIfInBounds i true) (a.put oi.dst undef) w) : wpAnyH P md l.toArray (NoPanic Q) S (fuel + 1) listed a w := by
  simp only [Bool.and_eq_true] at hk
  exact wpAnyH_take (reg_get hi) hk.1.1 hk.1.2 hk.2 (fun _ _ _ h => h) (Or.inr ⟨hw, rfl⟩) hS h

/-- Operation i alone may come up: it is carried out; behind it S is shown anew. -/
theorem reg_loud (hi : (l.drop i).head? = some oi) (hr : Region.ready md l.toArray listed = [i]) (hw : Region.wanted oi (yielded l.toArray a.tmps) = true)
    (h : ∀ K : Act → World → Prop, Shut (∀ a w, S w → (S w → wpAnyH P md l.toArray (NoPanic Q) S fuel (listed.setIfInBounds i true) a w) → K a w) → Oper.wp P oi a w K (NoPanic Q)) :
    wpAnyH P md l.toArray (NoPanic Q) S (fuel + 1) listed a w := by
  refine wpAnyH_ready hr (by simp) (AllReadyH.cons (reg_get hi) (fun K hK => ?_) AllReadyH.nil)
  rw [if_pos hw]
  exact h K hK

/-- All have come up. -/
theorem reg_done (hr : Region.ready md l.toArray listed = []) (h : Q .normal a w) (n : Nat) : wpAnyH P md l.toArray (NoPanic Q) S n listed a w :=
  wpAnyH_done hr (NoPanic.normal h) n
end

end Go.Proofs.Ytpbmhdkhkbhgnaa

namespace Go.Proofs.Ytpbmhdkhkbhgnaa
set_option linter.unusedVariables false
set_option linter.unusedSimpArgs false
open Go.RowKit

theorem below_al (w : World) (o : Obj) : Below w.heap.size w (w.alloc o) := (Below.refl _ _).alloc (Nat.le_refl _) _
theorem madeCells_oneG (z : Value) (n : Nat) : madeCells #[z] n = (vecL (fun _ => z) n).toArray := by
  apply Array.ext
  · simp [madeCells, vecL]
  · intro i h1 h2
    have h0 : ∀ m, m % 1 = 0 := fun m => by omega
    simp [madeCells, vecL, h0]
/-- 'make([]E, n)', an element of one cell. -/
theorem run_makeG {P : Program} {t e : TypeId} {z : Value} {bytes : Nat} (hinfo : (P.info? e).map (fun i => (i.zero, i.size, i.bytes)) = some (some z, 1, bytes)) (ht : P.underlying t = some (.slice e)) (hz : z.cells = #[z]) (n : Nat) (h : (bytes : Int) * (n : Int) ≤ 281474976710656) (hn : n ≤ maxLen) (w : World) :
    (Instr.makeSlice t (.int .i64 (n : Int)) (.int .i64 (n : Int))).run P w = .ok (.slice (some ⟨w.heap.size, 0, none⟩) n n) (w.alloc (.cells (vecL (fun _ => z) n).toArray e)) := by
  obtain ⟨i, hi, hiz, hsz, hby⟩ := info_parts hinfo
  have h2 := run_make (P := P) w t e i z ht hi hiz .i64 .i64 (n : Int) (n : Int) (by omega) (by omega) (by rw [hby]; exact h) (by unfold maxLen at hn; omega)
  rw [h2, hz, hsz, Int.toNat_natCast, Nat.mul_one, madeCells_oneG]
theorem own_vecG {w : World} {q n base : Nat} {f : Nat → Value} {e : TypeId} (h : w.heap[q]? = some (.cells (vecL f n).toArray e (0, 0))) (hb : base ≤ q) (hn : n ≤ maxLen) : w.ownsRow base e 1 (.slice (some ⟨q, 0, none⟩) n n) n (vecL f n) :=
  ⟨by rw [vecL_len]; omega, .inr ⟨q, n, (vecL f n).toArray, rfl, hb, h, Nat.le_refl _, hn, by simp [vecL_len], by rw [Nat.mul_one]; exact List.take_of_length_le (by rw [vecL_len]; exact Nat.le_refl _)⟩⟩
theorem Try.infoIntG : (Try.prog.info? 3).map (fun i => (i.zero, i.size, i.bytes)) = some (some (.int .i64 0), 1, 8) := by kernel_rfl
theorem make_ints (n : Nat) (h : n ≤ 1000000000) (w : World) : (Instr.makeSlice 22 (.int .i64 (n : Int)) (.int .i64 (n : Int))).run Try.prog w = .ok (.slice (some ⟨w.heap.size, 0, none⟩) n n) (w.alloc (.cells (vecL (fun _ => .int .i64 0) n).toArray 3)) :=
  run_makeG Try.infoIntG Try.underlying22 rfl n (by omega) (by unfold maxLen; omega) w
/-- A cell of an own row that is told by a function; a store into it. -/
theorem own_vcell {w : World} {base : Nat} {e : TypeId} {g cap n : Nat} {f : Nat → Value} (h : w.ownsRow base e 1 (.slice (some ⟨g, 0, none⟩) n cap) n (vecL f n)) {j : Nat} (hj : j < n) : w.cell? ⟨g, j, none⟩ = some (f j) := by
  obtain ⟨g', cap', hv, _, _, _, _, hc, _⟩ := own_some h (by omega)
  injection hv with e1 _ _; injection e1 with e1; injection e1 with e1 _ _
  subst e1
  rw [hc j hj, vecL_get hj]
theorem own_vfree {w : World} {base : Nat} {e : TypeId} {g cap n : Nat} {xs : List Value} (h : w.ownsRow base e 1 (.slice (some ⟨g, 0, none⟩) n cap) n xs) (j : Nat) : w.frozen? ⟨g, j, none⟩ = false := by
  rcases h.2 with ⟨h, _⟩ | ⟨g', cap', cur, hv, _, hg, _⟩
  · cases h
  · injection hv with e1 _ _; injection e1 with e1; injection e1 with e1 _ _
    subst e1
    exact frozen_of_row w g j cur e hg
theorem own_vset {w : World} {base : Nat} {e : TypeId} {g cap n : Nat} {f : Nat → Value} (h : w.ownsRow base e 1 (.slice (some ⟨g, 0, none⟩) n cap) n (vecL f n)) (j : Nat) (u : Value) :
    (w.setCell ⟨g, j, none⟩ u).ownsRow base e 1 (.slice (some ⟨g, 0, none⟩) n cap) n (vecL (fun i => if i = j then u else f i) n) := by
  have := own_set h j u
  rwa [vecL_set] at this
theorem below_dN {B : Nat} {w w' : World} (h : Below B w w') (n : Nat) : Below B w (w'.drewN n) := ⟨h.os, h.tape, h.output, h.size, h.block⟩

section
variable {P : Program} {md : Region.Mode} {l : List Oper} {Q : Exit → Act → World → Prop} {S : World → Prop} {i : Nat} {oi : Oper} {fuel : Nat} {listed : Array Bool} {a : Act} {w : World} {rs : List Nat}
/-- One of several operations that may come up. -/
theorem all_cons (hi : (l.drop i).head? = some oi) (hw : Region.wanted oi (yielded l.toArray a.tmps) = true)
    (h : ∀ K : Act → World → Prop, Shut (∀ a w, S w → (S w → wpAnyH P md l.toArray (NoPanic Q) S fuel (listed.setIfInBounds i true) a w) → K a w) → Oper.wp P oi a w K (NoPanic Q))
    (hs : AllReadyH P md l.toArray (NoPanic Q) S fuel listed a w rs) : AllReadyH P md l.toArray (NoPanic Q) S fuel listed a w (i :: rs) :=
  AllReadyH.cons (reg_get hi) (fun K hK => by rw [if_pos hw]; exact h K hK) hs
end

end Go.Proofs.Ytpbmhdkhkbhgnaa

namespace Go.Proofs.Ytpbmhdkhkbhgnaa
set_option linter.unusedVariables false
set_option linter.unusedSimpArgs false

/-- The symbol at a place; -1 beyond the end. -/
def sy (l : List Int) (i : Nat) : Int := l[i]?.getD (-1)
theorem sy_in {l : List Int} {i : Nat} (h : i < l.length) : sy l i = l[i] := by simp [sy, h]
theorem sy_over {l : List Int} {i : Nat} (h : l.length ≤ i) : sy l i = -1 := by simp [sy, h]

def eqK (l : List Int) (w a b : Nat) : Prop := ∀ d, d < w → sy l (a + d) = sy l (b + d)
def ltK (l : List Int) (w a b : Nat) : Prop := ∃ d, d < w ∧ eqK l d a b ∧ sy l (a + d) < sy l (b + d)

section
variable {l : List Int} {w v a b c : Nat}
theorem eqK.refl : eqK l w a a := fun _ _ => rfl
theorem eqK.symm (h : eqK l w a b) : eqK l w b a := fun d hd => (h d hd).symm
theorem eqK.trans (h : eqK l w a b) (k : eqK l w b c) : eqK l w a c := fun d hd => (h d hd).trans (k d hd)
theorem eqK.mono (h : eqK l w a b) (hv : v ≤ w) : eqK l v a b := fun d hd => h d (by omega)
theorem eqK_add : eqK l (w + v) a b ↔ eqK l w a b ∧ eqK l v (a + w) (b + w) := by
  constructor
  · intro h
    exact ⟨h.mono (by omega), fun d hd => by have := h (w + d) (by omega); rwa [← Nat.add_assoc, ← Nat.add_assoc] at this⟩
  · rintro ⟨h, k⟩ d hd
    by_cases hw : d < w
    · exact h d hw
    · obtain ⟨e, rfl⟩ := Nat.exists_eq_add_of_le (show w ≤ d by omega)
      have := k e (by omega)
      rwa [Nat.add_assoc, Nat.add_assoc] at this
theorem ltK_add : ltK l (w + v) a b ↔ ltK l w a b ∨ (eqK l w a b ∧ ltK l v (a + w) (b + w)) := by
  constructor
  · rintro ⟨d, hd, he, hlt⟩
    by_cases hw : d < w
    · exact Or.inl ⟨d, hw, he, hlt⟩
    · obtain ⟨e, rfl⟩ := Nat.exists_eq_add_of_le (show w ≤ d by omega)
      obtain ⟨h1, h2⟩ := eqK_add.1 he
      exact Or.inr ⟨h1, e, by omega, h2, by rwa [Nat.add_assoc, Nat.add_assoc]⟩
  · rintro (⟨d, hd, he, hlt⟩ | ⟨he, d, hd, h2, hlt⟩)
    · exact ⟨d, by omega, he, hlt⟩
    · exact ⟨w + d, by omega, eqK_add.2 ⟨he, h2⟩, by rwa [Nat.add_assoc, Nat.add_assoc] at hlt⟩
theorem ltK_not_eq (h : ltK l w a b) : ¬ eqK l w a b := by
  obtain ⟨d, hd, _, hlt⟩ := h
  intro he
  have := he d hd
  omega
theorem ltK_tri (l : List Int) (w a b : Nat) : ltK l w a b ∨ eqK l w a b ∨ ltK l w b a := by
  induction w with
  | zero => exact Or.inr (Or.inl (fun d hd => by omega))
  | succ w ih =>
    rcases ih with h | h | h
    · exact Or.inl (ltK_add.2 (Or.inl h))
    · rcases Int.lt_trichotomy (sy l (a + w)) (sy l (b + w)) with k | k | k
      · exact Or.inl ⟨w, by omega, h, k⟩
      · refine Or.inr (Or.inl (eqK_add.2 ⟨h, fun d hd => ?_⟩))
        obtain rfl : d = 0 := by omega
        simpa using k
      · exact Or.inr (Or.inr ⟨w, by omega, h.symm, k⟩)
    · exact Or.inr (Or.inr (ltK_add.2 (Or.inl h)))
theorem ltK_trans (h : ltK l w a b) (k : ltK l w b c) : ltK l w a c := by
  obtain ⟨d, hd, he, hlt⟩ := h
  obtain ⟨e, hE, hf, hlt2⟩ := k
  rcases Nat.lt_trichotomy d e with hc | hc | hc
  · exact ⟨d, hd, he.trans (hf.mono (by omega)), by have := hf d hc; omega⟩
  · subst hc; exact ⟨d, hd, he.trans hf, by omega⟩
  · exact ⟨e, hE, (he.mono (by omega)).trans hf, by have := he e hc; omega⟩
theorem ltK_irrefl : ¬ ltK l w a a := fun h => ltK_not_eq h eqK.refl
theorem ltK_asymm (h : ltK l w a b) : ¬ ltK l w b a := fun k => ltK_irrefl (ltK_trans h k)
theorem ltK_eq (h : ltK l w a b) (k : eqK l w b c) : ltK l w a c := by
  obtain ⟨d, hd, he, hlt⟩ := h
  exact ⟨d, hd, he.trans (k.mono (by omega)), by have := k d hd; omega⟩
theorem eq_ltK (k : eqK l w a b) (h : ltK l w b c) : ltK l w a c := by
  obtain ⟨d, hd, he, hlt⟩ := h
  exact ⟨d, hd, (k.mono (by omega)).trans he, by have := k d hd; omega⟩
theorem ltK.mono (h : ltK l w a b) (hv : w ≤ v) : ltK l v a b := by
  obtain ⟨d, hd, he, hlt⟩ := h
  exact ⟨d, by omega, he, hlt⟩
end

/-- The suffix from a on goes ahead of the one from b on. -/
def sufLt (l : List Int) (a b : Nat) : Prop := ∃ w, ltK l w a b
section
variable {l : List Int} {a b c : Nat}
theorem sufLt.trans (h : sufLt l a b) (k : sufLt l b c) : sufLt l a c := by
  obtain ⟨w, h⟩ := h
  obtain ⟨v, k⟩ := k
  exact ⟨max w v, ltK_trans (h.mono (by omega)) (k.mono (by omega))⟩
theorem sufLt.irrefl : ¬ sufLt l a a := fun ⟨w, h⟩ => ltK_irrefl h
theorem sufLt.asymm (h : sufLt l a b) : ¬ sufLt l b a := fun k => sufLt.irrefl (h.trans k)
theorem sufLt.ne (h : sufLt l a b) : a ≠ b := fun e => by subst e; exact sufLt.irrefl h
end

/-- All are at least 0. -/
def Nn (l : List Int) : Prop := ∀ i, i < l.length → 0 ≤ sy l i
theorem eqK_far {l : List Int} (hn : Nn l) {w a b : Nat} (ha : a < b) (hb : b ≤ l.length) (hw : l.length - b < w) : ¬ eqK l w a b := by
  intro h
  have h1 := h (l.length - b) hw
  rw [sy_over (i := b + (l.length - b)) (by omega)] at h1
  have := hn (a + (l.length - b)) (by omega)
  omega
theorem suf_tri {l : List Int} (hn : Nn l) {a b : Nat} (ha : a ≤ l.length) (hb : b ≤ l.length) (hne : a ≠ b) : sufLt l a b ∨ sufLt l b a := by
  rcases ltK_tri l (l.length + 1) a b with h | h | h
  · exact Or.inl ⟨_, h⟩
  · rcases Nat.lt_or_gt_of_ne hne with k | k
    · exact absurd h (eqK_far hn k hb (by omega))
    · exact absurd h.symm (eqK_far hn k ha (by omega))
  · exact Or.inr ⟨_, h⟩
/-- By their first symbols. -/
theorem suf_cons {l : List Int} {a b : Nat} : sufLt l a b ↔ sy l a < sy l b ∨ (sy l a = sy l b ∧ sufLt l (a + 1) (b + 1)) := by
  constructor
  · rintro ⟨w, h⟩
    rcases Nat.eq_zero_or_pos w with rfl | hw
    · obtain ⟨d, hd, _⟩ := h; omega
    · obtain ⟨v, rfl⟩ := Nat.exists_eq_add_of_le (show 1 ≤ w by omega)
      rcases ltK_add.1 h with ⟨d, hd, _, hlt⟩ | ⟨he, h2⟩
      · obtain rfl : d = 0 := by omega
        exact Or.inl (by simpa using hlt)
      · exact Or.inr ⟨by simpa using he 0 (by omega), _, h2⟩
  · rintro (h | ⟨h, w, h2⟩)
    · exact ⟨1, 0, by omega, fun d hd => by omega, by simpa using h⟩
    · refine ⟨1 + w, ltK_add.2 (Or.inr ⟨fun d hd => ?_, h2⟩)⟩
      obtain rfl : d = 0 := by omega
      simpa using h

/-- Ranks by the first w symbols. -/
structure RankOf (l : List Int) (w : Nat) (rk : List Int) : Prop where
  len : rk.length = l.length
  nn : Nn rk
  lt : ∀ a b, sy rk a < sy rk b ↔ ltK l w a b
  eq : ∀ a b, sy rk a = sy rk b ↔ eqK l w a b
theorem rankOf_one {l : List Int} (hn : Nn l) : RankOf l 1 l := by
  refine ⟨rfl, hn, fun a b => ⟨fun h => ⟨0, by omega, fun d hd => by omega, by simpa using h⟩, fun ⟨d, hd, _, h⟩ => ?_⟩, fun a b => ⟨fun h d hd => ?_, fun h => by simpa using h 0 (by omega)⟩⟩
  · obtain rfl : d = 0 := by omega
    simpa using h
  · obtain rfl : d = 0 := by omega
    simpa using h

/-- What order tells of two places. -/
def ordV (rk : List Int) (w a b : Nat) : Int := if sy rk a = sy rk b then sy rk (a + w) - sy rk (b + w) else sy rk a - sy rk b
theorem ordV_lt {l rk : List Int} {w : Nat} (h : RankOf l w rk) (a b : Nat) : ordV rk w a b < 0 ↔ ltK l (w + w) a b := by
  unfold ordV
  rw [ltK_add, ← h.lt, ← h.lt, ← h.eq]
  split
  · rename_i e; constructor
    · intro k; exact Or.inr ⟨e, by omega⟩
    · rintro (k | ⟨_, k⟩) <;> omega
  · rename_i e; constructor
    · intro k; exact Or.inl (by omega)
    · rintro (k | ⟨k, _⟩)
      · omega
      · exact absurd k e
theorem ordV_eq {l rk : List Int} {w : Nat} (h : RankOf l w rk) (a b : Nat) : ordV rk w a b = 0 ↔ eqK l (w + w) a b := by
  unfold ordV
  rw [eqK_add, ← h.eq, ← h.eq]
  split
  · rename_i e; constructor
    · intro k; exact ⟨e, by omega⟩
    · rintro ⟨_, k⟩; omega
  · rename_i e; constructor
    · intro k; omega
    · rintro ⟨k, _⟩; exact absurd k e

/-- Rows in the order of the first w symbols. -/
def SortedK (l : List Int) (w : Nat) (r : List Nat) : Prop := r.Perm (List.range l.length) ∧ r.Pairwise (fun a b => ¬ ltK l w b a)
/-- How many strict steps there are up to place i. -/
def cntR (rk : List Int) (w : Nat) (r : List Nat) : Nat → Nat
  | 0 => 0
  | i + 1 => cntR rk w r i + (if ordV rk w (r[i]?.getD 0) (r[i + 1]?.getD 0) = 0 then 0 else 1)
theorem cntR_le (rk : List Int) (w : Nat) (r : List Nat) : ∀ i, cntR rk w r i ≤ i
  | 0 => Nat.le_refl _
  | i + 1 => by have := cntR_le rk w r i; unfold cntR; split <;> omega
theorem cntR_mono (rk : List Int) (w : Nat) (r : List Nat) {i j : Nat} (h : i ≤ j) : cntR rk w r i ≤ cntR rk w r j := by
  induction j with
  | zero => obtain rfl : i = 0 := by omega
            exact Nat.le_refl _
  | succ j ih =>
    rcases Nat.lt_or_ge j i with k | k
    · obtain rfl : i = j + 1 := by omega
      exact Nat.le_refl _
    · refine Nat.le_trans (ih k) ?_
      show cntR rk w r j ≤ cntR rk w r j + _
      omega

section
variable {l rk : List Int} {w : Nat} {r : List Nat}
theorem getD_eq {α : Type} {l : List α} {i : Nat} {d : α} (h : i < l.length) : l[i]?.getD d = l[i] := by simp [h]
theorem srt_le (hs : SortedK l w r) {i j : Nat} (hij : i ≤ j) (hj : j < r.length) : ¬ ltK l w (r[j]?.getD 0) (r[i]?.getD 0) := by
  rcases Nat.lt_or_ge i j with h | h
  · rw [getD_eq (show i < r.length by omega), getD_eq hj]
    exact List.pairwise_iff_getElem.1 hs.2 i j (by omega) hj h
  · obtain rfl : i = j := by omega
    exact ltK_irrefl
theorem cnt_lt (h : RankOf l w rk) (hs : SortedK l (w + w) r) {i j : Nat} (hij : i ≤ j) (hj : j < r.length) :
    (cntR rk w r i < cntR rk w r j ↔ ltK l (w + w) (r[i]?.getD 0) (r[j]?.getD 0)) ∧ (cntR rk w r i = cntR rk w r j ↔ eqK l (w + w) (r[i]?.getD 0) (r[j]?.getD 0)) := by
  induction j with
  | zero =>
    obtain rfl : i = 0 := by omega
    exact ⟨⟨fun h => by omega, fun h => absurd h ltK_irrefl⟩, ⟨fun _ => eqK.refl, fun _ => rfl⟩⟩
  | succ j ih =>
    rcases Nat.lt_or_ge j i with k | k
    · obtain rfl : i = j + 1 := by omega
      exact ⟨⟨fun h => by omega, fun h => absurd h ltK_irrefl⟩, ⟨fun _ => eqK.refl, fun _ => rfl⟩⟩
    · obtain ⟨i1, i2⟩ := ih k (by omega)
      have hm := cntR_mono rk w r k
      have hle := srt_le hs (show j ≤ j + 1 by omega) hj
      have hle2 := srt_le hs k (by omega)
      have ho := ordV_eq h (r[j]?.getD 0) (r[j + 1]?.getD 0)
      have hex : cntR rk w r (j + 1) = cntR rk w r j + (if ordV rk w (r[j]?.getD 0) (r[j + 1]?.getD 0) = 0 then 0 else 1) := rfl
      by_cases e : ordV rk w (r[j]?.getD 0) (r[j + 1]?.getD 0) = 0
      · rw [if_pos e] at hex
        have hq := ho.1 e
        rw [hex, Nat.add_zero, i1, i2]
        exact ⟨⟨fun h => ltK_eq h hq, fun h => ltK_eq h hq.symm⟩, ⟨fun h => h.trans hq, fun h => h.trans hq.symm⟩⟩
      · rw [if_neg e] at hex
        have hne : ¬ eqK l (w + w) (r[j]?.getD 0) (r[j + 1]?.getD 0) := fun q => e (ho.2 q)
        have hlt : ltK l (w + w) (r[j]?.getD 0) (r[j + 1]?.getD 0) := by
          rcases ltK_tri l (w + w) (r[j]?.getD 0) (r[j + 1]?.getD 0) with q | q | q
          · exact q
          · exact absurd q hne
          · exact absurd q hle
        have hall : ltK l (w + w) (r[i]?.getD 0) (r[j + 1]?.getD 0) := by
          rcases ltK_tri l (w + w) (r[i]?.getD 0) (r[j]?.getD 0) with q | q | q
          · exact ltK_trans q hlt
          · exact eq_ltK q hlt
          · exact absurd q hle2
        exact ⟨⟨fun _ => hall, fun _ => by omega⟩, ⟨fun h => by omega, fun q => absurd q (ltK_not_eq hall)⟩⟩

/-- The next ranks. -/
theorem rank_next {nx : List Int} (h : RankOf l w rk) (hw : 0 < w) (hn : Nn l) (hs : SortedK l (w + w) r) (hl : nx.length = l.length) (hx : ∀ i, i < r.length → sy nx (r[i]?.getD 0) = (cntR rk w r i : Int)) : RankOf l (w + w) nx := by
  have hrl : r.length = l.length := by have := hs.1.length_eq; simpa using this
  have hfind : ∀ a, a < l.length → ∃ i, i < r.length ∧ r[i]?.getD 0 = a := by
    intro a ha
    have : a ∈ r := hs.1.mem_iff.2 (List.mem_range.2 ha)
    obtain ⟨i, hi, e⟩ := List.getElem_of_mem this
    exact ⟨i, hi, by rw [getD_eq hi, e]⟩
  have hnn : Nn nx := by
    intro a ha
    obtain ⟨i, hi, rfl⟩ := hfind a (by omega)
    rw [hx i hi]; omega
  have hkey : ∀ a b, a < l.length → b < l.length → (sy nx a < sy nx b ↔ ltK l (w + w) a b) ∧ (sy nx a = sy nx b ↔ eqK l (w + w) a b) := by
    intro a b ha hb
    obtain ⟨i, hi, rfl⟩ := hfind a ha
    obtain ⟨j, hj, rfl⟩ := hfind b hb
    rw [hx i hi, hx j hj]
    rcases Nat.le_total i j with k | k
    · obtain ⟨h1, h2⟩ := cnt_lt h hs k hj
      have hm := cntR_mono rk w r k
      exact ⟨⟨fun q => h1.1 (by omega), fun q => by have := h1.2 q; omega⟩, ⟨fun q => h2.1 (by omega), fun q => by have := h2.2 q; omega⟩⟩
    · obtain ⟨h1, h2⟩ := cnt_lt h hs k hi
      have hm := cntR_mono rk w r k
      exact ⟨⟨fun q => by omega, fun q => absurd q (srt_le hs k hi)⟩, ⟨fun q => (h2.1 (by omega)).symm, fun q => by have := h2.2 q.symm; omega⟩⟩
  have h0 : ∀ a b, l.length ≤ a → b < l.length → ltK l (w + w) a b := fun a b ha hb => ⟨0, by omega, fun d hd => by omega, by rw [sy_over (by omega)]; have := hn b hb; simpa using by omega⟩
  have h1 : ∀ a b, l.length ≤ a → l.length ≤ b → eqK l (w + w) a b := fun a b ha hb d hd => by rw [sy_over (by omega), sy_over (by omega)]
  refine ⟨hl, hnn, fun a b => ?_, fun a b => ?_⟩
  · by_cases ha : a < l.length <;> by_cases hb : b < l.length
    · exact (hkey a b ha hb).1
    · have := hnn a (by omega)
      rw [sy_over (i := b) (by omega)]
      exact ⟨fun q => by omega, fun q => absurd q (ltK_asymm (h0 b a (by omega) ha))⟩
    · have := hnn b (by omega)
      rw [sy_over (i := a) (by omega)]
      exact ⟨fun _ => h0 a b (by omega) hb, fun _ => by omega⟩
    · rw [sy_over (i := a) (by omega), sy_over (i := b) (by omega)]
      exact ⟨fun q => by omega, fun q => absurd (h1 a b (by omega) (by omega)) (ltK_not_eq q)⟩
  · by_cases ha : a < l.length <;> by_cases hb : b < l.length
    · exact (hkey a b ha hb).2
    · have := hnn a (by omega)
      rw [sy_over (i := b) (by omega)]
      exact ⟨fun q => by omega, fun q => absurd q.symm (ltK_not_eq (h0 b a (by omega) ha))⟩
    · have := hnn b (by omega)
      rw [sy_over (i := a) (by omega)]
      exact ⟨fun q => by omega, fun q => absurd q (ltK_not_eq (h0 a b (by omega) hb))⟩
    · rw [sy_over (i := a) (by omega), sy_over (i := b) (by omega)]
      exact ⟨fun _ => h1 a b (by omega) (by omega), fun _ => rfl⟩
end

/-- The rows of a text's symbols: all places, sorted. -/
def IsRows (l : List Int) (r : List Nat) : Prop := r.Perm (List.range l.length) ∧ r.Pairwise (sufLt l)
theorem IsRows.len {l : List Int} {r : List Nat} (h : IsRows l r) : r.length = l.length := by have := h.1.length_eq; simpa using this
theorem IsRows.lt {l : List Int} {r : List Nat} (h : IsRows l r) {i : Nat} (hi : i < r.length) : r[i] < l.length := List.mem_range.1 (h.1.mem_iff.1 (List.getElem_mem hi))
theorem IsRows.nodup {l : List Int} {r : List Nat} (h : IsRows l r) : r.Nodup := h.1.nodup_iff.2 List.nodup_range
theorem IsRows.find {l : List Int} {r : List Nat} (h : IsRows l r) {a : Nat} (ha : a < l.length) : ∃ i, ∃ hi : i < r.length, r[i] = a :=
  List.getElem_of_mem (h.1.mem_iff.2 (List.mem_range.2 ha))
/-- A list that is sorted strictly is told by what stands in it. -/
theorem sorted_unique {R : Nat → Nat → Prop} (has : ∀ a b, R a b → ¬ R b a) : ∀ {r s : List Nat}, r.Perm s → r.Pairwise R → s.Pairwise R → r = s
  | [], s, hp, _, _ => by have := hp.length_eq; exact (List.eq_nil_of_length_eq_zero (by simpa using this.symm)).symm
  | a :: r, [], hp, _, _ => by have := hp.length_eq; simp at this
  | a :: r, b :: s, hp, h1, h2 => by
    have hab : a = b := by
      have ha : a ∈ b :: s := hp.mem_iff.1 (List.mem_cons_self)
      have hb : b ∈ a :: r := hp.mem_iff.2 (List.mem_cons_self)
      rcases List.mem_cons.1 ha with e | e
      · exact e
      · rcases List.mem_cons.1 hb with e2 | e2
        · exact e2.symm
        · exact absurd (List.rel_of_pairwise_cons h1 e2) (has _ _ (List.rel_of_pairwise_cons h2 e))
    subst hab
    rw [sorted_unique has (List.Perm.cons_inv hp) (List.Pairwise.of_cons h1) (List.Pairwise.of_cons h2)]
theorem rows_unique {l : List Int} {r s : List Nat} (h : IsRows l r) (k : IsRows l s) : r = s :=
  sorted_unique (fun _ _ h => h.asymm) (h.1.trans k.1.symm) h.2 k.2
/-- All strict: these are the rows. -/
theorem rows_done {l rk : List Int} {w : Nat} {r : List Nat} (h : RankOf l w rk) (hs : SortedK l (w + w) r) (hc : cntR rk w r (r.length - 1) = r.length - 1) : IsRows l r := by
  refine ⟨hs.1, List.pairwise_iff_getElem.2 (fun i j hi hj hij => ?_)⟩
  have hstep : ∀ n, n ≤ r.length - 1 → cntR rk w r n = n := by
    intro n hn
    have : ∀ m, n + m = r.length - 1 → cntR rk w r n + m ≥ r.length - 1 := by
      intro m hm
      rw [← hm] at hc ⊢
      have hb : ∀ k, cntR rk w r (n + k) ≤ cntR rk w r n + k := by
        intro k
        induction k with
        | zero => exact Nat.le_refl _
        | succ k ih => rw [← Nat.add_assoc]; show cntR rk w r (n + k) + _ ≤ _; split <;> omega
      have := hb m
      omega
    have h1 := this (r.length - 1 - n) (by omega)
    have h2 := cntR_le rk w r n
    omega
  have := (cnt_lt h hs (show i ≤ j by omega) hj).1.1 (by rw [hstep i (by omega), hstep j (by omega)]; exact hij)
  rw [getD_eq hi, getD_eq hj] at this
  exact ⟨_, this⟩
/-- Not all strict: the symbols do not reach so far. -/
theorem rows_more {l rk : List Int} {w : Nat} {r : List Nat} (hn : Nn l) (h : RankOf l w rk) (hs : SortedK l (w + w) r) (hc : cntR rk w r (r.length - 1) ≠ r.length - 1) : w + w < l.length := by
  have hrl : r.length = l.length := by have := hs.1.length_eq; simpa using this
  rcases Nat.lt_or_ge (w + w) l.length with k | k
  · exact k
  · exfalso
    apply hc
    have : ∀ n, n ≤ r.length - 1 → cntR rk w r n = n := by
      intro n
      induction n with
      | zero => intro _; rfl
      | succ n ih =>
        intro hn'
        have hi := ih (by omega)
        show cntR rk w r n + _ = _
        have h1 : n < r.length := by omega
        have h2 : n + 1 < r.length := by omega
        rw [if_neg, hi]
        intro e
        have he := (ordV_eq h _ _).1 e
        rw [getD_eq h1, getD_eq h2] at he
        have l1 : r[n] < l.length := List.mem_range.1 (hs.1.mem_iff.1 (List.getElem_mem h1))
        have l2 : r[n + 1] < l.length := List.mem_range.1 (hs.1.mem_iff.1 (List.getElem_mem h2))
        have hne : r[n] ≠ r[n + 1] := fun e => by
          have hnd : r.Nodup := hs.1.nodup_iff.2 List.nodup_range
          exact List.pairwise_iff_getElem.1 hnd n (n + 1) h1 h2 (by omega) e
        rcases Nat.lt_or_gt_of_ne hne with q | q
        · rcases Nat.eq_zero_or_pos r[n] with z | z
          · exact eqK_far hn q (by omega) (by omega) he
          · exact eqK_far hn q (by omega) (by omega) he
        · exact eqK_far hn q (by omega) (by omega) he.symm
    exact this _ (Nat.le_refl _)

end Go.Proofs.Ytpbmhdkhkbhgnaa

namespace Go.Proofs.Ytpbmhdkhkbhgnaa
set_option linter.unusedVariables false
set_option linter.unusedSimpArgs false

/-- A tally: how many there are of each symbol, and in all. -/
structure Tl where
  N : Nat → Int
  all : Int

/-- How many lesser ones there are. -/
def bl (N : Nat → Int) : Nat → Int
  | 0 => 0
  | k + 1 => bl N k + N k

structure Tl.Ok (t : Tl) : Prop where
  pos : ∀ s, s < 257 → 0 ≤ t.N s
  sum : bl t.N 257 = t.all
  max : t.all ≤ 2147483648

theorem bl_mono {N : Nat → Int} (h : ∀ s, s < 257 → 0 ≤ N s) {a b : Nat} (hab : a ≤ b) (hb : b ≤ 257) : bl N a ≤ bl N b := by
  induction b with
  | zero => have : a = 0 := by omega
            subst this; exact Int.le_refl _
  | succ b ih =>
    by_cases e : a = b + 1
    · subst e; exact Int.le_refl _
    · have := ih (by omega) (by omega)
      have := h b (by omega)
      simp only [bl]; omega

theorem bl_pos {N : Nat → Int} (h : ∀ s, s < 257 → 0 ≤ N s) {b : Nat} (hb : b ≤ 257) : 0 ≤ bl N b := by
  have := bl_mono h (Nat.zero_le b) hb
  simpa [bl] using this

def upd (N : Nat → Int) (s : Nat) (v : Int) : Nat → Int := fun x => if x = s then v else N x

theorem bl_upd (N : Nat → Int) (s : Nat) (v : Int) (k : Nat) : bl (upd N s v) k = bl N k + (if s < k then v - N s else 0) := by
  induction k with
  | zero => simp [bl]
  | succ k ih =>
    simp only [bl, ih, upd]
    by_cases e : k = s
    · subst e
      rw [if_pos rfl, if_neg (by omega), if_pos (by omega)]; omega
    · rw [if_neg e]
      by_cases h : s < k
      · rw [if_pos h, if_pos (by omega)]; omega
      · rw [if_neg h, if_neg (by omega)]; omega

/-- Add, where it counts. -/
def Tl.add (t : Tl) (s : Nat) (n : Int) : Tl := ⟨upd t.N s (t.N s + n), t.all + n⟩

theorem Tl.add_ok {t : Tl} (h : t.Ok) {s : Nat} (hs : s < 257) {n : Int} (h1 : -t.N s ≤ n) (h2 : n ≤ 2147483648 - t.all) : (t.add s n).Ok := by
  refine ⟨fun x hx => ?_, ?_, ?_⟩
  · show 0 ≤ upd t.N s (t.N s + n) x
    unfold upd
    split
    · omega
    · exact h.pos x hx
  · show bl (upd t.N s (t.N s + n)) 257 = t.all + n
    rw [bl_upd, if_pos hs, h.sum]; omega
  · show t.all + n ≤ 2147483648
    omega

def Tl.zero : Tl := ⟨fun _ => 0, 0⟩
theorem bl_zero (k : Nat) : bl (fun _ => 0) k = 0 := by
  induction k with
  | zero => rfl
  | succ k ih => simp [bl, ih]
theorem Tl.zero_ok : Tl.zero.Ok := ⟨fun _ _ => Int.le_refl _, bl_zero 257, by show (0 : Int) ≤ _; omega⟩

/-- Of no tally there is more than of all. -/
theorem Tl.Ok.le {t : Tl} (h : t.Ok) {s : Nat} (hs : s < 257) : t.N s ≤ t.all := by
  have h1 := bl_mono h.pos (show s + 1 ≤ 257 by omega) (Nat.le_refl _)
  have h2 := bl_pos h.pos (show s ≤ 257 by omega)
  have h3 : bl t.N (s + 1) = bl t.N s + t.N s := rfl
  rw [h.sum] at h1
  omega

theorem Tl.Ok.all_pos {t : Tl} (h : t.Ok) : 0 ≤ t.all := by
  have := bl_pos h.pos (Nat.le_refl 257); rw [h.sum] at this; exact this

/-- How far a number goes among the symbols. -/
def clamp (s : Int) : Nat := (min (max s 0) 257).toNat
theorem clamp_le (s : Int) : clamp s ≤ 257 := by unfold clamp; omega

/-- What stands at a place. -/
def IsWhich (t : Tl) (k r : Int) : Prop :=
  ((k < 0 ∨ t.all ≤ k) → r = -1) ∧ ((0 ≤ k ∧ k < t.all) → ∃ s : Nat, s < 257 ∧ r = s ∧ bl t.N s ≤ k ∧ k < bl t.N (s + 1))

theorem IsWhich.unique {t : Tl} (h : t.Ok) {k r r' : Int} (h1 : IsWhich t k r) (h2 : IsWhich t k r') : r = r' := by
  by_cases hk : 0 ≤ k ∧ k < t.all
  · obtain ⟨s, hs, rfl, a1, a2⟩ := h1.2 hk
    obtain ⟨s', hs', rfl, b1, b2⟩ := h2.2 hk
    have e : s = s' := by
      rcases Nat.lt_trichotomy s s' with hl | he | hg
      · have := bl_mono h.pos (show s + 1 ≤ s' by omega) (by omega); omega
      · exact he
      · have := bl_mono h.pos (show s' + 1 ≤ s by omega) (by omega); omega
    rw [e]
  · have h3 : k < 0 ∨ t.all ≤ k := by omega
    rw [h1.1 h3, h2.1 h3]

/-- How many of a list are a symbol. -/
def cnt (l : List Int) (s : Int) : Nat := l.countP (· == s)
/-- The tally of a list of symbols. -/
def Tl.of (l : List Int) : Tl := ⟨fun s => (cnt l s : Int), l.length⟩

theorem cnt_snoc (l : List Int) (x s : Int) : cnt (l ++ [x]) s = cnt l s + (if x = s then 1 else 0) := by
  unfold cnt
  rw [List.countP_append]
  simp only [List.countP_cons, List.countP_nil, beq_iff_eq]
  split <;> simp

theorem Tl.of_snoc (l : List Int) (s : Nat) : Tl.of (l ++ [(s : Int)]) = (Tl.of l).add s 1 := by
  unfold Tl.of Tl.add
  congr 1
  · funext x
    show ((cnt (l ++ [(s : Int)]) (x : Int) : Nat) : Int) = upd _ s _ x
    rw [cnt_snoc]
    unfold upd
    by_cases e : x = s
    · subst e; simp
    · rw [if_neg (by omega), if_neg e]; simp
  · simp

theorem Tl.of_ok {l : List Int} (h : ∀ x ∈ l, 0 ≤ x ∧ x < 257) (hl : l.length ≤ 2147483648) : (Tl.of l).Ok := by
  have key : ∀ (n : Nat), n ≤ l.length → (Tl.of (l.take n)).Ok := by
    intro n
    induction n with
    | zero => intro _; exact Tl.zero_ok
    | succ n ih =>
      intro hn
      have h1 := ih (by omega)
      have hx := h l[n] (List.getElem_mem _)
      have e : l.take (n + 1) = l.take n ++ [(l[n].toNat : Int)] := by
        rw [List.take_succ_eq_append_getElem (by omega), Int.toNat_of_nonneg hx.1]
      rw [e, Tl.of_snoc]
      refine Tl.add_ok h1 (by omega) ?_ ?_
      · have := h1.pos l[n].toNat (by omega); omega
      · show (1 : Int) ≤ 2147483648 - ((l.take n).length : Int)
        rw [List.length_take]; omega
  have := key l.length (Nat.le_refl _)
  rwa [List.take_length] at this

end Go.Proofs.Ytpbmhdkhkbhgnaa

namespace Go.Proofs.Ytpbmhdkhkbhgnaa
set_option linter.unusedVariables false
set_option linter.unusedSimpArgs false

noncomputable def sufB (l : List Int) (a b : Nat) : Bool := @decide (sufLt l a b) (Classical.propDecidable _)
theorem sufB_iff {l : List Int} {a b : Nat} : sufB l a b = true ↔ sufLt l a b := by unfold sufB; simp

theorem countP_or' {α : Type} {f g h : α → Bool} : ∀ {l : List α}, (∀ x ∈ l, f x = (g x || h x)) → (∀ x ∈ l, ¬ (g x = true ∧ h x = true)) → l.countP f = l.countP g + l.countP h
  | [], _, _ => rfl
  | x :: l, h1, h2 => by
    have ih := countP_or' (l := l) (fun y hy => h1 y (List.mem_cons_of_mem _ hy)) (fun y hy => h2 y (List.mem_cons_of_mem _ hy))
    have a := h1 x List.mem_cons_self
    have b := h2 x List.mem_cons_self
    rw [List.countP_cons, List.countP_cons, List.countP_cons, ih, a]
    cases hg : g x <;> cases hh : h x <;> simp_all <;> omega

/-- The symbols of a text: the end stands last, and nowhere else. -/
structure IsSyms (l : List Int) : Prop where
  pos : 0 < l.length
  last : sy l (l.length - 1) = 0
  rest : ∀ i, i < l.length - 1 → 0 < sy l i
theorem IsSyms.nn {l : List Int} (h : IsSyms l) : Nn l := fun i hi => by
  rcases Nat.lt_or_ge i (l.length - 1) with k | k
  · have := h.rest i k; omega
  · obtain rfl : i = l.length - 1 := by omega
    have := h.last; omega
theorem IsSyms.zero {l : List Int} (h : IsSyms l) {i : Nat} (hi : i < l.length) (hz : sy l i = 0) : i = l.length - 1 := by
  rcases Nat.lt_or_ge i (l.length - 1) with k | k
  · have := h.rest i k; omega
  · omega

/-- The transform. -/
def lastL (l : List Int) (r : List Nat) : List Int := r.map fun i => sy l ((i + l.length - 1) % l.length)
theorem lastL_len (l : List Int) (r : List Nat) : (lastL l r).length = r.length := by simp [lastL]
theorem lastL_sy {l : List Int} {r : List Nat} {i : Nat} (hi : i < r.length) : sy (lastL l r) i = sy l ((r[i] + l.length - 1) % l.length) := by
  unfold lastL sy; simp [hi]

theorem shift_perm (n : Nat) : (List.range n).Perm ((List.range n).map fun q => (q + 1) % n) := by
  cases n with
  | zero => exact List.Perm.refl _
  | succ m =>
    have e : ((List.range (m + 1)).map fun q => (q + 1) % (m + 1)) = (List.range m).map (· + 1) ++ [0] := by
      rw [List.range_succ, List.map_append]
      congr 1
      · apply List.map_congr_left
        intro q hq
        have := List.mem_range.1 hq
        exact Nat.mod_eq_of_lt (by omega)
      · simp
    rw [e, List.range_succ_eq_map]
    exact (List.perm_append_singleton _ _).symm
theorem range_map_sy (l : List Int) : (List.range l.length).map (sy l) = l := by
  apply List.ext_getElem?
  intro i
  by_cases h : i < l.length
  · simp [h, sy]
  · rw [List.getElem?_eq_none (by simp; omega), List.getElem?_eq_none (by omega)]
theorem shift_back {n q : Nat} (h : q < n) : ((q + 1) % n + n - 1) % n = q := by
  by_cases e : q + 1 = n
  · subst e; rw [Nat.mod_self, Nat.zero_add]; exact Nat.mod_eq_of_lt (by omega)
  · rw [Nat.mod_eq_of_lt (show q + 1 < n by omega), show q + 1 + n - 1 = q + n by omega, Nat.add_mod_right]
    exact Nat.mod_eq_of_lt h

/-- The transform has the text's symbols. -/
theorem last_perm {l : List Int} {r : List Nat} (h : IsRows l r) : (lastL l r).Perm l := by
  have h1 : (lastL l r).Perm ((List.range l.length).map fun i => sy l ((i + l.length - 1) % l.length)) := h.1.map _
  refine h1.trans (((shift_perm l.length).map _).trans (List.Perm.of_eq ?_))
  rw [List.map_map]
  refine Eq.trans (List.map_congr_left (fun q hq => ?_)) (range_map_sy l)
  show sy l (((q + 1) % l.length + l.length - 1) % l.length) = sy l q
  rw [shift_back (List.mem_range.1 hq)]

section
variable {l : List Int} {r : List Nat}
/-- A row is as many as go ahead of it. -/
theorem count_take (h : IsRows l r) {j : Nat} (hj : j < r.length) (f : Nat → Bool) : (r.take j).countP f = (List.range l.length).countP fun q => sufB l q r[j] && f q := by
  rw [← h.1.countP_eq]
  generalize hx : r[j] = x
  have hsp : r.countP (fun q => sufB l q x && f q) = (r.take j).countP (fun q => sufB l q x && f q) + (r.drop j).countP (fun q => sufB l q x && f q) := by
    rw [← List.countP_append, List.take_append_drop]
  rw [hsp]
  subst hx
  have h1 : (r.take j).countP (fun q => sufB l q r[j] && f q) = (r.take j).countP f := by
    refine List.countP_congr (fun q hq => ?_)
    obtain ⟨k, hk, rfl⟩ := List.getElem_of_mem hq
    rw [List.length_take] at hk
    have : sufB l r[k] r[j] = true := sufB_iff.2 (List.pairwise_iff_getElem.1 h.2 k j (by omega) hj (by omega))
    rw [List.getElem_take, this, Bool.true_and]
  have h2 : (r.drop j).countP (fun q => sufB l q r[j] && f q) = 0 := by
    rw [List.countP_eq_zero]
    intro q hq
    obtain ⟨k, hk, rfl⟩ := List.getElem_of_mem hq
    rw [List.length_drop] at hk
    rw [List.getElem_drop]
    have : ¬ sufLt l r[j + k] r[j] := by
      rcases Nat.eq_zero_or_pos k with rfl | k0
      · exact sufLt.irrefl
      · exact (List.pairwise_iff_getElem.1 h.2 j (j + k) hj (by omega) (by omega) : sufLt l _ _).asymm
    have : sufB l r[j + k] r[j] = false := by
      rw [← Bool.not_eq_true]; exact fun e => this (sufB_iff.1 e)
    rw [this]; simp
  rw [h1, h2]
  rfl
theorem pos_count (h : IsRows l r) {j : Nat} (hj : j < r.length) : (List.range l.length).countP (fun q => sufB l q r[j]) = j := by
  have := count_take h hj (fun _ => true)
  simp only [Bool.and_true] at this
  rw [← this, List.countP_true, List.length_take]
  omega

/-- How many are less; the row of the suffix one ahead. -/
def belowL (m : List Int) (s : Int) : Nat := m.countP fun x => decide (x < s)
def lfL (m : List Int) (row : Nat) : Nat := belowL m (sy m row) + cnt (m.take row) (sy m row)

theorem lf_rows (hs : IsSyms l) (h : IsRows l r) {i : Nat} (hi : i < r.length) : ∃ hj : lfL (lastL l r) i < r.length, r[lfL (lastL l r) i] = (r[i] + l.length - 1) % l.length := by
  have hn := hs.pos
  have hp : (r[i] + l.length - 1) % l.length < l.length := Nat.mod_lt _ hn
  obtain ⟨j, hj, ej⟩ := h.find hp
  have key : lfL (lastL l r) i = j := by
    have hri := h.lt hi
    rw [← pos_count h hj, ej]
    generalize hpe : (r[i] + l.length - 1) % l.length = p at *
    have hsy : sy (lastL l r) i = sy l p := by rw [lastL_sy hi, hpe]
    unfold lfL
    rw [hsy]
    rw [countP_or' (g := fun q => decide (sy l q < sy l p)) (h := fun q => decide (sy l q = sy l p) && sufB l (q + 1) (p + 1))]
    · congr 1
      · unfold belowL
        rw [(last_perm h).countP_eq]
        have e := congrArg (List.countP fun x => decide (x < sy l p)) (range_map_sy l)
        rw [List.countP_map] at e
        exact e.symm
      · unfold cnt lastL
        rw [← List.map_take, List.countP_map, count_take h hi, (shift_perm l.length).countP_eq, List.countP_map]
        refine List.countP_congr (fun q hq => ?_)
        have hq := List.mem_range.1 hq
        simp only [Function.comp, shift_back hq, Bool.and_eq_true, beq_iff_eq, decide_eq_true_eq, sufB_iff]
        rw [and_comm]
        refine and_congr_right (fun e => ?_)
        by_cases hz : r[i] = 0
        · rw [hz, Nat.zero_add, Nat.mod_eq_of_lt (show l.length - 1 < l.length by omega)] at hpe
          subst hpe
          rw [hs.last] at e
          obtain rfl := hs.zero hq e
          rw [hz, show l.length - 1 + 1 = l.length by omega, Nat.mod_self]
          exact ⟨fun h => absurd h sufLt.irrefl, fun h => absurd h sufLt.irrefl⟩
        · have hpe : p = r[i] - 1 := by
            rw [← hpe, show r[i] + l.length - 1 = (r[i] - 1) + l.length by omega, Nat.add_mod_right]
            exact Nat.mod_eq_of_lt (by omega)
          subst hpe
          have h0 := hs.rest (r[i] - 1) (by omega)
          have hq1 : q + 1 < l.length := by
            rcases Nat.lt_or_ge (q + 1) l.length with k | k
            · exact k
            · obtain rfl : q = l.length - 1 := by omega
              rw [hs.last] at e; omega
          rw [Nat.mod_eq_of_lt hq1, show r[i] - 1 + 1 = r[i] by omega]
    · intro q hq
      rw [Bool.eq_iff_iff, sufB_iff, suf_cons]
      simp [sufB_iff]
    · intro q hq
      simp only [Bool.and_eq_true, decide_eq_true_eq]
      omega
  exact ⟨by rw [key]; exact hj, by simp only [key]; exact ej⟩

theorem row_first (hs : IsSyms l) (h : IsRows l r) : ∃ h0 : 0 < r.length, r[0] = l.length - 1 := by
  have hn := hs.pos
  obtain ⟨j, hj, ej⟩ := h.find (show l.length - 1 < l.length by omega)
  have : j = 0 := by
    rw [← pos_count h hj, ej, List.countP_eq_zero]
    intro q hq e
    have hq := List.mem_range.1 hq
    rw [sufB_iff, suf_cons, hs.last] at e
    have := hs.nn q hq
    rcases e with e | ⟨e, e2⟩
    · omega
    · obtain rfl := hs.zero hq e
      exact sufLt.irrefl e2
  subst this
  exact ⟨hj, ej⟩

/-- The rows met on the way back from the end. -/
def chain (m : List Int) : Nat → Nat
  | 0 => 0
  | k + 1 => lfL m (chain m k)
theorem chain_row (hs : IsSyms l) (h : IsRows l r) : ∀ {k : Nat}, k < l.length → ∃ hk : chain (lastL l r) k < r.length, r[chain (lastL l r) k] = l.length - 1 - k
  | 0, _ => row_first hs h
  | k + 1, hk => by
    obtain ⟨h1, h2⟩ := chain_row hs h (show k < l.length by omega)
    obtain ⟨h3, h4⟩ := lf_rows hs h h1
    refine ⟨h3, ?_⟩
    show r[lfL (lastL l r) (chain (lastL l r) k)] = _
    rw [h4, h2, show l.length - 1 - k + l.length - 1 = (l.length - 1 - (k + 1)) + l.length by omega, Nat.add_mod_right]
    exact Nat.mod_eq_of_lt (by omega)
theorem chain_sym (hs : IsSyms l) (h : IsRows l r) {k : Nat} (hk : k + 1 < l.length) : sy (lastL l r) (chain (lastL l r) k) = sy l (l.length - 2 - k) := by
  obtain ⟨h1, h2⟩ := chain_row hs h (show k < l.length by omega)
  rw [lastL_sy h1, h2, show l.length - 1 - k + l.length - 1 = (l.length - 2 - k) + l.length by omega, Nat.add_mod_right, Nat.mod_eq_of_lt (by omega)]
theorem chain_end (hs : IsSyms l) (h : IsRows l r) : sy (lastL l r) (chain (lastL l r) (l.length - 1)) = 0 := by
  have hn := hs.pos
  obtain ⟨h1, h2⟩ := chain_row hs h (show l.length - 1 < l.length by omega)
  rw [lastL_sy h1, h2, Nat.sub_self, Nat.zero_add, Nat.mod_eq_of_lt (by omega)]
  exact hs.last
theorem chain_ne (hs : IsSyms l) (h : IsRows l r) {j k : Nat} (hj : j < l.length) (hk : k < l.length) (hne : j ≠ k) : chain (lastL l r) j ≠ chain (lastL l r) k := by
  intro e
  obtain ⟨h1, h2⟩ := chain_row hs h hj
  obtain ⟨h3, h4⟩ := chain_row hs h hk
  simp only [e] at h2
  omega
end

/-- A text's symbols. -/
def symsT (t : List Int) : List Int := t.map (· + 1) ++ [0]
theorem symsT_len (t : List Int) : (symsT t).length = t.length + 1 := by simp [symsT]
theorem symsT_sy {t : List Int} {i : Nat} (h : i < t.length) : sy (symsT t) i = t[i] + 1 := by
  unfold sy symsT; rw [List.getElem?_append_left (by simpa using h)]; simp [h]
theorem symsT_end (t : List Int) : sy (symsT t) t.length = 0 := by unfold sy symsT; simp
/-- All are bytes. -/
def ByteL (t : List Int) : Prop := ∀ x ∈ t, 0 ≤ x ∧ x < 256
theorem symsT_is {t : List Int} (h : ByteL t) : IsSyms (symsT t) := by
  refine ⟨by rw [symsT_len]; omega, by rw [symsT_len]; exact symsT_end t, fun i hi => ?_⟩
  rw [symsT_len] at hi
  rw [symsT_sy (by omega)]
  have := h _ (List.getElem_mem (show i < t.length by omega))
  omega
theorem symsT_range {t : List Int} (h : ByteL t) : ∀ x ∈ symsT t, 0 ≤ x ∧ x < 257 := by
  intro x hx
  unfold symsT at hx
  rcases List.mem_append.1 hx with k | k
  · obtain ⟨y, hy, rfl⟩ := List.mem_map.1 k
    have := h y hy; omega
  · simp at k; omega
theorem symsT_zero {t : List Int} (h : ByteL t) : cnt (symsT t) 0 = 1 := by
  unfold cnt symsT
  rw [List.countP_append, List.countP_map]
  have : t.countP ((fun x => x == 0) ∘ fun x => x + 1) = 0 := by
    rw [List.countP_eq_zero]
    intro x hx
    have := h x hx
    simp; omega
  rw [this]; rfl

/-- The transform of a text. -/
def IsLast (t m : List Int) : Prop := ByteL t ∧ ∃ r, IsRows (symsT t) r ∧ lastL (symsT t) r = m
section
variable {t m : List Int}
theorem IsLast.len (h : IsLast t m) : m.length = t.length + 1 := by
  obtain ⟨_, r, hr, rfl⟩ := h
  rw [lastL_len, hr.len, symsT_len]
theorem IsLast.perm (h : IsLast t m) : m.Perm (symsT t) := by
  obtain ⟨_, r, hr, rfl⟩ := h
  exact last_perm hr
theorem IsLast.range (h : IsLast t m) : ∀ x ∈ m, 0 ≤ x ∧ x < 257 := fun x hx => symsT_range h.1 x (h.perm.mem_iff.1 hx)
theorem IsLast.zero (h : IsLast t m) : cnt m 0 = 1 := by
  rw [← symsT_zero h.1]; exact h.perm.countP_eq _
theorem IsLast.sym (h : IsLast t m) {k : Nat} (hk : k < t.length) : sy m (chain m k) = t[t.length - 1 - k] + 1 := by
  obtain ⟨hb, r, hr, rfl⟩ := h
  rw [chain_sym (symsT_is hb) hr (by rw [symsT_len]; omega), symsT_len, show t.length + 1 - 2 - k = t.length - 1 - k by omega, symsT_sy (by omega)]
theorem IsLast.stop (h : IsLast t m) : sy m (chain m t.length) = 0 := by
  obtain ⟨hb, r, hr, rfl⟩ := h
  have := chain_end (symsT_is hb) hr
  rwa [symsT_len, Nat.add_sub_cancel] at this
theorem IsLast.ne (h : IsLast t m) {j k : Nat} (hj : j ≤ t.length) (hk : k ≤ t.length) (hne : j ≠ k) : chain m j ≠ chain m k := by
  obtain ⟨hb, r, hr, rfl⟩ := h
  exact chain_ne (symsT_is hb) hr (by rw [symsT_len]; omega) (by rw [symsT_len]; omega) hne
theorem IsLast.unique {t' : List Int} (h : IsLast t m) (h' : IsLast t' m) : t = t' := by
  have e : t.length = t'.length := by have := h.len; have := h'.len; omega
  apply List.ext_getElem e
  intro i h1 h2
  have a := h.sym (k := t.length - 1 - i) (by omega)
  have b := h'.sym (k := t.length - 1 - i) (by omega)
  rw [a] at b
  have e1 : t.length - 1 - (t.length - 1 - i) = i := by omega
  have e2 : t'.length - 1 - (t.length - 1 - i) = i := by omega
  simp only [e1, e2] at b
  omega
theorem IsLast.same {m' : List Int} (h : IsLast t m) (h' : IsLast t m') : m = m' := by
  obtain ⟨_, r, hr, rfl⟩ := h
  obtain ⟨_, r', hr', rfl⟩ := h'
  rw [rows_unique hr hr']
end

/-- Rows behind a part that stands ahead. -/
theorem sy_behind (u l : List Int) (i : Nat) : sy (u ++ l) (u.length + i) = sy l i := by
  unfold sy; rw [List.getElem?_append_right (by omega), Nat.add_sub_cancel_left]
theorem suf_behind {u l : List Int} {a b : Nat} : sufLt (u ++ l) (u.length + a) (u.length + b) ↔ sufLt l a b := by
  unfold sufLt ltK eqK
  simp only [Nat.add_assoc, sy_behind]
theorem rows_behind {u l : List Int} {r : List Nat} (h : IsRows (u ++ l) r) : IsRows l ((r.filter fun i => decide (u.length ≤ i)).map (· - u.length)) := by
  constructor
  · refine ((h.1.filter _).map _).trans (List.Perm.of_eq ?_)
    rw [List.length_append, List.range_add, List.filter_append, List.map_append]
    have h1 : (List.range u.length).filter (fun i => decide (u.length ≤ i)) = [] := by
      rw [List.filter_eq_nil_iff]
      intro x hx
      have := List.mem_range.1 hx
      simp; omega
    have h2 : ((List.range l.length).map (u.length + ·)).filter (fun i => decide (u.length ≤ i)) = (List.range l.length).map (u.length + ·) := by
      rw [List.filter_eq_self]
      intro x hx
      obtain ⟨y, _, rfl⟩ := List.mem_map.1 hx
      simp
    rw [h1, h2, List.map_nil, List.nil_append, List.map_map]
    refine Eq.trans (List.map_congr_left (fun q _ => ?_)) (List.map_id _)
    show u.length + q - u.length = q
    omega
  · rw [List.pairwise_map]
    refine List.Pairwise.imp_of_mem ?_ (h.2.filter _)
    intro a b ha hb hab
    have ha := (List.mem_filter.1 ha).2
    have hb := (List.mem_filter.1 hb).2
    simp only [decide_eq_true_eq] at ha hb
    rw [← suf_behind (u := u)]
    rwa [show u.length + (a - u.length) = a by omega, show u.length + (b - u.length) = b by omega]

end Go.Proofs.Ytpbmhdkhkbhgnaa

namespace Go.Proofs.Ytpbmhdkhkbhgnaa
set_option linter.unusedVariables false
set_option linter.unusedSimpArgs false

/-- A string's bytes as numbers. -/
def tOfS (s : ByteArray) : List Int := s.data.toList.map fun b => (b.toNat : Int)
theorem tOfS_len (s : ByteArray) : (tOfS s).length = s.size := by unfold tOfS; rw [List.length_map]; rfl
theorem tOfS_byte (s : ByteArray) : ByteL (tOfS s) := by
  intro x hx
  obtain ⟨b, _, rfl⟩ := List.mem_map.1 hx
  have := b.toNat_lt
  omega
theorem tOfS_of {t : List Int} (h : ByteL t) : tOfS (strOfNums t) = t := by
  unfold tOfS
  rw [strOfNums_data, List.map_map]
  apply List.ext_getElem
  · simp
  · intro i h1 h2
    have := h _ (List.getElem_mem h2)
    simp only [List.getElem_map, Function.comp]
    rw [UInt8.toNat_ofNat', Nat.mod_eq_of_lt (by omega)]
    omega
theorem tOfS_sy {s : ByteArray} {k : Nat} (h : k < s.size) : sy (symsT (tOfS s)) k = (s[k].toNat : Int) + 1 := by
  have h2 : k < (tOfS s).length := by rw [tOfS_len]; exact h
  rw [symsT_sy h2]
  have e : (tOfS s)[k]? = some (s[k].toNat : Int) := by
    unfold tOfS
    rw [List.getElem?_map, List.getElem?_eq_getElem (by exact h)]
    rfl
  rw [List.getElem?_eq_getElem h2] at e
  injection e with e
  rw [e]
theorem tOfS_end (s : ByteArray) : sy (symsT (tOfS s)) s.size = 0 := by
  have := symsT_end (tOfS s)
  rwa [tOfS_len] at this

theorem suf_shift {l : List Int} {d a b : Nat} (h : eqK l d a b) : sufLt l a b ↔ sufLt l (a + d) (b + d) := by
  constructor
  · rintro ⟨w, e, he, h1, h2⟩
    have hde : d ≤ e := by
      rcases Nat.lt_or_ge e d with k | k
      · have := h e k; omega
      · exact k
    obtain ⟨v, rfl⟩ := Nat.exists_eq_add_of_le hde
    refine ⟨v + 1, v, by omega, (eqK_add.1 h1).2, by rwa [Nat.add_assoc, Nat.add_assoc]⟩
  · rintro ⟨w, h2⟩
    exact ⟨d + w, ltK_add.2 (Or.inr ⟨h, h2⟩)⟩
theorem eqK_succ {l : List Int} {d a b : Nat} (h : eqK l d a b) (e : sy l (a + d) = sy l (b + d)) : eqK l (d + 1) a b :=
  eqK_add.2 ⟨h, fun x hx => by obtain rfl : x = 0 := by omega
                               simpa using e⟩

/-- A list with one more at a place. -/
def insA {α : Type} (l : List α) (k : Nat) (x : α) : List α := l.take k ++ x :: l.drop k
theorem insA_len {α : Type} {l : List α} {k : Nat} {x : α} (h : k ≤ l.length) : (insA l k x).length = l.length + 1 := by simp [insA]; omega
theorem insA_perm {α : Type} (l : List α) (k : Nat) (x : α) : (insA l k x).Perm (x :: l) := by
  unfold insA
  refine List.perm_middle.trans ?_
  rw [List.take_append_drop]
theorem insA_sorted {R : Nat → Nat → Prop} {l : List Nat} {k x : Nat} (hk : k ≤ l.length) (h : l.Pairwise R) (h1 : ∀ i (hi : i < l.length), i < k → R l[i] x) (h2 : ∀ i (hi : i < l.length), k ≤ i → R x l[i]) : (insA l k x).Pairwise R := by
  unfold insA
  rw [List.pairwise_append]
  refine ⟨h.sublist (List.take_sublist _ _), List.pairwise_cons.2 ⟨fun y hy => ?_, h.sublist (List.drop_sublist _ _)⟩, fun y hy z hz => ?_⟩
  · obtain ⟨i, hi, rfl⟩ := List.getElem_of_mem hy
    rw [List.length_drop] at hi
    rw [List.getElem_drop]
    exact h2 (k + i) (by omega) (by omega)
  · obtain ⟨i, hi, rfl⟩ := List.getElem_of_mem hy
    rw [List.length_take] at hi
    rw [List.getElem_take]
    rcases List.mem_cons.1 hz with rfl | hz
    · exact h1 i (by omega) (by omega)
    · obtain ⟨j, hj, rfl⟩ := List.getElem_of_mem hz
      rw [List.length_drop] at hj
      rw [List.getElem_drop]
      exact List.pairwise_iff_getElem.1 h i (k + j) (by omega) (by omega) (by omega)

end Go.Proofs.Ytpbmhdkhkbhgnaa

namespace Go.Proofs.Ytpbmhdkhkbhgnaa
set_option linter.unusedVariables false
set_option linter.unusedSimpArgs false
open Go.RowKit

/-- What the closures of Rows read: how wide, how many, the ranks. -/
structure RkAt (w : World) (bw bn br g cap wide : Nat) (rk : List Int) : Prop where
  wide : w.cell? ⟨bw, 0, none⟩ = some (.int .i64 wide)
  n : w.cell? ⟨bn, 0, none⟩ = some (.int .i64 rk.length)
  row : w.cell? ⟨br, 0, none⟩ = some (.slice (some ⟨g, 0, none⟩) rk.length cap)
  rd : ∀ i, i < rk.length → w.cell? ⟨g, i, none⟩ = some (.int .i64 (sy rk i))

set_option maxHeartbeats 800000 in
theorem behind_any {w : World} {bw bn br g cap wide : Nat} {rk : List Int} (h : RkAt w bw bn br g cap wide rk) (i : Nat) (hi : i < rk.length) (hl : rk.length ≤ 1000000000) (hw : wide ≤ 1000000000) :
    Calls Try.prog 55 #[.int .i64 i, .pointer (some ⟨bw, 0, none⟩), .pointer (some ⟨bn, 0, none⟩), .pointer (some ⟨br, 0, none⟩)] w fun e w' => e = .returned (.int .i64 (sy rk (i + wide))) ∧ w = w' := by
  obtain ⟨h1, h2, h3, h4⟩ := h
  by_cases hc : i + wide < rk.length
  · have h5 := h4 (i + wide) hc
    clear h4
    generalize sy rk (i + wide) = x at *
    have d1 : decide ((i : Int) + (wide : Int) < (rk.length : Int)) = true := by simp; omega
    go_enter Try.func55, Try.ntmps55
    go_wp2_with fail
    go_ret
    exact ⟨rfl, rfl⟩
  · have e : sy rk (i + wide) = -1 := sy_over (by omega)
    rw [e]
    clear h4 e
    have d1 : decide ((i : Int) + (wide : Int) < (rk.length : Int)) = false := by simp; omega
    go_enter Try.func55, Try.ntmps55
    go_wp2_with fail
    go_ret
    exact ⟨rfl, rfl⟩

theorem quiet_left {P : Program} {f : FuncId} {args : Array Value} {w : World} {n : Nat} {v : Value}
    (h : Calls P f args (w.drewN n) fun e w' => e = .returned v ∧ w.drewN n = w') : Calls P f args (w.drewN n) fun e w'' => e = .returned v ∧ ∃ m, w'' = w.drewN m :=
  h.mono fun _ _ ⟨he, hm⟩ => ⟨he, n, hm.symm⟩
/-- A quiet call behind a quiet region. -/
theorem quiet_add_left {P : Program} {f : FuncId} {args : Array Value} {w : World} {a n : Nat} {v : Value}
    (h : Calls P f args (w.drewN (a + n)) fun e w' => e = .returned v ∧ w.drewN (a + n) = w') : Calls P f args (w.drewN (a + n)) fun e w'' => e = .returned v ∧ ∃ m, w'' = w.drewN (a + m) :=
  h.mono fun _ _ ⟨he, hm⟩ => ⟨he, n, hm.symm⟩
theorem RkAt.drewN {w : World} {bw bn br g cap wide : Nat} {rk : List Int} (h : RkAt w bw bn br g cap wide rk) (n : Nat) : RkAt (w.drewN n) bw bn br g cap wide rk := ⟨h.wide, h.n, h.row, h.rd⟩

set_option maxHeartbeats 1600000 in
theorem order_any {w : World} {bw bn br bf g cap wide : Nat} {rk : List Int} (h : RkAt w bw bn br g cap wide rk)
    (hf : w.cell? ⟨bf, 0, none⟩ = some (.func (.func 55) #[] #[.pointer (some ⟨bw, 0, none⟩), .pointer (some ⟨bn, 0, none⟩), .pointer (some ⟨br, 0, none⟩)]))
    (a b : Nat) (ha : a < rk.length) (hb : b < rk.length) (hl : rk.length ≤ 1000000000) (hw : wide ≤ 1000000000) (hr : ∀ i, -1 ≤ sy rk i ∧ sy rk i ≤ 1000000000) :
    Calls Try.prog 56 #[.int .i64 a, .int .i64 b, .pointer (some ⟨br, 0, none⟩), .pointer (some ⟨bf, 0, none⟩)] w fun e w' => e = .returned (.int .i64 (ordV rk wide a b)) ∧ ∃ n, w' = w.drewN n := by
  have ka := h.rd a ha
  have kb := h.rd b hb
  have kr := h.row
  have HA : Hid (∀ n, Calls Try.prog 55 #[.int .i64 a, .pointer (some ⟨bw, 0, none⟩), .pointer (some ⟨bn, 0, none⟩), .pointer (some ⟨br, 0, none⟩)] (w.drewN n) fun e w' => e = .returned (.int .i64 (sy rk (a + wide))) ∧ w.drewN n = w') := fun n => behind_any (h.drewN n) a ha hl hw
  have HB : Hid (∀ n, Calls Try.prog 55 #[.int .i64 b, .pointer (some ⟨bw, 0, none⟩), .pointer (some ⟨bn, 0, none⟩), .pointer (some ⟨br, 0, none⟩)] (w.drewN n) fun e w' => e = .returned (.int .i64 (sy rk (b + wide))) ∧ w.drewN n = w') := fun n => behind_any (h.drewN n) b hb hl hw
  obtain ⟨ra0, ra1⟩ := hr a
  obtain ⟨rb0, rb1⟩ := hr b
  obtain ⟨sa0, sa1⟩ := hr (a + wide)
  obtain ⟨sb0, sb1⟩ := hr (b + wide)
  have HV : Hid (ordV rk wide a b = if sy rk a = sy rk b then sy rk (a + wide) - sy rk (b + wide) else sy rk a - sy rk b) := rfl
  generalize sy rk a = x at *
  generalize sy rk b = y at *
  generalize sy rk (a + wide) = u at *
  generalize sy rk (b + wide) = v at *
  clear h hr
  have i0 : (0 : Int) ≤ (a : Int) := by omega
  have i1 : (a : Int) < (rk.length : Int) := by omega
  have j0 : (0 : Int) ≤ (b : Int) := by omega
  have j1 : (b : Int) < (rk.length : Int) := by omega
  have ew1 : IntKind.i64.wrap (x - y) = x - y := IntWalk.i64_in _ (by omega)
  by_cases hxy : x = y
  · have e : (x != y) = false := by simp [hxy]
    have HR : Hid (ordV rk wide a b = u - v) := by show _ = _; rw [HV.out, if_pos hxy]
    have HX := Lib.hid hxy
    have ew : IntKind.i64.wrap (u - v) = u - v := IntWalk.i64_in _ (by omega)
    clear hxy
    go_enter Try.func56, Try.ntmps56
    go_wp2_with fail
    go_quiet (fail)
    go_wp2_with fail
    go_quiet ((go_at_call 55; first | with_reducible exact quiet_add_left (HA.out _) | with_reducible exact quiet_add_left (HB.out _)))
    go_wp2_with fail
    go_ret
    exact ⟨ret_int HR.out.symm, _, World.drewN_drewN _ _ _⟩
  · have e : (x != y) = true := by simp [hxy]
    have HR : Hid (ordV rk wide a b = x - y) := by show _ = _; rw [HV.out, if_neg hxy]
    clear hxy
    go_enter Try.func56, Try.ntmps56
    go_wp2_with fail
    go_quiet (fail)
    go_wp2_with fail
    go_quiet (fail)
    go_wp2_with fail
    go_ret
    exact ⟨ret_int HR.out.symm, _, World.drewN_drewN _ _ _⟩

end Go.Proofs.Ytpbmhdkhkbhgnaa

namespace Go.Proofs.Ytpbmhdkhkbhgnaa
set_option linter.unusedVariables false
set_option linter.unusedSimpArgs false
open Go.RowKit

theorem sortWorld_chg {α : Type} [Inhabited α] (enc : α → Value) (w : World) (blk m : Nat) (dk : Array α) (os : Array Obj) : Chg (fun b => b = blk) w (sortWorld enc w blk 0 m dk os) := by
  refine ⟨rfl, rfl, rfl, ?_, fun k hk hn => ?_⟩
  · show w.heap.size ≤ ((w.heap.modify blk _) ++ os).size
    simp
  · show ((w.heap.modify blk _) ++ os)[k]? = w.heap[k]?
    rw [Array.getElem?_append_left (by simpa using hk), Array.getElem?_modify, if_neg (fun e => hn e.symm)]
theorem sortWorld_own {α : Type} [Inhabited α] (enc : α → Value) {w : World} {blk n cap base : Nat} {e : TypeId} {xs : List Value} (h : w.ownsRow base e 1 (.slice (some ⟨blk, 0, none⟩) n cap) n xs) (m : Nat) (dk : Array α) (os : Array Obj) (hd : dk.size = n) :
    (sortWorld enc w blk 0 m dk os).ownsRow base e 1 (.slice (some ⟨blk, 0, none⟩) n cap) n (dk.toList.map enc) := by
  obtain ⟨h1, h2⟩ := h
  refine ⟨by simp [hd], ?_⟩
  rcases h2 with ⟨h, _⟩ | ⟨g', cap', cur, hv, hb, hg, hc, hm, hs, ht⟩
  · cases h
  · injection hv with e1 e2 e3
    simp only [Option.some.injEq, Addr.mk.injEq, and_true] at e1
    subst e1; subst e3
    refine .inr ⟨blk, cap, Go.Sort.putCells enc 0 dk cur, rfl, hb, ?_, hc, hm, by simpa [Go.Sort.putCells] using hs, ?_⟩
    · show ((w.heap.modify blk _) ++ os)[blk]? = _
      have hlt := (Array.getElem?_eq_some_iff.1 hg).1
      rw [Array.getElem?_append_left (by simpa using hlt), Array.getElem?_modify, if_pos rfl, hg]
      rfl
    · apply List.ext_getElem?
      intro i
      rw [List.getElem?_take]
      by_cases hi : i < n
      · rw [if_pos (by omega), Array.getElem?_toList, Go.Sort.putCells, Array.getElem?_mapIdx, Array.getElem?_eq_getElem (by omega)]
        simp [hd, hi, show i < dk.size by omega]
      · rw [if_neg (by omega), List.getElem?_eq_none (by simp; omega)]

/-- A place, as a value. -/
def natV (x : Nat) : Value := .int .i64 (x : Int)
theorem RkAt.chg {w w' : World} {S : Nat → Prop} {bw bn br g cap wide : Nat} {rk : List Int} (h : RkAt w bw bn br g cap wide rk) (hc : Chg S w w') (h1 : ¬ S bw) (h2 : ¬ S bn) (h3 : ¬ S br) (h4 : ¬ S g) : RkAt w' bw bn br g cap wide rk :=
  ⟨hc.cell h.wide h1, hc.cell h.n h2, hc.cell h.row h3, fun i hi => hc.cell (h.rd i hi) h4⟩

theorem sort_rows {B : Nat} {w : World} {bw bn br bf g cap wide qr capr : Nat} {l rk : List Int} {r : List Nat} (h : RkAt w bw bn br g cap wide rk)
    (hf : w.cell? ⟨bf, 0, none⟩ = some (.func (.func 55) #[] #[.pointer (some ⟨bw, 0, none⟩), .pointer (some ⟨bn, 0, none⟩), .pointer (some ⟨br, 0, none⟩)]))
    (hrk : RankOf l wide rk) (hp : r.Perm (List.range l.length)) (hown : w.ownsRow B 3 1 (.slice (some ⟨qr, 0, none⟩) r.length capr) r.length (r.map natV))
    (hq : bw ≠ qr ∧ bn ≠ qr ∧ br ≠ qr ∧ bf ≠ qr ∧ g ≠ qr) (h0 : 0 < l.length) (hl : l.length ≤ 1000000000) (hw : wide ≤ 1000000000) (hr : ∀ i, -1 ≤ sy rk i ∧ sy rk i ≤ 1000000000) :
    Calls Try.prog 57 #[.slice (some ⟨qr, 0, none⟩) r.length capr, .func (.func 56) #[] #[.pointer (some ⟨br, 0, none⟩), .pointer (some ⟨bf, 0, none⟩)]] w
      fun e w' => e = .returned (.tuple #[]) ∧ ∃ r' : List Nat, SortedK l (wide + wide) r' ∧ r'.length = r.length ∧ w'.ownsRow B 3 1 (.slice (some ⟨qr, 0, none⟩) r.length capr) r.length (r'.map natV) ∧ Chg (fun b => b = qr) w w' := by
  have hrl : r.length = l.length := by have := hp.length_eq; simpa using this
  have hin : ∀ x ∈ r, x < l.length := fun x hx => List.mem_range.1 (hp.mem_iff.1 hx)
  letI : Inhabited (Fin l.length) := ⟨⟨0, h0⟩⟩
  let d : Array (Fin l.length) := (r.attach.map fun x => ⟨x.1, hin x.1 x.2⟩).toArray
  have hdv : d.toList.map Fin.val = r := by
    show (r.attach.map _).map _ = r
    rw [List.map_map]
    exact List.attach_map_subtype_val r
  have hds : d.size = r.length := by rw [← Array.length_toList, ← List.length_map (f := Fin.val), hdv]
  have henc : d.toList.map (fun x : Fin l.length => natV x.1) = r.map natV := by
    have e := congrArg (List.map natV) hdv
    rw [List.map_map] at e
    exact e
  have hqlt := (own_lt hown (k := qr) rfl).2
  have hH : Go.Sort.Holds (fun x : Fin l.length => natV x.1) w qr 0 d := by
    intro j hj
    obtain ⟨g', cap', hv, _, _, _, _, hcell, hfr⟩ := own_some hown (by omega)
    injection hv with e1 _ _
    injection e1 with e1
    injection e1 with e1 _ _
    subst e1
    refine ⟨?_, hfr _⟩
    rw [Nat.zero_add, hcell j (by omega), ← henc, List.getElem?_map]
    simp [hj]
  have hcmp : CmpLays1 Try.prog 56 #[.pointer (some ⟨br, 0, none⟩), .pointer (some ⟨bf, 0, none⟩)] (fun x : Fin l.length => natV x.1) (fun x y => ordV rk wide x.1 y.1) qr 0 d.size w := by
    intro m os dk _ x y
    have hc := sortWorld_chg (fun x : Fin l.length => natV x.1) w qr m dk os
    have hx : x.1 < rk.length := by have := x.2; have := hrk.len; omega
    have hy : y.1 < rk.length := by have := y.2; have := hrk.len; omega
    refine (order_any (h.chg hc hq.1 hq.2.1 hq.2.2.1 hq.2.2.2.2) (hc.cell hf hq.2.2.2.1) x.1 y.1 hx hy (by rw [hrk.len]; exact hl) hw hr).mono ?_
    rintro e w' ⟨rfl, n, rfl⟩
    exact ⟨rfl, n, #[], by rw [Go.Sort.grow_empty]⟩
  have hlt : ∀ x y : Fin l.length, ltOf (fun x y : Fin l.length => ordV rk wide x.1 y.1) x y = true ↔ ltK l (wide + wide) x.1 y.1 := fun x y => by
    unfold ltOf; rw [decide_eq_true_eq, ordV_lt hrk]
  have hltf : ∀ x y : Fin l.length, ltOf (fun x y : Fin l.length => ordV rk wide x.1 y.1) x y = false ↔ ¬ ltK l (wide + wide) x.1 y.1 := fun x y => by
    rw [← hlt, Bool.not_eq_true]
  have hO : Go.Sort.SWO (ltOf (fun x y : Fin l.length => ordV rk wide x.1 y.1)) :=
    ⟨fun x => (hltf x x).2 ltK_irrefl, fun x y z a b => (hlt x z).2 (ltK_trans ((hlt x y).1 a) ((hlt y z).1 b)), fun x y z a b => (hltf x z).2 (fun k => by
      rcases ltK_tri l (wide + wide) x.1 y.1 with q | q | q
      · exact (hltf x y).1 a q
      · exact (hltf y z).1 b (eq_ltK q.symm k)
      · exact (hltf y z).1 b (ltK_trans q k))⟩
  have eg : ∀ args w, (callFunc 56 args).run Try.prog w = .ok (.enter 56 args) w := enters_of Try.func56 (by kernel_rfl) rfl
  have hcon := Try.slices_SortFunc (fun x : Fin l.length => natV x.1) (fun _ => rfl) (fun x y => ordV rk wide x.1 y.1) hO 56 #[.pointer (some ⟨br, 0, none⟩), .pointer (some ⟨bf, 0, none⟩)] qr 0 capr d w eg hcmp hH hqlt (by rw [hds]; omega)
  rw [hds] at hcon
  refine hcon.mono ?_
  rintro e w' ⟨rfl, d', n, os, hpi, hsi, rfl⟩
  have hd's : d'.size = r.length := by have := hpi.1; omega
  have hperm : (d'.toList.map Fin.val).Perm r := by
    have := hpi.2.2
    rw [Array.extract_eq_self_of_le (by omega), Array.extract_eq_self_of_le (by omega)] at this
    rw [← hdv]; exact this.map _
  refine ⟨rfl, d'.toList.map Fin.val, ⟨hperm.trans hp, List.pairwise_iff_getElem.2 (fun i j hi hj hij => ?_)⟩, by simp [hd's], ?_, sortWorld_chg _ _ _ _ _ _⟩
  · have hj' : j < d'.size := by simpa using hj
    have := hsi i j (Nat.zero_le _) hij (by omega)
    rw [hltf, getElem!_pos d' i (by omega), getElem!_pos d' j hj'] at this
    simpa using this
  · have := sortWorld_own (fun x : Fin l.length => natV x.1) hown n d' os hd's
    rw [List.map_map]; exact this

end Go.Proofs.Ytpbmhdkhkbhgnaa

namespace Go.Proofs.Ytpbmhdkhkbhgnaa
open Go.RowKit

/-- A number is a symbol. -/
def symIs (s : Int) : Bool := decide (0 ≤ s ∧ s < 257)
/-- A symbol's path of a level. -/
def symPath (s l : Int) : Int := if 0 ≤ s ∧ s < 257 ∧ 0 ≤ l ∧ l ≤ 9 then s / 2 ^ (9 - l).toNat else -1
/-- A symbol's bit of a level. -/
def symBit (s l : Int) : Bool := decide (0 ≤ s ∧ s < 257 ∧ 0 ≤ l ∧ l < 9 ∧ s / 2 ^ (8 - l).toNat % 2 = 1)

theorem symIs_true {s : Int} (h0 : 0 ≤ s) (h1 : s < 257) : symIs s = true := by simp [symIs, h0, h1]
theorem symIs_false {s : Int} (h : ¬ (0 ≤ s ∧ s < 257)) : symIs s = false := by simp only [symIs]; exact decide_eq_false h

theorem and_one_i64 (x : Int) (h0 : 0 ≤ x) (h1 : x < 9223372036854775808) : bits BinOp.and IntKind.i64 x 1 = x % 2 := by
  have h := Go.Proofs.and_one x.toNat (by omega)
  rw [Int.toNat_of_nonneg h0] at h
  rw [h]; omega

theorem shr_bd (s : Int) (n : Nat) (h0 : 0 ≤ s) (h1 : s < 257) : 0 ≤ s / 2 ^ n ∧ s / 2 ^ n < 257 := by
  have h2 : (0 : Int) < 2 ^ n := Int.pow_pos (by omega)
  refine ⟨Int.ediv_nonneg h0 (by omega), ?_⟩
  have := Int.ediv_le_self (2 ^ n) h0
  omega

theorem symIs_any (s : Int) (w : World) : Calls Try.prog 90 #[.int .i64 s] w fun e w' => e = .returned (.bool (symIs s)) ∧ w = w' := by
  by_cases h0 : 0 ≤ s
  · by_cases h1 : s < 257
    · have e : symIs s = true := symIs_true h0 h1
      rw [e]
      go_enter Try.func90, Try.ntmps90
      go_wp2
      go_ret
      exact ⟨rfl, rfl⟩
    · have e : symIs s = false := symIs_false (by omega)
      rw [e]
      go_enter Try.func90, Try.ntmps90
      go_wp2
      go_ret
      exact ⟨rfl, rfl⟩
  · have e : symIs s = false := symIs_false (by omega)
    rw [e]
    go_enter Try.func90, Try.ntmps90
    go_wp2
    go_ret
    exact ⟨rfl, rfl⟩

theorem symOf_any (b : Int) (w : World) (h0 : 0 ≤ b) (h1 : b < 256) : Calls Try.prog 68 #[.int .u8 b] w fun e w' => e = .returned (.int .i64 (b + 1)) ∧ w = w' := by
  go_enter Try.func68, Try.ntmps68
  go_wp2
  go_ret
  exact ⟨rfl, rfl⟩

theorem symByte_yes (s : Int) (w : World) (h0 : 1 ≤ s) (h1 : s < 257) : Calls Try.prog 62 #[.int .i64 s] w fun e w' => e = .returned (.tuple #[.int .u8 (s - 1), .bool true]) ∧ w = w' := by
  have e : symIs s = true := symIs_true (by omega) h1
  have hd : (s == 0) = false := by simp; omega
  go_enter Try.func62, Try.ntmps62
  go_wp2_with (go_at_call 90; refine (symIs_any _ _).mono ?_; rintro e w' ⟨rfl, rfl⟩)
  go_ret2
  exact ⟨rfl, rfl⟩

theorem symByte_no (s : Int) (w : World) (h : ¬ (1 ≤ s ∧ s < 257)) : Calls Try.prog 62 #[.int .i64 s] w fun e w' => e = .returned (.tuple #[.int .u8 0, .bool false]) ∧ w = w' := by
  by_cases hz : s = 0
  · subst hz
    go_enter Try.func62, Try.ntmps62
    go_wp2
    go_ret2
    exact ⟨rfl, rfl⟩
  · have e : symIs s = false := symIs_false (by omega)
    have hd : (s == 0) = false := by simp; omega
    go_enter Try.func62, Try.ntmps62
    go_wp2_with (go_at_call 90; refine (symIs_any _ _).mono ?_; rintro e w' ⟨rfl, rfl⟩)
    go_ret2
    exact ⟨rfl, rfl⟩

theorem symBit_in {s l : Int} (h0 : 0 ≤ s) (h1 : s < 257) (h2 : 0 ≤ l) (h3 : l < 9) : (bits BinOp.and IntKind.i64 (s / 2 ^ (8 - l).toNat) 1 == 1) = symBit s l := by
  have hb := shr_bd s (8 - l).toNat h0 h1
  rw [and_one_i64 _ hb.1 (by omega)]
  simp only [symBit, h0, h1, h2, h3, true_and]
  rfl

end Go.Proofs.Ytpbmhdkhkbhgnaa

namespace Go.Proofs.Ytpbmhdkhkbhgnaa
open Go.RowKit

/-- The first j parts, one behind the other. -/
def cat (px : Nat → List Int) : Nat → List Int
  | 0 => []
  | j + 1 => cat px j ++ px j
theorem cat_le (px : Nat → List Int) {j m : Nat} (h : j ≤ m) : (cat px j).length ≤ (cat px m).length := by
  induction m with
  | zero => have : j = 0 := by omega
            subst this; exact Nat.le_refl _
  | succ m ih =>
    by_cases e : j = m + 1
    · subst e; exact Nat.le_refl _
    · have := ih (by omega)
      simp only [cat, List.length_append]; omega

/-- A byte's symbol, as a value. -/
def symV (x : Int) : Value := .int .i64 (x + 1)

theorem Try.infoInt : (Try.prog.info? 3).map (fun i => (i.zero, i.size, i.bytes)) = some (some (.int .i64 0), 1, 8) := by kernel_rfl

set_option maxHeartbeats 1600000 in
set_option maxRecDepth 100000 in
theorem symAll_any (pb m c : Nat) (pa : Nat → Option Addr) (pc : Nat → Nat) (px : Nat → List Int) (w : World)
    (hm : m ≤ 9223372036854775807)
    (hcell : ∀ j, j < m → w.cell? ⟨pb, j, none⟩ = some (.slice (pa j) (px j).length (pc j))) (hpb : pb < w.heap.size)
    (hread : ∀ j, j < m → Reads w .u8 (pa j) (px j)) (hbyte : ∀ j, j < m → ∀ i, i < (px j).length → 0 ≤ (px j)[i]?.getD 0 ∧ (px j)[i]?.getD 0 < 256)
    (htot : (cat px m).length ≤ 1000000000) :
    Calls Try.prog 26 #[.slice (some ⟨pb, 0, none⟩) m c] w fun e w' =>
      ∃ v, e = .returned v ∧ w'.ownsRow w.heap.size 3 1 v ((cat px m).length + 1) ((cat px m).map symV ++ [.int .i64 0]) ∧ Below w.heap.size w w' := by
  go_enter Try.func26, Try.ntmps26
  go_wp2
  go_loopw [3, 10] (fun v i wr => ∃ k : Nat, k ≤ m ∧ i = .int .i64 k ∧ wr.ownsRow w.heap.size 3 1 v (cat px k).length ((cat px k).map symV) ∧ Below w.heap.size w wr)
    (fun _ i _ => m - (intOf i).toNat)
  case atStart => exact ⟨0, Nat.zero_le _, rfl, World.ownsRow_nil _ _ _ _, Below.refl _ _⟩
  case round =>
    obtain ⟨k, hk, rfl, hown, hnx⟩ := hrel
    obtain ⟨wo, rfl⟩ : ∃ wo : World, wo = wr := ⟨_, rfl⟩
    have hs0 := hnx.size
    by_cases hlt : k < m
    · have hc := (hnx.cell (p := ⟨pb, k, none⟩) hpb).trans (hcell k hlt)
      have hr := hread k hlt
      have hb := hbyte k hlt
      have hcl : (cat px (k + 1)).length ≤ 1000000000 := Nat.le_trans (cat_le px (by omega)) htot
      have hcl2 : (cat px k).length + (px k).length ≤ 1000000000 := by simpa [cat] using hcl
      have HC : Hid (cat px (k + 1) = cat px k ++ px k) := rfl
      clear hcell hread hbyte
      generalize hX : px k = xs at *
      generalize pa k = pk at *
      have HX := Lib.hid hX; clear hX
      go_wp2_with fail
      go_loopw [3, 16] (fun v i wr => ∃ n : Nat, n ≤ xs.length ∧ i = .int .i64 n ∧ wr.ownsRow w.heap.size 3 1 v ((cat px k).length + n) ((cat px k ++ xs.take n).map symV) ∧ Below w.heap.size w wr)
        (fun _ i _ => xs.length - (intOf i).toNat)
      case atStart => exact ⟨0, Nat.zero_le _, rfl, by simpa using hown, hnx⟩
      case round =>
        obtain ⟨n, hn, rfl, hown, hnx⟩ := hrel
        have hs1 := hnx.size
        by_cases hln : n < xs.length
        · obtain ⟨b, off, rfl, hlt2, hcells⟩ := hr.some (by omega)
          have hcx := (hnx.cell (p := ⟨b, off + n, none⟩) hlt2).trans (hcells n hln)
          obtain ⟨hb0, hb1⟩ := hb n hln
          have htake : (cat px k ++ xs.take (n + 1)).map symV = (cat px k ++ xs.take n).map symV ++ [symV (xs[n]?.getD 0)] := by
            rw [List.take_add_one, List.getElem?_eq_getElem hln]; simp only [List.map_append, List.append_assoc, Option.toList_some, Option.getD_some, List.map_cons, List.map_nil]
          clear hcells hr hb
          generalize xs[n]?.getD 0 = x at *
          have HT := Lib.hid htake; clear htake
          go_wp2_with (first
            | (go_at_call 68; refine (symOf_any _ _ hb0 hb1).mono ?_; rintro e w' ⟨rfl, rfl⟩)
            | (at_builtin; refine wpList_push rfl _ _ 22 rfl w.heap.size 3 Try.infoInt Try.underlying22 rfl _ _ _ rfl hown rfl rfl ?c1 ?c2 ?c3 ?_))
          case c1 => unfold maxLen; omega
          case c2 => omega
          case c3 => omega
          intro v' w1 hown' hgrow
          have hnx' : Below w.heap.size w w1 := hnx.grown hgrow hs1 (fun j hj => (hown.lt j hj).1)
          go_wp2
          go_roundw
          case rel => exact ⟨n + 1, by omega, by simp, by rw [HT.out]; simpa only [List.map_append, List.map_take, List.append_assoc, Nat.add_assoc, symV] using hown', hnx'⟩
          case measure => simp [intOf]; omega
        · have he : n = xs.length := by omega
          subst he
          rw [List.take_length] at hown
          go_wp2
          go_roundw
          case rel => exact ⟨k + 1, by omega, by simp, by rw [HC.out, List.length_append]; exact hown, hnx⟩
          case measure => simp [intOf]; omega
    · have he : k = m := by omega
      subst he
      go_wp2_with (at_builtin; refine wpList_push rfl _ _ 22 rfl w.heap.size 3 Try.infoInt Try.underlying22 rfl _ _ _ rfl hown rfl rfl ?c1 ?c2 ?c3 ?_)
      case c1 => unfold maxLen; omega
      case c2 => omega
      case c3 => omega
      intro v' w1 hown' hgrow
      have hnx' : Below w.heap.size w w1 := hnx.grown hgrow hs0 (fun j hj => (hown.lt j hj).1)
      go_wp2
      go_ret
      exact ⟨_, rfl, hown', hnx'⟩

end Go.Proofs.Ytpbmhdkhkbhgnaa

namespace Go.Proofs.Ytpbmhdkhkbhgnaa
open Go.RowKit

theorem symAll1 (pb c : Nat) (a0 : Option Addr) (c0 : Nat) (x0 : List Int) (w : World) (hpb : pb < w.heap.size)
    (h0 : w.cell? ⟨pb, 0, none⟩ = some (.slice a0 x0.length c0)) (r0 : Reads w .u8 a0 x0) (b0 : Bytes x0) (ht : x0.length ≤ 1000000000) :
    Calls Try.prog 26 #[.slice (some ⟨pb, 0, none⟩) 1 c] w fun e w' =>
      ∃ v, e = .returned v ∧ w'.ownsRow w.heap.size 3 1 v (x0.length + 1) (x0.map symV ++ [.int .i64 0]) ∧ Below w.heap.size w w' := by
  have h := symAll_any pb 1 c (fun _ => a0) (fun _ => c0) (fun _ => x0) w (by omega) (fun j hj => by obtain rfl : j = 0 := by omega
                                                                                                     exact h0) hpb (fun _ _ => r0) (fun _ _ => b0) (by simpa [cat] using ht)
  simpa [cat] using h

theorem symAll2 (pb c : Nat) (a0 : Option Addr) (c0 : Nat) (x0 : List Int) (a1 : Option Addr) (c1 : Nat) (x1 : List Int) (w : World) (hpb : pb < w.heap.size)
    (h0 : w.cell? ⟨pb, 0, none⟩ = some (.slice a0 x0.length c0)) (r0 : Reads w .u8 a0 x0) (b0 : Bytes x0)
    (h1 : w.cell? ⟨pb, 1, none⟩ = some (.slice a1 x1.length c1)) (r1 : Reads w .u8 a1 x1) (b1 : Bytes x1) (ht : x0.length + x1.length ≤ 1000000000) :
    Calls Try.prog 26 #[.slice (some ⟨pb, 0, none⟩) 2 c] w fun e w' =>
      ∃ v, e = .returned v ∧ w'.ownsRow w.heap.size 3 1 v ((x0 ++ x1).length + 1) ((x0 ++ x1).map symV ++ [.int .i64 0]) ∧ Below w.heap.size w w' := by
  have h := symAll_any pb 2 c (fun j => match j with | 0 => a0 | _ => a1) (fun j => match j with | 0 => c0 | _ => c1) (fun j => match j with | 0 => x0 | _ => x1) w (by omega)
    (fun j hj => by match j, hj with
                    | 0, _ => exact h0
                    | 1, _ => exact h1) hpb
    (fun j hj => by match j, hj with
                    | 0, _ => exact r0
                    | 1, _ => exact r1)
    (fun j hj => by match j, hj with
                    | 0, _ => exact b0
                    | 1, _ => exact b1) (by simpa [cat] using ht)
  simpa [cat] using h

theorem symAll3 (pb c : Nat) (a0 : Option Addr) (c0 : Nat) (x0 : List Int) (a1 : Option Addr) (c1 : Nat) (x1 : List Int) (a2 : Option Addr) (c2 : Nat) (x2 : List Int) (w : World) (hpb : pb < w.heap.size)
    (h0 : w.cell? ⟨pb, 0, none⟩ = some (.slice a0 x0.length c0)) (r0 : Reads w .u8 a0 x0) (b0 : Bytes x0)
    (h1 : w.cell? ⟨pb, 1, none⟩ = some (.slice a1 x1.length c1)) (r1 : Reads w .u8 a1 x1) (b1 : Bytes x1)
    (h2 : w.cell? ⟨pb, 2, none⟩ = some (.slice a2 x2.length c2)) (r2 : Reads w .u8 a2 x2) (b2 : Bytes x2) (ht : x0.length + x1.length + x2.length ≤ 1000000000) :
    Calls Try.prog 26 #[.slice (some ⟨pb, 0, none⟩) 3 c] w fun e w' =>
      ∃ v, e = .returned v ∧ w'.ownsRow w.heap.size 3 1 v ((x0 ++ x1 ++ x2).length + 1) ((x0 ++ x1 ++ x2).map symV ++ [.int .i64 0]) ∧ Below w.heap.size w w' := by
  have h := symAll_any pb 3 c (fun j => match j with | 0 => a0 | 1 => a1 | _ => a2) (fun j => match j with | 0 => c0 | 1 => c1 | _ => c2) (fun j => match j with | 0 => x0 | 1 => x1 | _ => x2) w (by omega)
    (fun j hj => by match j, hj with
                    | 0, _ => exact h0
                    | 1, _ => exact h1
                    | 2, _ => exact h2) hpb
    (fun j hj => by match j, hj with
                    | 0, _ => exact r0
                    | 1, _ => exact r1
                    | 2, _ => exact r2)
    (fun j hj => by match j, hj with
                    | 0, _ => exact b0
                    | 1, _ => exact b1
                    | 2, _ => exact b2) (by simp [cat]; omega)
  simpa [cat] using h

end Go.Proofs.Ytpbmhdkhkbhgnaa
