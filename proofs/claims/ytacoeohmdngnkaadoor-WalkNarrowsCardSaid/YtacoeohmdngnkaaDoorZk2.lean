/- Lemmas and contracts under the claims of this seat: scrimshawlaw1.told and the law's small helpers; contracts of package bits where arguments and answers are numerals. Frames: which blocks a step may have changed; own rows and rows that are read behind it; of no program. Laws on append that say where the new row lies; of no program. Rows that are read, of whatever cells; slices of them; append, operation by operation; of no program. Laws to meet a region that draws its order, one operation after the other; of no program. Contracts of package block that read: Len, has, Get, Ones, Rank, Select. Contracts of block.Rank and block.Select. Arrays whose cells are told by a function of the place; of no program. Contracts of package block that write: New, set, Insert, Delete. Contracts of block.All, Split, Join. Plain lemmas on arenas, of no program: which nodes are taken, which are free. Contracts of package arena: New, Take, Free, Is, Live, Made. Contracts of arena.Take. Contracts of arena.Free. -/
import Derived.Test.YtacoeohmdngnkaaDoorZk1
import Derived.Laws.AppendOwnNone
import Derived.Deep.Draws
import Derived.OneCell
import Derived.Deep.AppendLies
import Derived.Deep.RegionHeld3
import Derived.LoopN
import Derived.Deep.DeepCutAuto
import Derived.Deep.CutBlock
import Derived.Deep.CutRange
import Derived.Laws.MakeOwn
import Derived.LaidEqlPtr
import Derived.Deep.QuietTactic
import Derived.BigQuiet
import Derived.Below

namespace Go.Proofs.YtacoeohmdngnkaaDoor
set_option linter.unusedVariables false
set_option linter.unusedSimpArgs false
open Go.RowKit

theorem rank_lit {X K Y : Int} (x : Nat) (w : World) (hx : x < 2 ^ 64) (eX : X = (x : Int)) (eY : ((pc x (min K.toNat 64) : Nat) : Int) = Y) :
    Calls Tryd.prog 71 #[.int .u64 X, .int .i64 K] w fun e w' => e = .returned (.int .i64 Y) ∧ Below w.heap.size w w' := by
  subst eX eY; exact rank_any x K w hx
theorem select_lit {X K Y : Int} (x : Nat) (w : World) (hx : x < 2 ^ 64) (hT : BitTab w) (eX : X = (x : Int)) (eY : sel x K = Y) :
    Calls Tryd.prog 72 #[.int .u64 X, .int .i64 K] w fun e w' => e = .returned (.int .i64 Y) ∧ Below w.heap.size w w' := by
  subst eX eY; exact select_any x K w hx hT
theorem count_lit {a : Option Addr} {n c : Nat} {Y : Int} (ws : List Nat) (w : World) (hn : n = ws.length) (hr : Reads w .u64 a (ws.map natI)) (hw : ∀ x ∈ ws, x < 2 ^ 64) (hl : ws.length ≤ 1000000000000000) (eY : (pcs ws : Int) = Y) :
    Calls Tryd.prog 70 #[.slice a n c] w fun e w' => e = .returned (.int .i64 Y) ∧ w = w' := by
  subst hn eY; exact count_any a c ws w hr hw hl
theorem below_alloc (w : World) (o : Obj) : Below w.heap.size w (w.alloc o) := (Below.refl _ _).alloc (Nat.le_refl _) _

theorem not_u64 {x : Nat} (hx : x < 2 ^ 64) : bits .xor .u64 18446744073709551615 (x : Int) = ((notW x : Nat) : Int) := by
  have h := u64_xor_nat 18446744073709551615 x (by omega) hx
  rw [show ((18446744073709551615 : Nat) : Int) = 18446744073709551615 from rfl] at h
  rw [h]
  congr 1
  refine word_ext (n := 64) (Nat.xor_lt_two_pow (by omega) hx) (notW_lt x) (fun i hi => ?_)
  rw [Nat.testBit_xor, notW_bit hx hi, show (18446744073709551615 : Nat) = 2 ^ 64 - 1 from rfl, Nat.testBit_two_pow_sub_one]
  simp [hi]

theorem not_run {x : Nat} (hx : x < 2 ^ 64) : Op.unary .xor (.int .u64 (x : Int)) = pure (.int .u64 ((notW x : Nat) : Int)) := by
  have h : Op.unary .xor (.int .u64 (x : Int)) = pure (.int .u64 (bits .xor .u64 IntKind.u64.max (x : Int))) := rfl
  rw [h, show IntKind.u64.max = 18446744073709551615 by decide, not_u64 hx]

end Go.Proofs.YtacoeohmdngnkaaDoor

namespace Go.Proofs.YtacoeohmdngnkaaDoor
set_option linter.unusedVariables false
set_option linter.unusedSimpArgs false
open Go.RowKit

/-- Outside S all blocks that were there are as they were. -/
structure Chg (S : Nat → Prop) (w w' : World) : Prop where
  os : w'.os = w.os
  tape : w'.tape = w.tape
  output : w'.output = w.output
  size : w.heap.size ≤ w'.heap.size
  block : ∀ k, k < w.heap.size → ¬ S k → w'.heap[k]? = w.heap[k]?

section
variable {S S' : Nat → Prop} {w w1 w2 w' : World}

theorem Chg.refl : Chg S w w := ⟨rfl, rfl, rfl, Nat.le_refl _, fun _ _ _ => rfl⟩
theorem Chg.trans (h : Chg S w w1) (k : Chg S' w1 w2) (hs : ∀ b, S' b → S b ∨ w.heap.size ≤ b) : Chg S w w2 :=
  ⟨k.os.trans h.os, k.tape.trans h.tape, k.output.trans h.output, Nat.le_trans h.size k.size, fun b hb hn =>
    (k.block b (Nat.lt_of_lt_of_le hb h.size) (fun hs' => (hs b hs').elim hn (fun h' => by omega))).trans (h.block b hb hn)⟩
theorem Chg.mono (h : Chg S w w') (hs : ∀ b, S b → S' b) : Chg S' w w' := ⟨h.os, h.tape, h.output, h.size, fun b hb hn => h.block b hb (fun x => hn (hs b x))⟩
theorem Chg.drew (h : Chg S w w') : Chg S w w'.drew := ⟨h.os, h.tape, h.output, h.size, h.block⟩
theorem Chg.drewN (h : Chg S w w') (n : Nat) : Chg S w (w'.drewN n) := ⟨h.os, h.tape, h.output, h.size, h.block⟩
theorem Chg.alloc (h : Chg S w w') (o : Obj) : Chg S w (w'.alloc o) :=
  ⟨h.os, h.tape, h.output, by have := h.size; simp; omega, fun b hb hn => by rw [Below.heap_alloc w' o b (by have := h.size; omega)]; exact h.block b hb hn⟩
theorem Chg.setCell (h : Chg S w w') (p : Addr) (hp : S p.block ∨ w.heap.size ≤ p.block) (u : Value) : Chg S w (w'.setCell p u) :=
  ⟨h.os, h.tape, h.output, by have := h.size; simpa [World.setCell] using this, fun b hb hn => by
    rw [Below.heap_setCell w' p u b (fun e => by subst e; exact hp.elim hn (fun h' => by omega))]; exact h.block b hb hn⟩
theorem Chg.grown {row : Option Nat} (h : Chg S w w1) (hg : w1.grownBy w' row) (hr : ∀ k, row = some k → S k ∨ w.heap.size ≤ k) : Chg S w w' :=
  ⟨hg.os.trans h.os, hg.tape.trans h.tape, hg.output.trans h.output, Nat.le_trans h.size hg.size, fun b hb hn =>
    (hg.block b (Nat.lt_of_lt_of_le hb h.size) (fun e => (hr b e.symm).elim hn (fun h' => by omega))).trans (h.block b hb hn)⟩
theorem Chg.below (h : Chg S w w') {B : Nat} (hs : ∀ b, S b → B ≤ b) (hB : B ≤ w.heap.size) : Below B w w' :=
  ⟨h.os, h.tape, h.output, h.size, fun b hb => h.block b (by omega) (fun x => by have := hs b x; omega)⟩
theorem Chg.of_below (h : Below w.heap.size w w') : Chg S w w' := ⟨h.os, h.tape, h.output, h.size, fun b hb _ => h.block b hb⟩
theorem Chg.heap (h : Chg S w w') {b : Nat} {o : Obj} (hb : w.heap[b]? = some o) (hn : ¬ S b) : w'.heap[b]? = some o :=
  (h.block b (Array.getElem?_eq_some_iff.1 hb).1 hn).trans hb
theorem Chg.cell (h : Chg S w w') {p : Addr} {v : Value} (hc : w.cell? p = some v) (hn : ¬ S p.block) : w'.cell? p = some v :=
  (World.cell?_of_block (h.block p.block (World.block_lt_of_cell? w p hc) hn)).trans hc
theorem Chg.own (h : Chg S w w') {base : Nat} {e : TypeId} {sz : Nat} {v : Value} {n : Nat} {xs : List Value} (ho : w.ownsRow base e sz v n xs) (hn : ∀ k, v.ownBlock = some k → ¬ S k) : w'.ownsRow base e sz v n xs := by
  refine ⟨ho.1, ?_⟩
  rcases ho.2 with hx | ⟨g, cap, cur, rfl, hbg, hg, rest⟩
  · exact .inl hx
  · exact .inr ⟨g, cap, cur, rfl, hbg, h.heap hg (hn g rfl), rest⟩
theorem Chg.reads (h : Chg S w w') {k : IntKind} {a : Option Addr} {xs : List Int} (hr : Reads w k a xs) (hn : ∀ ad, a = some ad → ¬ S ad.block) : Reads w' k a xs := by
  intro i hi
  obtain ⟨b, off, rfl, hlt, hc⟩ := hr i hi
  exact ⟨b, off, rfl, by have := h.size; omega, fun j hj => h.cell (hc j hj) (hn ⟨b, off, none⟩ rfl)⟩
end

/-- An own row, as a slice: its address is nothing or the head of a block; a row that is read. -/
theorem own_slice {w : World} {base : Nat} {e : TypeId} {sz : Nat} {v : Value} {n : Nat} {xs : List Value} (h : w.ownsRow base e sz v n xs) :
    ∃ a c, v = .slice a n c ∧ (a = none → n = 0 ∧ c = 0) ∧ (∀ ad, a = some ad → ∃ g, ad = ⟨g, 0, none⟩ ∧ base ≤ g ∧ g < w.heap.size ∧ v.ownBlock = some g) := by
  rcases h.2 with ⟨rfl, rfl⟩ | ⟨g, cap, cur, rfl, hbg, hg, rest⟩
  · exact ⟨none, 0, rfl, (fun _ => ⟨rfl, rfl⟩), fun ad h => by cases h⟩
  · exact ⟨some ⟨g, 0, none⟩, cap, rfl, (fun h => by cases h), fun ad h => by cases h; exact ⟨g, rfl, hbg, (Array.getElem?_eq_some_iff.1 hg).1, rfl⟩⟩

theorem own_lt {w : World} {base : Nat} {e : TypeId} {sz : Nat} {v : Value} {n : Nat} {xs : List Value} (h : w.ownsRow base e sz v n xs) {k : Nat} (hk : v.ownBlock = some k) : base ≤ k ∧ k < w.heap.size := h.lt k hk

/-- A store into an own row of one-cell elements. -/
theorem own_set {w : World} {base : Nat} {e : TypeId} {g cap n : Nat} {xs : List Value} (h : w.ownsRow base e 1 (.slice (some ⟨g, 0, none⟩) n cap) n xs) (j : Nat) (u : Value) :
    (w.setCell ⟨g, j, none⟩ u).ownsRow base e 1 (.slice (some ⟨g, 0, none⟩) n cap) n (xs.set j u) := by
  obtain ⟨h1, h2⟩ := h
  refine ⟨by simpa using h1, ?_⟩
  rcases h2 with ⟨h, _⟩ | ⟨g', cap', cur, hv, hb, hg, hc, hm, hs, ht⟩
  · cases h
  · injection hv with e1 e2 e3
    simp only [Option.some.injEq, Addr.mk.injEq, and_true] at e1
    subst e1; subst e3
    refine .inr ⟨g, cap, cur.setIfInBounds j u, rfl, hb, heap_setCell_same w g j cur e u hg, hc, hm, by simpa using hs, ?_⟩
    rw [Array.toList_setIfInBounds, ← ht, List.take_set]

/-- The first elements of an own row. -/
theorem own_take {w : World} {base : Nat} {e : TypeId} {g cap n m : Nat} {xs : List Value} (h : w.ownsRow base e 1 (.slice (some ⟨g, 0, none⟩) n cap) n xs) (hm : m ≤ n) :
    w.ownsRow base e 1 (.slice (some ⟨g, 0, none⟩) m cap) m (xs.take m) := by
  obtain ⟨h1, h2⟩ := h
  refine ⟨by rw [List.length_take]; omega, ?_⟩
  rcases h2 with ⟨h, _⟩ | ⟨g', cap', cur, hv, hb, hg, hc, hmx, hs, ht⟩
  · cases h
  · injection hv with e1 e2 e3
    simp only [Option.some.injEq, Addr.mk.injEq, and_true] at e1
    subst e1; subst e3
    refine .inr ⟨g, cap, cur, rfl, hb, hg, by omega, hmx, hs, ?_⟩
    rw [← ht, List.take_take]
    congr 1; omega

end Go.Proofs.YtacoeohmdngnkaaDoor

namespace Go.Proofs.YtacoeohmdngnkaaDoor
set_option linter.unusedVariables false
set_option linter.unusedSimpArgs false
open Go.RowKit

/-- 'l = append(l, x)': one element is pushed; the new row is the old one or a new block. -/
theorem wpList_pushL {P : Program} {w : World} {ops : Array Oper} {rest : List Oper} {o : Oper} {a : Act} {Q : Exit → Act → World → Prop} {e' : TypeId} {u : Value} (hgd : o.guard = none) (s x : Operand) (t : TypeId)
    (ho : o.op = .call { callee := .builtin .append, args := #[s, x], argTypes := #[t, t] })
    (base : Nat) (e : TypeId) {z : Value} {bytes : Nat} (hinfo : (P.info? e).map (fun i => (i.zero, i.size, i.bytes)) = some (some z, 1, bytes)) (ht : P.underlying t = some (.slice e)) (hz1 : z.cells.size = 1)
    (v : Value) (n : Nat) (xs : List Value) (hs : a.eval s = v) (hown : w.ownsRow base e 1 v n xs)
    (hx : a.eval x = .slice (some ⟨w.heap.size, 0, none⟩) 1 1) (h1 : u.oneCell' = true)
    (h63 : n + 1 ≤ maxLen) (hbytes : (n + 1) * bytes ≤ 140737488355328) (hbase : base ≤ w.heap.size)
    (h : ∀ g cap w', w'.ownsRow base e 1 (.slice (some ⟨g, 0, none⟩) (n + 1) cap) (n + 1) (xs ++ [u]) → w.grownBy w' v.ownBlock → (v.ownBlock = some g ∨ w.heap.size ≤ g) → g < w'.heap.size →
      wpList P ops Q rest (a.put o.dst (.slice (some ⟨g, 0, none⟩) (n + 1) cap)) w') : wpList P ops Q (o :: rest) a (w.alloc (.cells #[u] e')) := by
  obtain ⟨i, hi, hz, hsz, hby⟩ := info_parts hinfo
  refine wpList_append_lies (w.alloc (.cells #[u] e')) hgd s x t ho base e i z 1 bytes ht hi hz hsz hby hz1 (by omega) v n xs hs (hown.alloc _) ⟨w.heap.size, 0, none⟩ 1 1 [u] hx rfl ?_ ?_ (by omega) h63 hbytes ?_ _ rfl ?_
  · intro j u' hj
    match j, hj with
    | 0, hj => simp at hj; subst hj; simp [Addr.add]
  · intro u' hu; simp at hu; subst hu; exact h1
  · simp; omega
  · intro g cap w' h1 h2 h3 h4
    exact h g cap w' h1 ⟨h2.os, h2.tape, h2.output, by have := h2.size; simp at this; omega, fun k hk hne => by
      rw [h2.block k (by simp; omega) hne]; exact Below.heap_alloc w _ k hk⟩ (h3.imp id (fun h => by simp at h; omega)) h4

end Go.Proofs.YtacoeohmdngnkaaDoor

namespace Go.Proofs.YtacoeohmdngnkaaDoor
set_option linter.unusedVariables false
set_option linter.unusedSimpArgs false
open Go.RowKit

/-- A row that is read: its cells. -/
def ReadsV (w : World) (a : Option Addr) (xs : List Value) : Prop :=
  ∀ i, i < xs.length → ∃ b off, a = some ⟨b, off, none⟩ ∧ b < w.heap.size ∧ ∀ j u, xs[j]? = some u → w.cell? ⟨b, off + j, none⟩ = some u

section
variable {w w' : World} {a : Option Addr} {xs : List Value}
theorem ReadsV.nil : ReadsV w a [] := fun i hi => absurd hi (by simp)
theorem ReadsV.some (h : ReadsV w a xs) (hn : 0 < xs.length) : ∃ b off, a = some ⟨b, off, none⟩ ∧ b < w.heap.size ∧ ∀ j u, xs[j]? = some u → w.cell? ⟨b, off + j, none⟩ = some u := h 0 hn
theorem ReadsV.below {B : Nat} (h : ReadsV w a xs) (hb : Below B w w') (hB : ∀ ad, a = Option.some ad → ad.block < B) : ReadsV w' a xs := by
  intro i hi
  obtain ⟨b, off, rfl, hlt, hc⟩ := h i hi
  exact ⟨b, off, rfl, by have := hb.size; omega, fun j u hj => (hb.cell (p := ⟨b, off + j, none⟩) (hB ⟨b, off, none⟩ rfl)).trans (hc j u hj)⟩
theorem ReadsV.below' (h : ReadsV w a xs) (hb : Below w.heap.size w w') : ReadsV w' a xs := by
  intro i hi
  obtain ⟨b, off, rfl, hlt, hc⟩ := h i hi
  exact ⟨b, off, rfl, by have := hb.size; omega, fun j u hj => (hb.cell (p := ⟨b, off + j, none⟩) hlt).trans (hc j u hj)⟩
theorem ReadsV.chg {S : Nat → Prop} (h : ReadsV w a xs) (hc : Chg S w w') (hn : ∀ ad, a = Option.some ad → ¬ S ad.block) : ReadsV w' a xs := by
  intro i hi
  obtain ⟨b, off, rfl, hlt, hk⟩ := h i hi
  exact ⟨b, off, rfl, by have := hc.size; omega, fun j u hj => hc.cell (hk j u hj) (hn ⟨b, off, none⟩ rfl)⟩
theorem ReadsV.take (h : ReadsV w a xs) (k : Nat) : ReadsV w a (xs.take k) := by
  intro i hi
  rw [List.length_take] at hi
  obtain ⟨b, off, ha, hlt, hc⟩ := h i (by omega)
  exact ⟨b, off, ha, hlt, fun j u hj => hc j u (by
    rw [List.getElem?_take] at hj
    split at hj
    · exact hj
    · cases hj)⟩

/-- The address of a slice from k on. -/
def offA (a : Option Addr) (k cap : Nat) : Option Addr := if cap = k then a else a.map (·.add k)
theorem ReadsV.drop (h : ReadsV w a xs) {k cap : Nat} (hc : xs.length ≤ cap) : ReadsV w (offA a k cap) (xs.drop k) := by
  intro i hi
  rw [List.length_drop] at hi
  obtain ⟨b, off, rfl, hlt, hx⟩ := h i (by omega)
  have hne : ¬ cap = k := by omega
  refine ⟨b, off + k, by simp [offA, hne, Addr.add_lit], hlt, fun j u hj => ?_⟩
  rw [List.getElem?_drop] at hj
  have := hx (k + j) u hj
  rwa [Nat.add_assoc]
theorem readsV_own {base : Nat} {e : TypeId} {n c : Nat} {a : Option Addr} (h : w.ownsRow base e 1 (.slice a n c) n xs) : ReadsV w a xs := by
  have hl := own_len h
  intro i hi
  obtain ⟨g, cap, hv, hb, hg, hc, hm, hcell, _⟩ := own_some h (by omega)
  injection hv with h1 h2 h3
  exact ⟨g, 0, h1, hg, fun j u hj => by rw [Nat.zero_add, hcell j (by have := (List.getElem?_eq_some_iff.1 hj).1; omega), hj]⟩
theorem readsV_block {b : Nat} {T : TypeId} (h : w.heap[b]? = some (.cells xs.toArray T (0, 0))) : ReadsV w (some ⟨b, 0, none⟩) xs := by
  intro i hi
  refine ⟨b, 0, rfl, (Array.getElem?_eq_some_iff.1 h).1, fun j u hj => ?_⟩
  rw [cell_of_row w b (0 + j) _ _ _ h, Nat.zero_add, List.getElem?_toArray, hj]
end

section
variable {P : Program} {w : World}
end

theorem Tryd.infoBoolR : (Tryd.prog.info? 4).map (fun i => (i.zero, i.size, i.bytes)) = some (some (.bool false), 1, 1) := by kernel_rfl

end Go.Proofs.YtacoeohmdngnkaaDoor

namespace Go.Proofs.YtacoeohmdngnkaaDoor
open Go.RowKit

section
variable {P : Program} {md : Region.Mode} {l : List Oper} {Q : Exit → Act → World → Prop} {S : World → Prop} {i : Nat} {oi : Oper} {fuel : Nat} {listed : Array Bool} {a : Act} {w : World}

theorem reg_get (hi : (l.drop i).head? = some oi) : l.toArray[i]? = some oi := by
  rw [List.head?_drop] at hi
  simpa using hi

/-- The beginning. -/
theorem reg_start {id : Nat} (S : World → Prop) (hm : P.follows .mixedOrders = true) (hS : S w.drew)
    (h : S w.drew → wpAnyH P .any l.toArray (NoPanic Q) S l.length (Array.replicate l.length false) a w.drew) : (Code.region id l.toArray true).wp P Q a w := by
  refine wp_region_noPanic (wp_region_held_drew hm hS ?_)
  rw [List.size_toArray]
  exact h

/-- Operation i yields its value in every world that meets S: it is taken now. -/
theorem reg_take {v : Value} (hi : (l.drop i).head? = some oi) (hk : (Region.noSelect l.toArray && Region.free md l.toArray listed i && (Region.ready md l.toArray listed).contains i) = true)
    (hw : Region.wanted oi (yielded l.toArray a.tmps) = true) (hS : S w) (hy : ∀ w, S w → (execOp a.eval oi).run P w = .ok (.value v) w)
    (h : wpAnyH P md l.toArray (NoPanic Q) S fuel (listed.setIfInBounds i true) (a.put oi.dst v) w) : wpAnyH P md l.toArray (NoPanic Q) S (fuel + 1) listed a w := by
  simp only [Bool.and_eq_true] at hk
  exact wpAnyH_take (reg_get hi) hk.1.1 hk.1.2 hk.2 (fun _ _ _ h => h) (Or.inl ⟨hw, hy⟩) hS h

/-- Operation i alone may come up: it is carried out; behind it S is shown anew. -/
theorem reg_loud (hi : (l.drop i).head? = some oi) (hr : Region.ready md l.toArray listed = [i]) (hw : Region.wanted oi (yielded l.toArray a.tmps) = true)
    (h : ∀ K : Act → World → Prop, Shut (∀ a w, S w → (S w → wpAnyH P md l.toArray (NoPanic Q) S fuel (listed.setIfInBounds i true) a w) → K a w) → Oper.wp P oi a w K (NoPanic Q)) :
    wpAnyH P md l.toArray (NoPanic Q) S (fuel + 1) listed a w := by
  refine wpAnyH_ready hr (by simp) (AllReadyH.cons (reg_get hi) (fun K hK => ?_) AllReadyH.nil)
  rw [if_pos hw]
  exact h K hK

/-- Two operations may come up: either is carried out first; behind it S is shown anew. -/
theorem reg_loud2 {j : Nat} {oj : Oper} (hi : (l.drop i).head? = some oi) (hj : (l.drop j).head? = some oj) (hr : Region.ready md l.toArray listed = [i, j]) (hwi : Region.wanted oi (yielded l.toArray a.tmps) = true) (hwj : Region.wanted oj (yielded l.toArray a.tmps) = true)
    (h1 : ∀ K : Act → World → Prop, Shut (∀ a w, S w → (S w → wpAnyH P md l.toArray (NoPanic Q) S fuel (listed.setIfInBounds i true) a w) → K a w) → Oper.wp P oi a w K (NoPanic Q))
    (h2 : ∀ K : Act → World → Prop, Shut (∀ a w, S w → (S w → wpAnyH P md l.toArray (NoPanic Q) S fuel (listed.setIfInBounds j true) a w) → K a w) → Oper.wp P oj a w K (NoPanic Q)) :
    wpAnyH P md l.toArray (NoPanic Q) S (fuel + 1) listed a w := by
  refine wpAnyH_ready hr (by simp) (AllReadyH.cons (reg_get hi) (fun K hK => ?_) (AllReadyH.cons (reg_get hj) (fun K hK => ?_) AllReadyH.nil))
  · rw [if_pos hwi]
    exact h1 K hK
  · rw [if_pos hwj]
    exact h2 K hK

/-- All have come up. -/
theorem reg_done (hr : Region.ready md l.toArray listed = []) (h : Q .normal a w) (n : Nat) : wpAnyH P md l.toArray (NoPanic Q) S n listed a w :=
  wpAnyH_done hr (NoPanic.normal h) n
/-- Operation i is taken now, as reg_take; its value and the frame behind it are found. -/
theorem rt {v : Value} {a' : Act} (i : Nat) {oi : Oper} (hS : S w) (h : wpAnyH P md l.toArray (NoPanic Q) S fuel (listed.setIfInBounds i true) a' w)
    (hi : (l.drop i).head? = some oi := by rfl) (hk : (Region.noSelect l.toArray && Region.free md l.toArray listed i && (Region.ready md l.toArray listed).contains i) = true := by kernel_rfl)
    (hw : Region.wanted oi (yielded l.toArray a.tmps) = true := by rfl) (hy : ∀ w, S w → (execOp a.eval oi).run P w = .ok (.value v) w := by (intro w hSw; (try dsimp only at hSw); go_simp; all_goals with_reducible rfl))
    (hp : a.put oi.dst v = a' := by ((try simp only [Act.put, List.setIfInBounds_toArray, List.set_cons_zero, List.set_cons_succ]); rfl)) : wpAnyH P md l.toArray (NoPanic Q) S (fuel + 1) listed a w := by
  subst hp
  exact reg_take hi hk hw hS hy h
end

end Go.Proofs.YtacoeohmdngnkaaDoor

namespace Go.Proofs.YtacoeohmdngnkaaDoor
set_option linter.unusedVariables false
set_option linter.unusedSimpArgs false
open Go.RowKit

/-- Block p holds a block of bits. -/
def IsBlock (w : World) (p : Nat) (l : List Bool) : Prop :=
  l.length ≤ 128 ∧ w.heap[p]? = some (.cells #[.int .i64 l.length, .int .u64 (loW l), .int .u64 (hiW l)] 71 (0, 0))

section
variable {w w' : World} {p : Nat} {l : List Bool}
theorem IsBlock.lt (h : IsBlock w p l) : p < w.heap.size := (Array.getElem?_eq_some_iff.1 h.2).1
theorem IsBlock.chg {S : Nat → Prop} (h : IsBlock w p l) (hc : Chg S w w') (hn : ¬ S p) : IsBlock w' p l := ⟨h.1, hc.heap h.2 hn⟩
theorem IsBlock.below {B : Nat} (h : IsBlock w p l) (hb : Below B w w') (hp : p < B) : IsBlock w' p l := ⟨h.1, (hb.block p hp).trans h.2⟩
theorem IsBlock.below' (h : IsBlock w p l) (hb : Below w.heap.size w w') : IsBlock w' p l := h.below hb h.lt
theorem IsBlock.drewN (h : IsBlock w p l) (n : Nat) : IsBlock (w.drewN n) p l := h
theorem IsBlock.cells (h : IsBlock w p l) : w.cell? ⟨p, 0, none⟩ = some (.int .i64 l.length) ∧ w.cell? ⟨p, 1, none⟩ = some (.int .u64 (loW l)) ∧ w.cell? ⟨p, 2, none⟩ = some (.int .u64 (hiW l)) ∧ ∀ j, w.frozen? ⟨p, j, none⟩ = false :=
  ⟨by rw [cell_of_row w p 0 _ _ _ h.2]; rfl, by rw [cell_of_row w p 1 _ _ _ h.2]; rfl, by rw [cell_of_row w p 2 _ _ _ h.2]; rfl, fun j => frozen_of_row w p j _ _ h.2⟩
end

theorem blkLen {w : World} {p : Nat} {l : List Bool} (h : IsBlock w p l) : Calls Tryd.prog 27 #[.pointer (some ⟨p, 0, none⟩)] w fun e w' => e = .returned (.int .i64 l.length) ∧ w = w' := by
  obtain ⟨h0, _⟩ := h.cells
  go_enter Tryd.func27, Tryd.ntmps27
  go_wp2_with fail
  go_ret
  exact ⟨rfl, rfl⟩

/-- Is there such a bit? -/
def hasL (l : List Bool) (k : Int) : Int := if 0 ≤ k ∧ k < l.length then 0 else 2
theorem blkHas {w : World} {p : Nat} {l : List Bool} (h : IsBlock w p l) (k : Int) : Calls Tryd.prog 46 #[.pointer (some ⟨p, 0, none⟩), .int .i64 k] w fun e w' => e = .returned (.int .i64 (hasL l k)) ∧ w = w' := by
  obtain ⟨h0, _⟩ := h.cells
  by_cases h1 : k < 0
  · have hR := Lib.hid (show (2 : Int) = hasL l k by unfold hasL; rw [if_neg (by omega)])
    go_enter Tryd.func46, Tryd.ntmps46
    go_wp2_with fail
    go_ret
    exact ⟨ret_int hR.out, rfl⟩
  · by_cases h2 : k < l.length
    · have hR := Lib.hid (show (0 : Int) = hasL l k by unfold hasL; rw [if_pos (by omega)])
      have d : decide ((l.length : Int) ≤ k) = false := by simp; omega
      go_enter Tryd.func46, Tryd.ntmps46
      go_wp2_with fail
      go_ret
      exact ⟨ret_int hR.out, rfl⟩
    · have hR := Lib.hid (show (2 : Int) = hasL l k by unfold hasL; rw [if_neg (by omega)])
      have d : decide ((l.length : Int) ≤ k) = true := by simp; omega
      go_enter Tryd.func46, Tryd.ntmps46
      go_wp2_with fail
      go_ret
      exact ⟨ret_int hR.out, rfl⟩

theorem ret_bi {k : IntKind} {b b' : Bool} {a a' : Int} (h : b = b') (h' : a = a') : Ending.returned (.tuple #[.bool b, .int k a]) = Ending.returned (.tuple #[.bool b', .int k a']) := by rw [h, h']
theorem blkGet {w : World} {p : Nat} {l : List Bool} (h : IsBlock w p l) (k : Nat) (hk : k < l.length) :
    Calls Tryd.prog 41 #[.pointer (some ⟨p, 0, none⟩), .int .i64 k] w fun e w' => e = .returned (.tuple #[.bool (bitAt l k), .int .i64 0]) ∧ w = w' := by
  obtain ⟨h0, h1, h2, _⟩ := h.cells
  have hR : hasL l k = 0 := by unfold hasL; rw [if_pos (by omega)]
  have hm := h.1
  have HR := Lib.hid hR
  have HB := Lib.hid h
  clear hR h
  by_cases hk64 : k < 64
  · have b1 := bitk_walk (loW_lt l) hk64
    rw [loW_bit hk64] at b1
    have B1 := Lib.hid b1
    have q1 : (k : Int) / 64 = 0 := by omega
    have q2 : (k : Int) % 64 = k := by omega
    clear b1 h2
    go_enter Tryd.func41, Tryd.ntmps41
    go_wp2_with fail
    refine (blkHas HB.out k).mono ?_
    rintro e w' ⟨rfl, rfl⟩
    rw [HR.out]
    go_wp2_with fail
    go_ret2
    exact ⟨ret_bi B1.out rfl, rfl⟩
  · obtain ⟨m, rfl⟩ := Nat.exists_eq_add_of_le (show 64 ≤ k by omega)
    have hm64 : m < 64 := by omega
    have b1 := bitk_walk (hiW_lt l) hm64
    rw [hiW_bit hm64] at b1
    have B1 := Lib.hid b1
    have q1 : ((64 + m : Nat) : Int) / 64 = 1 := by omega
    have q2 : ((64 + m : Nat) : Int) % 64 = m := by omega
    clear b1 h1
    generalize hg : 64 + m = k at *
    have HG := Lib.hid hg
    clear hg
    go_enter Tryd.func41, Tryd.ntmps41
    go_wp2_with fail
    refine (blkHas HB.out k).mono ?_
    rintro e w' ⟨rfl, rfl⟩
    rw [HR.out]
    go_wp2_with fail
    go_ret2
    exact ⟨ret_bi B1.out rfl, rfl⟩

theorem blkOnes {w : World} {p : Nat} {l : List Bool} (h : IsBlock w p l) : Calls Tryd.prog 42 #[.pointer (some ⟨p, 0, none⟩)] w fun e w' => e = .returned (.int .i64 (l.count true)) ∧ w = w' := by
  obtain ⟨h0, h1, h2, _⟩ := h.cells
  have hc : pcs [loW l, hiW l] = l.count true := by simp [pcs]; exact pc_both h.1
  have HC := Lib.hid hc
  have hr : Reads w .u64 (some ⟨p, 1, none⟩) ([loW l, hiW l].map natI) := by
    intro i hi
    refine ⟨p, 1, rfl, h.lt, fun j hj => ?_⟩
    match j, hj with
    | 0, _ => exact h1
    | 1, _ => exact h2
  have HR := Lib.hid hr
  clear hr hc h0 h1 h2
  go_enter Tryd.func42, Tryd.ntmps42
  go_wp2_with fail
  refine (count_lit (Y := (l.count true : Int)) [loW l, hiW l] _ rfl HR.out (by intro x hx; simp only [List.mem_cons, List.not_mem_nil, or_false] at hx; rcases hx with rfl | rfl; exact loW_lt l; exact hiW_lt l) (by simp) (by rw [HC.out])).mono ?_
  rintro e w' ⟨rfl, rfl⟩
  go_wp2_with fail
  go_ret
  exact ⟨rfl, rfl⟩

end Go.Proofs.YtacoeohmdngnkaaDoor

namespace Go.Proofs.YtacoeohmdngnkaaDoor
set_option linter.unusedVariables false
set_option linter.unusedSimpArgs false
open Go.RowKit
theorem rank_two {l : List Bool} {K : Nat} (h : K ≤ l.length) (h128 : l.length ≤ 128) : pc (loW l) (min K 64) + pc (hiW l) (min (K - 64) 64) = rankL l K true := by
  by_cases h64 : K ≤ 64
  · rw [Nat.min_eq_left h64, pc_lo h64, show min (K - 64) 64 = 0 by omega]; rfl
  · rw [Nat.min_eq_right (by omega), pc_lo (Nat.le_refl _), Nat.min_eq_left (by omega), pc_hi (by omega), show 64 + (K - 64) = K by omega]
theorem idx0 (a b : Value) (w : World) : (Instr.index 69 (.agg #[a, b]) (.int .i64 0)).run Tryd.prog w = .ok a w := by kernel_rfl
theorem idx1 (a b : Value) (w : World) : (Instr.index 69 (.agg #[a, b]) (.int .i64 1)).run Tryd.prog w = .ok b w := by kernel_rfl

set_option maxHeartbeats 1600000 in
theorem blkRank_core {w : World} {p : Nat} {l : List Bool} (h : IsBlock w p l) (k : Int) (K : Nat) (hk : (k < 0 ∧ K = 0) ∨ (0 ≤ k ∧ k ≤ l.length ∧ k = K) ∨ ((l.length : Int) < k ∧ K = l.length)) :
    Calls Tryd.prog 43 #[.pointer (some ⟨p, 0, none⟩), .int .i64 k] w fun e w' => e = .returned (.int .i64 (rankL l K true)) ∧ Below w.heap.size w w' := by
  obtain ⟨h0, h1, h2, _⟩ := h.cells
  have hl := h.1
  have hR : pc (loW l) (min K 64) + pc (hiW l) (min (K - 64) 64) = rankL l K true := rank_two (by omega) hl
  have hx := loW_lt l
  have hy := hiW_lt l
  have q1 := pc_le (loW l) (min K 64)
  have q2 := pc_le (hiW l) (min (K - 64) 64)
  have q1' : pc (loW l) (min K 64) ≤ 64 := by omega
  have q2' : pc (hiW l) (min (K - 64) 64) ≤ 64 := by omega
  have R1 : Hid (∀ (a : Int) (w : World), a = (K : Int) → Calls Tryd.prog 71 #[.int .u64 (loW l), .int .i64 a] w fun e w' => e = .returned (.int .i64 (pc (loW l) (min K 64))) ∧ Below w.heap.size w w') :=
    fun a w ha => rank_lit (loW l) w hx rfl (by rw [ha, Int.toNat_natCast])
  have R2 : Hid (∀ (a : Int) (w : World), a = (K : Int) - 64 → Calls Tryd.prog 71 #[.int .u64 (hiW l), .int .i64 a] w fun e w' => e = .returned (.int .i64 (pc (hiW l) (min (K - 64) 64))) ∧ Below w.heap.size w w') :=
    fun a w ha => rank_lit (hiW l) w hy rfl (by rw [ha]; congr 2; omega)
  have HR := Lib.hid hR
  have HB := Lib.hid h
  have I0 := idx0 (.int .u64 (loW l)) (.int .u64 (hiW l))
  have I1 := idx1 (.int .u64 (loW l)) (.int .u64 (hiW l))
  clear q1 q2 hR h hx hy
  generalize pc (loW l) (min K 64) = A at *
  generalize pc (hiW l) (min (K - 64) 64) = B at *
  rcases hk with ⟨hk, rfl⟩ | ⟨hk1, hk2, rfl⟩ | ⟨hk, rfl⟩
  all_goals
    go_enter Tryd.func43, Tryd.ntmps43
    go_wp2_with fail
    refine wp_loop_rounds 3 ?_
    rw [rounds_succ]
    go_wp2_with fail
    refine (R1.out _ _ (by omega)).mono ?_
    rintro e w1 ⟨rfl, hb⟩
    obtain ⟨g0, _⟩ := (HB.out.below' hb).cells
    go_wp2_with fail
    rw [rounds_succ]
    go_wp2_with fail
    refine (R2.out _ _ (by omega)).mono ?_
    rintro e w2 ⟨rfl, hb2⟩
    have hb3 := hb.trans (hb2.mono hb.size)
    clear hb hb2
    go_wp2_with fail
    rw [rounds_succ]
    go_wp2_with fail
    go_ret
    exact ⟨ret_int (by rw [← HR.out]; simp), hb3⟩

/-- Rank, whatever is asked. -/
theorem blkRank {w : World} {p : Nat} {l : List Bool} (h : IsBlock w p l) (k : Int) :
    Calls Tryd.prog 43 #[.pointer (some ⟨p, 0, none⟩), .int .i64 k] w fun e w' => e = .returned (.int .i64 (rankL l k.toNat true)) ∧ Below w.heap.size w w' := by
  by_cases h1 : k < 0
  · have := blkRank_core h k 0 (Or.inl ⟨h1, rfl⟩)
    rwa [show k.toNat = 0 by omega]
  · by_cases h2 : k ≤ l.length
    · exact blkRank_core h k k.toNat (Or.inr (Or.inl ⟨by omega, h2, by omega⟩))
    · have := blkRank_core h k l.length (Or.inr (Or.inr ⟨by omega, rfl⟩))
      rwa [rankL_over true (Nat.le_refl _), ← rankL_over (k := k.toNat) true (by omega)] at this

theorem blkSelect_neg (w : World) (p : Nat) (j : Int) (b : Bool) (hj : j < 0) : Calls Tryd.prog 44 #[.pointer (some ⟨p, 0, none⟩), .int .i64 j, .bool b] w fun e w' => e = .returned (.int .i64 (-1)) ∧ w = w' := by
  go_enter Tryd.func44, Tryd.ntmps44
  go_wp2_with fail
  go_ret
  exact ⟨rfl, rfl⟩


set_option maxHeartbeats 3200000 in
theorem blkSelect_true {w : World} {p : Nat} {l : List Bool} (h : IsBlock w p l) (hT : BitTab w) (j : Nat) (hjm : (j : Int) ≤ 9223372036854775807) :
    Calls Tryd.prog 44 #[.pointer (some ⟨p, 0, none⟩), .int .i64 j, .bool true] w fun e w' => e = .returned (.int .i64 (selL l j true)) ∧ Below w.heap.size w w' := by
  obtain ⟨h0, h1, h2, _⟩ := h.cells
  have hl := h.1
  have hx := loW_lt l
  have hy := hiW_lt l
  have I0 := idx0 (.int .u64 (loW l)) (.int .u64 (hiW l))
  have I1 := idx1 (.int .u64 (loW l)) (.int .u64 (hiW l))
  have LX : Hid (loW l < 2 ^ 64) := likeW_lt hx true
  have LY : Hid (hiW l < 2 ^ 64) := likeW_lt hy true
  have p1 : pc (loW l) 64 ≤ 64 := pc_le _ 64
  have p2 : pc (hiW l) 64 ≤ 64 := pc_le _ 64
  have S1 : Hid (j < pc (loW l) 64 → ∃ k : Nat, k < 64 ∧ sel (loW l) j = k ∧ selL l j true = if k < l.length then (k : Int) else -1) := sel_lo (l := l) (j := j) (b := true)
  have S2 : Hid (pc (loW l) 64 ≤ j → j - pc (loW l) 64 < pc (hiW l) 64 → ∃ k : Nat, k < 64 ∧ sel (hiW l) ((j : Int) - (pc (loW l) 64 : Nat)) = k ∧ selL l j true = if 64 + k < l.length then ((64 + k : Nat) : Int) else -1) :=
    fun a b => sel_hi (l := l) (j := j) (b := true) a b hl
  have S3 : Hid (pc (loW l) 64 + pc (hiW l) 64 ≤ j → selL l j true = -1) := fun a => sel_no (l := l) (j := j) (b := true) a hl
  have C0 : Hid (∀ (w : World) (b off c : Nat), w.cell? ⟨b, off, none⟩ = some (.int .u64 (loW l)) → Calls Tryd.prog 70 #[.slice (some ⟨b, off, none⟩) 1 c] w fun e w' => e = .returned (.int .i64 (pc (loW l) 64)) ∧ w = w') :=
    fun w b off c hc => count_one _ w b off c hc LX.out
  have C1 : Hid (∀ (w : World) (b off c : Nat), w.cell? ⟨b, off, none⟩ = some (.int .u64 (hiW l)) → Calls Tryd.prog 70 #[.slice (some ⟨b, off, none⟩) 1 c] w fun e w' => e = .returned (.int .i64 (pc (hiW l) 64)) ∧ w = w') :=
    fun w b off c hc => count_one _ w b off c hc LY.out
  have HT := Lib.hid hT
  have HB := Lib.hid h
  clear hT h hx hy
  generalize pc (loW l) 64 = n0 at *
  generalize pc (hiW l) 64 = n1 at *
  by_cases hj0 : j < n0
  · obtain ⟨k, hk, hs, hr⟩ := S1.out hj0
    have HS := Lib.hid hs
    have HR := Lib.hid hr
    clear hs hr S1 S2 S3 C1
    by_cases hkl : k < l.length
    all_goals
      go_enter Tryd.func44, Tryd.ntmps44
      go_wp2_with fail
      refine wp_loop_rounds 3 ?_
      rw [rounds_succ]
      go_wp2_with fail
      refine (C0.out _ _ _ _ (by simp [go_sem])).mono ?_
      rintro e w' ⟨rfl, rfl⟩
      have hb := below_alloc w (.cells #[.int .u64 (loW l)] 68)
      have hs1 := hb.size
      generalize w.alloc (.cells #[.int .u64 (loW l)] 68) = w1 at *
      go_wp2_with fail
      refine (select_lit (Y := (k : Int)) (loW l) _ LX.out (HT.out.below' hb) rfl HS.out).mono ?_
      rintro e w2 ⟨rfl, hb2⟩
      have hb := hb.trans (hb2.mono hs1)
      obtain ⟨g0, _⟩ := (HB.out.below' hb).cells
      clear hb2
      go_wp2_with fail
      go_ret
      exact ⟨ret_int (by rw [HR.out]; simp [hkl]), hb⟩
  · by_cases hj1 : j < n0 + n1
    · obtain ⟨k, hk, hs, hr⟩ := S2.out (by omega) (by omega)
      have HS := Lib.hid hs
      have HR := Lib.hid hr
      clear hs hr S1 S2 S3
      by_cases hkl : 64 + k < l.length
      all_goals
        go_enter Tryd.func44, Tryd.ntmps44
        go_wp2_with fail
        refine wp_loop_rounds 3 ?_
        rw [rounds_succ]
        go_wp2_with fail
        refine (C0.out _ _ _ _ (by simp [go_sem])).mono ?_
        rintro e w' ⟨rfl, rfl⟩
        have hb := below_alloc w (.cells #[.int .u64 (loW l)] 68)
        have hs1 := hb.size
        generalize w.alloc (.cells #[.int .u64 (loW l)] 68) = w1 at *
        go_wp2_with fail
        rw [rounds_succ]
        go_wp2_with fail
        refine (C1.out _ _ _ _ (by simp [go_sem])).mono ?_
        rintro e w' ⟨rfl, rfl⟩
        have hb := hb.alloc hs1 (.cells #[.int .u64 (hiW l)] 68)
        have hs1 := hb.size
        generalize w1.alloc (.cells #[.int .u64 (hiW l)] 68) = w2 at *
        go_wp2_with fail
        refine (select_lit (Y := (k : Int)) (hiW l) _ LY.out (HT.out.below' hb) rfl HS.out).mono ?_
        rintro e w3 ⟨rfl, hb2⟩
        have hb := hb.trans (hb2.mono hs1)
        obtain ⟨g0, _⟩ := (HB.out.below' hb).cells
        clear hb2
        go_wp2_with fail
        go_ret
        exact ⟨ret_int (by rw [HR.out]; simp [hkl]), hb⟩
    · have hr := S3.out (by omega)
      have HR := Lib.hid hr
      clear hr S1 S2 S3
      go_enter Tryd.func44, Tryd.ntmps44
      go_wp2_with fail
      refine wp_loop_rounds 3 ?_
      rw [rounds_succ]
      go_wp2_with fail
      refine (C0.out _ _ _ _ (by simp [go_sem])).mono ?_
      rintro e w' ⟨rfl, rfl⟩
      have hb := below_alloc w (.cells #[.int .u64 (loW l)] 68)
      have hs1 := hb.size
      generalize w.alloc (.cells #[.int .u64 (loW l)] 68) = w1 at *
      go_wp2_with fail
      rw [rounds_succ]
      go_wp2_with fail
      refine (C1.out _ _ _ _ (by simp [go_sem])).mono ?_
      rintro e w' ⟨rfl, rfl⟩
      have hb := hb.alloc hs1 (.cells #[.int .u64 (hiW l)] 68)
      generalize w1.alloc (.cells #[.int .u64 (hiW l)] 68) = w2 at *
      go_wp2_with fail
      rw [rounds_succ]
      go_wp2_with fail
      go_ret
      exact ⟨ret_int HR.out.symm, hb⟩

set_option maxHeartbeats 3200000 in
theorem blkSelect_false {w : World} {p : Nat} {l : List Bool} (h : IsBlock w p l) (hT : BitTab w) (j : Nat) (hjm : (j : Int) ≤ 9223372036854775807) :
    Calls Tryd.prog 44 #[.pointer (some ⟨p, 0, none⟩), .int .i64 j, .bool false] w fun e w' => e = .returned (.int .i64 (selL l j false)) ∧ Below w.heap.size w w' := by
  obtain ⟨h0, h1, h2, _⟩ := h.cells
  have hl := h.1
  have hx := loW_lt l
  have hy := hiW_lt l
  have N1 := not_run hx
  have N2 := not_run hy
  have I0 := idx0 (.int .u64 (loW l)) (.int .u64 (hiW l))
  have I1 := idx1 (.int .u64 (loW l)) (.int .u64 (hiW l))
  have LX : Hid (notW (loW l) < 2 ^ 64) := likeW_lt hx false
  have LY : Hid (notW (hiW l) < 2 ^ 64) := likeW_lt hy false
  have p1 : pc (notW (loW l)) 64 ≤ 64 := pc_le _ 64
  have p2 : pc (notW (hiW l)) 64 ≤ 64 := pc_le _ 64
  have S1 : Hid (j < pc (notW (loW l)) 64 → ∃ k : Nat, k < 64 ∧ sel (notW (loW l)) j = k ∧ selL l j false = if k < l.length then (k : Int) else -1) := sel_lo (l := l) (j := j) (b := false)
  have S2 : Hid (pc (notW (loW l)) 64 ≤ j → j - pc (notW (loW l)) 64 < pc (notW (hiW l)) 64 → ∃ k : Nat, k < 64 ∧ sel (notW (hiW l)) ((j : Int) - (pc (notW (loW l)) 64 : Nat)) = k ∧ selL l j false = if 64 + k < l.length then ((64 + k : Nat) : Int) else -1) :=
    fun a b => sel_hi (l := l) (j := j) (b := false) a b hl
  have S3 : Hid (pc (notW (loW l)) 64 + pc (notW (hiW l)) 64 ≤ j → selL l j false = -1) := fun a => sel_no (l := l) (j := j) (b := false) a hl
  have C0 : Hid (∀ (w : World) (b off c : Nat), w.cell? ⟨b, off, none⟩ = some (.int .u64 (notW (loW l))) → Calls Tryd.prog 70 #[.slice (some ⟨b, off, none⟩) 1 c] w fun e w' => e = .returned (.int .i64 (pc (notW (loW l)) 64)) ∧ w = w') :=
    fun w b off c hc => count_one _ w b off c hc LX.out
  have C1 : Hid (∀ (w : World) (b off c : Nat), w.cell? ⟨b, off, none⟩ = some (.int .u64 (notW (hiW l))) → Calls Tryd.prog 70 #[.slice (some ⟨b, off, none⟩) 1 c] w fun e w' => e = .returned (.int .i64 (pc (notW (hiW l)) 64)) ∧ w = w') :=
    fun w b off c hc => count_one _ w b off c hc LY.out
  have HT := Lib.hid hT
  have HB := Lib.hid h
  clear hT h hx hy
  generalize pc (notW (loW l)) 64 = n0 at *
  generalize pc (notW (hiW l)) 64 = n1 at *
  by_cases hj0 : j < n0
  · obtain ⟨k, hk, hs, hr⟩ := S1.out hj0
    have HS := Lib.hid hs
    have HR := Lib.hid hr
    clear hs hr S1 S2 S3 C1
    by_cases hkl : k < l.length
    all_goals
      go_enter Tryd.func44, Tryd.ntmps44
      go_wp2_with fail
      refine wp_loop_rounds 3 ?_
      rw [rounds_succ]
      go_wp2_with fail
      refine (C0.out _ _ _ _ (by simp [go_sem])).mono ?_
      rintro e w' ⟨rfl, rfl⟩
      have hb := below_alloc w (.cells #[.int .u64 (notW (loW l))] 68)
      have hs1 := hb.size
      generalize w.alloc (.cells #[.int .u64 (notW (loW l))] 68) = w1 at *
      go_wp2_with fail
      refine (select_lit (Y := (k : Int)) (notW (loW l)) _ LX.out (HT.out.below' hb) rfl HS.out).mono ?_
      rintro e w2 ⟨rfl, hb2⟩
      have hb := hb.trans (hb2.mono hs1)
      obtain ⟨g0, _⟩ := (HB.out.below' hb).cells
      clear hb2
      go_wp2_with fail
      go_ret
      exact ⟨ret_int (by rw [HR.out]; simp [hkl]), hb⟩
  · by_cases hj1 : j < n0 + n1
    · obtain ⟨k, hk, hs, hr⟩ := S2.out (by omega) (by omega)
      have HS := Lib.hid hs
      have HR := Lib.hid hr
      clear hs hr S1 S2 S3
      by_cases hkl : 64 + k < l.length
      all_goals
        go_enter Tryd.func44, Tryd.ntmps44
        go_wp2_with fail
        refine wp_loop_rounds 3 ?_
        rw [rounds_succ]
        go_wp2_with fail
        refine (C0.out _ _ _ _ (by simp [go_sem])).mono ?_
        rintro e w' ⟨rfl, rfl⟩
        have hb := below_alloc w (.cells #[.int .u64 (notW (loW l))] 68)
        have hs1 := hb.size
        generalize w.alloc (.cells #[.int .u64 (notW (loW l))] 68) = w1 at *
        go_wp2_with fail
        rw [rounds_succ]
        go_wp2_with fail
        refine (C1.out _ _ _ _ (by simp [go_sem])).mono ?_
        rintro e w' ⟨rfl, rfl⟩
        have hb := hb.alloc hs1 (.cells #[.int .u64 (notW (hiW l))] 68)
        have hs1 := hb.size
        generalize w1.alloc (.cells #[.int .u64 (notW (hiW l))] 68) = w2 at *
        go_wp2_with fail
        refine (select_lit (Y := (k : Int)) (notW (hiW l)) _ LY.out (HT.out.below' hb) rfl HS.out).mono ?_
        rintro e w3 ⟨rfl, hb2⟩
        have hb := hb.trans (hb2.mono hs1)
        obtain ⟨g0, _⟩ := (HB.out.below' hb).cells
        clear hb2
        go_wp2_with fail
        go_ret
        exact ⟨ret_int (by rw [HR.out]; simp [hkl]), hb⟩
    · have hr := S3.out (by omega)
      have HR := Lib.hid hr
      clear hr S1 S2 S3
      go_enter Tryd.func44, Tryd.ntmps44
      go_wp2_with fail
      refine wp_loop_rounds 3 ?_
      rw [rounds_succ]
      go_wp2_with fail
      refine (C0.out _ _ _ _ (by simp [go_sem])).mono ?_
      rintro e w' ⟨rfl, rfl⟩
      have hb := below_alloc w (.cells #[.int .u64 (notW (loW l))] 68)
      have hs1 := hb.size
      generalize w.alloc (.cells #[.int .u64 (notW (loW l))] 68) = w1 at *
      go_wp2_with fail
      rw [rounds_succ]
      go_wp2_with fail
      refine (C1.out _ _ _ _ (by simp [go_sem])).mono ?_
      rintro e w' ⟨rfl, rfl⟩
      have hb := hb.alloc hs1 (.cells #[.int .u64 (notW (hiW l))] 68)
      generalize w1.alloc (.cells #[.int .u64 (notW (hiW l))] 68) = w2 at *
      go_wp2_with fail
      rw [rounds_succ]
      go_wp2_with fail
      go_ret
      exact ⟨ret_int HR.out.symm, hb⟩

/-- Select, whatever is asked. -/
theorem blkSelect {w : World} {p : Nat} {l : List Bool} (h : IsBlock w p l) (hT : BitTab w) (j : Int) (b : Bool) (hjm : j ≤ 9223372036854775807) :
    Calls Tryd.prog 44 #[.pointer (some ⟨p, 0, none⟩), .int .i64 j, .bool b] w fun e w' => e = .returned (.int .i64 (selL l j b)) ∧ Below w.heap.size w w' := by
  by_cases hj : j < 0
  · rw [selL_neg hj]
    refine (blkSelect_neg w p j b hj).mono ?_
    rintro e w' ⟨rfl, rfl⟩
    exact ⟨rfl, Below.refl _ _⟩
  · obtain ⟨n, rfl⟩ := Int.eq_ofNat_of_zero_le (show 0 ≤ j by omega)
    cases b
    · exact blkSelect_false h hT n hjm
    · exact blkSelect_true h hT n hjm

end Go.Proofs.YtacoeohmdngnkaaDoor

namespace Go.Proofs.YtacoeohmdngnkaaDoor
set_option linter.unusedVariables false
set_option linter.unusedSimpArgs false
open Go.RowKit

def vecL (f : Nat → Value) (n : Nat) : List Value := (List.range n).map f
theorem vecL_get {f : Nat → Value} {n i : Nat} (h : i < n) : (vecL f n)[i]? = some (f i) := by simp [vecL, h]
theorem vecL_len (f : Nat → Value) (n : Nat) : (vecL f n).length = n := by simp [vecL]
theorem vecL_set {f : Nat → Value} {n s : Nat} (v : Value) : (vecL f n).set s v = vecL (fun i => if i = s then v else f i) n := by
  apply List.ext_getElem?
  intro i
  rw [List.getElem?_set]
  by_cases hi : i < n
  · rw [vecL_get hi, vecL_get hi, vecL_len]
    by_cases e : s = i
    · subst e; simp [hi]
    · rw [if_neg e, if_neg (fun h => e h.symm)]
  · rw [List.getElem?_eq_none (by rw [vecL_len]; omega), List.getElem?_eq_none (by rw [vecL_len]; omega), vecL_len]
    split
    · rw [if_neg (by omega)]
    · rfl
theorem vecL_congr {f g : Nat → Value} {n : Nat} (h : ∀ i, i < n → f i = g i) : vecL f n = vecL g n := by
  apply List.ext_getElem?
  intro i
  by_cases hi : i < n
  · rw [vecL_get hi, vecL_get hi, h i hi]
  · rw [List.getElem?_eq_none (by rw [vecL_len]; omega), List.getElem?_eq_none (by rw [vecL_len]; omega)]

theorem vec_cell {w : World} {Q n i : Nat} {f : Nat → Value} {T : TypeId} (h : w.heap[Q]? = some (.cells (vecL f n).toArray T (0, 0))) (hi : i < n) : w.cell? ⟨Q, i, none⟩ = some (f i) := by
  rw [cell_of_row w Q i _ _ _ h, List.getElem?_toArray, vecL_get hi]
theorem vec_set {w : World} {Q n s : Nat} {f : Nat → Value} {T : TypeId} (h : w.heap[Q]? = some (.cells (vecL f n).toArray T (0, 0))) (v : Value) :
    (w.setCell ⟨Q, s, none⟩ v).heap[Q]? = some (.cells (vecL (fun i => if i = s then v else f i) n).toArray T (0, 0)) := by
  have h2 := heap_setCell_same w Q s _ _ v h
  rw [List.setIfInBounds_toArray, vecL_set] at h2
  exact h2
theorem below_setQ {B : Nat} {w w' : World} (h : Below B w w') (hB : B ≤ w'.heap.size) {Q s : Nat} (hQ : B ≤ Q) (u : Value) : Below B w (w'.setCell ⟨Q, s, none⟩ u) :=
  h.trans (((Chg.refl (S := fun k => k = Q)).setCell ⟨Q, s, none⟩ (Or.inl rfl) u).below (fun b hb => by rw [hb]; exact hQ) hB)
theorem below_heap {w w' : World} {Q : Nat} {o : Obj} (h : Below w.heap.size w w') (hq : w.heap[Q]? = some o) : w'.heap[Q]? = some o :=
  (h.block Q (Array.getElem?_eq_some_iff.1 hq).1).trans hq

end Go.Proofs.YtacoeohmdngnkaaDoor

namespace Go.Proofs.YtacoeohmdngnkaaDoor
set_option linter.unusedVariables false
set_option linter.unusedSimpArgs false
open Go.RowKit

/-- Block p: so many bits, two words. -/
def Blk (w : World) (p : Nat) (n : Int) (x y : Nat) : Prop := w.heap[p]? = some (.cells #[.int .i64 n, .int .u64 x, .int .u64 y] 71 (0, 0))
theorem Blk.cells {w : World} {p : Nat} {n : Int} {x y : Nat} (h : Blk w p n x y) : w.cell? ⟨p, 0, none⟩ = some (.int .i64 n) ∧ w.cell? ⟨p, 1, none⟩ = some (.int .u64 x) ∧ w.cell? ⟨p, 2, none⟩ = some (.int .u64 y) ∧ ∀ j, w.frozen? ⟨p, j, none⟩ = false :=
  ⟨by rw [cell_of_row w p 0 _ _ _ h]; rfl, by rw [cell_of_row w p 1 _ _ _ h]; rfl, by rw [cell_of_row w p 2 _ _ _ h]; rfl, fun j => frozen_of_row w p j _ _ h⟩
theorem Blk.set1 {w : World} {p : Nat} {n : Int} {x y : Nat} (h : Blk w p n x y) (x' : Nat) : Blk (w.setCell ⟨p, 1, none⟩ (.int .u64 x')) p n x' y := heap_setCell_same w p 1 _ _ (.int .u64 x') h
theorem Blk.set2 {w : World} {p : Nat} {n : Int} {x y : Nat} (h : Blk w p n x y) (y' : Nat) : Blk (w.setCell ⟨p, 2, none⟩ (.int .u64 y')) p n x y' := heap_setCell_same w p 2 _ _ (.int .u64 y') h
theorem Blk.lt {w : World} {p : Nat} {n : Int} {x y : Nat} (h : Blk w p n x y) : p < w.heap.size := (Array.getElem?_eq_some_iff.1 h).1

theorem pow_u64 {k : Nat} (h : k < 64) : IntKind.u64.wrap ((2 : Int) ^ k) = ((2 ^ k : Nat) : Int) := by
  have h2 := two_pow_lt h
  have h3 := Nat.two_pow_pos k
  rw [int_two_pow]; exact u64w (by omega) (by omega)
theorem bit_in {k m : Nat} (h : k % 64 = m) : IntKind.u64.wrap ((2 : Int) ^ min (IntKind.u64.wrap ((k : Int).tmod 64)).toNat 64) = ((2 ^ m : Nat) : Int) := by
  have h1 : (k : Int).tmod 64 = (m : Int) := by rw [Int.tmod_eq_emod_of_nonneg (by omega)]; omega
  have h2 : IntKind.u64.wrap (m : Int) = (m : Int) := u64w (by omega) (by omega)
  rw [h1, h2, Int.toNat_natCast, Nat.min_eq_left (by omega)]
  exact pow_u64 (by omega)
theorem quo_lo {k : Nat} (h : k < 64) : IntKind.i64.wrap ((k : Int) / 64) = 0 ∧ IntKind.i64.wrap ((k : Int).tmod 64) = k ∧ IntKind.i64.wrap ((k : Int) % 64) = k := by
  refine ⟨?_, ?_, ?_⟩
  · rw [IntWalk.i64_in] <;> omega
  · rw [Int.tmod_eq_emod_of_nonneg (by omega), IntWalk.i64_in] <;> omega
  · rw [IntWalk.i64_in] <;> omega
theorem quo_hi {k : Nat} (h : 64 ≤ k) (h2 : k < 128) : IntKind.i64.wrap ((k : Int) / 64) = 1 ∧ IntKind.i64.wrap ((k : Int).tmod 64) = ((k - 64 : Nat) : Int) ∧ IntKind.i64.wrap ((k : Int) % 64) = ((k - 64 : Nat) : Int) := by
  refine ⟨?_, ?_, ?_⟩
  · rw [IntWalk.i64_in] <;> omega
  · rw [Int.tmod_eq_emod_of_nonneg (by omega), IntWalk.i64_in] <;> omega
  · rw [IntWalk.i64_in] <;> omega

set_option maxHeartbeats 1600000 in
set_option maxRecDepth 100000 in
theorem blkNew (w : World) (a : Option Addr) (c : Nat) (l : List Bool) (hr : ReadsV w a (l.map Value.bool)) (hl : l.length ≤ 128) :
    Calls Tryd.prog 17 #[.slice a l.length c] w fun e w' => e = .returned (.tuple #[.pointer (some ⟨w.heap.size, 0, none⟩), .int .i64 0]) ∧ IsBlock w' w.heap.size l ∧ Below w.heap.size w w' := by
  have hd : decide ((128 : Int) < (l.length : Int)) = false := by simp; omega
  have hb0 := below_alloc w (.cells #[.int .i64 l.length, .int .u64 0, .int .u64 0] 71)
  have hk0 : Blk (w.alloc (.cells #[.int .i64 l.length, .int .u64 0, .int .u64 0] 71)) w.heap.size l.length (loW (l.take 0)) (hiW (l.take 0)) := by
    have e1 : loW (l.take 0) = 0 := by rw [List.take_zero]; exact loW_nil
    have e2 : hiW (l.take 0) = 0 := by rw [List.take_zero]; exact hiW_nil
    rw [e1, e2]; exact heap_alloc_new w _
  have HK0 := Lib.hid hk0
  have HR := Lib.hid hr
  obtain ⟨p, hp⟩ : ∃ p, w.heap.size = p := ⟨_, rfl⟩
  have HP := Lib.hid hp
  clear hk0 hr hp
  go_enter Tryd.func17, Tryd.ntmps17
  go_wp2_with fail
  rw [HP.out]
  go_loopw [16] (fun i wr => ∃ k : Nat, k ≤ l.length ∧ i = .int .i64 k ∧ Blk wr p l.length (loW (l.take k)) (hiW (l.take k)) ∧ Below w.heap.size w wr) (fun i _ => l.length - (intOf i).toNat)
  case atStart => exact ⟨0, Nat.zero_le _, rfl, by have := HK0.out; rw [HP.out] at this; exact this, hb0⟩
  case round =>
    obtain ⟨k, hk, rfl, hbk, hb⟩ := hrel
    clear hb0
    by_cases hlt : k < l.length
    · obtain ⟨b, off, rfl, hbl, hc⟩ := (HR.out.below' hb).some (by rw [List.length_map]; omega)
      have hcell := hc k (.bool (l[k]?.getD false)) (by rw [List.getElem?_map, List.getElem?_eq_getElem hlt]; rfl)
      have ht : l.take (k + 1) = l.take k ++ [l[k]?.getD false] := by rw [List.take_add_one, List.getElem?_eq_getElem hlt]; rfl
      have hlen : (l.take k).length = k := by rw [List.length_take]; omega
      have HT := Lib.hid ht
      have HLEN := Lib.hid hlen
      have hlo := loW_lt (l.take k)
      have hhi := hiW_lt (l.take k)
      generalize hbv : l[k]?.getD false = bv at *
      have HBV := Lib.hid hbv
      clear hc ht hlen hbv
      cases bv
      · have e1 : loW (l.take (k + 1)) = loW (l.take k) := by
          rw [HT.out]
          by_cases h : k < 64
          · rw [lo_snoc (by rw [HLEN.out]; exact h)]; simp
          · rw [lo_snoc2 (by rw [HLEN.out]; omega)]
        have e2 : hiW (l.take (k + 1)) = hiW (l.take k) := by
          rw [HT.out]
          by_cases h : k < 64
          · rw [hi_snoc (by rw [HLEN.out]; exact h)]
          · rw [hi_snoc2 (by rw [HLEN.out]; omega) (by rw [HLEN.out]; omega)]; simp
        have E1 := Lib.hid e1
        have E2 := Lib.hid e2
        have HBK := Lib.hid hbk
        clear e1 e2 hbk
        go_wp2_with fail
        go_roundw
        case rel => exact ⟨k + 1, by omega, by go_num, by rw [E1.out, E2.out]; exact HBK.out, hb⟩
        case measure => simp [intOf]; omega
      · by_cases h64 : k < 64
        · have e1 : loW (l.take (k + 1)) = loW (l.take k) ||| 2 ^ k := by
            rw [HT.out, lo_snoc (by rw [HLEN.out]; exact h64), HLEN.out]; simp
          have e2 : hiW (l.take (k + 1)) = hiW (l.take k) := by rw [HT.out, hi_snoc (by rw [HLEN.out]; exact h64)]
          have h2k := two_pow_lt h64
          have e3 : bits .or .u64 ((loW (l.take k) : Nat) : Int) (IntKind.u64.wrap ((2 : Int) ^ min (IntKind.u64.wrap ((k : Int).tmod 64)).toNat 64)) = ((loW (l.take k) ||| 2 ^ k : Nat) : Int) := by
            rw [bit_in (m := k) (by omega)]; exact or_u64 _ _ hlo (by omega)
          have E1 := Lib.hid e1
          have E2 := Lib.hid e2
          have E3 := Lib.hid e3
          generalize loW (l.take k) = x at *
          generalize hiW (l.take k) = y at *
          obtain ⟨c0, c1, c2, fz⟩ := hbk.cells
          have fz1 := fz 1
          obtain ⟨q1, q2, q3⟩ := quo_lo h64
          have HBK := Lib.hid hbk
          clear e1 e2 e3 hbk fz c0 c2 h2k
          go_wp2_with fail
          refine reg_start (fun _ => True) (by kernel_rfl) (trivial) (fun hHeld => ?_)
          refine rt 0 hHeld ?_
          refine rt 1 hHeld ?_
          refine rt 2 hHeld ?_
          refine rt 3 hHeld ?_
          refine rt 4 hHeld ?_
          refine rt 5 hHeld ?_
          refine rt 7 hHeld ?_
          refine rt 8 hHeld ?_
          refine rt 9 hHeld ?_
          refine rt 10 hHeld ?_
          refine rt 12 hHeld ?_
          refine rt 13 hHeld ?_
          refine reg_loud (i := 6) rfl (by kernel_rfl) rfl (fun K hK => ?_)
          go_simp
          refine hK.out _ _ (trivial) (fun hNew => ?_)
          clear hK K hHeld
          have hHeld := hNew
          clear hNew
          try simp only [Act.put, List.setIfInBounds_toArray, List.set_cons_zero, List.set_cons_succ]
          refine rt 11 hHeld ?_
          refine rt 14 hHeld ?_
          refine reg_loud (i := 15) rfl (by kernel_rfl) rfl (fun K hK => ?_)
          go_simp
          refine hK.out _ _ (trivial) (fun hNew => ?_)
          clear hK K hHeld
          have hHeld := hNew
          clear hNew
          try simp only [Act.put, List.setIfInBounds_toArray, List.set_cons_zero, List.set_cons_succ]
          refine reg_done (by kernel_rfl) ?_ _
          rw [E3.out]
          clear c1 fz1 q1 q2 q3
          go_wp2_with fail
          go_roundw
          case rel => exact ⟨k + 1, by omega, by go_num, by rw [E1.out, E2.out]; exact HBK.out.set1 _, below_setQ hb.drew hb.drew.size (by have := HP.out; omega) _⟩
          case measure => simp [intOf]; omega
        · have e1 : loW (l.take (k + 1)) = loW (l.take k) := by rw [HT.out, lo_snoc2 (by rw [HLEN.out]; omega)]
          have e2 : hiW (l.take (k + 1)) = hiW (l.take k) ||| 2 ^ (k - 64) := by
            rw [HT.out, hi_snoc2 (by rw [HLEN.out]; omega) (by rw [HLEN.out]; omega), HLEN.out]; simp
          have h2k := two_pow_lt (k := k - 64) (by omega)
          have e3 : bits .or .u64 ((hiW (l.take k) : Nat) : Int) (IntKind.u64.wrap ((2 : Int) ^ min (IntKind.u64.wrap ((k : Int).tmod 64)).toNat 64)) = ((hiW (l.take k) ||| 2 ^ (k - 64) : Nat) : Int) := by
            rw [bit_in (m := k - 64) (by omega)]; exact or_u64 _ _ hhi (by omega)
          have E1 := Lib.hid e1
          have E2 := Lib.hid e2
          have E3 := Lib.hid e3
          generalize loW (l.take k) = x at *
          generalize hiW (l.take k) = y at *
          obtain ⟨c0, c1, c2, fz⟩ := hbk.cells
          have fz1 := fz 2
          obtain ⟨q1, q2, q3⟩ := quo_hi (k := k) (by omega) (by omega)
          have HBK := Lib.hid hbk
          clear e1 e2 e3 hbk fz c0 c1 h2k
          go_wp2_with fail
          refine reg_start (fun _ => True) (by kernel_rfl) (trivial) (fun hHeld => ?_)
          refine rt 0 hHeld ?_
          refine rt 1 hHeld ?_
          refine rt 2 hHeld ?_
          refine rt 3 hHeld ?_
          refine rt 4 hHeld ?_
          refine rt 5 hHeld ?_
          refine rt 7 hHeld ?_
          refine rt 8 hHeld ?_
          refine rt 9 hHeld ?_
          refine rt 10 hHeld ?_
          refine rt 12 hHeld ?_
          refine rt 13 hHeld ?_
          refine reg_loud (i := 6) rfl (by kernel_rfl) rfl (fun K hK => ?_)
          go_simp
          refine hK.out _ _ (trivial) (fun hNew => ?_)
          clear hK K hHeld
          have hHeld := hNew
          clear hNew
          try simp only [Act.put, List.setIfInBounds_toArray, List.set_cons_zero, List.set_cons_succ]
          refine rt 11 hHeld ?_
          refine rt 14 hHeld ?_
          refine reg_loud (i := 15) rfl (by kernel_rfl) rfl (fun K hK => ?_)
          go_simp
          refine hK.out _ _ (trivial) (fun hNew => ?_)
          clear hK K hHeld
          have hHeld := hNew
          clear hNew
          try simp only [Act.put, List.setIfInBounds_toArray, List.set_cons_zero, List.set_cons_succ]
          refine reg_done (by kernel_rfl) ?_ _
          rw [E3.out]
          clear c2 fz1 q1 q2 q3
          go_wp2_with fail
          go_roundw
          case rel => exact ⟨k + 1, by omega, by go_num, by rw [E1.out, E2.out]; exact HBK.out.set2 _, below_setQ hb.drew hb.drew.size (by have := HP.out; omega) _⟩
          case measure => simp [intOf]; omega
    · have hkl : k = l.length := by omega
      have ht : l.take k = l := by rw [hkl, List.take_length]
      rw [ht] at hbk
      clear ht hkl
      go_wp2_with fail
      go_ret2
      exact ⟨by rw [HP.out]; rfl, ⟨hl, by rw [HP.out]; exact hbk⟩, hb⟩

/-- A block that changes: its own block alone, and new ones. -/
def BlkStep (w w' : World) (p : Nat) (l : List Bool) : Prop := IsBlock w' p l ∧ Chg (fun q => q = p) w w'

end Go.Proofs.YtacoeohmdngnkaaDoor

namespace Go.Proofs.YtacoeohmdngnkaaDoor
set_option linter.unusedVariables false
set_option linter.unusedSimpArgs false
open Go.RowKit


end Go.Proofs.YtacoeohmdngnkaaDoor

namespace Go.Proofs.YtacoeohmdngnkaaDoor
set_option linter.unusedVariables false
set_option linter.unusedSimpArgs false

/-- An arena: of each number whether it is taken; those that are free, the last one last; how many there may be. -/
structure Ar where
  T : List Bool
  F : List Nat
  M : Nat

/-- What holds of every arena. -/
structure Ar.Ok (a : Ar) : Prop where
  max : a.M ≤ 268435456
  le : a.T.length ≤ a.M
  cnt : a.T.count false = a.F.length
  nd : a.F.Nodup
  iff : ∀ j, a.T[j]? = some false ↔ j ∈ a.F

def arIs (T : List Bool) (k : Int) : Bool := decide (0 ≤ k) && (T[k.toNat]?.getD false)

def Ar.live (a : Ar) : Nat := a.T.length - a.F.length

theorem Ar.Ok.fle {a : Ar} (h : a.Ok) : a.F.length ≤ a.T.length := by rw [← h.cnt]; exact List.count_le_length

def Ar.new (m : Nat) : Ar := ⟨[], [], m⟩
theorem Ar.new_ok {m : Nat} (h : m ≤ 268435456) : (Ar.new m).Ok := ⟨h, by simp [Ar.new], by simp [Ar.new], by simp [Ar.new], by simp [Ar.new]⟩

/-- Take, where one is free. -/
def Ar.pop (a : Ar) (k : Nat) : Ar := ⟨a.T.set k true, a.F.dropLast, a.M⟩
/-- Take, where none is free. -/
def Ar.more (a : Ar) : Ar := ⟨a.T ++ [true], a.F, a.M⟩

theorem Ar.more_ok {a : Ar} (h : a.Ok) (hl : a.T.length < a.M) : a.more.Ok := by
  refine ⟨h.max, by simp [Ar.more]; omega, by simp [Ar.more, h.cnt], h.nd, fun j => ?_⟩
  show (a.T ++ [true])[j]? = some false ↔ j ∈ a.F
  rw [← h.iff j, List.getElem?_append]
  split
  · exact Iff.rfl
  · rename_i hj
    rw [List.getElem?_eq_none (l := a.T) (by omega)]
    rcases Nat.lt_or_ge (j - a.T.length) 1 with h1 | h1
    · have : j - a.T.length = 0 := by omega
      rw [this]; simp
    · rw [List.getElem?_eq_none (by simpa using h1)]

theorem Ar.pop_ok {a : Ar} (h : a.Ok) {k : Nat} (hk : a.F.getLast? = some k) : (a.pop k).Ok := by
  have hne : a.F ≠ [] := by intro e; rw [e] at hk; cases hk
  have hF : a.F = a.F.dropLast ++ [k] := by
    rw [List.getLast?_eq_some_getLast hne] at hk
    injection hk with hk
    rw [← hk, List.dropLast_concat_getLast]
  have hmem : k ∈ a.F := by rw [hF]; simp
  have hf := (h.iff k).2 hmem
  have hlt : k < a.T.length := (List.getElem?_eq_some_iff.1 hf).1
  have hfk : a.T[k] = false := (List.getElem?_eq_some_iff.1 hf).2
  have hnd := h.nd
  rw [hF, List.nodup_append] at hnd
  refine ⟨h.max, by simp [Ar.pop]; exact h.le, ?_, hnd.1, fun j => ?_⟩
  · show (a.T.set k true).count false = a.F.dropLast.length
    rw [List.count_set hlt, hfk, h.cnt, List.length_dropLast]; simp
  · show (a.T.set k true)[j]? = some false ↔ j ∈ a.F.dropLast
    rw [List.getElem?_set]
    have hj := h.iff j
    rw [hF, List.mem_append] at hj
    by_cases e : k = j
    · subst e
      rw [if_pos rfl, if_pos hlt]
      have : k ∉ a.F.dropLast := fun hm => hnd.2.2 k hm k (by simp) rfl
      simp [this]
    · rw [if_neg e, hj]
      have : j ∉ [k] := by simp; exact fun h => e h.symm
      simp [this]

/-- The free ones' numbers are old ones. -/
theorem Ar.Ok.last_lt {a : Ar} (h : a.Ok) {k : Nat} (hk : a.F.getLast? = some k) : k < a.T.length := by
  have hm : k ∈ a.F := List.mem_of_getLast? hk
  exact (List.getElem?_eq_some_iff.1 ((h.iff k).2 hm)).1

/-- Nodes are given back one by one; nothing where one of them is not taken. -/
def clr (T : List Bool) : List Int → Option (List Bool)
  | [] => some T
  | k :: l => if arIs T k = true then clr (T.set k.toNat false) l else none

/-- Free, where all are taken. -/
def Ar.push (a : Ar) (T' : List Bool) (l : List Int) : Ar := ⟨T', a.F ++ l.map Int.toNat, a.M⟩

/-- Take: what it answers, and the arena behind it. -/
def Ar.take (a : Ar) : Int × Int × Ar :=
  if a.live = a.M then (-1, 3, a) else match a.F.getLast? with
    | some k => ((k : Int), 0, a.pop k)
    | none => ((a.T.length : Int), 0, a.more)
/-- Free: what it answers, and the arena behind it. -/
def Ar.free (a : Ar) (l : List Int) : Int × Ar := match clr a.T l with
  | some T' => (0, a.push T' l)
  | none => (7, a)

end Go.Proofs.YtacoeohmdngnkaaDoor

namespace Go.Proofs.YtacoeohmdngnkaaDoor
set_option linter.unusedVariables false
set_option linter.unusedSimpArgs false
open Go.RowKit

def natA (k : Nat) : Value := .int .i64 k

/-- Block p holds an arena; its own blocks are S. -/
structure IsArena (w : World) (p : Nat) (S : Nat → Prop) (a : Ar) : Prop where
  ok : a.Ok
  ex : ∃ tv fv, w.heap[p]? = some (.cells #[tv, fv, .int .i64 a.M] 128 (0, 0)) ∧ w.ownsRow 0 4 1 tv a.T.length (a.T.map Value.bool) ∧
    w.ownsRow 0 3 1 fv a.F.length (a.F.map natA) ∧ tv.ownBlock ≠ some p ∧ fv.ownBlock ≠ some p ∧ (∀ g, tv.ownBlock = some g → fv.ownBlock ≠ some g) ∧
    (∀ k, S k ↔ k = p ∨ tv.ownBlock = some k ∨ fv.ownBlock = some k)

theorem IsArena.lt {w : World} {p : Nat} {S : Nat → Prop} {a : Ar} (h : IsArena w p S a) : ∀ k, S k → k < w.heap.size := by
  obtain ⟨tv, fv, hp, ht, hf, _, _, _, hS⟩ := h.ex
  intro k hk
  rcases (hS k).1 hk with rfl | h | h
  · exact (Array.getElem?_eq_some_iff.1 hp).1
  · exact (own_lt ht h).2
  · exact (own_lt hf h).2

theorem IsArena.self {w : World} {p : Nat} {S : Nat → Prop} {a : Ar} (h : IsArena w p S a) : S p := by
  obtain ⟨tv, fv, hp, ht, hf, _, _, _, hS⟩ := h.ex
  exact (hS p).2 (Or.inl rfl)

theorem IsArena.chg {w w' : World} {p : Nat} {S S' : Nat → Prop} {a : Ar} (h : IsArena w p S a) (hc : Chg S' w w') (hd : ∀ k, S k → ¬ S' k) : IsArena w' p S a := by
  obtain ⟨hok, tv, fv, hp, ht, hf, n1, n2, n3, hS⟩ := h
  exact ⟨hok, tv, fv, hc.heap hp (hd p ((hS p).2 (Or.inl rfl))), hc.own ht (fun k hk => hd k ((hS k).2 (Or.inr (Or.inl hk)))), hc.own hf (fun k hk => hd k ((hS k).2 (Or.inr (Or.inr hk)))), n1, n2, n3, hS⟩

/-- What a walk sees of an arena. -/
theorem IsArena.see {w : World} {p : Nat} {S : Nat → Prop} {a : Ar} (h : IsArena w p S a) :
    ∃ ta tc fa fc, w.cell? ⟨p, 0, none⟩ = some (.slice ta a.T.length tc) ∧ w.cell? ⟨p, 1, none⟩ = some (.slice fa a.F.length fc) ∧ w.cell? ⟨p, 2, none⟩ = some (.int .i64 a.M) ∧
      (∀ j, w.frozen? ⟨p, j, none⟩ = false) ∧ w.heap[p]? = some (.cells #[.slice ta a.T.length tc, .slice fa a.F.length fc, .int .i64 a.M] 128 (0, 0)) ∧
      w.ownsRow 0 4 1 (.slice ta a.T.length tc) a.T.length (a.T.map Value.bool) ∧ w.ownsRow 0 3 1 (.slice fa a.F.length fc) a.F.length (a.F.map natA) ∧
      (∀ g, ta = some ⟨g, 0, none⟩ → g ≠ p ∧ g < w.heap.size ∧ fa ≠ some ⟨g, 0, none⟩) ∧ (∀ g, fa = some ⟨g, 0, none⟩ → g ≠ p ∧ g < w.heap.size) ∧
      (∀ ad, ta = some ad → ∃ g, ad = ⟨g, 0, none⟩) ∧ (∀ ad, fa = some ad → ∃ g, ad = ⟨g, 0, none⟩) ∧
      (∀ k, S k ↔ k = p ∨ ta = some ⟨k, 0, none⟩ ∨ fa = some ⟨k, 0, none⟩) ∧ p < w.heap.size := by
  obtain ⟨hok, tv, fv, hp, ht, hf, n1, n2, n3, hS⟩ := h
  obtain ⟨ta, tc, rfl, hta, htb⟩ := own_slice ht
  obtain ⟨fa, fc, rfl, hfa, hfb⟩ := own_slice hf
  have ob : ∀ (x : Option Addr) (n c : Nat) (k : Nat), (∀ ad, x = some ad → ∃ g, ad = ⟨g, 0, none⟩ ∧ 0 ≤ g ∧ g < w.heap.size ∧ (Value.slice x n c).ownBlock = some g) → ((Value.slice x n c).ownBlock = some k ↔ x = some ⟨k, 0, none⟩) := by
    intro x n c k h
    cases x with
    | none => simp [Value.ownBlock]
    | some ad =>
      obtain ⟨g, rfl, _⟩ := h ad rfl
      simp [Value.ownBlock]
  refine ⟨ta, tc, fa, fc, by rw [cell_of_row w p 0 _ _ _ hp]; rfl, by rw [cell_of_row w p 1 _ _ _ hp]; rfl, by rw [cell_of_row w p 2 _ _ _ hp]; rfl, fun j => frozen_of_row w p j _ _ hp, hp, ht, hf, ?_, ?_, ?_, ?_, ?_, (Array.getElem?_eq_some_iff.1 hp).1⟩
  · intro g hg
    obtain ⟨g', e, _, hlt, ho⟩ := htb _ hg
    cases e
    exact ⟨fun e => n1 (e ▸ ho), hlt, fun e => n3 g ho ((ob fa _ fc g hfb).2 e)⟩
  · intro g hg
    obtain ⟨g', e, _, hlt, ho⟩ := hfb _ hg
    cases e
    exact ⟨fun e => n2 (e ▸ ho), hlt⟩
  · intro ad h; obtain ⟨g, e, _⟩ := htb ad h; exact ⟨g, e⟩
  · intro ad h; obtain ⟨g, e, _⟩ := hfb ad h; exact ⟨g, e⟩
  · intro k
    rw [hS k, ob ta _ tc k htb, ob fa _ fc k hfb]

theorem arNew_good (m : Nat) (w : World) (h : m ≤ 268435456) :
    Calls Tryd.prog 92 #[.int .i64 m] w fun e w' => e = .returned (.pointer (some ⟨w.heap.size, 0, none⟩)) ∧ IsArena w' w.heap.size (fun k => k = w.heap.size) (Ar.new m) ∧ Chg (fun _ => False) w w' := by
  have hd : decide ((m : Int) < 0) = false := by simp
  have hd2 : decide ((268435456 : Int) < (m : Int)) = false := by simp; omega
  go_enter Tryd.func92, Tryd.ntmps92
  go_wp2
  go_ret
  refine ⟨rfl, ⟨Ar.new_ok h, .slice none 0 0, .slice none 0 0, heap_alloc_new w _, World.ownsRow_nil _ _ _ _, World.ownsRow_nil _ _ _ _, by simp [Value.ownBlock], by simp [Value.ownBlock], fun g hg => by simp [Value.ownBlock] at hg, fun k => by simp [Value.ownBlock]⟩, Chg.refl.alloc _⟩

theorem arLive_any {w : World} {p : Nat} {S : Nat → Prop} {a : Ar} (h : IsArena w p S a) :
    Calls Tryd.prog 118 #[.pointer (some ⟨p, 0, none⟩)] w fun e w' => e = .returned (.int .i64 a.live) ∧ ∃ n, w' = w.drewN n := by
  obtain ⟨ta, tc, fa, fc, h0, h1, h2, hfz, hp, ht, hf, n1, n2, n3, n4, hS, hpl⟩ := h.see
  have hle := h.ok.fle
  have hl : (a.T.length : Int) - (a.F.length : Int) = (a.live : Int) := by unfold Ar.live; omega
  have hmx := h.ok.max
  have hm2 := h.ok.le
  clear hp ht hf n1 n2 n3 n4 hS hfz
  have HL := Lib.hid hl; clear hl
  go_enter Tryd.func118, Tryd.ntmps118
  go_wp2_with fail
  go_quiet (fail)
  go_wp2
  go_ret
  exact ⟨ret_int HL.out, _, rfl⟩

end Go.Proofs.YtacoeohmdngnkaaDoor

namespace Go.Proofs.YtacoeohmdngnkaaDoor
set_option linter.unusedVariables false
set_option linter.unusedSimpArgs false
open Go.RowKit

theorem Tryd.infoBool : (Tryd.prog.info? 4).map (fun i => (i.zero, i.size, i.bytes)) = some (some (.bool false), 1, 1) := by kernel_rfl
/-- What a step on an arena leaves: the arena, and all blocks outside its own (or new) as they were. -/
def ArStep (w w' : World) (p : Nat) (S : Nat → Prop) (a' : Ar) : Prop := ∃ S', IsArena w' p S' a' ∧ Chg S w w' ∧ ∀ k, S' k → S k ∨ w.heap.size ≤ k

theorem heap_set_cells {w : World} {p : Nat} {cs : Array Value} {t : TypeId} (h : w.heap[p]? = some (.cells cs t (0, 0))) (j : Nat) (v : Value) : (w.setCell ⟨p, j, none⟩ v).heap[p]? = some (.cells (cs.setIfInBounds j v) t (0, 0)) :=
  heap_setCell_same w p j cs t v h
theorem heap_set_other {w : World} {b p j : Nat} {v : Value} {o : Obj} (h : w.heap[b]? = some o) (hne : b ≠ p) : (w.setCell ⟨p, j, none⟩ v).heap[b]? = some o := by
  rw [heap_setCell_other w ⟨p, j, none⟩ b v hne]; exact h
theorem own_set_other {w : World} {base : Nat} {e : TypeId} {sz n : Nat} {a : Option Addr} {c : Nat} {xs : List Value} (h : w.ownsRow base e sz (.slice a n c) n xs) {p j : Nat} (v : Value) (hne : ∀ g, a = some ⟨g, 0, none⟩ → g ≠ p) (ha : ∀ ad, a = some ad → ∃ g, ad = ⟨g, 0, none⟩) :
    (w.setCell ⟨p, j, none⟩ v).ownsRow base e sz (.slice a n c) n xs := ownsRow_setCell_other h (by
  cases a with
  | none => simp [Value.ownBlock]
  | some ad =>
    obtain ⟨g, rfl⟩ := ha ad rfl
    simpa [Value.ownBlock] using hne g rfl) v

/-- An arena out of its parts. -/
theorem IsArena.of {w : World} {p : Nat} {a : Ar} {ta fa : Option Addr} {tc fc : Nat} (ok : a.Ok) (hp : w.heap[p]? = some (.cells #[.slice ta a.T.length tc, .slice fa a.F.length fc, .int .i64 a.M] 128 (0, 0)))
    (ht : w.ownsRow 0 4 1 (.slice ta a.T.length tc) a.T.length (a.T.map Value.bool)) (hf : w.ownsRow 0 3 1 (.slice fa a.F.length fc) a.F.length (a.F.map natA))
    (n1 : ∀ g, ta = some ⟨g, 0, none⟩ → g ≠ p ∧ fa ≠ some ⟨g, 0, none⟩) (n2 : ∀ g, fa = some ⟨g, 0, none⟩ → g ≠ p) :
    IsArena w p (fun k => k = p ∨ ta = some ⟨k, 0, none⟩ ∨ fa = some ⟨k, 0, none⟩) a := by
  have ob : ∀ (x : Option Addr) (n c : Nat) (k : Nat), (∀ ad, x = some ad → ∃ g, ad = (⟨g, 0, none⟩ : Addr)) → ((Value.slice x n c).ownBlock = some k ↔ x = some ⟨k, 0, none⟩) := by
    intro x n c k h
    cases x with
    | none => simp [Value.ownBlock]
    | some ad =>
      obtain ⟨g, rfl⟩ := h ad rfl
      simp [Value.ownBlock]
  have ha : ∀ ad, ta = some ad → ∃ g, ad = (⟨g, 0, none⟩ : Addr) := by
    obtain ⟨x, c, hv, _, hb⟩ := own_slice ht
    injection hv with e1 e2 e3
    intro ad h; obtain ⟨g, e, _⟩ := hb ad (e1 ▸ h); exact ⟨g, e⟩
  have hb : ∀ ad, fa = some ad → ∃ g, ad = (⟨g, 0, none⟩ : Addr) := by
    obtain ⟨x, c, hv, _, hb⟩ := own_slice hf
    injection hv with e1 e2 e3
    intro ad h; obtain ⟨g, e, _⟩ := hb ad (e1 ▸ h); exact ⟨g, e⟩
  refine ⟨ok, _, _, hp, ht, hf, fun e => (n1 p ((ob ta _ tc p ha).1 e)).1 rfl, fun e => (n2 p ((ob fa _ fc p hb).1 e)) rfl, fun g hg e => (n1 g ((ob ta _ tc g ha).1 hg)).2 ((ob fa _ fc g hb).1 e), fun k => ?_⟩
  rw [ob ta _ tc k ha, ob fa _ fc k hb]

theorem arTake_pop {w : World} {p : Nat} {S : Nat → Prop} {a : Ar} (h : IsArena w p S a) (hl : a.live ≠ a.M) {k : Nat} (hk : a.F.getLast? = some k) :
    Calls Tryd.prog 115 #[.pointer (some ⟨p, 0, none⟩)] w fun e w' => e = .returned (.tuple #[.int .i64 k, .int .i64 0]) ∧ ArStep w w' p S (a.pop k) := by
  obtain ⟨ta, tc, fa, fc, h0, h1, h2, hfz, hp, ht, hf, n1, n2, n3, n4, hS, hpl⟩ := h.see
  have hkl := h.ok.last_lt hk
  have hmx := h.ok.max
  have hm2 := h.ok.le
  have hfl := h.ok.fle
  have hne : a.F ≠ [] := by intro e; rw [e] at hk; cases hk
  have hFn : 0 < a.F.length := List.length_pos_iff.2 hne
  obtain ⟨fb, fcap, hv, _, hfb, hfcap, _, hfcell, _⟩ := own_some hf hFn
  injection hv with e1 _ e3
  subst e1; subst e3
  obtain ⟨tb, tcap, hv, _, htb, htcap, _, htcell, htfz⟩ := own_some ht (by omega)
  injection hv with e1 _ e3
  subst e1; subst e3
  obtain ⟨ntp, _, ntf⟩ := n1 tb rfl
  obtain ⟨nfp, _⟩ := n2 fb rfl
  have hcF := hfcell (a.F.length - 1) (by omega)
  rw [List.getElem?_map, ← List.getLast?_eq_getElem?, hk] at hcF
  have hcT := htcell k hkl
  rw [List.getElem?_map, List.getElem?_eq_getElem hkl] at hcT
  simp only [Option.map_some, natA] at hcT hcF
  have hz0 := htfz k
  have hlb : ((a.live : Int) == (a.M : Int)) = false := by simp; omega
  have hq : ∀ n, IsArena (w.drewN n) p S a := fun n => h.chg (Chg.refl.drewN n) (S' := fun _ => False) (fun k hk hf => hf)
  have HQ := Lib.hid hq; clear hq
  have hpop := Ar.pop_ok h.ok hk
  generalize hb0 : a.T[k] = b0 at *
  have hd0 : decide ((0 : Int) < (a.F.length : Int)) = true := by simp; omega
  have hz1 := hfz 1
  have HF := Lib.hid hfz
  have HP := Lib.hid hp
  have HT := Lib.hid ht
  have HFr := Lib.hid hf
  have HS := Lib.hid hS
  clear hfz hp ht hf hS htcell hfcell htfz n1 n2 n3 n4 hl hb0
  obtain ⟨n, hn⟩ : ∃ n, a.F.length = n + 1 := ⟨a.F.length - 1, by omega⟩
  have HN := Lib.hid hn
  rw [hn] at h1 hfcap hd0 hcF hFn hfl
  rw [show n + 1 - 1 = n from by omega] at hcF
  clear hn
  go_enter Tryd.func115, Tryd.ntmps115
  go_wp2_with fail
  go_quiet ((go_at_call 118; exact Calls.quiet_of (arLive_any (HQ.out _))))
  go_wp2
  go_ret2
  have e1 : (a.pop k).T.length = a.T.length := by simp [Ar.pop]
  have e2 : (a.pop k).F.length = n := by have := HN.out; simp [Ar.pop]; omega
  have hne2 : fb ≠ tb := fun e => ntf (by rw [e])
  refine ⟨rfl, _, IsArena.of (ta := some ⟨tb, 0, none⟩) (tc := tc) (fa := some ⟨fb, 0, none⟩) (fc := fc) hpop ?_ ?_ ?_ ?_ ?_, ?_, ?_⟩
  · rw [e1, e2]
    have := heap_set_other (heap_set_cells (w := w.drewN nq) HP.out 1 (.slice (some ⟨fb, 0, none⟩) n fc)) (p := tb) (j := k) (v := .bool true) (fun e => ntp e.symm)
    exact this
  · rw [e1]
    have := own_set (own_set_other (w := w.drewN nq) HT.out (p := p) (j := 1) (.slice (some ⟨fb, 0, none⟩) n fc) (fun g hg => by cases hg; exact ntp) (fun ad hg => by cases hg; exact ⟨_, rfl⟩)) k (.bool true)
    rw [← List.map_set] at this
    exact this
  · rw [e2]
    have h3 := HFr.out
    rw [HN.out] at h3
    have h4 := own_take h3 (m := n) (by omega)
    have e3 : (a.F.map natA).take n = (a.pop k).F.map natA := by
      rw [← List.map_take]; congr 1; show _ = a.F.dropLast; rw [List.dropLast_eq_take, HN.out]; rfl
    rw [e3] at h4
    exact own_set_other (own_set_other (w := w.drewN nq) h4 _ (fun g hg => by cases hg; exact nfp) (fun ad hg => by cases hg; exact ⟨_, rfl⟩)) _ (fun g hg => by cases hg; exact hne2) (fun ad hg => by cases hg; exact ⟨_, rfl⟩)
  · intro g hg; cases hg; exact ⟨ntp, ntf⟩
  · intro g hg; cases hg; exact nfp
  · exact ((Chg.refl.drewN nq).setCell _ (Or.inl ((HS.out p).2 (Or.inl rfl))) _).setCell _ (Or.inl ((HS.out tb).2 (Or.inr (Or.inl rfl)))) _
  · exact fun x hx => Or.inl ((HS.out x).2 hx)

theorem arTake_more {w : World} {p : Nat} {S : Nat → Prop} {a : Ar} (h : IsArena w p S a) (hl : a.live ≠ a.M) (hk : a.F = []) :
    Calls Tryd.prog 115 #[.pointer (some ⟨p, 0, none⟩)] w fun e w' => e = .returned (.tuple #[.int .i64 a.T.length, .int .i64 0]) ∧ ArStep w w' p S a.more := by
  obtain ⟨ta, tc, fa, fc, h0, h1, h2, hfz, hp, ht, hf, n1, n2, n3, n4, hS, hpl⟩ := h.see
  have hmx := h.ok.max
  have hm2 := h.ok.le
  have hlt : a.T.length < a.M := by
    simp only [Ar.live, hk, List.length_nil] at hl; omega
  have hlb : ((a.live : Int) == (a.M : Int)) = false := by simp; omega
  have hq : ∀ n, IsArena (w.drewN n) p S a := fun n => h.chg (Chg.refl.drewN n) (S' := fun _ => False) (fun k hk hf => hf)
  have HQ := Lib.hid hq; clear hq
  have hmore := Ar.more_ok h.ok hlt
  have hz0 := hfz 0
  have hF0 : a.F.length = 0 := by rw [hk]; rfl
  have HP := Lib.hid hp
  have HFr := Lib.hid hf
  have HS := Lib.hid hS
  have HF0 := Lib.hid hF0
  have HK := Lib.hid hk
  have ob : ∀ x n c, (Value.slice ta n c).ownBlock = some x → ta = some ⟨x, 0, none⟩ := by
    intro x n c hx
    cases ta with
    | none => simp [Value.ownBlock] at hx
    | some ad => obtain ⟨g, rfl⟩ := n3 ad rfl; simp [Value.ownBlock] at hx; rw [hx]
  rw [hF0] at h1
  have HN1 := Lib.hid n1
  have HN2 := Lib.hid n2
  have HN3 := Lib.hid n3
  have HN4 := Lib.hid n4
  have HOB := Lib.hid ob
  clear hfz hp hf hS n1 n2 n3 n4 hl hF0 hk ob
  go_enter Tryd.func115, Tryd.ntmps115
  go_wp2_with fail
  go_quiet ((go_at_call 118; exact Calls.quiet_of (arLive_any (HQ.out _))))
  go_wp2_with (at_builtin; refine wpList_pushL rfl _ _ 39 rfl 0 4 Tryd.infoBool Tryd.underlying39 rfl _ _ _ rfl ht rfl rfl ?c1 ?c2 ?c3 ?_)
  case c1 => unfold maxLen; omega
  case c2 => omega
  case c3 => omega
  intro g cap w1 hown hgrow hor hgl
  have hpn : some p ≠ (Value.slice ta a.T.length tc).ownBlock := fun e => ((HN1.out p (HOB.out p _ _ e.symm)).1 rfl)
  have hp1 : w1.heap[p]? = some (.cells #[.slice ta a.T.length tc, .slice fa a.F.length fc, .int .i64 a.M] 128 (0, 0)) := (hgrow.block p hpl hpn).trans HP.out
  have hc1 : w1.cell? ⟨p, 0, none⟩ = some (.slice ta a.T.length tc) := by rw [cell_of_row w1 p 0 _ _ _ hp1]; rfl
  have hf1 : w1.frozen? ⟨p, 0, none⟩ = false := frozen_of_row w1 p 0 _ _ hp1
  have HP1 := Lib.hid hp1
  have HO := Lib.hid hown
  have HG := Lib.hid hgrow
  have HOR := Lib.hid hor
  clear hp1 hown hgrow hor hpn ht h0 h1
  go_wp2
  go_ret2
  have hgp : g ≠ p := by
    rcases HOR.out with e | e
    · exact fun e2 => (HN1.out g (HOB.out g _ _ e)).1 e2
    · intro e2; subst e2; exact absurd hpl (by have : (w.drewN nq).heap.size = w.heap.size := rfl; omega)
  have hgf : fa ≠ some ⟨g, 0, none⟩ := by
    rcases HOR.out with e | e
    · exact (HN1.out g (HOB.out g _ _ e)).2.2
    · intro e2; have := (HN2.out g e2).2; have h3 : (w.drewN nq).heap.size = w.heap.size := rfl; omega
  have e1 : a.more.T.length = a.T.length + 1 := by simp [Ar.more]
  have hfo : w1.ownsRow 0 3 1 (.slice fa a.F.length fc) a.F.length (a.F.map natA) := by
    refine HFr.out.kept (w := w.drewN nq) HG.out ?_
    cases fa with
    | none => left; rfl
    | some ad =>
      obtain ⟨g2, rfl⟩ := HN4.out ad rfl
      right
      intro e
      have e3 : ta = some ⟨g2, 0, none⟩ := HOB.out g2 _ _ (by rw [← e]; rfl)
      exact (HN1.out g2 e3).2.2 rfl
  refine ⟨by simp, _, IsArena.of (ta := some ⟨g, 0, none⟩) (tc := cap) (fa := fa) (fc := fc) hmore ?_ ?_ ?_ ?_ ?_, ?_, ?_⟩
  · rw [e1]
    exact heap_set_cells HP1.out 0 (.slice (some ⟨g, 0, none⟩) (a.T.length + 1) cap)
  · rw [e1]
    have h3 : a.more.T.map Value.bool = a.T.map Value.bool ++ [.bool true] := by simp [Ar.more]
    rw [h3]
    exact own_set_other HO.out _ (fun g' hg' => by cases hg'; exact hgp) (fun ad hg' => by cases hg'; exact ⟨_, rfl⟩)
  · exact own_set_other hfo _ (fun g' hg' => (HN2.out g' hg').1) (fun ad hg' => HN4.out ad hg')
  · intro g' hg'; cases hg'; exact ⟨hgp, hgf⟩
  · intro g' hg'; exact (HN2.out g' hg').1
  · exact ((Chg.refl.drewN nq).grown HG.out (fun x hx => Or.inl ((HS.out x).2 (Or.inr (Or.inl (HOB.out x _ _ hx)))))).setCell _ (Or.inl ((HS.out p).2 (Or.inl rfl))) _
  · intro x hx
    rcases hx with rfl | hx | hx
    · exact Or.inl ((HS.out _).2 (Or.inl rfl))
    · cases hx
      rcases HOR.out with e | e
      · exact Or.inl ((HS.out _).2 (Or.inr (Or.inl (HOB.out _ _ _ e))))
      · exact Or.inr e
    · exact Or.inl ((HS.out _).2 (Or.inr (Or.inr hx)))

end Go.Proofs.YtacoeohmdngnkaaDoor

namespace Go.Proofs.YtacoeohmdngnkaaDoor
set_option linter.unusedVariables false
set_option linter.unusedSimpArgs false
open Go.RowKit

end Go.Proofs.YtacoeohmdngnkaaDoor
