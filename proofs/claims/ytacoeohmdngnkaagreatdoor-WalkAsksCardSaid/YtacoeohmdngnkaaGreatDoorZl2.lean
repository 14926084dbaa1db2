/- Lemmas and contracts under the claims of this seat: Frames: which blocks a step may have changed; own rows and rows that are read behind it; of no program. Laws on append that say where the new row lies; of no program. Rows that are read, of whatever cells; slices of them; append, operation by operation; of no program. Laws to meet a region that draws its order, one operation after the other; of no program. Contracts of package block that read: Len, has, Get, Ones, Rank, Select. Contracts of block.Rank and block.Select. Arrays whose cells are told by a function of the place; of no program. Contracts of package block that write: New, set, Insert, Delete. Contracts of block.All, Split, Join. Plain lemmas on arenas, of no program: which nodes are taken, which are free. Contracts of package arena: New, Take, Free, Is, Live, Made. Contracts of arena.Take. Contracts of arena.Free. Trees of bits in memory: nodes and rows of them, subtrees, the head of a tree. Contracts of package tree that read: Len, Ones, has, like. Contracts of package tree that go down: Get, Rank, Select. Contract of package tree: fix. General lemmas, of no program: makes, own rows told by a function of the place, quiet calls. -/
import Derived.Test.YtacoeohmdngnkaaGreatDoorZl1
import Derived.Laws.AppendOwnNone
import Derived.Deep.Draws
import Derived.OneCell
import Derived.Deep.AppendLies
import Derived.Deep.RegionHeld3
import Derived.LoopN
import Derived.Deep.DeepCutAuto
import Derived.Deep.CutBlock
import Derived.Deep.CutRange
import Derived.Laws.MakeOwn
import Derived.LaidEqlPtr
import Derived.Deep.QuietTactic
import Derived.BigQuiet
import Derived.Below
import Derived.Deep.LoopGhost
import Derived.IntWalk

namespace Go.Proofs.YtacoeohmdngnkaaGreatDoor
set_option linter.unusedVariables false
set_option linter.unusedSimpArgs false
open Go.RowKit

/-- Outside S all blocks that were there are as they were. -/
structure Chg (S : Nat → Prop) (w w' : World) : Prop where
  os : w'.os = w.os
  tape : w'.tape = w.tape
  output : w'.output = w.output
  size : w.heap.size ≤ w'.heap.size
  block : ∀ k, k < w.heap.size → ¬ S k → w'.heap[k]? = w.heap[k]?

section
variable {S S' : Nat → Prop} {w w1 w2 w' : World}

theorem Chg.refl : Chg S w w := ⟨rfl, rfl, rfl, Nat.le_refl _, fun _ _ _ => rfl⟩
theorem Chg.trans (h : Chg S w w1) (k : Chg S' w1 w2) (hs : ∀ b, S' b → S b ∨ w.heap.size ≤ b) : Chg S w w2 :=
  ⟨k.os.trans h.os, k.tape.trans h.tape, k.output.trans h.output, Nat.le_trans h.size k.size, fun b hb hn =>
    (k.block b (Nat.lt_of_lt_of_le hb h.size) (fun hs' => (hs b hs').elim hn (fun h' => by omega))).trans (h.block b hb hn)⟩
theorem Chg.mono (h : Chg S w w') (hs : ∀ b, S b → S' b) : Chg S' w w' := ⟨h.os, h.tape, h.output, h.size, fun b hb hn => h.block b hb (fun x => hn (hs b x))⟩
theorem Chg.drew (h : Chg S w w') : Chg S w w'.drew := ⟨h.os, h.tape, h.output, h.size, h.block⟩
theorem Chg.drewN (h : Chg S w w') (n : Nat) : Chg S w (w'.drewN n) := ⟨h.os, h.tape, h.output, h.size, h.block⟩
theorem Chg.alloc (h : Chg S w w') (o : Obj) : Chg S w (w'.alloc o) :=
  ⟨h.os, h.tape, h.output, by have := h.size; simp; omega, fun b hb hn => by rw [Below.heap_alloc w' o b (by have := h.size; omega)]; exact h.block b hb hn⟩
theorem Chg.setCell (h : Chg S w w') (p : Addr) (hp : S p.block ∨ w.heap.size ≤ p.block) (u : Value) : Chg S w (w'.setCell p u) :=
  ⟨h.os, h.tape, h.output, by have := h.size; simpa [World.setCell] using this, fun b hb hn => by
    rw [Below.heap_setCell w' p u b (fun e => by subst e; exact hp.elim hn (fun h' => by omega))]; exact h.block b hb hn⟩
theorem Chg.grown {row : Option Nat} (h : Chg S w w1) (hg : w1.grownBy w' row) (hr : ∀ k, row = some k → S k ∨ w.heap.size ≤ k) : Chg S w w' :=
  ⟨hg.os.trans h.os, hg.tape.trans h.tape, hg.output.trans h.output, Nat.le_trans h.size hg.size, fun b hb hn =>
    (hg.block b (Nat.lt_of_lt_of_le hb h.size) (fun e => (hr b e.symm).elim hn (fun h' => by omega))).trans (h.block b hb hn)⟩
theorem Chg.below (h : Chg S w w') {B : Nat} (hs : ∀ b, S b → B ≤ b) (hB : B ≤ w.heap.size) : Below B w w' :=
  ⟨h.os, h.tape, h.output, h.size, fun b hb => h.block b (by omega) (fun x => by have := hs b x; omega)⟩
theorem Chg.of_below (h : Below w.heap.size w w') : Chg S w w' := ⟨h.os, h.tape, h.output, h.size, fun b hb _ => h.block b hb⟩
theorem Chg.heap (h : Chg S w w') {b : Nat} {o : Obj} (hb : w.heap[b]? = some o) (hn : ¬ S b) : w'.heap[b]? = some o :=
  (h.block b (Array.getElem?_eq_some_iff.1 hb).1 hn).trans hb
theorem Chg.cell (h : Chg S w w') {p : Addr} {v : Value} (hc : w.cell? p = some v) (hn : ¬ S p.block) : w'.cell? p = some v :=
  (World.cell?_of_block (h.block p.block (World.block_lt_of_cell? w p hc) hn)).trans hc
theorem Chg.own (h : Chg S w w') {base : Nat} {e : TypeId} {sz : Nat} {v : Value} {n : Nat} {xs : List Value} (ho : w.ownsRow base e sz v n xs) (hn : ∀ k, v.ownBlock = some k → ¬ S k) : w'.ownsRow base e sz v n xs := by
  refine ⟨ho.1, ?_⟩
  rcases ho.2 with hx | ⟨g, cap, cur, rfl, hbg, hg, rest⟩
  · exact .inl hx
  · exact .inr ⟨g, cap, cur, rfl, hbg, h.heap hg (hn g rfl), rest⟩
theorem Chg.reads (h : Chg S w w') {k : IntKind} {a : Option Addr} {xs : List Int} (hr : Reads w k a xs) (hn : ∀ ad, a = some ad → ¬ S ad.block) : Reads w' k a xs := by
  intro i hi
  obtain ⟨b, off, rfl, hlt, hc⟩ := hr i hi
  exact ⟨b, off, rfl, by have := h.size; omega, fun j hj => h.cell (hc j hj) (hn ⟨b, off, none⟩ rfl)⟩
end

/-- An own row, as a slice: its address is nothing or the head of a block; a row that is read. -/
theorem own_slice {w : World} {base : Nat} {e : TypeId} {sz : Nat} {v : Value} {n : Nat} {xs : List Value} (h : w.ownsRow base e sz v n xs) :
    ∃ a c, v = .slice a n c ∧ (a = none → n = 0 ∧ c = 0) ∧ (∀ ad, a = some ad → ∃ g, ad = ⟨g, 0, none⟩ ∧ base ≤ g ∧ g < w.heap.size ∧ v.ownBlock = some g) := by
  rcases h.2 with ⟨rfl, rfl⟩ | ⟨g, cap, cur, rfl, hbg, hg, rest⟩
  · exact ⟨none, 0, rfl, (fun _ => ⟨rfl, rfl⟩), fun ad h => by cases h⟩
  · exact ⟨some ⟨g, 0, none⟩, cap, rfl, (fun h => by cases h), fun ad h => by cases h; exact ⟨g, rfl, hbg, (Array.getElem?_eq_some_iff.1 hg).1, rfl⟩⟩

theorem own_lt {w : World} {base : Nat} {e : TypeId} {sz : Nat} {v : Value} {n : Nat} {xs : List Value} (h : w.ownsRow base e sz v n xs) {k : Nat} (hk : v.ownBlock = some k) : base ≤ k ∧ k < w.heap.size := h.lt k hk

/-- A store into an own row of one-cell elements. -/
theorem own_set {w : World} {base : Nat} {e : TypeId} {g cap n : Nat} {xs : List Value} (h : w.ownsRow base e 1 (.slice (some ⟨g, 0, none⟩) n cap) n xs) (j : Nat) (u : Value) :
    (w.setCell ⟨g, j, none⟩ u).ownsRow base e 1 (.slice (some ⟨g, 0, none⟩) n cap) n (xs.set j u) := by
  obtain ⟨h1, h2⟩ := h
  refine ⟨by simpa using h1, ?_⟩
  rcases h2 with ⟨h, _⟩ | ⟨g', cap', cur, hv, hb, hg, hc, hm, hs, ht⟩
  · cases h
  · injection hv with e1 e2 e3
    simp only [Option.some.injEq, Addr.mk.injEq, and_true] at e1
    subst e1; subst e3
    refine .inr ⟨g, cap, cur.setIfInBounds j u, rfl, hb, heap_setCell_same w g j cur e u hg, hc, hm, by simpa using hs, ?_⟩
    rw [Array.toList_setIfInBounds, ← ht, List.take_set]

/-- The first elements of an own row. -/
theorem own_take {w : World} {base : Nat} {e : TypeId} {g cap n m : Nat} {xs : List Value} (h : w.ownsRow base e 1 (.slice (some ⟨g, 0, none⟩) n cap) n xs) (hm : m ≤ n) :
    w.ownsRow base e 1 (.slice (some ⟨g, 0, none⟩) m cap) m (xs.take m) := by
  obtain ⟨h1, h2⟩ := h
  refine ⟨by rw [List.length_take]; omega, ?_⟩
  rcases h2 with ⟨h, _⟩ | ⟨g', cap', cur, hv, hb, hg, hc, hmx, hs, ht⟩
  · cases h
  · injection hv with e1 e2 e3
    simp only [Option.some.injEq, Addr.mk.injEq, and_true] at e1
    subst e1; subst e3
    refine .inr ⟨g, cap, cur, rfl, hb, hg, by omega, hmx, hs, ?_⟩
    rw [← ht, List.take_take]
    congr 1; omega

end Go.Proofs.YtacoeohmdngnkaaGreatDoor

namespace Go.Proofs.YtacoeohmdngnkaaGreatDoor
set_option linter.unusedVariables false
set_option linter.unusedSimpArgs false
open Go.RowKit

/-- 'l = append(l, x)': one element is pushed; the new row is the old one or a new block. -/
theorem wpList_pushL {P : Program} {w : World} {ops : Array Oper} {rest : List Oper} {o : Oper} {a : Act} {Q : Exit → Act → World → Prop} {e' : TypeId} {u : Value} (hgd : o.guard = none) (s x : Operand) (t : TypeId)
    (ho : o.op = .call { callee := .builtin .append, args := #[s, x], argTypes := #[t, t] })
    (base : Nat) (e : TypeId) {z : Value} {bytes : Nat} (hinfo : (P.info? e).map (fun i => (i.zero, i.size, i.bytes)) = some (some z, 1, bytes)) (ht : P.underlying t = some (.slice e)) (hz1 : z.cells.size = 1)
    (v : Value) (n : Nat) (xs : List Value) (hs : a.eval s = v) (hown : w.ownsRow base e 1 v n xs)
    (hx : a.eval x = .slice (some ⟨w.heap.size, 0, none⟩) 1 1) (h1 : u.oneCell' = true)
    (h63 : n + 1 ≤ maxLen) (hbytes : (n + 1) * bytes ≤ 140737488355328) (hbase : base ≤ w.heap.size)
    (h : ∀ g cap w', w'.ownsRow base e 1 (.slice (some ⟨g, 0, none⟩) (n + 1) cap) (n + 1) (xs ++ [u]) → w.grownBy w' v.ownBlock → (v.ownBlock = some g ∨ w.heap.size ≤ g) → g < w'.heap.size →
      wpList P ops Q rest (a.put o.dst (.slice (some ⟨g, 0, none⟩) (n + 1) cap)) w') : wpList P ops Q (o :: rest) a (w.alloc (.cells #[u] e')) := by
  obtain ⟨i, hi, hz, hsz, hby⟩ := info_parts hinfo
  refine wpList_append_lies (w.alloc (.cells #[u] e')) hgd s x t ho base e i z 1 bytes ht hi hz hsz hby hz1 (by omega) v n xs hs (hown.alloc _) ⟨w.heap.size, 0, none⟩ 1 1 [u] hx rfl ?_ ?_ (by omega) h63 hbytes ?_ _ rfl ?_
  · intro j u' hj
    match j, hj with
    | 0, hj => simp at hj; subst hj; simp [Addr.add]
  · intro u' hu; simp at hu; subst hu; exact h1
  · simp; omega
  · intro g cap w' h1 h2 h3 h4
    exact h g cap w' h1 ⟨h2.os, h2.tape, h2.output, by have := h2.size; simp at this; omega, fun k hk hne => by
      rw [h2.block k (by simp; omega) hne]; exact Below.heap_alloc w _ k hk⟩ (h3.imp id (fun h => by simp at h; omega)) h4

/-- 'append(s, x...)' onto an own row, whatever slice is appended: nil, empty or not; the new row is the old one or a new block. -/
theorem wpList_appendL {P : Program} {w : World} {ops : Array Oper} {rest : List Oper} {o : Oper} {a : Act} {Q : Exit → Act → World → Prop} (hgd : o.guard = none) (s x : Operand) (t : TypeId)
    (ho : o.op = .call { callee := .builtin .append, args := #[s, x], argTypes := #[t, t] })
    (base : Nat) (e : TypeId) {z : Value} {bytes : Nat} (hinfo : (P.info? e).map (fun i => (i.zero, i.size, i.bytes)) = some (some z, 1, bytes)) (ht : P.underlying t = some (.slice e)) (hz1 : z.cells.size = 1)
    (v : Value) (n : Nat) (xs : List Value) (hs : a.eval s = v) (hown : w.ownsRow base e 1 v n xs)
    (ad : Option Addr) (m c : Nat) (news : List Value) (hx : a.eval x = .slice ad m c) (hl : news.length = m) (hnil : ad = none → m = 0 ∧ c = 0)
    (hnews : ∀ p, ad = some p → ∀ j u, news[j]? = some u → w.cell? (p.add j) = some u) (h1 : ∀ u ∈ news, u.oneCell' = true)
    (h63 : n + m ≤ maxLen) (hbytes : (n + m) * bytes ≤ 140737488355328) (hbase : base ≤ w.heap.size)
    (h : ∀ a' c' w', w'.ownsRow base e 1 (.slice a' (n + m) c') (n + m) (xs ++ news) → w.grownBy w' v.ownBlock → (∀ g, a' = some ⟨g, 0, none⟩ → v.ownBlock = some g ∨ w.heap.size ≤ g) →
      wpList P ops Q rest (a.put o.dst (.slice a' (n + m) c')) w') : wpList P ops Q (o :: rest) a w := by
  obtain ⟨i, hi, hz, hsz, hby⟩ := info_parts hinfo
  by_cases hm : m = 0
  · subst hm
    have hn : news = [] := List.eq_nil_of_length_eq_zero hl
    subst hn
    have key : ∀ v' w', w'.ownsRow base e 1 v' (n + 0) (xs ++ []) → w.grownBy w' v.ownBlock → (v'.ownBlock = v.ownBlock ∨ v'.ownBlock = some w.heap.size) → wpList P ops Q rest (a.put o.dst v') w' := by
      intro v' w' ho' hg' hor
      obtain ⟨a', c', rfl, _, hb⟩ := own_slice ho'
      refine h a' c' w' ho' hg' (fun g hg => ?_)
      subst hg
      obtain ⟨g', e1, _, _, e2⟩ := hb _ rfl
      cases e1
      rcases hor with hor | hor
      · left; rw [← hor]; exact e2
      · right; rw [hor] at e2; injection e2 with e2; omega
    cases ad with
    | none =>
      obtain ⟨_, rfl⟩ := hnil rfl
      exact wpList_append_own_none hgd s x t ho base e i 1 ht hi v n xs hs hown hx (key v w (by simpa using hown) (World.grownBy.refl _ _) (Or.inl rfl))
    | some p =>
      refine wpList_plain hgd fun K hK => ?_
      obtain ⟨v', w', hr, h2, h3, _, h5⟩ := run_append_own_at (P := P) w base t o.type e i z 1 bytes ht hi hz hsz hby hz1 (by omega) v n xs hown p 0 c [] (by simp) (by simp) (by simp) h63 hbytes hbase
      unfold Oper.wp execOp
      simp only [ho, resolve, invoke, builtin, Sem.run_bind, Sem.run_pure, Result.andThen_ok, List.map_toArray, List.map_cons, List.map_nil, hs, hx, hr]
      exact hK _ _ (key v' w' h2 h3 h5)
  · cases ad with
    | none => exact absurd (hnil rfl).1 hm
    | some p =>
      refine wpList_append_lies w hgd s x t ho base e i z 1 bytes ht hi hz hsz hby hz1 (by omega) v n xs hs hown p m c news hx (by omega) (hnews p rfl) h1 (by omega) h63 hbytes hbase _ rfl ?_
      intro g cap w' a1 a2 a3 a4
      exact h _ _ w' a1 a2 (fun g' hg' => by cases hg'; exact a3.imp id (fun h => by omega))

end Go.Proofs.YtacoeohmdngnkaaGreatDoor

namespace Go.Proofs.YtacoeohmdngnkaaGreatDoor
set_option linter.unusedVariables false
set_option linter.unusedSimpArgs false
open Go.RowKit

/-- A row that is read: its cells. -/
def ReadsV (w : World) (a : Option Addr) (xs : List Value) : Prop :=
  ∀ i, i < xs.length → ∃ b off, a = some ⟨b, off, none⟩ ∧ b < w.heap.size ∧ ∀ j u, xs[j]? = some u → w.cell? ⟨b, off + j, none⟩ = some u

section
variable {w w' : World} {a : Option Addr} {xs : List Value}
theorem ReadsV.nil : ReadsV w a [] := fun i hi => absurd hi (by simp)
theorem ReadsV.some (h : ReadsV w a xs) (hn : 0 < xs.length) : ∃ b off, a = some ⟨b, off, none⟩ ∧ b < w.heap.size ∧ ∀ j u, xs[j]? = some u → w.cell? ⟨b, off + j, none⟩ = some u := h 0 hn
theorem ReadsV.below {B : Nat} (h : ReadsV w a xs) (hb : Below B w w') (hB : ∀ ad, a = Option.some ad → ad.block < B) : ReadsV w' a xs := by
  intro i hi
  obtain ⟨b, off, rfl, hlt, hc⟩ := h i hi
  exact ⟨b, off, rfl, by have := hb.size; omega, fun j u hj => (hb.cell (p := ⟨b, off + j, none⟩) (hB ⟨b, off, none⟩ rfl)).trans (hc j u hj)⟩
theorem ReadsV.below' (h : ReadsV w a xs) (hb : Below w.heap.size w w') : ReadsV w' a xs := by
  intro i hi
  obtain ⟨b, off, rfl, hlt, hc⟩ := h i hi
  exact ⟨b, off, rfl, by have := hb.size; omega, fun j u hj => (hb.cell (p := ⟨b, off + j, none⟩) hlt).trans (hc j u hj)⟩
theorem ReadsV.chg {S : Nat → Prop} (h : ReadsV w a xs) (hc : Chg S w w') (hn : ∀ ad, a = Option.some ad → ¬ S ad.block) : ReadsV w' a xs := by
  intro i hi
  obtain ⟨b, off, rfl, hlt, hk⟩ := h i hi
  exact ⟨b, off, rfl, by have := hc.size; omega, fun j u hj => hc.cell (hk j u hj) (hn ⟨b, off, none⟩ rfl)⟩
theorem ReadsV.take (h : ReadsV w a xs) (k : Nat) : ReadsV w a (xs.take k) := by
  intro i hi
  rw [List.length_take] at hi
  obtain ⟨b, off, ha, hlt, hc⟩ := h i (by omega)
  exact ⟨b, off, ha, hlt, fun j u hj => hc j u (by
    rw [List.getElem?_take] at hj
    split at hj
    · exact hj
    · cases hj)⟩

/-- The address of a slice from k on. -/
def offA (a : Option Addr) (k cap : Nat) : Option Addr := if cap = k then a else a.map (·.add k)
theorem ReadsV.drop (h : ReadsV w a xs) {k cap : Nat} (hc : xs.length ≤ cap) : ReadsV w (offA a k cap) (xs.drop k) := by
  intro i hi
  rw [List.length_drop] at hi
  obtain ⟨b, off, rfl, hlt, hx⟩ := h i (by omega)
  have hne : ¬ cap = k := by omega
  refine ⟨b, off + k, by simp [offA, hne, Addr.add_lit], hlt, fun j u hj => ?_⟩
  rw [List.getElem?_drop] at hj
  have := hx (k + j) u hj
  rwa [Nat.add_assoc]
theorem offA_nil {a : Option Addr} {k cap len : Nat} (h : a = none → len = 0 ∧ cap = 0) : offA a k cap = none → len - k = 0 ∧ cap - k = 0 := by
  intro hn
  cases a with
  | none => obtain ⟨rfl, rfl⟩ := h rfl; simp
  | some ad =>
    unfold offA at hn
    split at hn
    · cases hn
    · cases hn

theorem ReadsV.hnews (h : ReadsV w a xs) : ∀ p, a = Option.some p → ∀ j u, xs[j]? = Option.some u → w.cell? (p.add j) = Option.some u := by
  intro p hp j u hu
  have hlt : j < xs.length := (List.getElem?_eq_some_iff.1 hu).1
  obtain ⟨b, off, hab, _, hc⟩ := h j hlt
  rw [hp] at hab; cases hab
  rw [Addr.add_lit]; exact hc j u hu
theorem readsV_own {base : Nat} {e : TypeId} {n c : Nat} {a : Option Addr} (h : w.ownsRow base e 1 (.slice a n c) n xs) : ReadsV w a xs := by
  have hl := own_len h
  intro i hi
  obtain ⟨g, cap, hv, hb, hg, hc, hm, hcell, _⟩ := own_some h (by omega)
  injection hv with h1 h2 h3
  exact ⟨g, 0, h1, hg, fun j u hj => by rw [Nat.zero_add, hcell j (by have := (List.getElem?_eq_some_iff.1 hj).1; omega), hj]⟩
theorem readsV_block {b : Nat} {T : TypeId} (h : w.heap[b]? = some (.cells xs.toArray T (0, 0))) : ReadsV w (some ⟨b, 0, none⟩) xs := by
  intro i hi
  refine ⟨b, 0, rfl, (Array.getElem?_eq_some_iff.1 h).1, fun j u hj => ?_⟩
  rw [cell_of_row w b (0 + j) _ _ _ h, Nat.zero_add, List.getElem?_toArray, hj]
theorem own_zero {g : Nat} {base : Nat} {e : TypeId} (hb : base ≤ g) (h : w.heap[g]? = some (.cells #[] e (0, 0))) : w.ownsRow base e 1 (.slice (some ⟨g, 0, none⟩) 0 0) 0 [] :=
  ⟨rfl, .inr ⟨g, 0, #[], rfl, hb, h, Nat.le_refl _, by unfold maxLen; omega, rfl, rfl⟩⟩
end

section
variable {P : Program} {w : World}
theorem run_sliceTo {t e : TypeId} {a : Option Addr} {len cap k : Nat} (ht : P.underlying t = some (.slice e)) (hinfo : (P.info? e).map (fun i => i.size) = some 1) (hk : k ≤ cap) :
    (Instr.slice t (.slice a len cap) none (some (.int .i64 (k : Int))) none).run P w = .ok (.slice a k cap) w := by
  obtain ⟨i, hi, hs⟩ := Option.map_eq_some_iff.1 hinfo
  have hk' : (k : Int) ≤ (cap : Int) := by omega
  simp [Instr.slice, run_underlying ht, Instr.sliceBounds, Instr.sliceBound, asIntOf, hk', sizeOf, typeInfo, hi, hs, go_sem]
  intro h; omega
theorem run_sliceFrom {t e : TypeId} {a : Option Addr} {len cap k : Nat} (ht : P.underlying t = some (.slice e)) (hinfo : (P.info? e).map (fun i => i.size) = some 1) (hk : k ≤ len) :
    (Instr.slice t (.slice a len cap) (some (.int .i64 (k : Int))) none none).run P w = .ok (.slice (offA a k cap) (len - k) (cap - k)) w := by
  obtain ⟨i, hi, hs⟩ := Option.map_eq_some_iff.1 hinfo
  have hk' : (k : Int) ≤ (len : Int) := by omega
  simp [Instr.slice, run_underlying ht, Instr.sliceBounds, Instr.sliceBound, asIntOf, hk', sizeOf, typeInfo, hi, hs, go_sem, offA]
  intro h; omega
end

theorem oneI (k : IntKind) (l : List Int) : ∀ u ∈ l.map (Value.int k), u.oneCell' = true := fun u hu => by obtain ⟨b, _, rfl⟩ := List.mem_map.1 hu; rfl

/-- 'append(s, x...)' onto an own row, one operation. -/
theorem wp_appendL {P : Program} {w : World} {o : Oper} {a : Act} {K : Act → World → Prop} {Q : Exit → Act → World → Prop} (s x : Operand) (t : TypeId)
    (ho : o.op = .call { callee := .builtin .append, args := #[s, x], argTypes := #[t, t] })
    (base : Nat) (e : TypeId) {z : Value} {bytes : Nat} (hinfo : (P.info? e).map (fun i => (i.zero, i.size, i.bytes)) = some (some z, 1, bytes)) (ht : P.underlying t = some (.slice e)) (hz1 : z.cells.size = 1)
    (v : Value) (n : Nat) (xs : List Value) (hs : a.eval s = v) (hown : w.ownsRow base e 1 v n xs)
    (ad : Option Addr) (m c : Nat) (news : List Value) (hx : a.eval x = .slice ad m c) (hl : news.length = m) (hnil : ad = none → m = 0 ∧ c = 0)
    (hnews : ∀ p, ad = some p → ∀ j u, news[j]? = some u → w.cell? (p.add j) = some u) (h1 : ∀ u ∈ news, u.oneCell' = true)
    (h63 : n + m ≤ maxLen) (hbytes : (n + m) * bytes ≤ 140737488355328) (hbase : base ≤ w.heap.size)
    (h : ∀ a' c' w', w'.ownsRow base e 1 (.slice a' (n + m) c') (n + m) (xs ++ news) → w.grownBy w' v.ownBlock → (∀ g, a' = some ⟨g, 0, none⟩ → v.ownBlock = some g ∨ w.heap.size ≤ g) →
      K (a.put o.dst (.slice a' (n + m) c')) w') : Oper.wp P o a w K Q := by
  obtain ⟨i, hi, hz, hsz, hby⟩ := info_parts hinfo
  cases ad with
  | none =>
    obtain ⟨rfl, rfl⟩ := hnil rfl
    have hn : news = [] := List.eq_nil_of_length_eq_zero hl
    subst hn
    obtain ⟨a', c', hv, _, hb⟩ := own_slice hown
    have hrun := run_append_owned_none (P := P) (w := w) base t o.type e i 1 ht hi v n xs hown
    unfold Oper.wp execOp
    simp only [ho, resolve, invoke, builtin, Sem.run_bind, Sem.run_pure, Result.andThen_ok, List.map_toArray, List.map_cons, List.map_nil, hs, hx, hrun]
    subst hv
    exact h a' c' w (by simpa using hown) (World.grownBy.refl _ _) (fun g hg => by
      subst hg
      obtain ⟨g', e1, _, _, e2⟩ := hb _ rfl
      cases e1; exact Or.inl e2)
  | some p =>
    obtain ⟨v', w', hr, h2, h3, _, h5⟩ := run_append_own_at (P := P) w base t o.type e i z 1 bytes ht hi hz hsz hby hz1 (by omega) v n xs hown p m c news (by omega) (hnews p rfl) h1 h63 hbytes hbase
    unfold Oper.wp execOp
    simp only [ho, resolve, invoke, builtin, Sem.run_bind, Sem.run_pure, Result.andThen_ok, List.map_toArray, List.map_cons, List.map_nil, hs, hx, hr]
    obtain ⟨a', c', rfl, _, hb⟩ := own_slice h2
    refine h a' c' w' h2 h3 (fun g hg => ?_)
    subst hg
    obtain ⟨g', e1, _, _, e2⟩ := hb _ rfl
    cases e1
    rcases h5 with hor | hor
    · left; rw [← hor]; exact e2
    · right; rw [hor] at e2; injection e2 with e2; omega

theorem Tryz.infoBoolR : (Tryz.prog.info? 4).map (fun i => (i.zero, i.size, i.bytes)) = some (some (.bool false), 1, 1) := by kernel_rfl

end Go.Proofs.YtacoeohmdngnkaaGreatDoor

namespace Go.Proofs.YtacoeohmdngnkaaGreatDoor
open Go.RowKit

section
variable {P : Program} {md : Region.Mode} {l : List Oper} {Q : Exit → Act → World → Prop} {S : World → Prop} {i : Nat} {oi : Oper} {fuel : Nat} {listed : Array Bool} {a : Act} {w : World}

theorem reg_get (hi : (l.drop i).head? = some oi) : l.toArray[i]? = some oi := by
  rw [List.head?_drop] at hi
  simpa using hi

/-- The beginning. -/
theorem reg_start {id : Nat} (S : World → Prop) (hm : P.follows .mixedOrders = true) (hS : S w.drew)
    (h : S w.drew → wpAnyH P .any l.toArray (NoPanic Q) S l.length (Array.replicate l.length false) a w.drew) : (Code.region id l.toArray true).wp P Q a w := by
  refine wp_region_noPanic (wp_region_held_drew hm hS ?_)
  rw [List.size_toArray]
  exact h

/-- Operation i yields its value in every world that meets S: it is taken now. -/
theorem reg_take {v : Value} (hi : (l.drop i).head? = some oi) (hk : (Region.noSelect l.toArray && Region.free md l.toArray listed i && (Region.ready md l.toArray listed).contains i) = true)
    (hw : Region.wanted oi (yielded l.toArray a.tmps) = true) (hS : S w) (hy : ∀ w, S w → (execOp a.eval oi).run P w = .ok (.value v) w)
    (h : wpAnyH P md l.toArray (NoPanic Q) S fuel (listed.setIfInBounds i true) (a.put oi.dst v) w) : wpAnyH P md l.toArray (NoPanic Q) S (fuel + 1) listed a w := by
  simp only [Bool.and_eq_true] at hk
  exact wpAnyH_take (reg_get hi) hk.1.1 hk.1.2 hk.2 (fun _ _ _ h => h) (Or.inl ⟨hw, hy⟩) hS h

/-- Operation i alone may come up: it is carried out; behind it S is shown anew. -/
theorem reg_loud (hi : (l.drop i).head? = some oi) (hr : Region.ready md l.toArray listed = [i]) (hw : Region.wanted oi (yielded l.toArray a.tmps) = true)
    (h : ∀ K : Act → World → Prop, Shut (∀ a w, S w → (S w → wpAnyH P md l.toArray (NoPanic Q) S fuel (listed.setIfInBounds i true) a w) → K a w) → Oper.wp P oi a w K (NoPanic Q)) :
    wpAnyH P md l.toArray (NoPanic Q) S (fuel + 1) listed a w := by
  refine wpAnyH_ready hr (by simp) (AllReadyH.cons (reg_get hi) (fun K hK => ?_) AllReadyH.nil)
  rw [if_pos hw]
  exact h K hK

/-- Two operations may come up: either is carried out first; behind it S is shown anew. -/
theorem reg_loud2 {j : Nat} {oj : Oper} (hi : (l.drop i).head? = some oi) (hj : (l.drop j).head? = some oj) (hr : Region.ready md l.toArray listed = [i, j]) (hwi : Region.wanted oi (yielded l.toArray a.tmps) = true) (hwj : Region.wanted oj (yielded l.toArray a.tmps) = true)
    (h1 : ∀ K : Act → World → Prop, Shut (∀ a w, S w → (S w → wpAnyH P md l.toArray (NoPanic Q) S fuel (listed.setIfInBounds i true) a w) → K a w) → Oper.wp P oi a w K (NoPanic Q))
    (h2 : ∀ K : Act → World → Prop, Shut (∀ a w, S w → (S w → wpAnyH P md l.toArray (NoPanic Q) S fuel (listed.setIfInBounds j true) a w) → K a w) → Oper.wp P oj a w K (NoPanic Q)) :
    wpAnyH P md l.toArray (NoPanic Q) S (fuel + 1) listed a w := by
  refine wpAnyH_ready hr (by simp) (AllReadyH.cons (reg_get hi) (fun K hK => ?_) (AllReadyH.cons (reg_get hj) (fun K hK => ?_) AllReadyH.nil))
  · rw [if_pos hwi]
    exact h1 K hK
  · rw [if_pos hwj]
    exact h2 K hK

/-- All have come up. -/
theorem reg_done (hr : Region.ready md l.toArray listed = []) (h : Q .normal a w) (n : Nat) : wpAnyH P md l.toArray (NoPanic Q) S n listed a w :=
  wpAnyH_done hr (NoPanic.normal h) n
/-- Operation i is taken now, as reg_take; its value and the frame behind it are found. -/
theorem rt {v : Value} {a' : Act} (i : Nat) {oi : Oper} (hS : S w) (h : wpAnyH P md l.toArray (NoPanic Q) S fuel (listed.setIfInBounds i true) a' w)
    (hi : (l.drop i).head? = some oi := by rfl) (hk : (Region.noSelect l.toArray && Region.free md l.toArray listed i && (Region.ready md l.toArray listed).contains i) = true := by kernel_rfl)
    (hw : Region.wanted oi (yielded l.toArray a.tmps) = true := by rfl) (hy : ∀ w, S w → (execOp a.eval oi).run P w = .ok (.value v) w := by (intro w hSw; (try dsimp only at hSw); go_simp; all_goals with_reducible rfl))
    (hp : a.put oi.dst v = a' := by ((try simp only [Act.put, List.setIfInBounds_toArray, List.set_cons_zero, List.set_cons_succ]); rfl)) : wpAnyH P md l.toArray (NoPanic Q) S (fuel + 1) listed a w := by
  subst hp
  exact reg_take hi hk hw hS hy h
end

end Go.Proofs.YtacoeohmdngnkaaGreatDoor

namespace Go.Proofs.YtacoeohmdngnkaaGreatDoor
set_option linter.unusedVariables false
set_option linter.unusedSimpArgs false
open Go.RowKit

/-- Block p holds a block of bits. -/
def IsBlock (w : World) (p : Nat) (l : List Bool) : Prop :=
  l.length ≤ 128 ∧ w.heap[p]? = some (.cells #[.int .i64 l.length, .int .u64 (loW l), .int .u64 (hiW l)] 112 (0, 0))

section
variable {w w' : World} {p : Nat} {l : List Bool}
theorem IsBlock.lt (h : IsBlock w p l) : p < w.heap.size := (Array.getElem?_eq_some_iff.1 h.2).1
theorem IsBlock.chg {S : Nat → Prop} (h : IsBlock w p l) (hc : Chg S w w') (hn : ¬ S p) : IsBlock w' p l := ⟨h.1, hc.heap h.2 hn⟩
theorem IsBlock.below {B : Nat} (h : IsBlock w p l) (hb : Below B w w') (hp : p < B) : IsBlock w' p l := ⟨h.1, (hb.block p hp).trans h.2⟩
theorem IsBlock.below' (h : IsBlock w p l) (hb : Below w.heap.size w w') : IsBlock w' p l := h.below hb h.lt
theorem IsBlock.drewN (h : IsBlock w p l) (n : Nat) : IsBlock (w.drewN n) p l := h
theorem IsBlock.cells (h : IsBlock w p l) : w.cell? ⟨p, 0, none⟩ = some (.int .i64 l.length) ∧ w.cell? ⟨p, 1, none⟩ = some (.int .u64 (loW l)) ∧ w.cell? ⟨p, 2, none⟩ = some (.int .u64 (hiW l)) ∧ ∀ j, w.frozen? ⟨p, j, none⟩ = false :=
  ⟨by rw [cell_of_row w p 0 _ _ _ h.2]; rfl, by rw [cell_of_row w p 1 _ _ _ h.2]; rfl, by rw [cell_of_row w p 2 _ _ _ h.2]; rfl, fun j => frozen_of_row w p j _ _ h.2⟩
end

theorem blkLen {w : World} {p : Nat} {l : List Bool} (h : IsBlock w p l) : Calls Tryz.prog 117 #[.pointer (some ⟨p, 0, none⟩)] w fun e w' => e = .returned (.int .i64 l.length) ∧ w = w' := by
  obtain ⟨h0, _⟩ := h.cells
  go_enter Tryz.func117, Tryz.ntmps117
  go_wp2_with fail
  go_ret
  exact ⟨rfl, rfl⟩

/-- Is there such a bit? -/
def hasL (l : List Bool) (k : Int) : Int := if 0 ≤ k ∧ k < l.length then 0 else 2
theorem blkHas {w : World} {p : Nat} {l : List Bool} (h : IsBlock w p l) (k : Int) : Calls Tryz.prog 87 #[.pointer (some ⟨p, 0, none⟩), .int .i64 k] w fun e w' => e = .returned (.int .i64 (hasL l k)) ∧ w = w' := by
  obtain ⟨h0, _⟩ := h.cells
  by_cases h1 : k < 0
  · have hR := Lib.hid (show (2 : Int) = hasL l k by unfold hasL; rw [if_neg (by omega)])
    go_enter Tryz.func87, Tryz.ntmps87
    go_wp2_with fail
    go_ret
    exact ⟨ret_int hR.out, rfl⟩
  · by_cases h2 : k < l.length
    · have hR := Lib.hid (show (0 : Int) = hasL l k by unfold hasL; rw [if_pos (by omega)])
      have d : decide ((l.length : Int) ≤ k) = false := by simp; omega
      go_enter Tryz.func87, Tryz.ntmps87
      go_wp2_with fail
      go_ret
      exact ⟨ret_int hR.out, rfl⟩
    · have hR := Lib.hid (show (2 : Int) = hasL l k by unfold hasL; rw [if_neg (by omega)])
      have d : decide ((l.length : Int) ≤ k) = true := by simp; omega
      go_enter Tryz.func87, Tryz.ntmps87
      go_wp2_with fail
      go_ret
      exact ⟨ret_int hR.out, rfl⟩

theorem ret_bi {k : IntKind} {b b' : Bool} {a a' : Int} (h : b = b') (h' : a = a') : Ending.returned (.tuple #[.bool b, .int k a]) = Ending.returned (.tuple #[.bool b', .int k a']) := by rw [h, h']
theorem blkGet {w : World} {p : Nat} {l : List Bool} (h : IsBlock w p l) (k : Nat) (hk : k < l.length) :
    Calls Tryz.prog 77 #[.pointer (some ⟨p, 0, none⟩), .int .i64 k] w fun e w' => e = .returned (.tuple #[.bool (bitAt l k), .int .i64 0]) ∧ w = w' := by
  obtain ⟨h0, h1, h2, _⟩ := h.cells
  have hR : hasL l k = 0 := by unfold hasL; rw [if_pos (by omega)]
  have hm := h.1
  have HR := Lib.hid hR
  have HB := Lib.hid h
  clear hR h
  by_cases hk64 : k < 64
  · have b1 := bitk_walk (loW_lt l) hk64
    rw [loW_bit hk64] at b1
    have B1 := Lib.hid b1
    have q1 : (k : Int) / 64 = 0 := by omega
    have q2 : (k : Int) % 64 = k := by omega
    clear b1 h2
    go_enter Tryz.func77, Tryz.ntmps77
    go_wp2_with fail
    refine (blkHas HB.out k).mono ?_
    rintro e w' ⟨rfl, rfl⟩
    rw [HR.out]
    go_wp2_with fail
    go_ret2
    exact ⟨ret_bi B1.out rfl, rfl⟩
  · obtain ⟨m, rfl⟩ := Nat.exists_eq_add_of_le (show 64 ≤ k by omega)
    have hm64 : m < 64 := by omega
    have b1 := bitk_walk (hiW_lt l) hm64
    rw [hiW_bit hm64] at b1
    have B1 := Lib.hid b1
    have q1 : ((64 + m : Nat) : Int) / 64 = 1 := by omega
    have q2 : ((64 + m : Nat) : Int) % 64 = m := by omega
    clear b1 h1
    generalize hg : 64 + m = k at *
    have HG := Lib.hid hg
    clear hg
    go_enter Tryz.func77, Tryz.ntmps77
    go_wp2_with fail
    refine (blkHas HB.out k).mono ?_
    rintro e w' ⟨rfl, rfl⟩
    rw [HR.out]
    go_wp2_with fail
    go_ret2
    exact ⟨ret_bi B1.out rfl, rfl⟩

theorem blkOnes {w : World} {p : Nat} {l : List Bool} (h : IsBlock w p l) : Calls Tryz.prog 118 #[.pointer (some ⟨p, 0, none⟩)] w fun e w' => e = .returned (.int .i64 (l.count true)) ∧ w = w' := by
  obtain ⟨h0, h1, h2, _⟩ := h.cells
  have hc : pcs [loW l, hiW l] = l.count true := by simp [pcs]; exact pc_both h.1
  have HC := Lib.hid hc
  have hr : Reads w .u64 (some ⟨p, 1, none⟩) ([loW l, hiW l].map natI) := by
    intro i hi
    refine ⟨p, 1, rfl, h.lt, fun j hj => ?_⟩
    match j, hj with
    | 0, _ => exact h1
    | 1, _ => exact h2
  have HR := Lib.hid hr
  clear hr hc h0 h1 h2
  go_enter Tryz.func118, Tryz.ntmps118
  go_wp2_with fail
  refine (count_lit (Y := (l.count true : Int)) [loW l, hiW l] _ rfl HR.out (by intro x hx; simp only [List.mem_cons, List.not_mem_nil, or_false] at hx; rcases hx with rfl | rfl; exact loW_lt l; exact hiW_lt l) (by simp) (by rw [HC.out])).mono ?_
  rintro e w' ⟨rfl, rfl⟩
  go_wp2_with fail
  go_ret
  exact ⟨rfl, rfl⟩

end Go.Proofs.YtacoeohmdngnkaaGreatDoor

namespace Go.Proofs.YtacoeohmdngnkaaGreatDoor
set_option linter.unusedVariables false
set_option linter.unusedSimpArgs false
open Go.RowKit
theorem rank_two {l : List Bool} {K : Nat} (h : K ≤ l.length) (h128 : l.length ≤ 128) : pc (loW l) (min K 64) + pc (hiW l) (min (K - 64) 64) = rankL l K true := by
  by_cases h64 : K ≤ 64
  · rw [Nat.min_eq_left h64, pc_lo h64, show min (K - 64) 64 = 0 by omega]; rfl
  · rw [Nat.min_eq_right (by omega), pc_lo (Nat.le_refl _), Nat.min_eq_left (by omega), pc_hi (by omega), show 64 + (K - 64) = K by omega]
theorem idx0 (a b : Value) (w : World) : (Instr.index 110 (.agg #[a, b]) (.int .i64 0)).run Tryz.prog w = .ok a w := by kernel_rfl
theorem idx1 (a b : Value) (w : World) : (Instr.index 110 (.agg #[a, b]) (.int .i64 1)).run Tryz.prog w = .ok b w := by kernel_rfl

set_option maxHeartbeats 1600000 in
theorem blkRank_core {w : World} {p : Nat} {l : List Bool} (h : IsBlock w p l) (k : Int) (K : Nat) (hk : (k < 0 ∧ K = 0) ∨ (0 ≤ k ∧ k ≤ l.length ∧ k = K) ∨ ((l.length : Int) < k ∧ K = l.length)) :
    Calls Tryz.prog 86 #[.pointer (some ⟨p, 0, none⟩), .int .i64 k] w fun e w' => e = .returned (.int .i64 (rankL l K true)) ∧ Below w.heap.size w w' := by
  obtain ⟨h0, h1, h2, _⟩ := h.cells
  have hl := h.1
  have hR : pc (loW l) (min K 64) + pc (hiW l) (min (K - 64) 64) = rankL l K true := rank_two (by omega) hl
  have hx := loW_lt l
  have hy := hiW_lt l
  have q1 := pc_le (loW l) (min K 64)
  have q2 := pc_le (hiW l) (min (K - 64) 64)
  have q1' : pc (loW l) (min K 64) ≤ 64 := by omega
  have q2' : pc (hiW l) (min (K - 64) 64) ≤ 64 := by omega
  have R1 : Hid (∀ (a : Int) (w : World), a = (K : Int) → Calls Tryz.prog 103 #[.int .u64 (loW l), .int .i64 a] w fun e w' => e = .returned (.int .i64 (pc (loW l) (min K 64))) ∧ Below w.heap.size w w') :=
    fun a w ha => rank_lit (loW l) w hx rfl (by rw [ha, Int.toNat_natCast])
  have R2 : Hid (∀ (a : Int) (w : World), a = (K : Int) - 64 → Calls Tryz.prog 103 #[.int .u64 (hiW l), .int .i64 a] w fun e w' => e = .returned (.int .i64 (pc (hiW l) (min (K - 64) 64))) ∧ Below w.heap.size w w') :=
    fun a w ha => rank_lit (hiW l) w hy rfl (by rw [ha]; congr 2; omega)
  have HR := Lib.hid hR
  have HB := Lib.hid h
  have I0 := idx0 (.int .u64 (loW l)) (.int .u64 (hiW l))
  have I1 := idx1 (.int .u64 (loW l)) (.int .u64 (hiW l))
  clear q1 q2 hR h hx hy
  generalize pc (loW l) (min K 64) = A at *
  generalize pc (hiW l) (min (K - 64) 64) = B at *
  rcases hk with ⟨hk, rfl⟩ | ⟨hk1, hk2, rfl⟩ | ⟨hk, rfl⟩
  all_goals
    go_enter Tryz.func86, Tryz.ntmps86
    go_wp2_with fail
    refine wp_loop_rounds 3 ?_
    rw [rounds_succ]
    go_wp2_with fail
    refine (R1.out _ _ (by omega)).mono ?_
    rintro e w1 ⟨rfl, hb⟩
    obtain ⟨g0, _⟩ := (HB.out.below' hb).cells
    go_wp2_with fail
    rw [rounds_succ]
    go_wp2_with fail
    refine (R2.out _ _ (by omega)).mono ?_
    rintro e w2 ⟨rfl, hb2⟩
    have hb3 := hb.trans (hb2.mono hb.size)
    clear hb hb2
    go_wp2_with fail
    rw [rounds_succ]
    go_wp2_with fail
    go_ret
    exact ⟨ret_int (by rw [← HR.out]; simp), hb3⟩

/-- Rank, whatever is asked. -/
theorem blkRank {w : World} {p : Nat} {l : List Bool} (h : IsBlock w p l) (k : Int) :
    Calls Tryz.prog 86 #[.pointer (some ⟨p, 0, none⟩), .int .i64 k] w fun e w' => e = .returned (.int .i64 (rankL l k.toNat true)) ∧ Below w.heap.size w w' := by
  by_cases h1 : k < 0
  · have := blkRank_core h k 0 (Or.inl ⟨h1, rfl⟩)
    rwa [show k.toNat = 0 by omega]
  · by_cases h2 : k ≤ l.length
    · exact blkRank_core h k k.toNat (Or.inr (Or.inl ⟨by omega, h2, by omega⟩))
    · have := blkRank_core h k l.length (Or.inr (Or.inr ⟨by omega, rfl⟩))
      rwa [rankL_over true (Nat.le_refl _), ← rankL_over (k := k.toNat) true (by omega)] at this

theorem blkSelect_neg (w : World) (p : Nat) (j : Int) (b : Bool) (hj : j < 0) : Calls Tryz.prog 81 #[.pointer (some ⟨p, 0, none⟩), .int .i64 j, .bool b] w fun e w' => e = .returned (.int .i64 (-1)) ∧ w = w' := by
  go_enter Tryz.func81, Tryz.ntmps81
  go_wp2_with fail
  go_ret
  exact ⟨rfl, rfl⟩


set_option maxHeartbeats 3200000 in
theorem blkSelect_true {w : World} {p : Nat} {l : List Bool} (h : IsBlock w p l) (hT : BitTab w) (j : Nat) (hjm : (j : Int) ≤ 9223372036854775807) :
    Calls Tryz.prog 81 #[.pointer (some ⟨p, 0, none⟩), .int .i64 j, .bool true] w fun e w' => e = .returned (.int .i64 (selL l j true)) ∧ Below w.heap.size w w' := by
  obtain ⟨h0, h1, h2, _⟩ := h.cells
  have hl := h.1
  have hx := loW_lt l
  have hy := hiW_lt l
  have I0 := idx0 (.int .u64 (loW l)) (.int .u64 (hiW l))
  have I1 := idx1 (.int .u64 (loW l)) (.int .u64 (hiW l))
  have LX : Hid (loW l < 2 ^ 64) := likeW_lt hx true
  have LY : Hid (hiW l < 2 ^ 64) := likeW_lt hy true
  have p1 : pc (loW l) 64 ≤ 64 := pc_le _ 64
  have p2 : pc (hiW l) 64 ≤ 64 := pc_le _ 64
  have S1 : Hid (j < pc (loW l) 64 → ∃ k : Nat, k < 64 ∧ sel (loW l) j = k ∧ selL l j true = if k < l.length then (k : Int) else -1) := sel_lo (l := l) (j := j) (b := true)
  have S2 : Hid (pc (loW l) 64 ≤ j → j - pc (loW l) 64 < pc (hiW l) 64 → ∃ k : Nat, k < 64 ∧ sel (hiW l) ((j : Int) - (pc (loW l) 64 : Nat)) = k ∧ selL l j true = if 64 + k < l.length then ((64 + k : Nat) : Int) else -1) :=
    fun a b => sel_hi (l := l) (j := j) (b := true) a b hl
  have S3 : Hid (pc (loW l) 64 + pc (hiW l) 64 ≤ j → selL l j true = -1) := fun a => sel_no (l := l) (j := j) (b := true) a hl
  have C0 : Hid (∀ (w : World) (b off c : Nat), w.cell? ⟨b, off, none⟩ = some (.int .u64 (loW l)) → Calls Tryz.prog 88 #[.slice (some ⟨b, off, none⟩) 1 c] w fun e w' => e = .returned (.int .i64 (pc (loW l) 64)) ∧ w = w') :=
    fun w b off c hc => count_one _ w b off c hc LX.out
  have C1 : Hid (∀ (w : World) (b off c : Nat), w.cell? ⟨b, off, none⟩ = some (.int .u64 (hiW l)) → Calls Tryz.prog 88 #[.slice (some ⟨b, off, none⟩) 1 c] w fun e w' => e = .returned (.int .i64 (pc (hiW l) 64)) ∧ w = w') :=
    fun w b off c hc => count_one _ w b off c hc LY.out
  have HT := Lib.hid hT
  have HB := Lib.hid h
  clear hT h hx hy
  generalize pc (loW l) 64 = n0 at *
  generalize pc (hiW l) 64 = n1 at *
  by_cases hj0 : j < n0
  · obtain ⟨k, hk, hs, hr⟩ := S1.out hj0
    have HS := Lib.hid hs
    have HR := Lib.hid hr
    clear hs hr S1 S2 S3 C1
    by_cases hkl : k < l.length
    all_goals
      go_enter Tryz.func81, Tryz.ntmps81
      go_wp2_with fail
      refine wp_loop_rounds 3 ?_
      rw [rounds_succ]
      go_wp2_with fail
      refine (C0.out _ _ _ _ (by simp [go_sem])).mono ?_
      rintro e w' ⟨rfl, rfl⟩
      have hb := below_alloc w (.cells #[.int .u64 (loW l)] 109)
      have hs1 := hb.size
      generalize w.alloc (.cells #[.int .u64 (loW l)] 109) = w1 at *
      go_wp2_with fail
      refine (select_lit (Y := (k : Int)) (loW l) _ LX.out (HT.out.below' hb) rfl HS.out).mono ?_
      rintro e w2 ⟨rfl, hb2⟩
      have hb := hb.trans (hb2.mono hs1)
      obtain ⟨g0, _⟩ := (HB.out.below' hb).cells
      clear hb2
      go_wp2_with fail
      go_ret
      exact ⟨ret_int (by rw [HR.out]; simp [hkl]), hb⟩
  · by_cases hj1 : j < n0 + n1
    · obtain ⟨k, hk, hs, hr⟩ := S2.out (by omega) (by omega)
      have HS := Lib.hid hs
      have HR := Lib.hid hr
      clear hs hr S1 S2 S3
      by_cases hkl : 64 + k < l.length
      all_goals
        go_enter Tryz.func81, Tryz.ntmps81
        go_wp2_with fail
        refine wp_loop_rounds 3 ?_
        rw [rounds_succ]
        go_wp2_with fail
        refine (C0.out _ _ _ _ (by simp [go_sem])).mono ?_
        rintro e w' ⟨rfl, rfl⟩
        have hb := below_alloc w (.cells #[.int .u64 (loW l)] 109)
        have hs1 := hb.size
        generalize w.alloc (.cells #[.int .u64 (loW l)] 109) = w1 at *
        go_wp2_with fail
        rw [rounds_succ]
        go_wp2_with fail
        refine (C1.out _ _ _ _ (by simp [go_sem])).mono ?_
        rintro e w' ⟨rfl, rfl⟩
        have hb := hb.alloc hs1 (.cells #[.int .u64 (hiW l)] 109)
        have hs1 := hb.size
        generalize w1.alloc (.cells #[.int .u64 (hiW l)] 109) = w2 at *
        go_wp2_with fail
        refine (select_lit (Y := (k : Int)) (hiW l) _ LY.out (HT.out.below' hb) rfl HS.out).mono ?_
        rintro e w3 ⟨rfl, hb2⟩
        have hb := hb.trans (hb2.mono hs1)
        obtain ⟨g0, _⟩ := (HB.out.below' hb).cells
        clear hb2
        go_wp2_with fail
        go_ret
        exact ⟨ret_int (by rw [HR.out]; simp [hkl]), hb⟩
    · have hr := S3.out (by omega)
      have HR := Lib.hid hr
      clear hr S1 S2 S3
      go_enter Tryz.func81, Tryz.ntmps81
      go_wp2_with fail
      refine wp_loop_rounds 3 ?_
      rw [rounds_succ]
      go_wp2_with fail
      refine (C0.out _ _ _ _ (by simp [go_sem])).mono ?_
      rintro e w' ⟨rfl, rfl⟩
      have hb := below_alloc w (.cells #[.int .u64 (loW l)] 109)
      have hs1 := hb.size
      generalize w.alloc (.cells #[.int .u64 (loW l)] 109) = w1 at *
      go_wp2_with fail
      rw [rounds_succ]
      go_wp2_with fail
      refine (C1.out _ _ _ _ (by simp [go_sem])).mono ?_
      rintro e w' ⟨rfl, rfl⟩
      have hb := hb.alloc hs1 (.cells #[.int .u64 (hiW l)] 109)
      generalize w1.alloc (.cells #[.int .u64 (hiW l)] 109) = w2 at *
      go_wp2_with fail
      rw [rounds_succ]
      go_wp2_with fail
      go_ret
      exact ⟨ret_int HR.out.symm, hb⟩

set_option maxHeartbeats 3200000 in
theorem blkSelect_false {w : World} {p : Nat} {l : List Bool} (h : IsBlock w p l) (hT : BitTab w) (j : Nat) (hjm : (j : Int) ≤ 9223372036854775807) :
    Calls Tryz.prog 81 #[.pointer (some ⟨p, 0, none⟩), .int .i64 j, .bool false] w fun e w' => e = .returned (.int .i64 (selL l j false)) ∧ Below w.heap.size w w' := by
  obtain ⟨h0, h1, h2, _⟩ := h.cells
  have hl := h.1
  have hx := loW_lt l
  have hy := hiW_lt l
  have N1 := not_run hx
  have N2 := not_run hy
  have I0 := idx0 (.int .u64 (loW l)) (.int .u64 (hiW l))
  have I1 := idx1 (.int .u64 (loW l)) (.int .u64 (hiW l))
  have LX : Hid (notW (loW l) < 2 ^ 64) := likeW_lt hx false
  have LY : Hid (notW (hiW l) < 2 ^ 64) := likeW_lt hy false
  have p1 : pc (notW (loW l)) 64 ≤ 64 := pc_le _ 64
  have p2 : pc (notW (hiW l)) 64 ≤ 64 := pc_le _ 64
  have S1 : Hid (j < pc (notW (loW l)) 64 → ∃ k : Nat, k < 64 ∧ sel (notW (loW l)) j = k ∧ selL l j false = if k < l.length then (k : Int) else -1) := sel_lo (l := l) (j := j) (b := false)
  have S2 : Hid (pc (notW (loW l)) 64 ≤ j → j - pc (notW (loW l)) 64 < pc (notW (hiW l)) 64 → ∃ k : Nat, k < 64 ∧ sel (notW (hiW l)) ((j : Int) - (pc (notW (loW l)) 64 : Nat)) = k ∧ selL l j false = if 64 + k < l.length then ((64 + k : Nat) : Int) else -1) :=
    fun a b => sel_hi (l := l) (j := j) (b := false) a b hl
  have S3 : Hid (pc (notW (loW l)) 64 + pc (notW (hiW l)) 64 ≤ j → selL l j false = -1) := fun a => sel_no (l := l) (j := j) (b := false) a hl
  have C0 : Hid (∀ (w : World) (b off c : Nat), w.cell? ⟨b, off, none⟩ = some (.int .u64 (notW (loW l))) → Calls Tryz.prog 88 #[.slice (some ⟨b, off, none⟩) 1 c] w fun e w' => e = .returned (.int .i64 (pc (notW (loW l)) 64)) ∧ w = w') :=
    fun w b off c hc => count_one _ w b off c hc LX.out
  have C1 : Hid (∀ (w : World) (b off c : Nat), w.cell? ⟨b, off, none⟩ = some (.int .u64 (notW (hiW l))) → Calls Tryz.prog 88 #[.slice (some ⟨b, off, none⟩) 1 c] w fun e w' => e = .returned (.int .i64 (pc (notW (hiW l)) 64)) ∧ w = w') :=
    fun w b off c hc => count_one _ w b off c hc LY.out
  have HT := Lib.hid hT
  have HB := Lib.hid h
  clear hT h hx hy
  generalize pc (notW (loW l)) 64 = n0 at *
  generalize pc (notW (hiW l)) 64 = n1 at *
  by_cases hj0 : j < n0
  · obtain ⟨k, hk, hs, hr⟩ := S1.out hj0
    have HS := Lib.hid hs
    have HR := Lib.hid hr
    clear hs hr S1 S2 S3 C1
    by_cases hkl : k < l.length
    all_goals
      go_enter Tryz.func81, Tryz.ntmps81
      go_wp2_with fail
      refine wp_loop_rounds 3 ?_
      rw [rounds_succ]
      go_wp2_with fail
      refine (C0.out _ _ _ _ (by simp [go_sem])).mono ?_
      rintro e w' ⟨rfl, rfl⟩
      have hb := below_alloc w (.cells #[.int .u64 (notW (loW l))] 109)
      have hs1 := hb.size
      generalize w.alloc (.cells #[.int .u64 (notW (loW l))] 109) = w1 at *
      go_wp2_with fail
      refine (select_lit (Y := (k : Int)) (notW (loW l)) _ LX.out (HT.out.below' hb) rfl HS.out).mono ?_
      rintro e w2 ⟨rfl, hb2⟩
      have hb := hb.trans (hb2.mono hs1)
      obtain ⟨g0, _⟩ := (HB.out.below' hb).cells
      clear hb2
      go_wp2_with fail
      go_ret
      exact ⟨ret_int (by rw [HR.out]; simp [hkl]), hb⟩
  · by_cases hj1 : j < n0 + n1
    · obtain ⟨k, hk, hs, hr⟩ := S2.out (by omega) (by omega)
      have HS := Lib.hid hs
      have HR := Lib.hid hr
      clear hs hr S1 S2 S3
      by_cases hkl : 64 + k < l.length
      all_goals
        go_enter Tryz.func81, Tryz.ntmps81
        go_wp2_with fail
        refine wp_loop_rounds 3 ?_
        rw [rounds_succ]
        go_wp2_with fail
        refine (C0.out _ _ _ _ (by simp [go_sem])).mono ?_
        rintro e w' ⟨rfl, rfl⟩
        have hb := below_alloc w (.cells #[.int .u64 (notW (loW l))] 109)
        have hs1 := hb.size
        generalize w.alloc (.cells #[.int .u64 (notW (loW l))] 109) = w1 at *
        go_wp2_with fail
        rw [rounds_succ]
        go_wp2_with fail
        refine (C1.out _ _ _ _ (by simp [go_sem])).mono ?_
        rintro e w' ⟨rfl, rfl⟩
        have hb := hb.alloc hs1 (.cells #[.int .u64 (notW (hiW l))] 109)
        have hs1 := hb.size
        generalize w1.alloc (.cells #[.int .u64 (notW (hiW l))] 109) = w2 at *
        go_wp2_with fail
        refine (select_lit (Y := (k : Int)) (notW (hiW l)) _ LY.out (HT.out.below' hb) rfl HS.out).mono ?_
        rintro e w3 ⟨rfl, hb2⟩
        have hb := hb.trans (hb2.mono hs1)
        obtain ⟨g0, _⟩ := (HB.out.below' hb).cells
        clear hb2
        go_wp2_with fail
        go_ret
        exact ⟨ret_int (by rw [HR.out]; simp [hkl]), hb⟩
    · have hr := S3.out (by omega)
      have HR := Lib.hid hr
      clear hr S1 S2 S3
      go_enter Tryz.func81, Tryz.ntmps81
      go_wp2_with fail
      refine wp_loop_rounds 3 ?_
      rw [rounds_succ]
      go_wp2_with fail
      refine (C0.out _ _ _ _ (by simp [go_sem])).mono ?_
      rintro e w' ⟨rfl, rfl⟩
      have hb := below_alloc w (.cells #[.int .u64 (notW (loW l))] 109)
      have hs1 := hb.size
      generalize w.alloc (.cells #[.int .u64 (notW (loW l))] 109) = w1 at *
      go_wp2_with fail
      rw [rounds_succ]
      go_wp2_with fail
      refine (C1.out _ _ _ _ (by simp [go_sem])).mono ?_
      rintro e w' ⟨rfl, rfl⟩
      have hb := hb.alloc hs1 (.cells #[.int .u64 (notW (hiW l))] 109)
      generalize w1.alloc (.cells #[.int .u64 (notW (hiW l))] 109) = w2 at *
      go_wp2_with fail
      rw [rounds_succ]
      go_wp2_with fail
      go_ret
      exact ⟨ret_int HR.out.symm, hb⟩

/-- Select, whatever is asked. -/
theorem blkSelect {w : World} {p : Nat} {l : List Bool} (h : IsBlock w p l) (hT : BitTab w) (j : Int) (b : Bool) (hjm : j ≤ 9223372036854775807) :
    Calls Tryz.prog 81 #[.pointer (some ⟨p, 0, none⟩), .int .i64 j, .bool b] w fun e w' => e = .returned (.int .i64 (selL l j b)) ∧ Below w.heap.size w w' := by
  by_cases hj : j < 0
  · rw [selL_neg hj]
    refine (blkSelect_neg w p j b hj).mono ?_
    rintro e w' ⟨rfl, rfl⟩
    exact ⟨rfl, Below.refl _ _⟩
  · obtain ⟨n, rfl⟩ := Int.eq_ofNat_of_zero_le (show 0 ≤ j by omega)
    cases b
    · exact blkSelect_false h hT n hjm
    · exact blkSelect_true h hT n hjm

end Go.Proofs.YtacoeohmdngnkaaGreatDoor

namespace Go.Proofs.YtacoeohmdngnkaaGreatDoor
set_option linter.unusedVariables false
set_option linter.unusedSimpArgs false
open Go.RowKit

def vecL (f : Nat → Value) (n : Nat) : List Value := (List.range n).map f
theorem vecL_get {f : Nat → Value} {n i : Nat} (h : i < n) : (vecL f n)[i]? = some (f i) := by simp [vecL, h]
theorem vecL_len (f : Nat → Value) (n : Nat) : (vecL f n).length = n := by simp [vecL]
theorem vecL_set {f : Nat → Value} {n s : Nat} (v : Value) : (vecL f n).set s v = vecL (fun i => if i = s then v else f i) n := by
  apply List.ext_getElem?
  intro i
  rw [List.getElem?_set]
  by_cases hi : i < n
  · rw [vecL_get hi, vecL_get hi, vecL_len]
    by_cases e : s = i
    · subst e; simp [hi]
    · rw [if_neg e, if_neg (fun h => e h.symm)]
  · rw [List.getElem?_eq_none (by rw [vecL_len]; omega), List.getElem?_eq_none (by rw [vecL_len]; omega), vecL_len]
    split
    · rw [if_neg (by omega)]
    · rfl
theorem vecL_congr {f g : Nat → Value} {n : Nat} (h : ∀ i, i < n → f i = g i) : vecL f n = vecL g n := by
  apply List.ext_getElem?
  intro i
  by_cases hi : i < n
  · rw [vecL_get hi, vecL_get hi, h i hi]
  · rw [List.getElem?_eq_none (by rw [vecL_len]; omega), List.getElem?_eq_none (by rw [vecL_len]; omega)]

theorem vec_cell {w : World} {Q n i : Nat} {f : Nat → Value} {T : TypeId} (h : w.heap[Q]? = some (.cells (vecL f n).toArray T (0, 0))) (hi : i < n) : w.cell? ⟨Q, i, none⟩ = some (f i) := by
  rw [cell_of_row w Q i _ _ _ h, List.getElem?_toArray, vecL_get hi]
theorem vec_set {w : World} {Q n s : Nat} {f : Nat → Value} {T : TypeId} (h : w.heap[Q]? = some (.cells (vecL f n).toArray T (0, 0))) (v : Value) :
    (w.setCell ⟨Q, s, none⟩ v).heap[Q]? = some (.cells (vecL (fun i => if i = s then v else f i) n).toArray T (0, 0)) := by
  have h2 := heap_setCell_same w Q s _ _ v h
  rw [List.setIfInBounds_toArray, vecL_set] at h2
  exact h2
theorem below_setQ {B : Nat} {w w' : World} (h : Below B w w') (hB : B ≤ w'.heap.size) {Q s : Nat} (hQ : B ≤ Q) (u : Value) : Below B w (w'.setCell ⟨Q, s, none⟩ u) :=
  h.trans (((Chg.refl (S := fun k => k = Q)).setCell ⟨Q, s, none⟩ (Or.inl rfl) u).below (fun b hb => by rw [hb]; exact hQ) hB)
theorem below_heap {w w' : World} {Q : Nat} {o : Obj} (h : Below w.heap.size w w') (hq : w.heap[Q]? = some o) : w'.heap[Q]? = some o :=
  (h.block Q (Array.getElem?_eq_some_iff.1 hq).1).trans hq

end Go.Proofs.YtacoeohmdngnkaaGreatDoor

namespace Go.Proofs.YtacoeohmdngnkaaGreatDoor
set_option linter.unusedVariables false
set_option linter.unusedSimpArgs false
open Go.RowKit

/-- Block p: so many bits, two words. -/
def Blk (w : World) (p : Nat) (n : Int) (x y : Nat) : Prop := w.heap[p]? = some (.cells #[.int .i64 n, .int .u64 x, .int .u64 y] 112 (0, 0))
theorem Blk.cells {w : World} {p : Nat} {n : Int} {x y : Nat} (h : Blk w p n x y) : w.cell? ⟨p, 0, none⟩ = some (.int .i64 n) ∧ w.cell? ⟨p, 1, none⟩ = some (.int .u64 x) ∧ w.cell? ⟨p, 2, none⟩ = some (.int .u64 y) ∧ ∀ j, w.frozen? ⟨p, j, none⟩ = false :=
  ⟨by rw [cell_of_row w p 0 _ _ _ h]; rfl, by rw [cell_of_row w p 1 _ _ _ h]; rfl, by rw [cell_of_row w p 2 _ _ _ h]; rfl, fun j => frozen_of_row w p j _ _ h⟩
theorem Blk.set1 {w : World} {p : Nat} {n : Int} {x y : Nat} (h : Blk w p n x y) (x' : Nat) : Blk (w.setCell ⟨p, 1, none⟩ (.int .u64 x')) p n x' y := heap_setCell_same w p 1 _ _ (.int .u64 x') h
theorem Blk.set2 {w : World} {p : Nat} {n : Int} {x y : Nat} (h : Blk w p n x y) (y' : Nat) : Blk (w.setCell ⟨p, 2, none⟩ (.int .u64 y')) p n x y' := heap_setCell_same w p 2 _ _ (.int .u64 y') h
theorem Blk.lt {w : World} {p : Nat} {n : Int} {x y : Nat} (h : Blk w p n x y) : p < w.heap.size := (Array.getElem?_eq_some_iff.1 h).1

theorem pow_u64 {k : Nat} (h : k < 64) : IntKind.u64.wrap ((2 : Int) ^ k) = ((2 ^ k : Nat) : Int) := by
  have h2 := two_pow_lt h
  have h3 := Nat.two_pow_pos k
  rw [int_two_pow]; exact u64w (by omega) (by omega)
theorem bit_in {k m : Nat} (h : k % 64 = m) : IntKind.u64.wrap ((2 : Int) ^ min (IntKind.u64.wrap ((k : Int).tmod 64)).toNat 64) = ((2 ^ m : Nat) : Int) := by
  have h1 : (k : Int).tmod 64 = (m : Int) := by rw [Int.tmod_eq_emod_of_nonneg (by omega)]; omega
  have h2 : IntKind.u64.wrap (m : Int) = (m : Int) := u64w (by omega) (by omega)
  rw [h1, h2, Int.toNat_natCast, Nat.min_eq_left (by omega)]
  exact pow_u64 (by omega)
theorem quo_lo {k : Nat} (h : k < 64) : IntKind.i64.wrap ((k : Int) / 64) = 0 ∧ IntKind.i64.wrap ((k : Int).tmod 64) = k ∧ IntKind.i64.wrap ((k : Int) % 64) = k := by
  refine ⟨?_, ?_, ?_⟩
  · rw [IntWalk.i64_in] <;> omega
  · rw [Int.tmod_eq_emod_of_nonneg (by omega), IntWalk.i64_in] <;> omega
  · rw [IntWalk.i64_in] <;> omega
theorem quo_hi {k : Nat} (h : 64 ≤ k) (h2 : k < 128) : IntKind.i64.wrap ((k : Int) / 64) = 1 ∧ IntKind.i64.wrap ((k : Int).tmod 64) = ((k - 64 : Nat) : Int) ∧ IntKind.i64.wrap ((k : Int) % 64) = ((k - 64 : Nat) : Int) := by
  refine ⟨?_, ?_, ?_⟩
  · rw [IntWalk.i64_in] <;> omega
  · rw [Int.tmod_eq_emod_of_nonneg (by omega), IntWalk.i64_in] <;> omega
  · rw [IntWalk.i64_in] <;> omega

set_option maxHeartbeats 1600000 in
set_option maxRecDepth 100000 in
theorem blkNew (w : World) (a : Option Addr) (c : Nat) (l : List Bool) (hr : ReadsV w a (l.map Value.bool)) (hl : l.length ≤ 128) :
    Calls Tryz.prog 90 #[.slice a l.length c] w fun e w' => e = .returned (.tuple #[.pointer (some ⟨w.heap.size, 0, none⟩), .int .i64 0]) ∧ IsBlock w' w.heap.size l ∧ Below w.heap.size w w' := by
  have hd : decide ((128 : Int) < (l.length : Int)) = false := by simp; omega
  have hb0 := below_alloc w (.cells #[.int .i64 l.length, .int .u64 0, .int .u64 0] 112)
  have hk0 : Blk (w.alloc (.cells #[.int .i64 l.length, .int .u64 0, .int .u64 0] 112)) w.heap.size l.length (loW (l.take 0)) (hiW (l.take 0)) := by
    have e1 : loW (l.take 0) = 0 := by rw [List.take_zero]; exact loW_nil
    have e2 : hiW (l.take 0) = 0 := by rw [List.take_zero]; exact hiW_nil
    rw [e1, e2]; exact heap_alloc_new w _
  have HK0 := Lib.hid hk0
  have HR := Lib.hid hr
  obtain ⟨p, hp⟩ : ∃ p, w.heap.size = p := ⟨_, rfl⟩
  have HP := Lib.hid hp
  clear hk0 hr hp
  go_enter Tryz.func90, Tryz.ntmps90
  go_wp2_with fail
  rw [HP.out]
  go_loopw [16] (fun i wr => ∃ k : Nat, k ≤ l.length ∧ i = .int .i64 k ∧ Blk wr p l.length (loW (l.take k)) (hiW (l.take k)) ∧ Below w.heap.size w wr) (fun i _ => l.length - (intOf i).toNat)
  case atStart => exact ⟨0, Nat.zero_le _, rfl, by have := HK0.out; rw [HP.out] at this; exact this, hb0⟩
  case round =>
    obtain ⟨k, hk, rfl, hbk, hb⟩ := hrel
    clear hb0
    by_cases hlt : k < l.length
    · obtain ⟨b, off, rfl, hbl, hc⟩ := (HR.out.below' hb).some (by rw [List.length_map]; omega)
      have hcell := hc k (.bool (l[k]?.getD false)) (by rw [List.getElem?_map, List.getElem?_eq_getElem hlt]; rfl)
      have ht : l.take (k + 1) = l.take k ++ [l[k]?.getD false] := by rw [List.take_add_one, List.getElem?_eq_getElem hlt]; rfl
      have hlen : (l.take k).length = k := by rw [List.length_take]; omega
      have HT := Lib.hid ht
      have HLEN := Lib.hid hlen
      have hlo := loW_lt (l.take k)
      have hhi := hiW_lt (l.take k)
      generalize hbv : l[k]?.getD false = bv at *
      have HBV := Lib.hid hbv
      clear hc ht hlen hbv
      cases bv
      · have e1 : loW (l.take (k + 1)) = loW (l.take k) := by
          rw [HT.out]
          by_cases h : k < 64
          · rw [lo_snoc (by rw [HLEN.out]; exact h)]; simp
          · rw [lo_snoc2 (by rw [HLEN.out]; omega)]
        have e2 : hiW (l.take (k + 1)) = hiW (l.take k) := by
          rw [HT.out]
          by_cases h : k < 64
          · rw [hi_snoc (by rw [HLEN.out]; exact h)]
          · rw [hi_snoc2 (by rw [HLEN.out]; omega) (by rw [HLEN.out]; omega)]; simp
        have E1 := Lib.hid e1
        have E2 := Lib.hid e2
        have HBK := Lib.hid hbk
        clear e1 e2 hbk
        go_wp2_with fail
        go_roundw
        case rel => exact ⟨k + 1, by omega, by go_num, by rw [E1.out, E2.out]; exact HBK.out, hb⟩
        case measure => simp [intOf]; omega
      · by_cases h64 : k < 64
        · have e1 : loW (l.take (k + 1)) = loW (l.take k) ||| 2 ^ k := by
            rw [HT.out, lo_snoc (by rw [HLEN.out]; exact h64), HLEN.out]; simp
          have e2 : hiW (l.take (k + 1)) = hiW (l.take k) := by rw [HT.out, hi_snoc (by rw [HLEN.out]; exact h64)]
          have h2k := two_pow_lt h64
          have e3 : bits .or .u64 ((loW (l.take k) : Nat) : Int) (IntKind.u64.wrap ((2 : Int) ^ min (IntKind.u64.wrap ((k : Int).tmod 64)).toNat 64)) = ((loW (l.take k) ||| 2 ^ k : Nat) : Int) := by
            rw [bit_in (m := k) (by omega)]; exact or_u64 _ _ hlo (by omega)
          have E1 := Lib.hid e1
          have E2 := Lib.hid e2
          have E3 := Lib.hid e3
          generalize loW (l.take k) = x at *
          generalize hiW (l.take k) = y at *
          obtain ⟨c0, c1, c2, fz⟩ := hbk.cells
          have fz1 := fz 1
          obtain ⟨q1, q2, q3⟩ := quo_lo h64
          have HBK := Lib.hid hbk
          clear e1 e2 e3 hbk fz c0 c2 h2k
          go_wp2_with fail
          refine reg_start (fun _ => True) (by kernel_rfl) (trivial) (fun hHeld => ?_)
          refine rt 0 hHeld ?_
          refine rt 1 hHeld ?_
          refine rt 2 hHeld ?_
          refine rt 3 hHeld ?_
          refine rt 4 hHeld ?_
          refine rt 5 hHeld ?_
          refine rt 7 hHeld ?_
          refine rt 8 hHeld ?_
          refine rt 9 hHeld ?_
          refine rt 10 hHeld ?_
          refine rt 12 hHeld ?_
          refine rt 13 hHeld ?_
          refine reg_loud (i := 6) rfl (by kernel_rfl) rfl (fun K hK => ?_)
          go_simp
          refine hK.out _ _ (trivial) (fun hNew => ?_)
          clear hK K hHeld
          have hHeld := hNew
          clear hNew
          try simp only [Act.put, List.setIfInBounds_toArray, List.set_cons_zero, List.set_cons_succ]
          refine rt 11 hHeld ?_
          refine rt 14 hHeld ?_
          refine reg_loud (i := 15) rfl (by kernel_rfl) rfl (fun K hK => ?_)
          go_simp
          refine hK.out _ _ (trivial) (fun hNew => ?_)
          clear hK K hHeld
          have hHeld := hNew
          clear hNew
          try simp only [Act.put, List.setIfInBounds_toArray, List.set_cons_zero, List.set_cons_succ]
          refine reg_done (by kernel_rfl) ?_ _
          rw [E3.out]
          clear c1 fz1 q1 q2 q3
          go_wp2_with fail
          go_roundw
          case rel => exact ⟨k + 1, by omega, by go_num, by rw [E1.out, E2.out]; exact HBK.out.set1 _, below_setQ hb.drew hb.drew.size (by have := HP.out; omega) _⟩
          case measure => simp [intOf]; omega
        · have e1 : loW (l.take (k + 1)) = loW (l.take k) := by rw [HT.out, lo_snoc2 (by rw [HLEN.out]; omega)]
          have e2 : hiW (l.take (k + 1)) = hiW (l.take k) ||| 2 ^ (k - 64) := by
            rw [HT.out, hi_snoc2 (by rw [HLEN.out]; omega) (by rw [HLEN.out]; omega), HLEN.out]; simp
          have h2k := two_pow_lt (k := k - 64) (by omega)
          have e3 : bits .or .u64 ((hiW (l.take k) : Nat) : Int) (IntKind.u64.wrap ((2 : Int) ^ min (IntKind.u64.wrap ((k : Int).tmod 64)).toNat 64)) = ((hiW (l.take k) ||| 2 ^ (k - 64) : Nat) : Int) := by
            rw [bit_in (m := k - 64) (by omega)]; exact or_u64 _ _ hhi (by omega)
          have E1 := Lib.hid e1
          have E2 := Lib.hid e2
          have E3 := Lib.hid e3
          generalize loW (l.take k) = x at *
          generalize hiW (l.take k) = y at *
          obtain ⟨c0, c1, c2, fz⟩ := hbk.cells
          have fz1 := fz 2
          obtain ⟨q1, q2, q3⟩ := quo_hi (k := k) (by omega) (by omega)
          have HBK := Lib.hid hbk
          clear e1 e2 e3 hbk fz c0 c1 h2k
          go_wp2_with fail
          refine reg_start (fun _ => True) (by kernel_rfl) (trivial) (fun hHeld => ?_)
          refine rt 0 hHeld ?_
          refine rt 1 hHeld ?_
          refine rt 2 hHeld ?_
          refine rt 3 hHeld ?_
          refine rt 4 hHeld ?_
          refine rt 5 hHeld ?_
          refine rt 7 hHeld ?_
          refine rt 8 hHeld ?_
          refine rt 9 hHeld ?_
          refine rt 10 hHeld ?_
          refine rt 12 hHeld ?_
          refine rt 13 hHeld ?_
          refine reg_loud (i := 6) rfl (by kernel_rfl) rfl (fun K hK => ?_)
          go_simp
          refine hK.out _ _ (trivial) (fun hNew => ?_)
          clear hK K hHeld
          have hHeld := hNew
          clear hNew
          try simp only [Act.put, List.setIfInBounds_toArray, List.set_cons_zero, List.set_cons_succ]
          refine rt 11 hHeld ?_
          refine rt 14 hHeld ?_
          refine reg_loud (i := 15) rfl (by kernel_rfl) rfl (fun K hK => ?_)
          go_simp
          refine hK.out _ _ (trivial) (fun hNew => ?_)
          clear hK K hHeld
          have hHeld := hNew
          clear hNew
          try simp only [Act.put, List.setIfInBounds_toArray, List.set_cons_zero, List.set_cons_succ]
          refine reg_done (by kernel_rfl) ?_ _
          rw [E3.out]
          clear c2 fz1 q1 q2 q3
          go_wp2_with fail
          go_roundw
          case rel => exact ⟨k + 1, by omega, by go_num, by rw [E1.out, E2.out]; exact HBK.out.set2 _, below_setQ hb.drew hb.drew.size (by have := HP.out; omega) _⟩
          case measure => simp [intOf]; omega
    · have hkl : k = l.length := by omega
      have ht : l.take k = l := by rw [hkl, List.take_length]
      rw [ht] at hbk
      clear ht hkl
      go_wp2_with fail
      go_ret2
      exact ⟨by rw [HP.out]; rfl, ⟨hl, by rw [HP.out]; exact hbk⟩, hb⟩

/-- A block that changes: its own block alone, and new ones. -/
def BlkStep (w w' : World) (p : Nat) (l : List Bool) : Prop := IsBlock w' p l ∧ Chg (fun q => q = p) w w'

end Go.Proofs.YtacoeohmdngnkaaGreatDoor

namespace Go.Proofs.YtacoeohmdngnkaaGreatDoor
set_option linter.unusedVariables false
set_option linter.unusedSimpArgs false
open Go.RowKit


end Go.Proofs.YtacoeohmdngnkaaGreatDoor

namespace Go.Proofs.YtacoeohmdngnkaaGreatDoor
set_option linter.unusedVariables false
set_option linter.unusedSimpArgs false

/-- An arena: of each number whether it is taken; those that are free, the last one last; how many there may be. -/
structure Ar where
  T : List Bool
  F : List Nat
  M : Nat

/-- What holds of every arena. -/
structure Ar.Ok (a : Ar) : Prop where
  max : a.M ≤ 268435456
  le : a.T.length ≤ a.M
  cnt : a.T.count false = a.F.length
  nd : a.F.Nodup
  iff : ∀ j, a.T[j]? = some false ↔ j ∈ a.F

def arIs (T : List Bool) (k : Int) : Bool := decide (0 ≤ k) && (T[k.toNat]?.getD false)

def Ar.live (a : Ar) : Nat := a.T.length - a.F.length

theorem Ar.Ok.fle {a : Ar} (h : a.Ok) : a.F.length ≤ a.T.length := by rw [← h.cnt]; exact List.count_le_length

def Ar.new (m : Nat) : Ar := ⟨[], [], m⟩
theorem Ar.new_ok {m : Nat} (h : m ≤ 268435456) : (Ar.new m).Ok := ⟨h, by simp [Ar.new], by simp [Ar.new], by simp [Ar.new], by simp [Ar.new]⟩

/-- Take, where one is free. -/
def Ar.pop (a : Ar) (k : Nat) : Ar := ⟨a.T.set k true, a.F.dropLast, a.M⟩
/-- Take, where none is free. -/
def Ar.more (a : Ar) : Ar := ⟨a.T ++ [true], a.F, a.M⟩

theorem Ar.more_ok {a : Ar} (h : a.Ok) (hl : a.T.length < a.M) : a.more.Ok := by
  refine ⟨h.max, by simp [Ar.more]; omega, by simp [Ar.more, h.cnt], h.nd, fun j => ?_⟩
  show (a.T ++ [true])[j]? = some false ↔ j ∈ a.F
  rw [← h.iff j, List.getElem?_append]
  split
  · exact Iff.rfl
  · rename_i hj
    rw [List.getElem?_eq_none (l := a.T) (by omega)]
    rcases Nat.lt_or_ge (j - a.T.length) 1 with h1 | h1
    · have : j - a.T.length = 0 := by omega
      rw [this]; simp
    · rw [List.getElem?_eq_none (by simpa using h1)]

theorem Ar.pop_ok {a : Ar} (h : a.Ok) {k : Nat} (hk : a.F.getLast? = some k) : (a.pop k).Ok := by
  have hne : a.F ≠ [] := by intro e; rw [e] at hk; cases hk
  have hF : a.F = a.F.dropLast ++ [k] := by
    rw [List.getLast?_eq_some_getLast hne] at hk
    injection hk with hk
    rw [← hk, List.dropLast_concat_getLast]
  have hmem : k ∈ a.F := by rw [hF]; simp
  have hf := (h.iff k).2 hmem
  have hlt : k < a.T.length := (List.getElem?_eq_some_iff.1 hf).1
  have hfk : a.T[k] = false := (List.getElem?_eq_some_iff.1 hf).2
  have hnd := h.nd
  rw [hF, List.nodup_append] at hnd
  refine ⟨h.max, by simp [Ar.pop]; exact h.le, ?_, hnd.1, fun j => ?_⟩
  · show (a.T.set k true).count false = a.F.dropLast.length
    rw [List.count_set hlt, hfk, h.cnt, List.length_dropLast]; simp
  · show (a.T.set k true)[j]? = some false ↔ j ∈ a.F.dropLast
    rw [List.getElem?_set]
    have hj := h.iff j
    rw [hF, List.mem_append] at hj
    by_cases e : k = j
    · subst e
      rw [if_pos rfl, if_pos hlt]
      have : k ∉ a.F.dropLast := fun hm => hnd.2.2 k hm k (by simp) rfl
      simp [this]
    · rw [if_neg e, hj]
      have : j ∉ [k] := by simp; exact fun h => e h.symm
      simp [this]

/-- The free ones' numbers are old ones. -/
theorem Ar.Ok.last_lt {a : Ar} (h : a.Ok) {k : Nat} (hk : a.F.getLast? = some k) : k < a.T.length := by
  have hm : k ∈ a.F := List.mem_of_getLast? hk
  exact (List.getElem?_eq_some_iff.1 ((h.iff k).2 hm)).1

/-- Nodes are given back one by one; nothing where one of them is not taken. -/
def clr (T : List Bool) : List Int → Option (List Bool)
  | [] => some T
  | k :: l => if arIs T k = true then clr (T.set k.toNat false) l else none

/-- Free, where all are taken. -/
def Ar.push (a : Ar) (T' : List Bool) (l : List Int) : Ar := ⟨T', a.F ++ l.map Int.toNat, a.M⟩

/-- Take: what it answers, and the arena behind it. -/
def Ar.take (a : Ar) : Int × Int × Ar :=
  if a.live = a.M then (-1, 3, a) else match a.F.getLast? with
    | some k => ((k : Int), 0, a.pop k)
    | none => ((a.T.length : Int), 0, a.more)
/-- Free: what it answers, and the arena behind it. -/
def Ar.free (a : Ar) (l : List Int) : Int × Ar := match clr a.T l with
  | some T' => (0, a.push T' l)
  | none => (7, a)

end Go.Proofs.YtacoeohmdngnkaaGreatDoor

namespace Go.Proofs.YtacoeohmdngnkaaGreatDoor
set_option linter.unusedVariables false
set_option linter.unusedSimpArgs false
open Go.RowKit

def natA (k : Nat) : Value := .int .i64 k

/-- Block p holds an arena; its own blocks are S. -/
structure IsArena (w : World) (p : Nat) (S : Nat → Prop) (a : Ar) : Prop where
  ok : a.Ok
  ex : ∃ tv fv, w.heap[p]? = some (.cells #[tv, fv, .int .i64 a.M] 116 (0, 0)) ∧ w.ownsRow 0 4 1 tv a.T.length (a.T.map Value.bool) ∧
    w.ownsRow 0 3 1 fv a.F.length (a.F.map natA) ∧ tv.ownBlock ≠ some p ∧ fv.ownBlock ≠ some p ∧ (∀ g, tv.ownBlock = some g → fv.ownBlock ≠ some g) ∧
    (∀ k, S k ↔ k = p ∨ tv.ownBlock = some k ∨ fv.ownBlock = some k)

theorem IsArena.lt {w : World} {p : Nat} {S : Nat → Prop} {a : Ar} (h : IsArena w p S a) : ∀ k, S k → k < w.heap.size := by
  obtain ⟨tv, fv, hp, ht, hf, _, _, _, hS⟩ := h.ex
  intro k hk
  rcases (hS k).1 hk with rfl | h | h
  · exact (Array.getElem?_eq_some_iff.1 hp).1
  · exact (own_lt ht h).2
  · exact (own_lt hf h).2

theorem IsArena.self {w : World} {p : Nat} {S : Nat → Prop} {a : Ar} (h : IsArena w p S a) : S p := by
  obtain ⟨tv, fv, hp, ht, hf, _, _, _, hS⟩ := h.ex
  exact (hS p).2 (Or.inl rfl)

theorem IsArena.chg {w w' : World} {p : Nat} {S S' : Nat → Prop} {a : Ar} (h : IsArena w p S a) (hc : Chg S' w w') (hd : ∀ k, S k → ¬ S' k) : IsArena w' p S a := by
  obtain ⟨hok, tv, fv, hp, ht, hf, n1, n2, n3, hS⟩ := h
  exact ⟨hok, tv, fv, hc.heap hp (hd p ((hS p).2 (Or.inl rfl))), hc.own ht (fun k hk => hd k ((hS k).2 (Or.inr (Or.inl hk)))), hc.own hf (fun k hk => hd k ((hS k).2 (Or.inr (Or.inr hk)))), n1, n2, n3, hS⟩

/-- What a walk sees of an arena. -/
theorem IsArena.see {w : World} {p : Nat} {S : Nat → Prop} {a : Ar} (h : IsArena w p S a) :
    ∃ ta tc fa fc, w.cell? ⟨p, 0, none⟩ = some (.slice ta a.T.length tc) ∧ w.cell? ⟨p, 1, none⟩ = some (.slice fa a.F.length fc) ∧ w.cell? ⟨p, 2, none⟩ = some (.int .i64 a.M) ∧
      (∀ j, w.frozen? ⟨p, j, none⟩ = false) ∧ w.heap[p]? = some (.cells #[.slice ta a.T.length tc, .slice fa a.F.length fc, .int .i64 a.M] 116 (0, 0)) ∧
      w.ownsRow 0 4 1 (.slice ta a.T.length tc) a.T.length (a.T.map Value.bool) ∧ w.ownsRow 0 3 1 (.slice fa a.F.length fc) a.F.length (a.F.map natA) ∧
      (∀ g, ta = some ⟨g, 0, none⟩ → g ≠ p ∧ g < w.heap.size ∧ fa ≠ some ⟨g, 0, none⟩) ∧ (∀ g, fa = some ⟨g, 0, none⟩ → g ≠ p ∧ g < w.heap.size) ∧
      (∀ ad, ta = some ad → ∃ g, ad = ⟨g, 0, none⟩) ∧ (∀ ad, fa = some ad → ∃ g, ad = ⟨g, 0, none⟩) ∧
      (∀ k, S k ↔ k = p ∨ ta = some ⟨k, 0, none⟩ ∨ fa = some ⟨k, 0, none⟩) ∧ p < w.heap.size := by
  obtain ⟨hok, tv, fv, hp, ht, hf, n1, n2, n3, hS⟩ := h
  obtain ⟨ta, tc, rfl, hta, htb⟩ := own_slice ht
  obtain ⟨fa, fc, rfl, hfa, hfb⟩ := own_slice hf
  have ob : ∀ (x : Option Addr) (n c : Nat) (k : Nat), (∀ ad, x = some ad → ∃ g, ad = ⟨g, 0, none⟩ ∧ 0 ≤ g ∧ g < w.heap.size ∧ (Value.slice x n c).ownBlock = some g) → ((Value.slice x n c).ownBlock = some k ↔ x = some ⟨k, 0, none⟩) := by
    intro x n c k h
    cases x with
    | none => simp [Value.ownBlock]
    | some ad =>
      obtain ⟨g, rfl, _⟩ := h ad rfl
      simp [Value.ownBlock]
  refine ⟨ta, tc, fa, fc, by rw [cell_of_row w p 0 _ _ _ hp]; rfl, by rw [cell_of_row w p 1 _ _ _ hp]; rfl, by rw [cell_of_row w p 2 _ _ _ hp]; rfl, fun j => frozen_of_row w p j _ _ hp, hp, ht, hf, ?_, ?_, ?_, ?_, ?_, (Array.getElem?_eq_some_iff.1 hp).1⟩
  · intro g hg
    obtain ⟨g', e, _, hlt, ho⟩ := htb _ hg
    cases e
    exact ⟨fun e => n1 (e ▸ ho), hlt, fun e => n3 g ho ((ob fa _ fc g hfb).2 e)⟩
  · intro g hg
    obtain ⟨g', e, _, hlt, ho⟩ := hfb _ hg
    cases e
    exact ⟨fun e => n2 (e ▸ ho), hlt⟩
  · intro ad h; obtain ⟨g, e, _⟩ := htb ad h; exact ⟨g, e⟩
  · intro ad h; obtain ⟨g, e, _⟩ := hfb ad h; exact ⟨g, e⟩
  · intro k
    rw [hS k, ob ta _ tc k htb, ob fa _ fc k hfb]

theorem arNew_good (m : Nat) (w : World) (h : m ≤ 268435456) :
    Calls Tryz.prog 82 #[.int .i64 m] w fun e w' => e = .returned (.pointer (some ⟨w.heap.size, 0, none⟩)) ∧ IsArena w' w.heap.size (fun k => k = w.heap.size) (Ar.new m) ∧ Chg (fun _ => False) w w' := by
  have hd : decide ((m : Int) < 0) = false := by simp
  have hd2 : decide ((268435456 : Int) < (m : Int)) = false := by simp; omega
  go_enter Tryz.func82, Tryz.ntmps82
  go_wp2
  go_ret
  refine ⟨rfl, ⟨Ar.new_ok h, .slice none 0 0, .slice none 0 0, heap_alloc_new w _, World.ownsRow_nil _ _ _ _, World.ownsRow_nil _ _ _ _, by simp [Value.ownBlock], by simp [Value.ownBlock], fun g hg => by simp [Value.ownBlock] at hg, fun k => by simp [Value.ownBlock]⟩, Chg.refl.alloc _⟩

theorem arLive_any {w : World} {p : Nat} {S : Nat → Prop} {a : Ar} (h : IsArena w p S a) :
    Calls Tryz.prog 116 #[.pointer (some ⟨p, 0, none⟩)] w fun e w' => e = .returned (.int .i64 a.live) ∧ ∃ n, w' = w.drewN n := by
  obtain ⟨ta, tc, fa, fc, h0, h1, h2, hfz, hp, ht, hf, n1, n2, n3, n4, hS, hpl⟩ := h.see
  have hle := h.ok.fle
  have hl : (a.T.length : Int) - (a.F.length : Int) = (a.live : Int) := by unfold Ar.live; omega
  have hmx := h.ok.max
  have hm2 := h.ok.le
  clear hp ht hf n1 n2 n3 n4 hS hfz
  have HL := Lib.hid hl; clear hl
  go_enter Tryz.func116, Tryz.ntmps116
  go_wp2_with fail
  go_quiet (fail)
  go_wp2
  go_ret
  exact ⟨ret_int HL.out, _, rfl⟩

end Go.Proofs.YtacoeohmdngnkaaGreatDoor

namespace Go.Proofs.YtacoeohmdngnkaaGreatDoor
set_option linter.unusedVariables false
set_option linter.unusedSimpArgs false
open Go.RowKit

theorem Tryz.infoBool : (Tryz.prog.info? 4).map (fun i => (i.zero, i.size, i.bytes)) = some (some (.bool false), 1, 1) := by kernel_rfl
/-- What a step on an arena leaves: the arena, and all blocks outside its own (or new) as they were. -/
def ArStep (w w' : World) (p : Nat) (S : Nat → Prop) (a' : Ar) : Prop := ∃ S', IsArena w' p S' a' ∧ Chg S w w' ∧ ∀ k, S' k → S k ∨ w.heap.size ≤ k

theorem heap_set_cells {w : World} {p : Nat} {cs : Array Value} {t : TypeId} (h : w.heap[p]? = some (.cells cs t (0, 0))) (j : Nat) (v : Value) : (w.setCell ⟨p, j, none⟩ v).heap[p]? = some (.cells (cs.setIfInBounds j v) t (0, 0)) :=
  heap_setCell_same w p j cs t v h
theorem heap_set_other {w : World} {b p j : Nat} {v : Value} {o : Obj} (h : w.heap[b]? = some o) (hne : b ≠ p) : (w.setCell ⟨p, j, none⟩ v).heap[b]? = some o := by
  rw [heap_setCell_other w ⟨p, j, none⟩ b v hne]; exact h
theorem own_set_other {w : World} {base : Nat} {e : TypeId} {sz n : Nat} {a : Option Addr} {c : Nat} {xs : List Value} (h : w.ownsRow base e sz (.slice a n c) n xs) {p j : Nat} (v : Value) (hne : ∀ g, a = some ⟨g, 0, none⟩ → g ≠ p) (ha : ∀ ad, a = some ad → ∃ g, ad = ⟨g, 0, none⟩) :
    (w.setCell ⟨p, j, none⟩ v).ownsRow base e sz (.slice a n c) n xs := ownsRow_setCell_other h (by
  cases a with
  | none => simp [Value.ownBlock]
  | some ad =>
    obtain ⟨g, rfl⟩ := ha ad rfl
    simpa [Value.ownBlock] using hne g rfl) v

/-- An arena out of its parts. -/
theorem IsArena.of {w : World} {p : Nat} {a : Ar} {ta fa : Option Addr} {tc fc : Nat} (ok : a.Ok) (hp : w.heap[p]? = some (.cells #[.slice ta a.T.length tc, .slice fa a.F.length fc, .int .i64 a.M] 116 (0, 0)))
    (ht : w.ownsRow 0 4 1 (.slice ta a.T.length tc) a.T.length (a.T.map Value.bool)) (hf : w.ownsRow 0 3 1 (.slice fa a.F.length fc) a.F.length (a.F.map natA))
    (n1 : ∀ g, ta = some ⟨g, 0, none⟩ → g ≠ p ∧ fa ≠ some ⟨g, 0, none⟩) (n2 : ∀ g, fa = some ⟨g, 0, none⟩ → g ≠ p) :
    IsArena w p (fun k => k = p ∨ ta = some ⟨k, 0, none⟩ ∨ fa = some ⟨k, 0, none⟩) a := by
  have ob : ∀ (x : Option Addr) (n c : Nat) (k : Nat), (∀ ad, x = some ad → ∃ g, ad = (⟨g, 0, none⟩ : Addr)) → ((Value.slice x n c).ownBlock = some k ↔ x = some ⟨k, 0, none⟩) := by
    intro x n c k h
    cases x with
    | none => simp [Value.ownBlock]
    | some ad =>
      obtain ⟨g, rfl⟩ := h ad rfl
      simp [Value.ownBlock]
  have ha : ∀ ad, ta = some ad → ∃ g, ad = (⟨g, 0, none⟩ : Addr) := by
    obtain ⟨x, c, hv, _, hb⟩ := own_slice ht
    injection hv with e1 e2 e3
    intro ad h; obtain ⟨g, e, _⟩ := hb ad (e1 ▸ h); exact ⟨g, e⟩
  have hb : ∀ ad, fa = some ad → ∃ g, ad = (⟨g, 0, none⟩ : Addr) := by
    obtain ⟨x, c, hv, _, hb⟩ := own_slice hf
    injection hv with e1 e2 e3
    intro ad h; obtain ⟨g, e, _⟩ := hb ad (e1 ▸ h); exact ⟨g, e⟩
  refine ⟨ok, _, _, hp, ht, hf, fun e => (n1 p ((ob ta _ tc p ha).1 e)).1 rfl, fun e => (n2 p ((ob fa _ fc p hb).1 e)) rfl, fun g hg e => (n1 g ((ob ta _ tc g ha).1 hg)).2 ((ob fa _ fc g hb).1 e), fun k => ?_⟩
  rw [ob ta _ tc k ha, ob fa _ fc k hb]

theorem arTake_pop {w : World} {p : Nat} {S : Nat → Prop} {a : Ar} (h : IsArena w p S a) (hl : a.live ≠ a.M) {k : Nat} (hk : a.F.getLast? = some k) :
    Calls Tryz.prog 113 #[.pointer (some ⟨p, 0, none⟩)] w fun e w' => e = .returned (.tuple #[.int .i64 k, .int .i64 0]) ∧ ArStep w w' p S (a.pop k) := by
  obtain ⟨ta, tc, fa, fc, h0, h1, h2, hfz, hp, ht, hf, n1, n2, n3, n4, hS, hpl⟩ := h.see
  have hkl := h.ok.last_lt hk
  have hmx := h.ok.max
  have hm2 := h.ok.le
  have hfl := h.ok.fle
  have hne : a.F ≠ [] := by intro e; rw [e] at hk; cases hk
  have hFn : 0 < a.F.length := List.length_pos_iff.2 hne
  obtain ⟨fb, fcap, hv, _, hfb, hfcap, _, hfcell, _⟩ := own_some hf hFn
  injection hv with e1 _ e3
  subst e1; subst e3
  obtain ⟨tb, tcap, hv, _, htb, htcap, _, htcell, htfz⟩ := own_some ht (by omega)
  injection hv with e1 _ e3
  subst e1; subst e3
  obtain ⟨ntp, _, ntf⟩ := n1 tb rfl
  obtain ⟨nfp, _⟩ := n2 fb rfl
  have hcF := hfcell (a.F.length - 1) (by omega)
  rw [List.getElem?_map, ← List.getLast?_eq_getElem?, hk] at hcF
  have hcT := htcell k hkl
  rw [List.getElem?_map, List.getElem?_eq_getElem hkl] at hcT
  simp only [Option.map_some, natA] at hcT hcF
  have hz0 := htfz k
  have hlb : ((a.live : Int) == (a.M : Int)) = false := by simp; omega
  have hq : ∀ n, IsArena (w.drewN n) p S a := fun n => h.chg (Chg.refl.drewN n) (S' := fun _ => False) (fun k hk hf => hf)
  have HQ := Lib.hid hq; clear hq
  have hpop := Ar.pop_ok h.ok hk
  generalize hb0 : a.T[k] = b0 at *
  have hd0 : decide ((0 : Int) < (a.F.length : Int)) = true := by simp; omega
  have hz1 := hfz 1
  have HF := Lib.hid hfz
  have HP := Lib.hid hp
  have HT := Lib.hid ht
  have HFr := Lib.hid hf
  have HS := Lib.hid hS
  clear hfz hp ht hf hS htcell hfcell htfz n1 n2 n3 n4 hl hb0
  obtain ⟨n, hn⟩ : ∃ n, a.F.length = n + 1 := ⟨a.F.length - 1, by omega⟩
  have HN := Lib.hid hn
  rw [hn] at h1 hfcap hd0 hcF hFn hfl
  rw [show n + 1 - 1 = n from by omega] at hcF
  clear hn
  go_enter Tryz.func113, Tryz.ntmps113
  go_wp2_with fail
  go_quiet ((go_at_call 116; exact Calls.quiet_of (arLive_any (HQ.out _))))
  go_wp2
  go_ret2
  have e1 : (a.pop k).T.length = a.T.length := by simp [Ar.pop]
  have e2 : (a.pop k).F.length = n := by have := HN.out; simp [Ar.pop]; omega
  have hne2 : fb ≠ tb := fun e => ntf (by rw [e])
  refine ⟨rfl, _, IsArena.of (ta := some ⟨tb, 0, none⟩) (tc := tc) (fa := some ⟨fb, 0, none⟩) (fc := fc) hpop ?_ ?_ ?_ ?_ ?_, ?_, ?_⟩
  · rw [e1, e2]
    have := heap_set_other (heap_set_cells (w := w.drewN nq) HP.out 1 (.slice (some ⟨fb, 0, none⟩) n fc)) (p := tb) (j := k) (v := .bool true) (fun e => ntp e.symm)
    exact this
  · rw [e1]
    have := own_set (own_set_other (w := w.drewN nq) HT.out (p := p) (j := 1) (.slice (some ⟨fb, 0, none⟩) n fc) (fun g hg => by cases hg; exact ntp) (fun ad hg => by cases hg; exact ⟨_, rfl⟩)) k (.bool true)
    rw [← List.map_set] at this
    exact this
  · rw [e2]
    have h3 := HFr.out
    rw [HN.out] at h3
    have h4 := own_take h3 (m := n) (by omega)
    have e3 : (a.F.map natA).take n = (a.pop k).F.map natA := by
      rw [← List.map_take]; congr 1; show _ = a.F.dropLast; rw [List.dropLast_eq_take, HN.out]; rfl
    rw [e3] at h4
    exact own_set_other (own_set_other (w := w.drewN nq) h4 _ (fun g hg => by cases hg; exact nfp) (fun ad hg => by cases hg; exact ⟨_, rfl⟩)) _ (fun g hg => by cases hg; exact hne2) (fun ad hg => by cases hg; exact ⟨_, rfl⟩)
  · intro g hg; cases hg; exact ⟨ntp, ntf⟩
  · intro g hg; cases hg; exact nfp
  · exact ((Chg.refl.drewN nq).setCell _ (Or.inl ((HS.out p).2 (Or.inl rfl))) _).setCell _ (Or.inl ((HS.out tb).2 (Or.inr (Or.inl rfl)))) _
  · exact fun x hx => Or.inl ((HS.out x).2 hx)

theorem arTake_more {w : World} {p : Nat} {S : Nat → Prop} {a : Ar} (h : IsArena w p S a) (hl : a.live ≠ a.M) (hk : a.F = []) :
    Calls Tryz.prog 113 #[.pointer (some ⟨p, 0, none⟩)] w fun e w' => e = .returned (.tuple #[.int .i64 a.T.length, .int .i64 0]) ∧ ArStep w w' p S a.more := by
  obtain ⟨ta, tc, fa, fc, h0, h1, h2, hfz, hp, ht, hf, n1, n2, n3, n4, hS, hpl⟩ := h.see
  have hmx := h.ok.max
  have hm2 := h.ok.le
  have hlt : a.T.length < a.M := by
    simp only [Ar.live, hk, List.length_nil] at hl; omega
  have hlb : ((a.live : Int) == (a.M : Int)) = false := by simp; omega
  have hq : ∀ n, IsArena (w.drewN n) p S a := fun n => h.chg (Chg.refl.drewN n) (S' := fun _ => False) (fun k hk hf => hf)
  have HQ := Lib.hid hq; clear hq
  have hmore := Ar.more_ok h.ok hlt
  have hz0 := hfz 0
  have hF0 : a.F.length = 0 := by rw [hk]; rfl
  have HP := Lib.hid hp
  have HFr := Lib.hid hf
  have HS := Lib.hid hS
  have HF0 := Lib.hid hF0
  have HK := Lib.hid hk
  have ob : ∀ x n c, (Value.slice ta n c).ownBlock = some x → ta = some ⟨x, 0, none⟩ := by
    intro x n c hx
    cases ta with
    | none => simp [Value.ownBlock] at hx
    | some ad => obtain ⟨g, rfl⟩ := n3 ad rfl; simp [Value.ownBlock] at hx; rw [hx]
  rw [hF0] at h1
  have HN1 := Lib.hid n1
  have HN2 := Lib.hid n2
  have HN3 := Lib.hid n3
  have HN4 := Lib.hid n4
  have HOB := Lib.hid ob
  clear hfz hp hf hS n1 n2 n3 n4 hl hF0 hk ob
  go_enter Tryz.func113, Tryz.ntmps113
  go_wp2_with fail
  go_quiet ((go_at_call 116; exact Calls.quiet_of (arLive_any (HQ.out _))))
  go_wp2_with (at_builtin; refine wpList_pushL rfl _ _ 91 rfl 0 4 Tryz.infoBool Tryz.underlying91 rfl _ _ _ rfl ht rfl rfl ?c1 ?c2 ?c3 ?_)
  case c1 => unfold maxLen; omega
  case c2 => omega
  case c3 => omega
  intro g cap w1 hown hgrow hor hgl
  have hpn : some p ≠ (Value.slice ta a.T.length tc).ownBlock := fun e => ((HN1.out p (HOB.out p _ _ e.symm)).1 rfl)
  have hp1 : w1.heap[p]? = some (.cells #[.slice ta a.T.length tc, .slice fa a.F.length fc, .int .i64 a.M] 116 (0, 0)) := (hgrow.block p hpl hpn).trans HP.out
  have hc1 : w1.cell? ⟨p, 0, none⟩ = some (.slice ta a.T.length tc) := by rw [cell_of_row w1 p 0 _ _ _ hp1]; rfl
  have hf1 : w1.frozen? ⟨p, 0, none⟩ = false := frozen_of_row w1 p 0 _ _ hp1
  have HP1 := Lib.hid hp1
  have HO := Lib.hid hown
  have HG := Lib.hid hgrow
  have HOR := Lib.hid hor
  clear hp1 hown hgrow hor hpn ht h0 h1
  go_wp2
  go_ret2
  have hgp : g ≠ p := by
    rcases HOR.out with e | e
    · exact fun e2 => (HN1.out g (HOB.out g _ _ e)).1 e2
    · intro e2; subst e2; exact absurd hpl (by have : (w.drewN nq).heap.size = w.heap.size := rfl; omega)
  have hgf : fa ≠ some ⟨g, 0, none⟩ := by
    rcases HOR.out with e | e
    · exact (HN1.out g (HOB.out g _ _ e)).2.2
    · intro e2; have := (HN2.out g e2).2; have h3 : (w.drewN nq).heap.size = w.heap.size := rfl; omega
  have e1 : a.more.T.length = a.T.length + 1 := by simp [Ar.more]
  have hfo : w1.ownsRow 0 3 1 (.slice fa a.F.length fc) a.F.length (a.F.map natA) := by
    refine HFr.out.kept (w := w.drewN nq) HG.out ?_
    cases fa with
    | none => left; rfl
    | some ad =>
      obtain ⟨g2, rfl⟩ := HN4.out ad rfl
      right
      intro e
      have e3 : ta = some ⟨g2, 0, none⟩ := HOB.out g2 _ _ (by rw [← e]; rfl)
      exact (HN1.out g2 e3).2.2 rfl
  refine ⟨by simp, _, IsArena.of (ta := some ⟨g, 0, none⟩) (tc := cap) (fa := fa) (fc := fc) hmore ?_ ?_ ?_ ?_ ?_, ?_, ?_⟩
  · rw [e1]
    exact heap_set_cells HP1.out 0 (.slice (some ⟨g, 0, none⟩) (a.T.length + 1) cap)
  · rw [e1]
    have h3 : a.more.T.map Value.bool = a.T.map Value.bool ++ [.bool true] := by simp [Ar.more]
    rw [h3]
    exact own_set_other HO.out _ (fun g' hg' => by cases hg'; exact hgp) (fun ad hg' => by cases hg'; exact ⟨_, rfl⟩)
  · exact own_set_other hfo _ (fun g' hg' => (HN2.out g' hg').1) (fun ad hg' => HN4.out ad hg')
  · intro g' hg'; cases hg'; exact ⟨hgp, hgf⟩
  · intro g' hg'; exact (HN2.out g' hg').1
  · exact ((Chg.refl.drewN nq).grown HG.out (fun x hx => Or.inl ((HS.out x).2 (Or.inr (Or.inl (HOB.out x _ _ hx)))))).setCell _ (Or.inl ((HS.out p).2 (Or.inl rfl))) _
  · intro x hx
    rcases hx with rfl | hx | hx
    · exact Or.inl ((HS.out _).2 (Or.inl rfl))
    · cases hx
      rcases HOR.out with e | e
      · exact Or.inl ((HS.out _).2 (Or.inr (Or.inl (HOB.out _ _ _ e))))
      · exact Or.inr e
    · exact Or.inl ((HS.out _).2 (Or.inr (Or.inr hx)))

end Go.Proofs.YtacoeohmdngnkaaGreatDoor

namespace Go.Proofs.YtacoeohmdngnkaaGreatDoor
set_option linter.unusedVariables false
set_option linter.unusedSimpArgs false
open Go.RowKit

end Go.Proofs.YtacoeohmdngnkaaGreatDoor

namespace Go.Proofs.YtacoeohmdngnkaaGreatDoor
set_option linter.unusedVariables false
set_option linter.unusedSimpArgs false
open Go.RowKit

/-- A node. -/
structure Nd where
  left : Int
  right : Int
  height : Int
  n : Int
  ones : Int
  ln : Int
  lones : Int
  b : Option Nat
def ptrN (b : Option Nat) : Value := .pointer (b.map fun q => ⟨q, 0, none⟩)
def Nd.cells (x : Nd) : List Value := [.int .i64 x.left, .int .i64 x.right, .int .i64 x.height, .int .i64 x.n, .int .i64 x.ones, .int .i64 x.ln, .int .i64 x.lones, ptrN x.b]
def cellsN : List Nd → List Value
  | [] => []
  | x :: xs => x.cells ++ cellsN xs
theorem cellsN_len : ∀ xs : List Nd, (cellsN xs).length = xs.length * 8
  | [] => rfl
  | x :: xs => by simp only [cellsN, List.length_append, List.length_cons, cellsN_len xs]; simp [Nd.cells]; omega
theorem cellsN_get : ∀ (xs : List Nd) (k i : Nat) (x : Nd), xs[k]? = some x → i < 8 → (cellsN xs)[k * 8 + i]? = x.cells[i]?
  | [], k, i, x, h, _ => by simp at h
  | y :: xs, 0, i, x, h, hi => by
    simp at h; subst h
    simp only [cellsN, Nat.zero_mul, Nat.zero_add]
    rw [List.getElem?_append_left (by simpa [Nd.cells] using hi)]
  | y :: xs, k + 1, i, x, h, hi => by
    simp only [cellsN]
    rw [List.getElem?_append_right (by simp [Nd.cells]; omega), show (k + 1) * 8 + i - y.cells.length = k * 8 + i by simp [Nd.cells]; omega]
    exact cellsN_get xs k i x (by simpa using h) hi
theorem cellsN_set : ∀ (xs : List Nd) (k i : Nat) (x x' : Nd) (v : Value), xs[k]? = some x → i < 8 → x.cells.set i v = x'.cells → (cellsN xs).set (k * 8 + i) v = cellsN (xs.set k x')
  | [], k, i, x, x', v, h, _, _ => by simp at h
  | y :: xs, 0, i, x, x', v, h, hi, he => by
    simp at h; subst h
    simp only [cellsN, Nat.zero_mul, Nat.zero_add, List.set_cons_zero]
    rw [List.set_append_left _ _ (by simpa [Nd.cells] using hi), he]
  | y :: xs, k + 1, i, x, x', v, h, hi, he => by
    simp only [cellsN, List.set_cons_succ]
    rw [List.set_append_right _ _ (by simp [Nd.cells]; omega), show (k + 1) * 8 + i - y.cells.length = k * 8 + i by simp [Nd.cells]; omega]
    rw [cellsN_set xs k i x x' v (by simpa using h) hi he]
theorem cellsN_app (xs ys : List Nd) : cellsN (xs ++ ys) = cellsN xs ++ cellsN ys := by
  induction xs with
  | nil => rfl
  | cons x xs ih => simp [cellsN, ih]

/-- Block k holds cells of a type. -/
def TypeAt (w : World) (k : Nat) (T : TypeId) : Prop := ∃ cs, w.heap[k]? = some (.cells cs T (0, 0))
theorem TypeAt.ne {w : World} {k j : Nat} {T U : TypeId} (h : TypeAt w k T) (g : TypeAt w j U) (hn : T ≠ U) : k ≠ j := by
  rintro rfl
  obtain ⟨cs, h⟩ := h
  obtain ⟨ds, g⟩ := g
  rw [h] at g
  injection g with g
  injection g with _ g
  exact hn g
theorem TypeAt.lt {w : World} {k : Nat} {T : TypeId} (h : TypeAt w k T) : k < w.heap.size := by
  obtain ⟨cs, h⟩ := h
  exact (Array.getElem?_eq_some_iff.1 h).1
theorem TypeAt.chg {S : Nat → Prop} {w w' : World} {k : Nat} {T : TypeId} (h : TypeAt w k T) (hc : Chg S w w') (hn : ¬ S k) : TypeAt w' k T := by
  obtain ⟨cs, h⟩ := h
  exact ⟨cs, hc.heap h hn⟩
theorem own_type {w : World} {base : Nat} {e : TypeId} {sz n c g : Nat} {xs : List Value} (h : w.ownsRow base e sz (.slice (some ⟨g, 0, none⟩) n c) n xs) : TypeAt w g e := by
  rcases h.2 with ⟨h, _⟩ | ⟨g', cap, cur, hv, _, hg, _⟩
  · cases h
  · injection hv with e1 _ e3
    injection e1 with e1
    injection e1 with e1 _ _
    subst e1
    exact ⟨_, hg⟩
theorem IsArena.types {w : World} {p : Nat} {S : Nat → Prop} {a : Ar} (h : IsArena w p S a) {k : Nat} (hk : S k) : TypeAt w k 116 ∨ TypeAt w k 4 ∨ TypeAt w k 3 := by
  obtain ⟨ta, tc, fa, fc, _, _, _, _, hp, ht, hf, _, _, _, _, hS, _⟩ := h.see
  rcases (hS k).1 hk with rfl | rfl | rfl
  · exact Or.inl ⟨_, hp⟩
  · exact Or.inr (Or.inl (own_type ht))
  · exact Or.inr (Or.inr (own_type hf))
theorem IsBlock.type {w : World} {p : Nat} {l : List Bool} (h : IsBlock w p l) : TypeAt w p 112 := ⟨_, h.2⟩

/-- Block p holds the head of a tree: its arena, its row of nodes, the first one's number, how many the last call looked at; these blocks are C. -/
structure Head (w : World) (p : Nat) (C : Nat → Prop) (A : Ar) (xs : List Nd) (root vis : Int) : Prop where
  ex : ∃ ap SA ra rc, w.heap[p]? = some (.cells #[.pointer (some ⟨ap, 0, none⟩), .slice ra xs.length rc, .int .i64 root, .int .i64 vis] 100 (0, 0)) ∧
    IsArena w ap SA A ∧ w.ownsRow 0 103 8 (.slice ra xs.length rc) xs.length (cellsN xs) ∧ (∀ k, C k ↔ k = p ∨ SA k ∨ ra = some ⟨k, 0, none⟩)

/-- What a step on a tree's own blocks leaves. -/
structure HStep (w w' : World) (C C' : Nat → Prop) : Prop where
  chg : Chg C w w'
  new : ∀ k, C' k → C k ∨ w.heap.size ≤ k

section
variable {w w' w1 w2 : World} {p : Nat} {C C' C'' : Nat → Prop} {A : Ar} {xs : List Nd} {root vis : Int}
theorem HStep.refl : HStep w w C C := ⟨Chg.refl, fun _ h => Or.inl h⟩
theorem HStep.trans (h : HStep w w1 C C') (g : HStep w1 w2 C' C'') : HStep w w2 C C'' :=
  ⟨h.chg.trans g.chg h.new, fun k hk => (g.new k hk).elim (h.new k) (fun h' => Or.inr (Nat.le_trans h.chg.size h'))⟩

theorem own_addr {base : Nat} {e : TypeId} {sz n c : Nat} {a : Option Addr} {ys : List Value} (h : w.ownsRow base e sz (.slice a n c) n ys) : ∀ ad, a = some ad → ∃ g, ad = (⟨g, 0, none⟩ : Addr) := by
  obtain ⟨x, c', hv, _, hb⟩ := own_slice h
  injection hv with e1 _ _
  subst e1
  intro ad h; obtain ⟨g, e, _⟩ := hb ad h; exact ⟨g, e⟩
theorem ownBlock_addr {a : Option Addr} {n c k : Nat} (h : ∀ ad, a = some ad → ∃ g, ad = (⟨g, 0, none⟩ : Addr)) : (Value.slice a n c).ownBlock = some k ↔ a = some ⟨k, 0, none⟩ := by
  cases a with
  | none => simp [Value.ownBlock]
  | some ad => obtain ⟨g, rfl⟩ := h ad rfl; simp [Value.ownBlock]

theorem Head.types (h : Head w p C A xs root vis) {k : Nat} (hk : C k) : TypeAt w k 100 ∨ TypeAt w k 103 ∨ TypeAt w k 116 ∨ TypeAt w k 4 ∨ TypeAt w k 3 := by
  obtain ⟨ap, SA, ra, rc, hp, ha, ho, hC⟩ := h.ex
  rcases (hC k).1 hk with rfl | hk | rfl
  · exact Or.inl ⟨_, hp⟩
  · exact Or.inr (Or.inr (ha.types hk))
  · exact Or.inr (Or.inl (own_type ho))
theorem Head.lt (h : Head w p C A xs root vis) : ∀ k, C k → k < w.heap.size := by
  intro k hk
  rcases h.types hk with h | h | h | h | h <;> exact h.lt
theorem Head.self (h : Head w p C A xs root vis) : C p := by
  obtain ⟨ap, SA, ra, rc, hp, ha, ho, hC⟩ := h.ex
  exact (hC p).2 (Or.inl rfl)
theorem Head.notBlk (h : Head w p C A xs root vis) {q : Nat} (hq : TypeAt w q 112) : ¬ C q := by
  intro hc
  rcases h.types hc with g | g | g | g | g <;> exact g.ne hq (by decide) rfl
theorem Head.drewN (h : Head w p C A xs root vis) (n : Nat) : Head (w.drewN n) p C A xs root vis := by
  obtain ⟨ap, SA, ra, rc, hp, ha, ho, hC⟩ := h.ex
  exact ⟨ap, SA, ra, rc, hp, ha.chg (Chg.refl.drewN n) (S' := fun _ => False) (fun _ _ h => h), ho, hC⟩
theorem Head.chg {S : Nat → Prop} (h : Head w p C A xs root vis) (hc : Chg S w w') (hd : ∀ k, C k → ¬ S k) : Head w' p C A xs root vis := by
  obtain ⟨ap, SA, ra, rc, hp, ha, ho, hC⟩ := h.ex
  exact ⟨ap, SA, ra, rc, hc.heap hp (hd p ((hC p).2 (Or.inl rfl))), ha.chg hc (fun k hk => hd k ((hC k).2 (Or.inr (Or.inl hk)))),
    hc.own ho (fun k hk => hd k ((hC k).2 (Or.inr (Or.inr ((ownBlock_addr (own_addr ho)).1 hk))))), hC⟩
theorem Head.below (h : Head w p C A xs root vis) (hb : Below w.heap.size w w') : Head w' p C A xs root vis :=
  h.chg (S := fun _ => False) (Chg.of_below hb) (fun _ _ h => h)

/-- The head's cells. -/
theorem Head.cells (h : Head w p C A xs root vis) : (∃ ap, w.cell? ⟨p, 0, none⟩ = some (.pointer (some ⟨ap, 0, none⟩))) ∧ w.cell? ⟨p, 2, none⟩ = some (.int .i64 root) ∧ w.cell? ⟨p, 3, none⟩ = some (.int .i64 vis) ∧ (∀ j, w.frozen? ⟨p, j, none⟩ = false) := by
  obtain ⟨ap, SA, ra, rc, hp, ha, ho, hC⟩ := h.ex
  exact ⟨⟨ap, by rw [cell_of_row w p 0 _ _ _ hp]; rfl⟩, by rw [cell_of_row w p 2 _ _ _ hp]; rfl, by rw [cell_of_row w p 3 _ _ _ hp]; rfl, fun j => frozen_of_row w p j _ _ hp⟩

/-- The row of nodes, where it is not empty: its block, its cells. -/
theorem Head.row (h : Head w p C A xs root vis) (hx : 0 < xs.length) : ∃ g rc cur, w.cell? ⟨p, 1, none⟩ = some (.slice (some ⟨g, 0, none⟩) xs.length rc) ∧ g ≠ p ∧ C g ∧ xs.length ≤ rc ∧ rc ≤ maxLen ∧
    w.heap[g]? = some (.cells cur 103 (0, 0)) ∧ cur.size = rc * 8 ∧ cur.toList.take (xs.length * 8) = cellsN xs := by
  obtain ⟨ap, SA, ra, rc, hp, ha, ho, hC⟩ := h.ex
  rcases ho.2 with ⟨_, h0⟩ | ⟨g, cap, cur, hv, _, hg, h1, h2, h3, h4⟩
  · omega
  · injection hv with e1 _ e3
    subst e1; subst e3
    exact ⟨g, rc, cur, by rw [cell_of_row w p 1 _ _ _ hp]; rfl, TypeAt.ne ⟨_, hg⟩ ⟨_, hp⟩ (by decide), (hC g).2 (Or.inr (Or.inr rfl)), h1, h2, hg, h3, h4⟩

/-- A node's cells. -/
theorem Head.node (h : Head w p C A xs root vis) {g n rc : Nat} (hg : w.cell? ⟨p, 1, none⟩ = some (.slice (some ⟨g, 0, none⟩) n rc)) {k : Nat} {x : Nd} (hx : xs[k]? = some x) :
    (∀ i v, x.cells[i]? = some v → w.cell? ⟨g, k * 8 + i, none⟩ = some v) ∧ (∀ j, w.frozen? ⟨g, j, none⟩ = false) ∧ k < xs.length ∧ n = xs.length ∧ g ≠ p ∧ C g := by
  have hk : k < xs.length := (List.getElem?_eq_some_iff.1 hx).1
  obtain ⟨g', rc', cur, h1, h2, h3, h4, h5, h6, h7, h8⟩ := h.row (by omega)
  rw [hg] at h1
  injection h1 with h1
  injection h1 with e1 e2 e3
  injection e1 with e1
  injection e1 with e1 _ _
  subst e1; subst e2; subst e3
  refine ⟨fun i v hv => ?_, fun j => frozen_of_row w g j _ _ h6, hk, rfl, h2, h3⟩
  have hi : i < 8 := by have := (List.getElem?_eq_some_iff.1 hv).1; simpa [Nd.cells] using this
  rw [cell_of_row w g _ _ _ _ h6, ← Array.getElem?_toList]
  have : (cur.toList.take (xs.length * 8))[k * 8 + i]? = cur.toList[k * 8 + i]? := by rw [List.getElem?_take, if_pos (by omega)]
  rw [← this, h8, cellsN_get xs k i x hx hi, hv]

theorem Head.set3 (h : Head w p C A xs root vis) (v : Int) : Head (w.setCell ⟨p, 3, none⟩ (.int .i64 v)) p C A xs root v := by
  obtain ⟨ap, SA, ra, rc, hp, ha, ho, hC⟩ := h.ex
  have hc : Chg (fun k => k = p) w (w.setCell ⟨p, 3, none⟩ (.int .i64 v)) := Chg.refl.setCell (S := fun k => k = p) ⟨p, 3, none⟩ (Or.inl rfl) _
  have hT : TypeAt w p 100 := ⟨_, hp⟩
  refine ⟨ap, SA, ra, rc, heap_setCell_same w p 3 _ _ (.int .i64 v) hp, ha.chg hc (fun k hk e => ?_), hc.own ho (fun k hk e => ?_), hC⟩
  · subst e
    rcases ha.types hk with g | g | g <;> exact g.ne hT (by decide) rfl
  · subst e
    rw [(ownBlock_addr (own_addr ho)).1 hk] at ho
    exact (own_type ho).ne hT (by decide) rfl
theorem Head.set2 (h : Head w p C A xs root vis) (v : Int) : Head (w.setCell ⟨p, 2, none⟩ (.int .i64 v)) p C A xs v vis := by
  obtain ⟨ap, SA, ra, rc, hp, ha, ho, hC⟩ := h.ex
  have hc : Chg (fun k => k = p) w (w.setCell ⟨p, 2, none⟩ (.int .i64 v)) := Chg.refl.setCell (S := fun k => k = p) ⟨p, 2, none⟩ (Or.inl rfl) _
  have hT : TypeAt w p 100 := ⟨_, hp⟩
  refine ⟨ap, SA, ra, rc, heap_setCell_same w p 2 _ _ (.int .i64 v) hp, ha.chg hc (fun k hk e => ?_), hc.own ho (fun k hk e => ?_), hC⟩
  · subst e
    rcases ha.types hk with g | g | g <;> exact g.ne hT (by decide) rfl
  · subst e
    rw [(ownBlock_addr (own_addr ho)).1 hk] at ho
    exact (own_type ho).ne hT (by decide) rfl
theorem Head.chg3 (h : Head w p C A xs root vis) (v : Value) (j : Nat) : Chg C w (w.setCell ⟨p, j, none⟩ v) := Chg.refl.setCell _ (Or.inl h.self) _

/-- One cell of a node is written. -/
theorem Head.put (h : Head w p C A xs root vis) {g n rc : Nat} (hg : w.cell? ⟨p, 1, none⟩ = some (.slice (some ⟨g, 0, none⟩) n rc)) {k i : Nat} {x x' : Nd} {v : Value} (hx : xs[k]? = some x) (hi : i < 8) (he : x.cells.set i v = x'.cells) :
    Head (w.setCell ⟨g, k * 8 + i, none⟩ v) p C A (xs.set k x') root vis ∧ Chg (fun b => b = g) w (w.setCell ⟨g, k * 8 + i, none⟩ v) ∧ (w.setCell ⟨g, k * 8 + i, none⟩ v).cell? ⟨p, 1, none⟩ = some (.slice (some ⟨g, 0, none⟩) n rc) := by
  obtain ⟨_, _, hk, rfl, hgp, hCg⟩ := h.node hg hx
  obtain ⟨ap, SA, ra, rc', hp, ha, ho, hC⟩ := h.ex
  have e0 : ra = some ⟨g, 0, none⟩ ∧ rc' = rc := by
    rw [cell_of_row w p 1 _ _ _ hp] at hg
    have hg : some (Value.slice ra xs.length rc') = some (.slice (some ⟨g, 0, none⟩) xs.length rc) := hg
    injection hg with hg
    injection hg with e1 _ e3
    exact ⟨e1, e3⟩
  obtain ⟨rfl, rfl⟩ := e0
  have hc : Chg (fun k => k = g) w (w.setCell ⟨g, k * 8 + i, none⟩ v) := Chg.refl.setCell (S := fun k => k = g) ⟨g, k * 8 + i, none⟩ (Or.inl rfl) _
  have hp' := hc.heap hp (fun e => hgp e.symm)
  refine ⟨⟨ap, SA, some ⟨g, 0, none⟩, rc', ?_, ha.chg hc (fun j hj e => ?_), ?_, hC⟩, hc, ?_⟩
  · rw [List.length_set]; exact hp'
  · subst e
    have hT := own_type ho
    rcases ha.types hj with g | g | g <;> exact g.ne hT (by decide) rfl
  · rcases ho.2 with ⟨h0, _⟩ | ⟨g', cap, cur, hv, h0, hgg, h1, h2, h3, h4⟩
    · cases h0
    · injection hv with e1 _ e3
      injection e1 with e1
      injection e1 with e1 _ _
      subst e1; subst e3
      refine ⟨by rw [cellsN_len], .inr ⟨g, rc', _, by rw [List.length_set], Nat.zero_le _, heap_setCell_same w g (k * 8 + i) cur _ v hgg, by rw [List.length_set]; exact h1, h2, by simpa using h3, ?_⟩⟩
      rw [List.length_set, Array.toList_setIfInBounds, List.take_set, h4, cellsN_set xs k i x x' v hx hi he]
  · rw [cell_of_row _ p 1 _ _ _ hp']; rfl

/-- The row of nodes lies in block b. -/
def RowB (w : World) (p b : Nat) : Prop := ∃ n c, w.cell? ⟨p, 1, none⟩ = some (.slice (some ⟨b, 0, none⟩) n c)
theorem RowB.eq {p b g n c : Nat} (hg : w.cell? ⟨p, 1, none⟩ = some (.slice (some ⟨g, 0, none⟩) n c)) (h : RowB w p b) : b = g := by
  obtain ⟨n', c', h⟩ := h
  rw [hg] at h
  injection h with h
  injection h with h _ _
  injection h with h
  injection h with h _ _
  exact h.symm
theorem Head.rowC (h : Head w p C A xs root vis) {b : Nat} (hb : RowB w p b) : C b := by
  obtain ⟨n, c, hb⟩ := hb
  obtain ⟨ap, SA, ra, rc, hp, ha, ho, hC⟩ := h.ex
  rw [cell_of_row w p 1 _ _ _ hp] at hb
  have hb : some (Value.slice ra xs.length rc) = some (.slice (some ⟨b, 0, none⟩) n c) := hb
  injection hb with hb
  injection hb with e1 _ _
  exact (hC b).2 (Or.inr (Or.inr e1))
theorem Head.rowNe (h : Head w p C A xs root vis) : ¬ RowB w p p := by
  rintro ⟨n, c, hb⟩
  obtain ⟨ap, SA, ra, rc, hp, ha, ho, hC⟩ := h.ex
  rw [cell_of_row w p 1 _ _ _ hp] at hb
  have hb : some (Value.slice ra xs.length rc) = some (.slice (some ⟨p, 0, none⟩) n c) := hb
  injection hb with hb
  injection hb with e1 _ _
  subst e1
  exact (own_type ho).ne ⟨_, hp⟩ (by decide) rfl
theorem Head.chgRow (h : Head w p C A xs root vis) (hc : Chg (RowB w p) w w') : Chg C w w' := hc.mono (fun b hb => h.rowC hb)

/-- A step of the arena. -/
theorem Head.arena (h : Head w p C A xs root vis) : ∃ ap SA, w.cell? ⟨p, 0, none⟩ = some (.pointer (some ⟨ap, 0, none⟩)) ∧ IsArena w ap SA A ∧ (∀ k, SA k → C k) ∧
    ∀ w' A', ArStep w w' ap SA A' → ∃ C', Head w' p C' A' xs root vis ∧ HStep w w' C C' := by
  obtain ⟨ap, SA, ra, rc, hp, ha, ho, hC⟩ := h.ex
  have hT : TypeAt w p 100 := ⟨_, hp⟩
  have hsub : ∀ k, SA k → C k := fun k hk => (hC k).2 (Or.inr (Or.inl hk))
  refine ⟨ap, SA, by rw [cell_of_row w p 0 _ _ _ hp]; rfl, ha, hsub, ?_⟩
  rintro w' A' ⟨SA', ha', hc, hn⟩
  refine ⟨fun k => k = p ∨ SA' k ∨ ra = some ⟨k, 0, none⟩, ⟨ap, SA', ra, rc, hc.heap hp (fun hk => ?_), ha', hc.own ho (fun k hk hs => ?_), fun k => Iff.rfl⟩, hc.mono hsub, ?_⟩
  · rcases ha.types hk with g | g | g <;> exact g.ne hT (by decide) rfl
  · rw [(ownBlock_addr (own_addr ho)).1 hk] at ho
    have hT := own_type ho
    rcases ha.types hs with g | g | g <;> exact g.ne hT (by decide) rfl
  · intro k hk
    rcases hk with rfl | hk | hk
    · exact Or.inl ((hC _).2 (Or.inl rfl))
    · exact (hn k hk).imp (hsub k) id
    · exact Or.inl ((hC k).2 (Or.inr (Or.inr hk)))
end

/-- A tree of bits, with the nodes' numbers and the leaves' blocks. -/
inductive TT where
  | leaf (k q : Nat) (l : List Bool)
  | pair (k : Nat) (a b : TT)
def TT.num : TT → Nat
  | .leaf k _ _ => k
  | .pair k _ _ => k
def TT.st : TT → ST
  | .leaf _ _ l => .leaf l
  | .pair _ a b => .pair a.st b.st
def TT.nums : TT → List Nat
  | .leaf k _ _ => [k]
  | .pair k a b => k :: (a.nums ++ b.nums)
def TT.bl : TT → List Nat
  | .leaf _ q _ => [q]
  | .pair _ a b => a.bl ++ b.bl
/-- The node that is the first of a tree. -/
def TT.nd : TT → Nd
  | .leaf _ q l => ⟨-1, -1, 0, l.length, l.count true, 0, 0, some q⟩
  | .pair _ a b => ⟨a.num, b.num, (ST.pair a.st b.st).high, a.st.bits.length + b.st.bits.length, a.st.bits.count true + b.st.bits.count true, a.st.bits.length, a.st.bits.count true, none⟩
def Sub (w : World) (xs : List Nd) : TT → Prop
  | .leaf k q l => xs[k]? = some (TT.leaf k q l).nd ∧ IsBlock w q l
  | .pair k a b => xs[k]? = some (TT.pair k a b).nd ∧ Sub w xs a ∧ Sub w xs b
theorem TT.nd_n (T : TT) : T.nd.n = T.st.bits.length := by cases T <;> simp [TT.nd, TT.st, ST.bits]
theorem TT.nd_ones (T : TT) : T.nd.ones = T.st.bits.count true := by cases T <;> simp [TT.nd, TT.st, ST.bits]
theorem TT.nd_high (T : TT) : T.nd.height = T.st.high := by cases T <;> simp [TT.nd, TT.st, ST.high]
section
variable {w w' : World} {xs xs' : List Nd} {T : TT}
theorem Sub.root (h : Sub w xs T) : xs[T.num]? = some T.nd := by
  cases T with
  | leaf k q l => exact h.1
  | pair k a b => exact h.1
theorem Sub.keep (h : Sub w xs T) (hx : ∀ k ∈ T.nums, xs'[k]? = xs[k]?) (hw : ∀ q ∈ T.bl, w'.heap[q]? = w.heap[q]?) : Sub w' xs' T := by
  induction T with
  | leaf k q l => exact ⟨(hx k (by simp [TT.nums])).trans h.1, h.2.1, (hw q (by simp [TT.bl])).trans h.2.2⟩
  | pair k a b iha ihb =>
    refine ⟨(hx k (by simp [TT.nums])).trans h.1, iha h.2.1 (fun j hj => hx j (by simp [TT.nums, hj])) (fun q hq => hw q (by simp [TT.bl, hq])), ihb h.2.2 (fun j hj => hx j (by simp [TT.nums, hj])) (fun q hq => hw q (by simp [TT.bl, hq]))⟩
theorem Sub.type (h : Sub w xs T) {q : Nat} (hq : q ∈ T.bl) : TypeAt w q 112 := by
  induction T with
  | leaf k q' l => simp [TT.bl] at hq; subst hq; exact h.2.type
  | pair k a b iha ihb =>
    simp only [TT.bl, List.mem_append] at hq
    exact hq.elim (iha h.2.1) (ihb h.2.2)
theorem Sub.lt (h : Sub w xs T) {k : Nat} (hk : k ∈ T.nums) : k < xs.length := by
  induction T with
  | leaf k' q l => simp [TT.nums] at hk; subst hk; exact (List.getElem?_eq_some_iff.1 h.1).1
  | pair k' a b iha ihb =>
    simp only [TT.nums, List.mem_cons, List.mem_append] at hk
    rcases hk with rfl | hk | hk
    · exact (List.getElem?_eq_some_iff.1 h.1).1
    · exact iha h.2.1 hk
    · exact ihb h.2.2 hk
theorem Sub.le (h : Sub w xs T) : T.st.Le := by
  induction T with
  | leaf k q l => exact h.2.1
  | pair k a b iha ihb => exact ⟨iha h.2.1, ihb h.2.2⟩
/-- Behind a step that changes only blocks that are no leaves' blocks. -/
theorem Sub.chg {S : Nat → Prop} (h : Sub w xs T) (hc : Chg S w w') (hd : ∀ q ∈ T.bl, ¬ S q) (hx : ∀ k ∈ T.nums, xs'[k]? = xs[k]?) : Sub w' xs' T :=
  h.keep hx (fun q hq => hc.block q (h.type hq).lt (hd q hq))
theorem Sub.chgC {p : Nat} {C : Nat → Prop} {A : Ar} {root vis : Int} {ys : List Nd} (h : Sub w xs T) (hH : Head w p C A ys root vis) (hc : Chg C w w') (hx : ∀ k ∈ T.nums, xs'[k]? = xs[k]?) : Sub w' xs' T :=
  h.chg hc (fun q hq => hH.notBlk (h.type hq)) hx
theorem Sub.same {S : Nat → Prop} (h : Sub w xs T) (hc : Chg S w w') (hd : ∀ q ∈ T.bl, ¬ S q) : Sub w' xs T := h.chg hc hd (fun _ _ => rfl)
end
/-- How large a tree may be here: all sums stay small. -/
structure TT.Sm (T : TT) : Prop where
  len : T.st.bits.length ≤ 8589934592
  high : T.st.high ≤ 1000000000

end Go.Proofs.YtacoeohmdngnkaaGreatDoor

namespace Go.Proofs.YtacoeohmdngnkaaGreatDoor
set_option linter.unusedVariables false
set_option linter.unusedSimpArgs false
open Go.RowKit

theorem tLen_none {w : World} {p : Nat} {C : Nat → Prop} {A : Ar} {xs : List Nd} {vis : Int} (h : Head w p C A xs (-1) vis) :
    Calls Tryz.prog 79 #[.pointer (some ⟨p, 0, none⟩)] w fun e w' => e = .returned (.int .i64 0) ∧ ∃ n, w' = w.drewN n := by
  obtain ⟨_, c2, _⟩ := h.cells
  clear h
  go_enter Tryz.func79, Tryz.ntmps79
  go_wp2_with fail
  go_ret
  exact ⟨rfl, 0, rfl⟩
theorem tLen_some {w : World} {p : Nat} {C : Nat → Prop} {A : Ar} {xs : List Nd} {vis : Int} {T : TT} (h : Head w p C A xs T.num vis) (hS : Sub w xs T) :
    Calls Tryz.prog 79 #[.pointer (some ⟨p, 0, none⟩)] w fun e w' => e = .returned (.int .i64 T.st.bits.length) ∧ ∃ n, w' = w.drewN n := by
  obtain ⟨_, c2, _⟩ := h.cells
  have hr := hS.root
  obtain ⟨g, rc, cur, c1, _⟩ := h.row (by have := (List.getElem?_eq_some_iff.1 hr).1; omega)
  obtain ⟨hn, _, hk, _⟩ := h.node c1 hr
  have c3 := hn 3 (.int .i64 T.st.bits.length) (by rw [← T.nd_n]; rfl)
  have d1 : ((T.num : Int) == -1) = false := by rw [beq_eq_false_iff_ne]; omega
  generalize T.num = k at *
  generalize T.st.bits.length = n at *
  clear h hn hr hS
  go_enter Tryz.func79, Tryz.ntmps79
  go_wp2_with fail
  go_quiet (fail)
  go_wp2_with fail
  go_ret
  exact ⟨rfl, _, rfl⟩

theorem tOnes_none {w : World} {p : Nat} {C : Nat → Prop} {A : Ar} {xs : List Nd} {vis : Int} (h : Head w p C A xs (-1) vis) :
    Calls Tryz.prog 80 #[.pointer (some ⟨p, 0, none⟩)] w fun e w' => e = .returned (.int .i64 0) ∧ ∃ n, w' = w.drewN n := by
  obtain ⟨_, c2, _⟩ := h.cells
  clear h
  go_enter Tryz.func80, Tryz.ntmps80
  go_wp2_with fail
  go_ret
  exact ⟨rfl, 0, rfl⟩
theorem tOnes_some {w : World} {p : Nat} {C : Nat → Prop} {A : Ar} {xs : List Nd} {vis : Int} {T : TT} (h : Head w p C A xs T.num vis) (hS : Sub w xs T) :
    Calls Tryz.prog 80 #[.pointer (some ⟨p, 0, none⟩)] w fun e w' => e = .returned (.int .i64 (T.st.bits.count true)) ∧ ∃ n, w' = w.drewN n := by
  obtain ⟨_, c2, _⟩ := h.cells
  have hr := hS.root
  obtain ⟨g, rc, cur, c1, _⟩ := h.row (by have := (List.getElem?_eq_some_iff.1 hr).1; omega)
  obtain ⟨hn, _, hk, _⟩ := h.node c1 hr
  have c3 := hn 4 (.int .i64 (T.st.bits.count true)) (by rw [← T.nd_ones]; rfl)
  have d1 : ((T.num : Int) == -1) = false := by rw [beq_eq_false_iff_ne]; omega
  generalize T.num = k at *
  generalize T.st.bits.count true = n at *
  clear h hn hr hS
  go_enter Tryz.func80, Tryz.ntmps80
  go_wp2_with fail
  go_quiet (fail)
  go_wp2_with fail
  go_ret
  exact ⟨rfl, _, rfl⟩

theorem tLike_any (n ones : Int) (x : Bool) (w : World) (h : ones ≤ n) (h0 : 0 ≤ ones) (h1 : n ≤ 1000000000000) :
    Calls Tryz.prog 78 #[.int .i64 n, .int .i64 ones, .bool x] w fun e w' => e = .returned (.int .i64 (likeN n ones x)) ∧ w = w' := by
  cases x
  · go_enter Tryz.func78, Tryz.ntmps78
    go_wp2_with fail
    go_ret
    exact ⟨rfl, rfl⟩
  · go_enter Tryz.func78, Tryz.ntmps78
    go_wp2_with fail
    go_ret
    exact ⟨rfl, rfl⟩

/-- The bits of a tree that may have no node. -/
def obits : Option TT → List Bool
  | none => []
  | some T => T.st.bits
def onum : Option TT → Int
  | none => -1
  | some T => T.num
def OSub (w : World) (xs : List Nd) : Option TT → Prop
  | none => True
  | some T => Sub w xs T
section
variable {w w' : World} {p : Nat} {C : Nat → Prop} {A : Ar} {xs : List Nd} {vis : Int} {o : Option TT}
theorem tLen_any (h : Head w p C A xs (onum o) vis) (hS : OSub w xs o) : Calls Tryz.prog 79 #[.pointer (some ⟨p, 0, none⟩)] w fun e w' => e = .returned (.int .i64 (obits o).length) ∧ ∃ n, w' = w.drewN n := by
  cases o with
  | none => exact tLen_none h
  | some T => exact tLen_some h hS
theorem tOnes_any (h : Head w p C A xs (onum o) vis) (hS : OSub w xs o) : Calls Tryz.prog 80 #[.pointer (some ⟨p, 0, none⟩)] w fun e w' => e = .returned (.int .i64 ((obits o).count true)) ∧ ∃ n, w' = w.drewN n := by
  cases o with
  | none => exact tOnes_none h
  | some T => exact tOnes_some h hS
theorem OSub.chgC {ys : List Nd} {root : Int} (hS : OSub w xs o) (hH : Head w p C A ys root vis) (hc : Chg C w w') : OSub w' xs o := by
  cases o with
  | none => trivial
  | some T => exact Sub.chgC hS hH hc (fun _ _ => rfl)
end

/-- Is there such a bit? How many nodes were looked at is forgotten. -/
theorem tHas_any {w : World} {p : Nat} {C : Nat → Prop} {A : Ar} {xs : List Nd} {vis : Int} {o : Option TT} (h : Head w p C A xs (onum o) vis) (hS : OSub w xs o) (k : Int) :
    Calls Tryz.prog 76 #[.pointer (some ⟨p, 0, none⟩), .int .i64 k] w fun e w' => e = .returned (.int .i64 (hasL (obits o) k)) ∧ Head w' p C A xs (onum o) 0 ∧ Chg C w w' := by
  obtain ⟨_, _, _, fz⟩ := h.cells
  have f3 := fz 3
  have c3 := h.cells.2.2.1
  have h0 := h.set3 0
  have hc0 := h.chg3 (.int .i64 0) 3
  have hs0 := hS.chgC h hc0
  by_cases h1 : k < 0
  · have hR := Lib.hid (show (2 : Int) = hasL (obits o) k by unfold hasL; rw [if_neg (by omega)])
    have H0 := Lib.hid h0
    have HC := Lib.hid hc0
    clear h hS fz h0 hc0 hs0
    go_enter Tryz.func76, Tryz.ntmps76
    go_wp2_with fail
    go_ret
    exact ⟨ret_int hR.out, H0.out, HC.out⟩
  · have hl := tLen_any h0 hs0
    have HL := Lib.hid hl
    have H0 := Lib.hid h0
    have HC := Lib.hid hc0
    have d0 : decide (k < 0) = false := by simp; omega
    by_cases h2 : k < (obits o).length
    · have hR := Lib.hid (show (0 : Int) = hasL (obits o) k by unfold hasL; rw [if_pos (by omega)])
      have d : decide (((obits o).length : Int) ≤ k) = false := by simp; omega
      clear h hS fz h0 hc0 hs0 hl
      generalize (obits o).length = n at *
      go_enter Tryz.func76, Tryz.ntmps76
      go_wp2_with fail
      refine HL.out.mono ?_
      rintro e w' ⟨rfl, m, rfl⟩
      go_wp2_with fail
      go_ret
      exact ⟨ret_int hR.out, H0.out.drewN _, HC.out.drewN _⟩
    · have hR := Lib.hid (show (2 : Int) = hasL (obits o) k by unfold hasL; rw [if_neg (by omega)])
      have d : decide (((obits o).length : Int) ≤ k) = true := by simp; omega
      clear h hS fz h0 hc0 hs0 hl
      generalize (obits o).length = n at *
      go_enter Tryz.func76, Tryz.ntmps76
      go_wp2_with fail
      refine HL.out.mono ?_
      rintro e w' ⟨rfl, m, rfl⟩
      go_wp2_with fail
      go_ret
      exact ⟨ret_int hR.out, H0.out.drewN _, HC.out.drewN _⟩
end Go.Proofs.YtacoeohmdngnkaaGreatDoor

namespace Go.Proofs.YtacoeohmdngnkaaGreatDoor
set_option linter.unusedVariables false
set_option linter.unusedSimpArgs false
open Go.RowKit

/-- A node's eight cells. -/
theorem Head.eight {w : World} {p : Nat} {C : Nat → Prop} {A : Ar} {xs : List Nd} {root vis : Int} (h : Head w p C A xs root vis) {g n rc : Nat} (hg : w.cell? ⟨p, 1, none⟩ = some (.slice (some ⟨g, 0, none⟩) n rc)) {k : Nat} {x : Nd} (hx : xs[k]? = some x) :
    w.cell? ⟨g, k * 8, none⟩ = some (.int .i64 x.left) ∧ w.cell? ⟨g, k * 8 + 1, none⟩ = some (.int .i64 x.right) ∧ w.cell? ⟨g, k * 8 + 2, none⟩ = some (.int .i64 x.height) ∧ w.cell? ⟨g, k * 8 + 3, none⟩ = some (.int .i64 x.n) ∧
    w.cell? ⟨g, k * 8 + 4, none⟩ = some (.int .i64 x.ones) ∧ w.cell? ⟨g, k * 8 + 5, none⟩ = some (.int .i64 x.ln) ∧ w.cell? ⟨g, k * 8 + 6, none⟩ = some (.int .i64 x.lones) ∧ w.cell? ⟨g, k * 8 + 7, none⟩ = some (ptrN x.b) := by
  obtain ⟨hn, _⟩ := h.node hg hx
  exact ⟨hn 0 _ rfl, hn 1 _ rfl, hn 2 _ rfl, hn 3 _ rfl, hn 4 _ rfl, hn 5 _ rfl, hn 6 _ rfl, hn 7 _ rfl⟩

/-- What stands at a node: a leaf, or a pair. -/
theorem Sub.view {w : World} {xs : List Nd} {T : TT} {k : Nat} (h : Sub w xs T) (hk : T.num = k) :
    (∃ q l, T.st = .leaf l ∧ IsBlock w q l ∧ xs[k]? = some ⟨-1, -1, 0, l.length, l.count true, 0, 0, some q⟩) ∨
    (∃ a b : TT, T.st = .pair a.st b.st ∧ Sub w xs a ∧ Sub w xs b ∧ xs[k]? = some ⟨a.num, b.num, (ST.pair a.st b.st).high, a.st.bits.length + b.st.bits.length, a.st.bits.count true + b.st.bits.count true, a.st.bits.length, a.st.bits.count true, none⟩) := by
  cases T with
  | leaf kn q l => cases hk; exact Or.inl ⟨q, l, rfl, h.2, h.1⟩
  | pair kn a b => cases hk; exact Or.inr ⟨a, b, rfl, h.2.1, h.2.2, h.1⟩

/-- What a look at a tree leaves: all is as it was, but how many nodes were looked at. -/
structure Look (w w' : World) (p : Nat) (C : Nat → Prop) (A : Ar) (xs : List Nd) (root : Int) (m : Nat) : Prop where
  head : ∃ v : Nat, v ≤ m ∧ Head w' p C A xs root v
  chg : Chg C w w'

set_option maxHeartbeats 1600000 in
theorem tGet_some {w : World} {p : Nat} {C : Nat → Prop} {A : Ar} {xs : List Nd} {vis : Int} {T0 : TT} (h : Head w p C A xs T0.num vis) (hS : Sub w xs T0) (hm : T0.Sm) (k0 : Nat) (hk0 : k0 < T0.st.bits.length) :
    Calls Tryz.prog 61 #[.pointer (some ⟨p, 0, none⟩), .int .i64 k0] w fun e w' => e = .returned (.tuple #[.bool (bitAt T0.st.bits k0), .int .i64 0]) ∧ Look w w' p C A xs T0.num (T0.st.high + 1) := by
  have hh := tHas_any (o := some T0) h hS k0
  have e0 : hasL (obits (some T0)) k0 = 0 := by
    have : ((k0 : Int) < ((obits (some T0)).length : Int)) := by show (k0 : Int) < (T0.st.bits.length : Int); omega
    unfold hasL; rw [if_pos (by omega)]
  rw [e0] at hh
  have HH := Lib.hid hh
  have HS : Hid (∀ w', Chg C w w' → Sub w' xs T0) := fun w' hc => hS.chgC h hc (fun _ _ => rfl)
  have hhm := hm.high
  clear hh h hS e0
  go_enter Tryz.func61, Tryz.ntmps61
  go_wp2_with fail
  refine HH.out.mono ?_
  rintro e w1 ⟨rfl, hH1, hC1⟩
  have c2 := hH1.cells.2.1
  have hS1 := HS.out w1 hC1
  have e1 : onum (some T0) = (T0.num : Int) := rfl
  rw [e1] at c2 hH1
  have HH1 := Lib.hid hH1
  have HC1 := Lib.hid hC1
  have HS1 := Lib.hid hS1
  clear hH1 hC1 hS1 e1
  go_wp2_with fail
  go_loopg [7, 1] (T0.st.high + 1) (fun n a b wr => ∃ (T : TT) (kn k v : Nat), T.num = kn ∧ a = .int .i64 kn ∧ b = .int .i64 k ∧ k < T.st.bits.length ∧ Sub wr xs T ∧ Head wr p C A xs T0.num v ∧ Chg C w wr ∧
    bitAt T.st.bits k = bitAt T0.st.bits k0 ∧ v + T.st.high ≤ T0.st.high ∧ T.st.high < n ∧ T.st.bits.length ≤ 8589934592)
  case atStart => exact ⟨T0, _, k0, 0, rfl, rfl, rfl, hk0, HS1.out, HH1.out, HC1.out, rfl, by omega, by omega, hm.len⟩
  case round =>
    obtain ⟨T, kn, k, v, hkn, rfl, rfl, hk, hS, hH, hC, hb, hv, hT, hlen⟩ := hrel
    have hvw := hS.view hkn
    have hx : ∃ x, xs[kn]? = some x := ⟨_, by rw [← hkn]; exact hS.root⟩
    obtain ⟨g, rc, cur, c1, hgp, _⟩ := hH.row (by obtain ⟨x, hx⟩ := hx; have := (List.getElem?_eq_some_iff.1 hx).1; omega)
    obtain ⟨_, _, cv, fz⟩ := hH.cells
    have f3 := fz 3
    have hp := hH.lt p hH.self
    have HH3 : Hid (∀ v : Int, Head (wr.setCell ⟨p, 3, none⟩ (.int .i64 v)) p C A xs T0.num v) := fun v => hH.set3 v
    have HCC := Lib.hid hC
    have HB := Lib.hid hb
    have HCp := Lib.hid hH.self
    have HNC : Hid (∀ q l, IsBlock wr q l → ¬ C q) := fun q l h => hH.notBlk h.type
    clear hC hb hx fz HH HS HH1 HC1 HS1 c2 hgp
    rcases hvw with ⟨q, l, hst, hblk, hx⟩ | ⟨Ta, Tb, hst, hSa, hSb, hx⟩
    · obtain ⟨_, _, hkx, _⟩ := hH.node c1 hx
      obtain ⟨a0, a1, a2, a3, a4, a5, a6, a7⟩ := hH.eight c1 hx
      have hg := World.block_lt_of_cell? wr _ a0
      simp only [ptrN, Option.map_some] at a0 a1 a2 a3 a4 a5 a6 a7
      rw [hst] at hk hv hT
      have HW : Hid (∀ v o, IsBlock ((wr.setCell ⟨p, 3, none⟩ v).alloc o) q l) := fun v o => hblk.chg ((Chg.refl.setCell ⟨p, 3, none⟩ (Or.inl HCp.out) v).alloc o) (HNC.out q l hblk)
      have HST := Lib.hid hst
      simp only [ST.high, ST.bits] at hk hv hT
      clear hH hS hkn hx hst hblk
      go_wp2_with fail
      refine (blkGet (HW.out _ _) k hk).mono ?_
      rintro e w' ⟨rfl, rfl⟩
      go_wp2_with fail
      go_ret2
      refine ⟨ret_bi ?_ rfl, ⟨v + 1, by omega, ?_⟩, ?_⟩
      · have := HB.out; rw [HST.out] at this; exact this
      · exact_mod_cast (HH3.out (v + 1)).below (below_alloc _ _)
      · exact (HCC.out.setCell _ (Or.inl HCp.out) _).alloc _
    · obtain ⟨_, _, hkx, _⟩ := hH.node c1 hx
      obtain ⟨a0, a1, a2, a3, a4, a5, a6, a7⟩ := hH.eight c1 hx
      have hg := World.block_lt_of_cell? wr _ a0
      simp only [ptrN, Option.map_none] at a0 a1 a2 a3 a4 a5 a6 a7
      rw [hst] at hk hv hT
      simp only [ST.bits, ST.high, List.length_append] at hk hv hT
      have HSa : Hid (∀ W, Chg C wr W → Sub W xs Ta) := fun W hc => hSa.chgC hH hc (fun _ _ => rfl)
      have HSb : Hid (∀ W, Chg C wr W → Sub W xs Tb) := fun W hc => hSb.chgC hH hc (fun _ _ => rfl)
      have hb := HB.out
      rw [hst] at hb
      simp only [ST.bits] at hb
      have HB2 := Lib.hid hb
      obtain ⟨na, hna⟩ : ∃ na, Ta.num = na := ⟨_, rfl⟩
      obtain ⟨nb, hnb⟩ : ∃ nb, Tb.num = nb := ⟨_, rfl⟩
      obtain ⟨la, hla⟩ : ∃ la, Ta.st.bits.length = la := ⟨_, rfl⟩
      rw [hla] at hk
      simp only [hna, hnb, hla] at a0 a1 a2 a3 a4 a5 a6
      have HNA := Lib.hid hna
      have HNB := Lib.hid hnb
      have HLA := Lib.hid hla
      have hlm : la + Tb.st.bits.length ≤ 8589934592 := by rw [hst] at hlen; simp only [ST.bits, List.length_append] at hlen; omega
      by_cases hlt : k < la
      · have d1 : decide (k < la) = true := decide_eq_true hlt
        clear hH hS hkn hx hst hSa hSb hb hna hnb hla HB
        go_wp2_with fail
        go_roundg (max Ta.st.high Tb.st.high + 1)
        case measure => omega
        case rel =>
          refine ⟨Ta, na, k, v + 1, HNA.out, rfl, rfl, by rw [HLA.out]; exact hlt, HSa.out _ ((Chg.refl.setCell ⟨p, 3, none⟩ (Or.inl HCp.out) _).alloc _), ?_, HCC.out.trans ((Chg.refl.setCell ⟨p, 3, none⟩ (Or.inl HCp.out) _).alloc _) (fun _ h => Or.inl h), ?_, by omega, by omega, by have := HLA.out; omega⟩
          · exact_mod_cast (HH3.out (v + 1)).below (below_alloc _ _)
          · rw [← HB2.out, bitAt_app_l (by rw [HLA.out]; exact hlt)]
      · have d1 : decide (k < la) = false := decide_eq_false hlt
        clear hH hS hkn hx hst hSa hSb hb hna hnb hla HB
        go_wp2_with fail
        go_quiet (fail)
        go_wp2_with fail
        go_roundg (max Ta.st.high Tb.st.high + 1)
        case measure => omega
        case rel =>
          refine ⟨Tb, nb, k - la, v + 1, HNB.out, rfl, ?_, by omega, HSb.out _ (((Chg.refl.setCell ⟨p, 3, none⟩ (Or.inl HCp.out) _).alloc _).drewN _), ?_, HCC.out.trans (((Chg.refl.setCell ⟨p, 3, none⟩ (Or.inl HCp.out) _).alloc _).drewN _) (fun _ h => Or.inl h), ?_, by omega, by omega, by omega⟩
          · congr 1; omega
          · exact_mod_cast ((HH3.out (v + 1)).below (below_alloc _ _)).drewN _
          · rw [← HB2.out, bitAt_app_r (by rw [HLA.out]; omega), HLA.out]

end Go.Proofs.YtacoeohmdngnkaaGreatDoor

namespace Go.Proofs.YtacoeohmdngnkaaGreatDoor
set_option linter.unusedVariables false
set_option linter.unusedSimpArgs false
open Go.RowKit

set_option maxHeartbeats 3200000 in
set_option maxRecDepth 100000 in
theorem tFix_leaf {w : World} {p : Nat} {C : Nat → Prop} {A : Ar} {xs : List Nd} {root vis : Int} (h : Head w p C A xs root vis) {k q : Nat} {x : Nd} {l : List Bool} (hx : xs[k]? = some x) (hb : x.b = some q) (hq : IsBlock w q l) :
    Calls Tryz.prog 114 #[.pointer (some ⟨p, 0, none⟩), .int .i64 k] w fun e w' => e = .returned (.tuple #[]) ∧
      Head w' p C A (xs.set k ⟨x.left, x.right, x.height, l.length, l.count true, x.ln, x.lones, some q⟩) root vis ∧ Chg (RowB w p) w w' := by
  obtain ⟨g, rc, cur, c1, hgp, _⟩ := h.row (by have := (List.getElem?_eq_some_iff.1 hx).1; omega)
  obtain ⟨_, fz, hkx, _⟩ := h.node c1 hx
  obtain ⟨a0, a1, a2, a3, a4, a5, a6, a7⟩ := h.eight c1 hx
  have f3 := fz (k * 8 + 3)
  have f4 := fz (k * 8 + 4)
  rw [hb] at a7
  simp only [ptrN, Option.map_some] at a7
  obtain ⟨g1, g2, g3⟩ := h.put (x' := ⟨x.left, x.right, x.height, l.length, x.ones, x.ln, x.lones, some q⟩) (v := .int .i64 l.length) c1 hx (show 3 < 8 by omega) (by cases x; cases hb; rfl)
  have e1 : (xs.set k ⟨x.left, x.right, x.height, l.length, x.ones, x.ln, x.lones, some q⟩)[k]? = some ⟨x.left, x.right, x.height, l.length, x.ones, x.ln, x.lones, some q⟩ := by rw [List.getElem?_set, if_pos rfl, if_pos hkx]
  have hS1 := (g1.eight g3 e1).2.2.2.2.2.2.2
  obtain ⟨g4, g5, g6⟩ := g1.put (k := k) (i := 4) (x := ⟨x.left, x.right, x.height, l.length, x.ones, x.ln, x.lones, some q⟩) (x' := ⟨x.left, x.right, x.height, l.length, l.count true, x.ln, x.lones, some q⟩) (v := .int .i64 (l.count true)) g3 e1 (by omega) rfl
  have hS2 := (g4.eight g6 (k := k) (x := ⟨x.left, x.right, x.height, l.length, l.count true, x.ln, x.lones, some q⟩) (by rw [List.getElem?_set, if_pos rfl, if_pos (by simpa using hkx)])).2.2.2.2.2.2.2
  have HS1 := Lib.hid hS1
  have HS2 := Lib.hid hS2
  rw [List.set_set] at g4
  have G4 := Lib.hid g4
  have G5 : Hid (Chg (RowB w p) w _) := (g2.trans g5 (fun _ h => Or.inl h)).mono (fun b e => by subst e; exact ⟨_, _, c1⟩)
  have HB : Hid (IsBlock w.drew q l) := hq
  clear h fz g1 g2 g3 g4 g5 g6 hq hb hx hS1 hS2 e1
  go_enter Tryz.func114, Tryz.ntmps114
  go_wp2_with fail
  -- REGION leaf
  refine reg_start (fun w' => w'.cell? ⟨g, k * 8 + 7, none⟩ = some (.pointer (some ⟨q, 0, none⟩))) (by kernel_rfl) (a7) (fun hHeld => ?_)
  refine rt 0 hHeld ?_
  refine rt 1 hHeld ?_
  refine rt 2 hHeld ?_
  refine rt 3 hHeld ?_
  refine rt 4 hHeld ?_
  refine rt 5 hHeld ?_
  refine rt 7 hHeld ?_
  refine rt 8 hHeld ?_
  refine rt 9 hHeld ?_
  refine rt 10 hHeld ?_
  refine reg_loud (i := 6) rfl (by kernel_rfl) rfl (fun K hK => ?_)
  go_simp
  ((with_reducible refine (blkLen (w := w.drew) HB.out).mono ?_))
  rintro e w2 ⟨rfl, rfl⟩
  refine hK.out _ _ (a7) (fun hNew => ?_)
  clear hK K hHeld
  have hHeld := hNew
  clear hNew
  try simp only [Act.put, List.setIfInBounds_toArray, List.set_cons_zero, List.set_cons_succ]
  refine reg_loud (i := 11) rfl (by kernel_rfl) rfl (fun K hK => ?_)
  go_simp
  ((with_reducible refine (blkOnes (w := w.drew) HB.out).mono ?_))
  rintro e w2 ⟨rfl, rfl⟩
  refine hK.out _ _ (a7) (fun hNew => ?_)
  clear hK K hHeld
  have hHeld := hNew
  clear hNew
  try simp only [Act.put, List.setIfInBounds_toArray, List.set_cons_zero, List.set_cons_succ]
  refine rt 12 hHeld ?_
  refine rt 13 hHeld ?_
  refine reg_loud (i := 14) rfl (by kernel_rfl) rfl (fun K hK => ?_)
  go_simp
  refine hK.out _ _ (HS1.out) (fun hNew => ?_)
  clear hK K hHeld
  have hHeld := hNew
  clear hNew
  try simp only [Act.put, List.setIfInBounds_toArray, List.set_cons_zero, List.set_cons_succ]
  refine rt 15 hHeld ?_
  refine rt 16 hHeld ?_
  refine reg_loud (i := 17) rfl (by kernel_rfl) rfl (fun K hK => ?_)
  go_simp
  refine hK.out _ _ (HS2.out) (fun hNew => ?_)
  clear hK K hHeld
  have hHeld := hNew
  clear hNew
  try simp only [Act.put, List.setIfInBounds_toArray, List.set_cons_zero, List.set_cons_succ]
  refine reg_done (by kernel_rfl) ?_ _
  -- END OF REGION leaf
  go_wp2_with fail
  refine bodyPost_ret (results_none rfl _ _ _) rfl ?_
  exact ⟨rfl, G4.out.drewN 1, G5.out.drew⟩

end Go.Proofs.YtacoeohmdngnkaaGreatDoor

namespace Go.Proofs.YtacoeohmdngnkaaGreatDoor
set_option linter.unusedVariables false
set_option linter.unusedSimpArgs false
open Go.RowKit

theorem below_al (w : World) (o : Obj) : Below w.heap.size w (w.alloc o) := (Below.refl _ _).alloc (Nat.le_refl _) _
theorem madeCells_oneG (z : Value) (n : Nat) : madeCells #[z] n = (vecL (fun _ => z) n).toArray := by
  apply Array.ext
  · simp [madeCells, vecL]
  · intro i h1 h2
    have h0 : ∀ m, m % 1 = 0 := fun m => by omega
    simp [madeCells, vecL, h0]
/-- 'make([]E, n)', an element of one cell. -/
theorem run_makeG {P : Program} {t e : TypeId} {z : Value} {bytes : Nat} (hinfo : (P.info? e).map (fun i => (i.zero, i.size, i.bytes)) = some (some z, 1, bytes)) (ht : P.underlying t = some (.slice e)) (hz : z.cells = #[z]) (n : Nat) (h : (bytes : Int) * (n : Int) ≤ 281474976710656) (hn : n ≤ maxLen) (w : World) :
    (Instr.makeSlice t (.int .i64 (n : Int)) (.int .i64 (n : Int))).run P w = .ok (.slice (some ⟨w.heap.size, 0, none⟩) n n) (w.alloc (.cells (vecL (fun _ => z) n).toArray e)) := by
  obtain ⟨i, hi, hiz, hsz, hby⟩ := info_parts hinfo
  have h2 := run_make (P := P) w t e i z ht hi hiz .i64 .i64 (n : Int) (n : Int) (by omega) (by omega) (by rw [hby]; exact h) (by unfold maxLen at hn; omega)
  rw [h2, hz, hsz, Int.toNat_natCast, Nat.mul_one, madeCells_oneG]
theorem own_vecG {w : World} {q n base : Nat} {f : Nat → Value} {e : TypeId} (h : w.heap[q]? = some (.cells (vecL f n).toArray e (0, 0))) (hb : base ≤ q) (hn : n ≤ maxLen) : w.ownsRow base e 1 (.slice (some ⟨q, 0, none⟩) n n) n (vecL f n) :=
  ⟨by rw [vecL_len]; omega, .inr ⟨q, n, (vecL f n).toArray, rfl, hb, h, Nat.le_refl _, hn, by simp [vecL_len], by rw [Nat.mul_one]; exact List.take_of_length_le (by rw [vecL_len]; exact Nat.le_refl _)⟩⟩
theorem Tryz.infoIntG : (Tryz.prog.info? 3).map (fun i => (i.zero, i.size, i.bytes)) = some (some (.int .i64 0), 1, 8) := by kernel_rfl
theorem make_ints (n : Nat) (h : n ≤ 1000000000) (w : World) : (Instr.makeSlice 22 (.int .i64 (n : Int)) (.int .i64 (n : Int))).run Tryz.prog w = .ok (.slice (some ⟨w.heap.size, 0, none⟩) n n) (w.alloc (.cells (vecL (fun _ => .int .i64 0) n).toArray 3)) :=
  run_makeG Tryz.infoIntG Tryz.underlying22 rfl n (by omega) (by unfold maxLen; omega) w
/-- A cell of an own row that is told by a function; a store into it. -/
theorem own_vcell {w : World} {base : Nat} {e : TypeId} {g cap n : Nat} {f : Nat → Value} (h : w.ownsRow base e 1 (.slice (some ⟨g, 0, none⟩) n cap) n (vecL f n)) {j : Nat} (hj : j < n) : w.cell? ⟨g, j, none⟩ = some (f j) := by
  obtain ⟨g', cap', hv, _, _, _, _, hc, _⟩ := own_some h (by omega)
  injection hv with e1 _ _; injection e1 with e1; injection e1 with e1 _ _
  subst e1
  rw [hc j hj, vecL_get hj]
theorem own_vfree {w : World} {base : Nat} {e : TypeId} {g cap n : Nat} {xs : List Value} (h : w.ownsRow base e 1 (.slice (some ⟨g, 0, none⟩) n cap) n xs) (j : Nat) : w.frozen? ⟨g, j, none⟩ = false := by
  rcases h.2 with ⟨h, _⟩ | ⟨g', cap', cur, hv, _, hg, _⟩
  · cases h
  · injection hv with e1 _ _; injection e1 with e1; injection e1 with e1 _ _
    subst e1
    exact frozen_of_row w g j cur e hg
theorem own_vset {w : World} {base : Nat} {e : TypeId} {g cap n : Nat} {f : Nat → Value} (h : w.ownsRow base e 1 (.slice (some ⟨g, 0, none⟩) n cap) n (vecL f n)) (j : Nat) (u : Value) :
    (w.setCell ⟨g, j, none⟩ u).ownsRow base e 1 (.slice (some ⟨g, 0, none⟩) n cap) n (vecL (fun i => if i = j then u else f i) n) := by
  have := own_set h j u
  rwa [vecL_set] at this
theorem below_dN {B : Nat} {w w' : World} (h : Below B w w') (n : Nat) : Below B w (w'.drewN n) := ⟨h.os, h.tape, h.output, h.size, h.block⟩

section
variable {P : Program} {md : Region.Mode} {l : List Oper} {Q : Exit → Act → World → Prop} {S : World → Prop} {i : Nat} {oi : Oper} {fuel : Nat} {listed : Array Bool} {a : Act} {w : World} {rs : List Nat}
/-- One of several operations that may come up. -/
theorem all_cons (hi : (l.drop i).head? = some oi) (hw : Region.wanted oi (yielded l.toArray a.tmps) = true)
    (h : ∀ K : Act → World → Prop, Shut (∀ a w, S w → (S w → wpAnyH P md l.toArray (NoPanic Q) S fuel (listed.setIfInBounds i true) a w) → K a w) → Oper.wp P oi a w K (NoPanic Q))
    (hs : AllReadyH P md l.toArray (NoPanic Q) S fuel listed a w rs) : AllReadyH P md l.toArray (NoPanic Q) S fuel listed a w (i :: rs) :=
  AllReadyH.cons (reg_get hi) (fun K hK => by rw [if_pos hw]; exact h K hK) hs
end

end Go.Proofs.YtacoeohmdngnkaaGreatDoor
