/- Lemmas and contracts under the claims of this seat: Contracts of package tree: node, leaf, pair. Contracts of package tree: leaf, pair. Contract of package tree: insert, at a leaf that has room. Contract of package tree: insert, at a leaf that is full. Trees of bits in memory: changes of subtrees put together. Contract of package tree: insert. Contracts of package tree that go down: Rank. Contracts of package tree that go down: Select. Trees of bits as a law sees them; Insert. Plain lemmas, of no program: a tree built of so many leaves, the bits dealt out evenly. Contract of package tree: build. Contract of package tree: build, in full. Contract of package tree: New, of no bits. Contract of package tree: New, of some bits. -/
import Derived.Test.YtcppgpjodfeigaaDoorZt3
import Derived.Deep.DeepCutAuto
import Derived.Deep.CutBlock
import Derived.Deep.CutRange
import Derived.Test.YtcppgpjodfeigaaDoorZt2
import Derived.IntWalk

namespace Go.Proofs.YtcppgpjodfeigaaDoor
set_option linter.unusedVariables false
set_option linter.unusedSimpArgs false
open Go.RowKit

theorem Tryd.infoNode : (Tryd.prog.info? 88).map (fun i => (i.zero, i.size, i.bytes)) = some (some (.agg #[.int .i64 0, .int .i64 0, .int .i64 0, .int .i64 0, .int .i64 0, .int .i64 0, .int .i64 0, .pointer none]), 8, 64) := by kernel_rfl

/-- 's = append(s, x)' of one element of eight cells, one operation. -/
theorem wp_push8 {P : Program} {w : World} {o : Oper} {a : Act} {K : Act → World → Prop} {Q : Exit → Act → World → Prop} {e' : TypeId} {us : List Value} (s x : Operand) (t : TypeId)
    (ho : o.op = .call { callee := .builtin .append, args := #[s, x], argTypes := #[t, t] })
    (base : Nat) (e : TypeId) {z : Value} {bytes : Nat} (hinfo : (P.info? e).map (fun i => (i.zero, i.size, i.bytes)) = some (some z, 8, bytes)) (ht : P.underlying t = some (.slice e)) (hz1 : z.cells.size = 8)
    (v : Value) (n : Nat) (xs : List Value) (hs : a.eval s = v) (hown : w.ownsRow base e 8 v n xs)
    (hx : a.eval x = .slice (some ⟨w.heap.size, 0, none⟩) 1 1) (hu : us.length = 8) (h1 : ∀ u ∈ us, u.oneCell' = true)
    (h63 : n + 1 ≤ maxLen) (hbytes : (n + 1) * bytes ≤ 140737488355328) (hbase : base ≤ w.heap.size)
    (h : ∀ g cap w', w'.ownsRow base e 8 (.slice (some ⟨g, 0, none⟩) (n + 1) cap) (n + 1) (xs ++ us) → w.grownBy w' v.ownBlock → (v.ownBlock = some g ∨ w.heap.size ≤ g) → g < w'.heap.size →
      K (a.put o.dst (.slice (some ⟨g, 0, none⟩) (n + 1) cap)) w') : Oper.wp P o a (w.alloc (.cells us.toArray e')) K Q := by
  obtain ⟨i, hi, hz, hsz, hby⟩ := info_parts hinfo
  refine wp_append_lies (w.alloc (.cells us.toArray e')) s x t ho base e i z 8 bytes ht hi hz hsz hby hz1 (by omega) v n xs hs (hown.alloc _) ⟨w.heap.size, 0, none⟩ 1 1 us hx (by omega) ?_ h1 (by omega) h63 hbytes ?_ _ rfl ?_
  · intro j u hj
    rw [Addr.add_lit, Nat.zero_add, cell_of_row _ _ j _ _ _ (heap_alloc_new w _), List.getElem?_toArray, hj]
  · simp; omega
  · intro g cap w' h1 h2 h3 h4
    exact h g cap w' h1 ⟨h2.os, h2.tape, h2.output, by have := h2.size; simp at this; omega, fun k hk hne => by
      rw [h2.block k (by simp; omega) hne]; exact Below.heap_alloc w _ k hk⟩ (h3.imp id (fun h => by simp at h; omega)) h4

section
variable {w w' : World} {p : Nat} {C : Nat → Prop} {A : Ar} {xs : List Nd} {root vis : Int}
theorem HStep.of_below {C : Nat → Prop} (h : Below w.heap.size w w') : HStep w w' C C := ⟨Chg.of_below h, fun k hk => Or.inl hk⟩
theorem Head.see1 (h : Head w p C A xs root vis) : ∃ ra rc, w.cell? ⟨p, 1, none⟩ = some (.slice ra xs.length rc) ∧ w.ownsRow 0 88 8 (.slice ra xs.length rc) xs.length (cellsN xs) := by
  obtain ⟨ap, SA, ra, rc, hp, ha, ho, hC⟩ := h.ex
  exact ⟨ra, rc, by rw [cell_of_row w p 1 _ _ _ hp]; rfl, ho⟩
/-- The row of nodes has grown by one. -/
theorem Head.grow (h : Head w p C A xs root vis) {ra : Option Addr} {rc : Nat} (h1 : w.cell? ⟨p, 1, none⟩ = some (.slice ra xs.length rc)) {g cap : Nat} {x : Nd}
    (hown : w'.ownsRow 0 88 8 (.slice (some ⟨g, 0, none⟩) (xs.length + 1) cap) (xs.length + 1) (cellsN xs ++ x.cells)) (hg : w.grownBy w' (Value.slice ra xs.length rc).ownBlock) (hor : (Value.slice ra xs.length rc).ownBlock = some g ∨ w.heap.size ≤ g) :
    ∃ C', Head (w'.setCell ⟨p, 1, none⟩ (.slice (some ⟨g, 0, none⟩) (xs.length + 1) cap)) p C' A (xs ++ [x]) root vis ∧ HStep w (w'.setCell ⟨p, 1, none⟩ (.slice (some ⟨g, 0, none⟩) (xs.length + 1) cap)) C C' := by
  obtain ⟨ap, SA, ra', rc', hp, ha, ho, hC⟩ := h.ex
  have e0 : ra' = ra ∧ rc' = rc := by
    rw [cell_of_row w p 1 _ _ _ hp] at h1
    have h1 : some (Value.slice ra' xs.length rc') = some (.slice ra xs.length rc) := h1
    injection h1 with h1
    injection h1 with e1 _ e3
    exact ⟨e1, e3⟩
  obtain ⟨rfl, rfl⟩ := e0
  have hT : TypeAt w p 83 := ⟨_, hp⟩
  have hob : ∀ k, (Value.slice ra' xs.length rc').ownBlock = some k ↔ ra' = some ⟨k, 0, none⟩ := fun k => ownBlock_addr (own_addr ho)
  have hne : ∀ k T, TypeAt w k T → T ≠ 88 → (Value.slice ra' xs.length rc').ownBlock ≠ some k := by
    intro k T hk hT e
    rw [(hob k).1 e] at ho
    exact (own_type ho).ne hk (fun e => hT e.symm) rfl
  have hc1 : Chg (fun k => ra' = some ⟨k, 0, none⟩) w w' := Chg.refl.grown hg (fun k hk => Or.inl ((hob k).1 hk))
  have hp' := hc1.heap hp (fun e => hne p _ hT (by decide) ((hob p).2 e))
  have ha' : IsArena w' ap SA A := ha.chg hc1 (fun k hk e => by
    rcases ha.types hk with t | t | t <;> exact hne k _ t (by decide) ((hob k).2 e))
  have hgp : g ≠ p := by
    rcases hor with e | e
    · rintro rfl; exact hne _ _ hT (by decide) e
    · have := hT.lt; omega
  have hgT : TypeAt w' g 88 := own_type hown
  have hc2 : Chg (fun k => k = p) w' (w'.setCell ⟨p, 1, none⟩ (.slice (some ⟨g, 0, none⟩) (xs.length + 1) cap)) := Chg.refl.setCell (S := fun k => k = p) ⟨p, 1, none⟩ (Or.inl rfl) _
  refine ⟨fun k => k = p ∨ SA k ∨ (some (⟨g, 0, none⟩ : Addr)) = some ⟨k, 0, none⟩, ⟨ap, SA, some ⟨g, 0, none⟩, cap, ?_, ha'.chg hc2 (fun k hk e => ?_), ?_, fun k => Iff.rfl⟩, ?_, fun k hk => ?_⟩
  · have := heap_setCell_same w' p 1 _ _ (.slice (some ⟨g, 0, none⟩) (xs.length + 1) cap) hp'
    rw [List.length_append]; exact this
  · subst e
    rcases ha.types hk with t | t | t <;> exact t.ne hT (by decide) rfl
  · rw [List.length_append, cellsN_app, show cellsN [x] = x.cells by simp [cellsN]]
    exact hc2.own hown (fun k hk e => by
      simp [Value.ownBlock] at hk
      omega)
  · refine (hc1.mono (fun k e => (hC k).2 (Or.inr (Or.inr e)))).trans hc2 (fun k e => Or.inl (by subst e; exact (hC _).2 (Or.inl rfl)))
  · rcases hk with rfl | hk | hk
    · exact Or.inl ((hC _).2 (Or.inl rfl))
    · exact Or.inl ((hC _).2 (Or.inr (Or.inl hk)))
    · injection hk with hk
      injection hk with hk _ _
      subst hk
      rcases hor with e | e
      · exact Or.inl ((hC _).2 (Or.inr (Or.inr ((hob _).1 e))))
      · exact Or.inr e
end

theorem Nd.one (x : Nd) : ∀ u ∈ x.cells, u.oneCell' = true := by
  intro u hu
  simp only [Nd.cells, List.mem_cons, List.not_mem_nil, or_false] at hu
  rcases hu with rfl | rfl | rfl | rfl | rfl | rfl | rfl | rfl <;> first | rfl | (unfold ptrN; rfl)

/-- A whole node is written. -/
theorem Head.puts8 {w : World} {p : Nat} {C : Nat → Prop} {A : Ar} {xs : List Nd} {root vis : Int} (h : Head w p C A xs root vis) {g n rc : Nat} (hg : w.cell? ⟨p, 1, none⟩ = some (.slice (some ⟨g, 0, none⟩) n rc)) {k : Nat} {xk : Nd} (hx : xs[k]? = some xk) (x : Nd) {pb : Option Addr} (hpb : ptrN x.b = .pointer pb) :
    Head ((((((((w.setCell ⟨g, k * 8, none⟩ (.int .i64 x.left)).setCell ⟨g, k * 8 + 1, none⟩ (.int .i64 x.right)).setCell ⟨g, k * 8 + 2, none⟩ (.int .i64 x.height)).setCell ⟨g, k * 8 + 3, none⟩ (.int .i64 x.n)).setCell ⟨g, k * 8 + 4, none⟩ (.int .i64 x.ones)).setCell ⟨g, k * 8 + 5, none⟩ (.int .i64 x.ln)).setCell ⟨g, k * 8 + 6, none⟩ (.int .i64 x.lones)).setCell ⟨g, k * 8 + 7, none⟩ (.pointer pb)) p C A (xs.set k x) root vis ∧ Chg (fun b => b = g) w ((((((((w.setCell ⟨g, k * 8, none⟩ (.int .i64 x.left)).setCell ⟨g, k * 8 + 1, none⟩ (.int .i64 x.right)).setCell ⟨g, k * 8 + 2, none⟩ (.int .i64 x.height)).setCell ⟨g, k * 8 + 3, none⟩ (.int .i64 x.n)).setCell ⟨g, k * 8 + 4, none⟩ (.int .i64 x.ones)).setCell ⟨g, k * 8 + 5, none⟩ (.int .i64 x.ln)).setCell ⟨g, k * 8 + 6, none⟩ (.int .i64 x.lones)).setCell ⟨g, k * 8 + 7, none⟩ (.pointer pb)) := by
  rw [← hpb]
  obtain ⟨_, _, hk, _⟩ := h.node hg hx
  have key : ∀ y : Nd, (xs.set k y)[k]? = some y := fun y => by rw [List.getElem?_set, if_pos rfl, if_pos hk]
  obtain ⟨h1, c1, g1⟩ := h.put hg hx (i := 0) (v := .int .i64 x.left) (x' := ⟨x.left, xk.right, xk.height, xk.n, xk.ones, xk.ln, xk.lones, xk.b⟩) (by omega) rfl
  obtain ⟨h2, c2, g2⟩ := h1.put g1 (key _) (i := 1) (v := .int .i64 x.right) (x' := ⟨x.left, x.right, xk.height, xk.n, xk.ones, xk.ln, xk.lones, xk.b⟩) (by omega) rfl
  rw [List.set_set] at h2
  obtain ⟨h3, c3, g3⟩ := h2.put g2 (key _) (i := 2) (v := .int .i64 x.height) (x' := ⟨x.left, x.right, x.height, xk.n, xk.ones, xk.ln, xk.lones, xk.b⟩) (by omega) rfl
  rw [List.set_set] at h3
  obtain ⟨h4, c4, g4⟩ := h3.put g3 (key _) (i := 3) (v := .int .i64 x.n) (x' := ⟨x.left, x.right, x.height, x.n, xk.ones, xk.ln, xk.lones, xk.b⟩) (by omega) rfl
  rw [List.set_set] at h4
  obtain ⟨h5, c5, g5⟩ := h4.put g4 (key _) (i := 4) (v := .int .i64 x.ones) (x' := ⟨x.left, x.right, x.height, x.n, x.ones, xk.ln, xk.lones, xk.b⟩) (by omega) rfl
  rw [List.set_set] at h5
  obtain ⟨h6, c6, g6⟩ := h5.put g5 (key _) (i := 5) (v := .int .i64 x.ln) (x' := ⟨x.left, x.right, x.height, x.n, x.ones, x.ln, xk.lones, xk.b⟩) (by omega) rfl
  rw [List.set_set] at h6
  obtain ⟨h7, c7, g7⟩ := h6.put g6 (key _) (i := 6) (v := .int .i64 x.lones) (x' := ⟨x.left, x.right, x.height, x.n, x.ones, x.ln, x.lones, xk.b⟩) (by omega) rfl
  rw [List.set_set] at h7
  obtain ⟨h8, c8, g8⟩ := h7.put g7 (key _) (i := 7) (v := ptrN x.b) (x' := x) (by omega) rfl
  rw [List.set_set] at h8
  exact ⟨h8, ((((((c1.trans c2 (fun _ h => Or.inl h)).trans c3 (fun _ h => Or.inl h)).trans c4 (fun _ h => Or.inl h)).trans c5 (fun _ h => Or.inl h)).trans c6 (fun _ h => Or.inl h)).trans c7 (fun _ h => Or.inl h)).trans c8 (fun _ h => Or.inl h)⟩

/-- What a new node leaves. -/
structure NodePost (w w' : World) (p : Nat) (C : Nat → Prop) (A : Ar) (xs : List Nd) (root vis : Int) (y : Nd) (e : Ending) : Prop where
  ex : ∃ (k : Nat) (C' : Nat → Prop) (A' : Ar) (xs' : List Nd), e = .returned (.int .i64 k) ∧ Head w' p C' A' xs' root vis ∧ HStep w w' C C' ∧ xs'.length = A'.T.length ∧ xs'[k]? = some y ∧ A.T[k]? ≠ some true ∧
    (∀ j : Nat, A.T[j]? = some true → xs'[j]? = xs[j]? ∧ A'.T[j]? = some true) ∧ A'.T[k]? = some true ∧ A'.live = A.live + 1 ∧ A'.M = A.M ∧ (A.F = [] → A'.F = [])

def boxN (x : Nd) : Obj := .cells x.cells.toArray 88

set_option maxHeartbeats 3200000 in
set_option maxRecDepth 100000 in
theorem tNode_pop {w : World} {p : Nat} {C : Nat → Prop} {A : Ar} {xs : List Nd} {root vis : Int} (h : Head w p C A xs root vis) (hlen : xs.length = A.T.length) (hlive : A.live < A.M) (x y : Nd) {k : Nat} (hk : A.F.getLast? = some k)
    (hfix : ∀ (w1 : World) (C1 : Nat → Prop) (xs1 : List Nd), Head w1 p C1 (A.pop k) xs1 root vis → HStep w w1 C C1 → xs1[k]? = some x → (∀ j : Nat, A.T[j]? = some true → xs1[j]? = xs[j]?) →
      Calls Tryd.prog 102 #[.pointer (some ⟨p, 0, none⟩), .int .i64 k] w1 fun e w' => e = .returned (.tuple #[]) ∧ Head w' p C1 (A.pop k) (xs1.set k y) root vis ∧ Chg (RowB w1 p) w1 w') :
    Calls Tryd.prog 98 #[.pointer (some ⟨p, 0, none⟩), .agg x.cells.toArray] w fun e w' => NodePost w w' p C A xs root vis y e := by
  have h0 := h.below (below_alloc w (boxN x))
  obtain ⟨ap, SA, p0, hA, hsub, hstep⟩ := h0.arena
  have hok := hA.ok
  have hkT := hok.last_lt hk
  have hkF : A.T[k]? = some false := (hok.iff k).2 (List.mem_of_getLast? hk)
  have hTk := Lib.hid (arTake_pop hA (by omega) hk)
  have HST := Lib.hid hstep
  have hbox : (w.alloc (boxN x)).heap[w.heap.size]? = some (boxN x) := heap_alloc_new w _
  have hnb : ¬ SA w.heap.size := fun hs => by have := h.lt _ (hsub _ hs); omega
  have HBX : Hid (∀ w1 A', ArStep (w.alloc (boxN x)) w1 ap SA A' → w1.heap[w.heap.size]? = some (boxN x)) := fun w1 A' ⟨_, _, hc, _⟩ => hc.heap hbox hnb
  have HS0 : Hid (HStep w (w.alloc (boxN x)) C C) := HStep.of_below (below_alloc w _)
  have HF := Lib.hid hfix
  have HL := Lib.hid hlen
  have HKF := Lib.hid hkF
  have HOK := Lib.hid hok
  have hxk : k < xs.length := by omega
  have HLV := Lib.hid hlive
  have HK := Lib.hid hk
  have HLT : Hid (∀ j, C j → j < w.heap.size) := h.lt
  clear h h0 hA hsub hstep hbox hnb hfix hlen hkT hkF hok hlive hk
  unfold boxN at *
  go_enter Tryd.func98, Tryd.ntmps98
  go_wp2_with fail
  refine hTk.out.mono ?_
  rintro e w1 ⟨rfl, hst⟩
  obtain ⟨C1, h1, s1⟩ := HST.out _ _ hst
  have bx := HBX.out _ _ hst
  clear hst hTk HST HBX p0
  obtain ⟨g, rc, cur, r1, hgp, hCg, _⟩ := h1.row (by omega)
  obtain ⟨xk, hxk2⟩ : ∃ xk, xs[k]? = some xk := ⟨_, List.getElem?_eq_getElem hxk⟩
  obtain ⟨e0, e1, e2, e3, e4, e5, e6, e7⟩ := h1.eight r1 hxk2
  obtain ⟨_, fz, _⟩ := h1.node r1 hxk2
  have hs01 := HS0.out.trans s1
  have hgB : g ≠ w.heap.size := by
    rcases s1.new g hCg with e | e
    · have := HLT.out g e; omega
    · simp at e; omega
  obtain ⟨pb, hpb⟩ : ∃ pb, ptrN x.b = .pointer pb := ⟨_, rfl⟩
  obtain ⟨pk, hpk⟩ : ∃ pb, ptrN xk.b = .pointer pb := ⟨_, rfl⟩
  have b0 : w1.cell? ⟨w.heap.size, 0, none⟩ = some (.int .i64 x.left) := by rw [cell_of_row w1 _ 0 _ _ _ bx]; rfl
  have b1 : w1.cell? ⟨w.heap.size, 1, none⟩ = some (.int .i64 x.right) := by rw [cell_of_row w1 _ 1 _ _ _ bx]; rfl
  have b2 : w1.cell? ⟨w.heap.size, 2, none⟩ = some (.int .i64 x.height) := by rw [cell_of_row w1 _ 2 _ _ _ bx]; rfl
  have b3 : w1.cell? ⟨w.heap.size, 3, none⟩ = some (.int .i64 x.n) := by rw [cell_of_row w1 _ 3 _ _ _ bx]; rfl
  have b4 : w1.cell? ⟨w.heap.size, 4, none⟩ = some (.int .i64 x.ones) := by rw [cell_of_row w1 _ 4 _ _ _ bx]; rfl
  have b5 : w1.cell? ⟨w.heap.size, 5, none⟩ = some (.int .i64 x.ln) := by rw [cell_of_row w1 _ 5 _ _ _ bx]; rfl
  have b6 : w1.cell? ⟨w.heap.size, 6, none⟩ = some (.int .i64 x.lones) := by rw [cell_of_row w1 _ 6 _ _ _ bx]; rfl
  have b7 : w1.cell? ⟨w.heap.size, 7, none⟩ = some (.pointer pb) := by rw [cell_of_row w1 _ 7 _ _ _ bx, ← hpb]; rfl
  rw [hpk] at e7
  have z0 := fz (k * 8)
  have z1 := fz (k * 8 + 1)
  have z2 := fz (k * 8 + 2)
  have z3 := fz (k * 8 + 3)
  have z4 := fz (k * 8 + 4)
  have z5 := fz (k * 8 + 5)
  have z6 := fz (k * 8 + 6)
  have z7 := fz (k * 8 + 7)
  have H1 := Lib.hid h1
  have S01 := Lib.hid hs01
  have HX2 := Lib.hid hxk2
  have HPB := Lib.hid hpb
  have dk : ((k : Int) == (xs.length : Int)) = false := by rw [beq_eq_false_iff_ne]; omega
  clear h1 s1 bx hxk2 fz hs01 hpb hpk HS0 HLT hCg
  generalize w.heap.size = B0 at *
  obtain ⟨W2, hW2⟩ : ∃ W2, W2 = ((((((((w1.setCell ⟨g, k * 8, none⟩ (.int .i64 x.left)).setCell ⟨g, k * 8 + 1, none⟩ (.int .i64 x.right)).setCell ⟨g, k * 8 + 2, none⟩ (.int .i64 x.height)).setCell ⟨g, k * 8 + 3, none⟩ (.int .i64 x.n)).setCell ⟨g, k * 8 + 4, none⟩ (.int .i64 x.ones)).setCell ⟨g, k * 8 + 5, none⟩ (.int .i64 x.ln)).setCell ⟨g, k * 8 + 6, none⟩ (.int .i64 x.lones)).setCell ⟨g, k * 8 + 7, none⟩ (.pointer pb)).drew := ⟨_, rfl⟩
  have hp8 := H1.out.puts8 r1 HX2.out x HPB.out
  have h2 : Head W2 p C1 (A.pop k) (xs.set k x) root vis := by rw [hW2]; exact hp8.1.drew
  have c2 : Chg C1 w1 W2 := by rw [hW2]; exact (hp8.2.mono (fun b e => by subst e; exact H1.out.rowC ⟨_, _, r1⟩)).drew
  have hs2 := S01.out.trans ⟨c2, fun j hj => Or.inl hj⟩
  have hTk : ∀ j : Nat, A.T[j]? = some true → j ≠ k := by
    rintro j hj rfl
    have := HKF.out
    rw [hj] at this
    cases this
  have HFF := Lib.hid (HF.out W2 C1 (xs.set k x) h2 hs2 (set_get HX2.out) (fun j hj => set_ne (hTk j hj)))
  have HW2 := Lib.hid hW2
  have H2 := Lib.hid h2
  have HS2 := Lib.hid hs2
  have HTK := Lib.hid hTk
  clear hW2 hp8 h2 c2 hs2 hTk HF
  go_wp2_with fail
  -- REGION store
  refine reg_start (fun w' => w'.cell? ⟨p, 1, none⟩ = some (.slice (some ⟨g, 0, none⟩) xs.length rc) ∧ w'.cell? ⟨B0, 0, none⟩ = some (.int .i64 x.left) ∧ w'.cell? ⟨B0, 1, none⟩ = some (.int .i64 x.right) ∧ w'.cell? ⟨B0, 2, none⟩ = some (.int .i64 x.height) ∧ w'.cell? ⟨B0, 3, none⟩ = some (.int .i64 x.n) ∧ w'.cell? ⟨B0, 4, none⟩ = some (.int .i64 x.ones) ∧ w'.cell? ⟨B0, 5, none⟩ = some (.int .i64 x.ln) ∧ w'.cell? ⟨B0, 6, none⟩ = some (.int .i64 x.lones) ∧ w'.cell? ⟨B0, 7, none⟩ = some (.pointer pb)) (by kernel_rfl) ?hiq (fun hHeld => ?_)
  case hiq => (refine ⟨?_, ?_, ?_, ?_, ?_, ?_, ?_, ?_, ?_⟩ <;> go_simp)
  refine reg_take (i := 0) (v := ?vq0) rfl (by kernel_rfl) rfl hHeld ?yq0 ?rq0
  case yq0 => (intro w hSw; (try dsimp only at hSw); go_simp; all_goals with_reducible rfl)
  try simp only [Act.put, List.setIfInBounds_toArray, List.set_cons_zero, List.set_cons_succ]
  refine reg_take (i := 1) (v := ?vq1) rfl (by kernel_rfl) rfl hHeld ?yq1 ?rq1
  case yq1 => (intro w hSw; (try dsimp only at hSw); go_simp; all_goals with_reducible rfl)
  try simp only [Act.put, List.setIfInBounds_toArray, List.set_cons_zero, List.set_cons_succ]
  refine reg_take (i := 2) (v := ?vq2) rfl (by kernel_rfl) rfl hHeld ?yq2 ?rq2
  case yq2 => (intro w hSw; (try dsimp only at hSw); go_simp; all_goals with_reducible rfl)
  try simp only [Act.put, List.setIfInBounds_toArray, List.set_cons_zero, List.set_cons_succ]
  refine reg_take (i := 3) (v := ?vq3) rfl (by kernel_rfl) rfl hHeld ?yq3 ?rq3
  case yq3 => (intro w hSw; (try dsimp only at hSw); go_simp; all_goals with_reducible rfl)
  try simp only [Act.put, List.setIfInBounds_toArray, List.set_cons_zero, List.set_cons_succ]
  refine reg_take (i := 4) (v := ?vq4) rfl (by kernel_rfl) rfl hHeld ?yq4 ?rq4
  case yq4 => (intro w hSw; (try dsimp only at hSw); go_simp; all_goals with_reducible rfl)
  try simp only [Act.put, List.setIfInBounds_toArray, List.set_cons_zero, List.set_cons_succ]
  refine reg_take (i := 5) (v := ?vq5) rfl (by kernel_rfl) rfl hHeld ?yq5 ?rq5
  case yq5 => (intro w hSw; (try dsimp only at hSw); go_simp; all_goals with_reducible rfl)
  try simp only [Act.put, List.setIfInBounds_toArray, List.set_cons_zero, List.set_cons_succ]
  refine reg_take (i := 6) (v := ?vq6) rfl (by kernel_rfl) rfl hHeld ?yq6 ?rq6
  case yq6 => (intro w hSw; (try dsimp only at hSw); go_simp; all_goals with_reducible rfl)
  try simp only [Act.put, List.setIfInBounds_toArray, List.set_cons_zero, List.set_cons_succ]
  refine reg_loud (i := 7) rfl (by kernel_rfl) rfl (fun K hK => ?_)
  go_simp
  refine hK.out _ _ ?kpq7 (fun hNew => ?_)
  case kpq7 => (refine ⟨?_, ?_, ?_, ?_, ?_, ?_, ?_, ?_, ?_⟩ <;> go_simp)
  clear hK K hHeld
  have hHeld := hNew
  clear hNew
  try simp only [Act.put, List.setIfInBounds_toArray, List.set_cons_zero, List.set_cons_succ]
  refine reg_done (by kernel_rfl) ?_ _
  -- END OF REGION store
  go_wp2_with fail
  rw [← HW2.out]
  refine HFF.out.mono ?_
  rintro e w3 ⟨rfl, h3, c3⟩
  have H3 := Lib.hid h3
  have C3 := Lib.hid c3
  clear h3 c3 hHeld
  go_wp2_with fail
  go_ret
  refine ⟨⟨k, C1, A.pop k, _, rfl, H3.out, HS2.out.trans ⟨H2.out.chgRow C3.out, fun j hj => Or.inl hj⟩, ?_, set_get (set_get HX2.out), ?_, fun j hj => ⟨?_, ?_⟩, ?_, ?_, rfl, fun hF => by first | exact hF | (show A.F.dropLast = []; rw [hF]; rfl)⟩⟩
  · rw [List.length_set, List.length_set, HL.out]; simp [Ar.pop]
  · rw [HKF.out]; simp
  · rw [set_ne (HTK.out j hj), set_ne (HTK.out j hj)]
  · show (A.T.set k true)[j]? = some true
    rw [set_ne (HTK.out j hj)]; exact hj
  · exact set_get HKF.out
  · have e1 := HOK.out.fle
    have e2 : 0 < A.F.length := List.length_pos_iff.2 (by intro e; have := HK.out; rw [e] at this; cases this)
    show (A.T.set k true).length - A.F.dropLast.length = A.T.length - A.F.length + 1
    rw [List.length_set, List.length_dropLast]; omega

set_option maxHeartbeats 3200000 in
set_option maxRecDepth 100000 in
theorem tNode_more {w : World} {p : Nat} {C : Nat → Prop} {A : Ar} {xs : List Nd} {root vis : Int} (h : Head w p C A xs root vis) (hlen : xs.length = A.T.length) (hlive : A.live < A.M) (x y : Nd) (hk : A.F = []) (hlm : A.T.length ≤ 268435456)
    (hfix : ∀ (w1 : World) (C1 : Nat → Prop) (xs1 : List Nd), Head w1 p C1 (A.more) xs1 root vis → HStep w w1 C C1 → xs1[xs.length]? = some x → (∀ j : Nat, A.T[j]? = some true → xs1[j]? = xs[j]?) →
      Calls Tryd.prog 102 #[.pointer (some ⟨p, 0, none⟩), .int .i64 xs.length] w1 fun e w' => e = .returned (.tuple #[]) ∧ Head w' p C1 (A.more) (xs1.set xs.length y) root vis ∧ Chg (RowB w1 p) w1 w') :
    Calls Tryd.prog 98 #[.pointer (some ⟨p, 0, none⟩), .agg x.cells.toArray] w fun e w' => NodePost w w' p C A xs root vis y e := by
  have h0 := h.below (below_alloc w (boxN x))
  obtain ⟨ap, SA, p0, hA, hsub, hstep⟩ := h0.arena
  have hok := hA.ok
  have hTk0 := arTake_more hA (by omega) hk
  rw [← hlen] at hTk0
  have hTk := Lib.hid hTk0
  have HST := Lib.hid hstep
  have hbox : (w.alloc (boxN x)).heap[w.heap.size]? = some (boxN x) := heap_alloc_new w _
  have hnb : ¬ SA w.heap.size := fun hs => by have := h.lt _ (hsub _ hs); omega
  have HBX : Hid (∀ w1 A', ArStep (w.alloc (boxN x)) w1 ap SA A' → w1.heap[w.heap.size]? = some (boxN x)) := fun w1 A' ⟨_, _, hc, _⟩ => hc.heap hbox hnb
  have HS0 : Hid (HStep w (w.alloc (boxN x)) C C) := HStep.of_below (below_alloc w _)
  have HF := Lib.hid hfix
  have HL := Lib.hid hlen
  have HOK := Lib.hid hok
  have HLV := Lib.hid hlive
  have HK := Lib.hid hk
  have HLT : Hid (∀ j, C j → j < w.heap.size) := h.lt
  rw [← hlen] at hlm
  clear h h0 hA hsub hstep hbox hnb hfix hlen hok hlive hk hTk0
  unfold boxN at *
  go_enter Tryd.func98, Tryd.ntmps98
  go_wp2_with fail
  refine hTk.out.mono ?_
  rintro e w1 ⟨rfl, hst⟩
  obtain ⟨C1, h1, s1⟩ := HST.out _ _ hst
  have bx := HBX.out _ _ hst
  clear hst hTk HST HBX p0
  obtain ⟨ra, rc, r1, hown⟩ := h1.see1
  have hs01 := HS0.out.trans s1
  have hB1 : w.heap.size < w1.heap.size := (Array.getElem?_eq_some_iff.1 bx).1
  have hp := h1.lt p h1.self
  have fz := (h1.cells).2.2.2 1
  obtain ⟨pb, hpb⟩ : ∃ pb, ptrN x.b = .pointer pb := ⟨_, rfl⟩
  have b0 : w1.cell? ⟨w.heap.size, 0, none⟩ = some (.int .i64 x.left) := by rw [cell_of_row w1 _ 0 _ _ _ bx]; rfl
  have b1 : w1.cell? ⟨w.heap.size, 1, none⟩ = some (.int .i64 x.right) := by rw [cell_of_row w1 _ 1 _ _ _ bx]; rfl
  have b2 : w1.cell? ⟨w.heap.size, 2, none⟩ = some (.int .i64 x.height) := by rw [cell_of_row w1 _ 2 _ _ _ bx]; rfl
  have b3 : w1.cell? ⟨w.heap.size, 3, none⟩ = some (.int .i64 x.n) := by rw [cell_of_row w1 _ 3 _ _ _ bx]; rfl
  have b4 : w1.cell? ⟨w.heap.size, 4, none⟩ = some (.int .i64 x.ones) := by rw [cell_of_row w1 _ 4 _ _ _ bx]; rfl
  have b5 : w1.cell? ⟨w.heap.size, 5, none⟩ = some (.int .i64 x.ln) := by rw [cell_of_row w1 _ 5 _ _ _ bx]; rfl
  have b6 : w1.cell? ⟨w.heap.size, 6, none⟩ = some (.int .i64 x.lones) := by rw [cell_of_row w1 _ 6 _ _ _ bx]; rfl
  have b7 : w1.cell? ⟨w.heap.size, 7, none⟩ = some (.pointer pb) := by rw [cell_of_row w1 _ 7 _ _ _ bx, ← hpb]; rfl
  have H1 := Lib.hid h1
  have S01 := Lib.hid hs01
  have HPB := Lib.hid hpb
  have HO : Hid (w1.drew.ownsRow 0 88 8 (.slice ra xs.length rc) xs.length (cellsN xs)) := hown
  have HONE : Hid (∀ u ∈ [Value.int .i64 x.left, .int .i64 x.right, .int .i64 x.height, .int .i64 x.n, .int .i64 x.ones, .int .i64 x.ln, .int .i64 x.lones, .pointer pb], u.oneCell' = true) := by
    have h := x.one
    simp only [Nd.cells, hpb] at h
    exact h
  have HNP : Hid (some p ≠ (Value.slice ra xs.length rc).ownBlock ∧ some w.heap.size ≠ (Value.slice ra xs.length rc).ownBlock) := by
    refine ⟨fun e => ?_, fun e => ?_⟩
    · exact h1.rowNe ⟨_, _, by rw [r1, (ownBlock_addr (own_addr hown)).1 e.symm]⟩
    · have := h1.rowC ⟨_, _, by rw [r1, (ownBlock_addr (own_addr hown)).1 e.symm]⟩
      rcases s1.new _ this with e | e
      · have := HLT.out _ e; omega
      · simp at e; omega
  have hpB : ¬ p = w.heap.size := by
    rcases s1.new p h1.self with e | e
    · have := HLT.out p e; omega
    · simp at e; omega
  clear h1 s1 bx hs01 hpb HS0 HLT hown
  generalize w.heap.size = B0 at *
  go_upto_region 3 with fail
  go_cut [5] (fun v wx => v = .int .i64 xs.length ∧ ∃ C2, Head wx p C2 A.more (xs ++ [x]) root vis ∧ HStep w1 wx C1 C2)
  case first =>
    -- REGION app
    refine reg_start (fun w' => w'.cell? ⟨B0, 0, none⟩ = some (.int .i64 x.left) ∧ w'.cell? ⟨B0, 1, none⟩ = some (.int .i64 x.right) ∧ w'.cell? ⟨B0, 2, none⟩ = some (.int .i64 x.height) ∧ w'.cell? ⟨B0, 3, none⟩ = some (.int .i64 x.n) ∧ w'.cell? ⟨B0, 4, none⟩ = some (.int .i64 x.ones) ∧ w'.cell? ⟨B0, 5, none⟩ = some (.int .i64 x.ln) ∧ w'.cell? ⟨B0, 6, none⟩ = some (.int .i64 x.lones) ∧ w'.cell? ⟨B0, 7, none⟩ = some (.pointer pb)) (by kernel_rfl) ?hia (fun hHeld => ?_)
    case hia => (refine ⟨?_, ?_, ?_, ?_, ?_, ?_, ?_, ?_⟩ <;> go_simp)
    refine reg_take (i := 0) (v := ?va0) rfl (by kernel_rfl) rfl hHeld ?ya0 ?ra0
    case ya0 => (intro w hSw; (try dsimp only at hSw); go_simp; all_goals with_reducible rfl)
    try simp only [Act.put, List.setIfInBounds_toArray, List.set_cons_zero, List.set_cons_succ]
    refine reg_take (i := 1) (v := ?va1) rfl (by kernel_rfl) rfl hHeld ?ya1 ?ra1
    case ya1 => (intro w hSw; (try dsimp only at hSw); go_simp; all_goals with_reducible rfl)
    try simp only [Act.put, List.setIfInBounds_toArray, List.set_cons_zero, List.set_cons_succ]
    refine reg_take (i := 2) (v := ?va2) rfl (by kernel_rfl) rfl hHeld ?ya2 ?ra2
    case ya2 => (intro w hSw; (try dsimp only at hSw); go_simp; all_goals with_reducible rfl)
    try simp only [Act.put, List.setIfInBounds_toArray, List.set_cons_zero, List.set_cons_succ]
    refine reg_take (i := 3) (v := ?va3) rfl (by kernel_rfl) rfl hHeld ?ya3 ?ra3
    case ya3 => (intro w hSw; (try dsimp only at hSw); go_simp; all_goals with_reducible rfl)
    try simp only [Act.put, List.setIfInBounds_toArray, List.set_cons_zero, List.set_cons_succ]
    refine reg_take (i := 5) (v := ?va5) rfl (by kernel_rfl) rfl hHeld ?ya5 ?ra5
    case ya5 => (intro w hSw; (try dsimp only at hSw); go_simp; all_goals with_reducible rfl)
    try simp only [Act.put, List.setIfInBounds_toArray, List.set_cons_zero, List.set_cons_succ]
    refine wpAnyH_ready (rs := [4, 6]) (by kernel_rfl) (by simp) (all_cons rfl rfl (fun K hK => ?_) (all_cons rfl rfl (fun K hK => ?_) AllReadyH.nil))
    · go_simp
      refine hK.out _ _ ?k1p (fun hNew => ?_)
      case k1p => (refine ⟨?_, ?_, ?_, ?_, ?_, ?_, ?_, ?_⟩ <;> go_simp)
      clear hK K hHeld
      have hHeld := hNew
      clear hNew
      try simp only [Act.put, List.setIfInBounds_toArray, List.set_cons_zero, List.set_cons_succ]
      refine reg_loud (i := 6) rfl (by kernel_rfl) rfl (fun K hK => ?_)
      go_simp
      refine hK.out _ _ ?k2p (fun hNew => ?_)
      case k2p => (refine ⟨?_, ?_, ?_, ?_, ?_, ?_, ?_, ?_⟩ <;> go_simp)
      clear hK K hHeld
      have hHeld := hNew
      clear hNew
      try simp only [Act.put, List.setIfInBounds_toArray, List.set_cons_zero, List.set_cons_succ]
      refine reg_loud (i := 7) rfl (by kernel_rfl) rfl (fun K hK => ?_)
      refine wp_push8 (w := w1.drew) _ _ 81 rfl 0 88 Tryd.infoNode Tryd.underlying81 rfl _ _ _ rfl HO.out rfl rfl HONE.out (by unfold maxLen; omega) (by omega) (Nat.zero_le _) ?_
      intro g cap w2 hown2 hgrow hor hgl
      have u1 : w2.cell? ⟨p, 1, none⟩ = some (.slice ra xs.length rc) := hgrow.cell (w := w1.drew) r1 HNP.out.1
      have u2 : w2.frozen? ⟨p, 1, none⟩ = false := (World.frozen?_of_block (hgrow.block p hp HNP.out.1)).trans fz
      have v0 := hgrow.cell (w := w1.drew) b0 HNP.out.2
      have v1 := hgrow.cell (w := w1.drew) b1 HNP.out.2
      have v2 := hgrow.cell (w := w1.drew) b2 HNP.out.2
      have v3 := hgrow.cell (w := w1.drew) b3 HNP.out.2
      have v4 := hgrow.cell (w := w1.drew) b4 HNP.out.2
      have v5 := hgrow.cell (w := w1.drew) b5 HNP.out.2
      have v6 := hgrow.cell (w := w1.drew) b6 HNP.out.2
      have v7 := hgrow.cell (w := w1.drew) b7 HNP.out.2
      have hgr : ∃ C2, Head (w2.setCell ⟨p, 1, none⟩ (.slice (some ⟨g, 0, none⟩) (xs.length + 1) cap)) p C2 A.more (xs ++ [x]) root vis ∧ HStep w1 (w2.setCell ⟨p, 1, none⟩ (.slice (some ⟨g, 0, none⟩) (xs.length + 1) cap)) C1 C2 := by
        obtain ⟨C2, q1, q2⟩ := H1.out.drew.grow (x := x) (w' := w2) (g := g) (cap := cap) r1 (by rw [show x.cells = [Value.int .i64 x.left, .int .i64 x.right, .int .i64 x.height, .int .i64 x.n, .int .i64 x.ones, .int .i64 x.ln, .int .i64 x.lones, .pointer pb] by simp only [Nd.cells, HPB.out]]; exact hown2) hgrow hor
        exact ⟨C2, q1, ⟨(Chg.refl.drew).trans q2.chg (fun b hb => Or.inl hb), q2.new⟩⟩
      have HGR := Lib.hid hgr
      clear hgr hown2 hgrow hor hgl
      refine hK.out _ _ ?k3p (fun hNew => ?_)
      case k3p => exact ⟨v0, v1, v2, v3, v4, v5, v6, v7⟩
      clear hK K hHeld
      have hHeld := hNew
      clear hNew
      try simp only [Act.put, List.setIfInBounds_toArray, List.set_cons_zero, List.set_cons_succ]
      refine reg_take (i := 8) (v := ?vap8) rfl (by kernel_rfl) rfl hHeld ?yap8 ?rap8
      case yap8 => (intro w hSw; (try dsimp only at hSw); go_simp; all_goals with_reducible rfl)
      try simp only [Act.put, List.setIfInBounds_toArray, List.set_cons_zero, List.set_cons_succ]
      refine reg_take (i := 9) (v := ?vap9) rfl (by kernel_rfl) rfl hHeld ?yap9 ?rap9
      case yap9 => (intro w hSw; (try dsimp only at hSw); go_simp; all_goals with_reducible rfl)
      try simp only [Act.put, List.setIfInBounds_toArray, List.set_cons_zero, List.set_cons_succ]
      refine reg_loud (i := 10) rfl (by kernel_rfl) rfl (fun K hK => ?_)
      go_simp
      refine hK.out _ _ ?k4p (fun hNew => ?_)
      case k4p => (refine ⟨?_, ?_, ?_, ?_, ?_, ?_, ?_, ?_⟩ <;> go_simp)
      clear hK K hHeld
      have hHeld := hNew
      clear hNew
      try simp only [Act.put, List.setIfInBounds_toArray, List.set_cons_zero, List.set_cons_succ]
      refine reg_done (by kernel_rfl) ?_ _
      go_wp2_with fail
      go_meet
      case rel => exact ⟨rfl, HGR.out⟩
    · go_simp
      refine hK.out _ _ ?k1q (fun hNew => ?_)
      case k1q => (refine ⟨?_, ?_, ?_, ?_, ?_, ?_, ?_, ?_⟩ <;> go_simp)
      clear hK K hHeld
      have hHeld := hNew
      clear hNew
      try simp only [Act.put, List.setIfInBounds_toArray, List.set_cons_zero, List.set_cons_succ]
      refine reg_loud (i := 4) rfl (by kernel_rfl) rfl (fun K hK => ?_)
      go_simp
      refine hK.out _ _ ?k2q (fun hNew => ?_)
      case k2q => (refine ⟨?_, ?_, ?_, ?_, ?_, ?_, ?_, ?_⟩ <;> go_simp)
      clear hK K hHeld
      have hHeld := hNew
      clear hNew
      try simp only [Act.put, List.setIfInBounds_toArray, List.set_cons_zero, List.set_cons_succ]
      refine reg_loud (i := 7) rfl (by kernel_rfl) rfl (fun K hK => ?_)
      refine wp_push8 (w := w1.drew) _ _ 81 rfl 0 88 Tryd.infoNode Tryd.underlying81 rfl _ _ _ rfl HO.out rfl rfl HONE.out (by unfold maxLen; omega) (by omega) (Nat.zero_le _) ?_
      intro g cap w2 hown2 hgrow hor hgl
      have u1 : w2.cell? ⟨p, 1, none⟩ = some (.slice ra xs.length rc) := hgrow.cell (w := w1.drew) r1 HNP.out.1
      have u2 : w2.frozen? ⟨p, 1, none⟩ = false := (World.frozen?_of_block (hgrow.block p hp HNP.out.1)).trans fz
      have v0 := hgrow.cell (w := w1.drew) b0 HNP.out.2
      have v1 := hgrow.cell (w := w1.drew) b1 HNP.out.2
      have v2 := hgrow.cell (w := w1.drew) b2 HNP.out.2
      have v3 := hgrow.cell (w := w1.drew) b3 HNP.out.2
      have v4 := hgrow.cell (w := w1.drew) b4 HNP.out.2
      have v5 := hgrow.cell (w := w1.drew) b5 HNP.out.2
      have v6 := hgrow.cell (w := w1.drew) b6 HNP.out.2
      have v7 := hgrow.cell (w := w1.drew) b7 HNP.out.2
      have hgr : ∃ C2, Head (w2.setCell ⟨p, 1, none⟩ (.slice (some ⟨g, 0, none⟩) (xs.length + 1) cap)) p C2 A.more (xs ++ [x]) root vis ∧ HStep w1 (w2.setCell ⟨p, 1, none⟩ (.slice (some ⟨g, 0, none⟩) (xs.length + 1) cap)) C1 C2 := by
        obtain ⟨C2, q1, q2⟩ := H1.out.drew.grow (x := x) (w' := w2) (g := g) (cap := cap) r1 (by rw [show x.cells = [Value.int .i64 x.left, .int .i64 x.right, .int .i64 x.height, .int .i64 x.n, .int .i64 x.ones, .int .i64 x.ln, .int .i64 x.lones, .pointer pb] by simp only [Nd.cells, HPB.out]]; exact hown2) hgrow hor
        exact ⟨C2, q1, ⟨(Chg.refl.drew).trans q2.chg (fun b hb => Or.inl hb), q2.new⟩⟩
      have HGR := Lib.hid hgr
      clear hgr hown2 hgrow hor hgl
      refine hK.out _ _ ?k3q (fun hNew => ?_)
      case k3q => exact ⟨v0, v1, v2, v3, v4, v5, v6, v7⟩
      clear hK K hHeld
      have hHeld := hNew
      clear hNew
      try simp only [Act.put, List.setIfInBounds_toArray, List.set_cons_zero, List.set_cons_succ]
      refine reg_take (i := 8) (v := ?vaq8) rfl (by kernel_rfl) rfl hHeld ?yaq8 ?raq8
      case yaq8 => (intro w hSw; (try dsimp only at hSw); go_simp; all_goals with_reducible rfl)
      try simp only [Act.put, List.setIfInBounds_toArray, List.set_cons_zero, List.set_cons_succ]
      refine reg_take (i := 9) (v := ?vaq9) rfl (by kernel_rfl) rfl hHeld ?yaq9 ?raq9
      case yaq9 => (intro w hSw; (try dsimp only at hSw); go_simp; all_goals with_reducible rfl)
      try simp only [Act.put, List.setIfInBounds_toArray, List.set_cons_zero, List.set_cons_succ]
      refine reg_loud (i := 10) rfl (by kernel_rfl) rfl (fun K hK => ?_)
      go_simp
      refine hK.out _ _ ?k4q (fun hNew => ?_)
      case k4q => (refine ⟨?_, ?_, ?_, ?_, ?_, ?_, ?_, ?_⟩ <;> go_simp)
      clear hK K hHeld
      have hHeld := hNew
      clear hNew
      try simp only [Act.put, List.setIfInBounds_toArray, List.set_cons_zero, List.set_cons_succ]
      refine reg_done (by kernel_rfl) ?_ _
      go_wp2_with fail
      go_meet
      case rel => exact ⟨rfl, HGR.out⟩
    -- END OF REGION app
  case rest =>
    obtain ⟨rfl, C2, h2, s2⟩ := hcut
    have hs2 := S01.out.trans s2
    have hlt : ∀ j : Nat, A.T[j]? = some true → j < xs.length := fun j hj => by rw [HL.out]; exact (List.getElem?_eq_some_iff.1 hj).1
    have HLT := Lib.hid hlt
    have HFF := Lib.hid (HF.out wc C2 (xs ++ [x]) h2 hs2 (by simp) (fun j hj => List.getElem?_append_left (hlt j hj)))
    have H2 := Lib.hid h2
    have HS2 := Lib.hid hs2
    clear h2 s2 hs2 HF hlt b0 b1 b2 b3 b4 b5 b6 b7 hB1 hpB r1 hp fz
    go_wp2_with fail
    refine HFF.out.mono ?_
    rintro e w3 ⟨rfl, h3, c3⟩
    have H3 := Lib.hid h3
    have C3 := Lib.hid c3
    clear h3 c3
    go_wp2_with fail
    go_ret
    refine ⟨⟨xs.length, C2, A.more, _, rfl, H3.out, HS2.out.trans ⟨H2.out.chgRow C3.out, fun j hj => Or.inl hj⟩, ?_, set_get (x := x) (by simp), ?_, fun j hj => ⟨?_, ?_⟩, ?_, ?_, rfl, fun hF => by first | exact hF | (show A.F.dropLast = []; rw [hF]; rfl)⟩⟩
    · rw [List.length_set, List.length_append, HL.out]; simp [Ar.more]
    · rw [List.getElem?_eq_none (by rw [HL.out]; exact Nat.le_refl _)]; simp
    · rw [set_ne (by have := HLT.out j hj; omega), List.getElem?_append_left (HLT.out j hj)]
    · show (A.T ++ [true])[j]? = some true
      rw [List.getElem?_append_left (List.getElem?_eq_some_iff.1 hj).1]; exact hj
    · show (A.T ++ [true])[xs.length]? = some true
      rw [HL.out]; simp
    · have e2 := HK.out
      show (A.T ++ [true]).length - A.F.length = A.T.length - A.F.length + 1
      rw [e2]; simp

end Go.Proofs.YtcppgpjodfeigaaDoor

namespace Go.Proofs.YtcppgpjodfeigaaDoor
set_option linter.unusedVariables false
set_option linter.unusedSimpArgs false
open Go.RowKit

theorem Ar.Ok.live_len {a : Ar} (h : a.Ok) : a.T.length ≤ 268435456 := Nat.le_trans h.le h.max
theorem Head.arOk {w : World} {p : Nat} {C : Nat → Prop} {A : Ar} {xs : List Nd} {root vis : Int} (h : Head w p C A xs root vis) : A.Ok := by
  obtain ⟨ap, SA, _, hA, _, _⟩ := h.arena
  exact hA.ok

/-- A new node. -/
theorem tNode_any {w : World} {p : Nat} {C : Nat → Prop} {A : Ar} {xs : List Nd} {root vis : Int} (h : Head w p C A xs root vis) (hlen : xs.length = A.T.length) (hlive : A.live < A.M) (x y : Nd)
    (hfix : ∀ (w1 : World) (C1 : Nat → Prop) (A1 : Ar) (xs1 : List Nd) (k : Nat), Head w1 p C1 A1 xs1 root vis → HStep w w1 C C1 → xs1[k]? = some x → (∀ j : Nat, A.T[j]? = some true → xs1[j]? = xs[j]?) →
      Calls Tryd.prog 102 #[.pointer (some ⟨p, 0, none⟩), .int .i64 k] w1 fun e w' => e = .returned (.tuple #[]) ∧ Head w' p C1 A1 (xs1.set k y) root vis ∧ Chg (RowB w1 p) w1 w') :
    Calls Tryd.prog 98 #[.pointer (some ⟨p, 0, none⟩), .agg x.cells.toArray] w fun e w' => NodePost w w' p C A xs root vis y e := by
  cases hF : A.F.getLast? with
  | some k => exact tNode_pop h hlen hlive x y hF (fun w1 C1 xs1 a b c d => hfix w1 C1 _ xs1 k a b c d)
  | none => exact tNode_more h hlen hlive x y (List.getLast?_eq_none_iff.1 hF) h.arOk.live_len (fun w1 C1 xs1 a b c d => hfix w1 C1 _ xs1 xs.length a b c d)

/-- A new leaf. -/
theorem tLeaf_any {w : World} {p : Nat} {C : Nat → Prop} {A : Ar} {xs : List Nd} {root vis : Int} (h : Head w p C A xs root vis) (hlen : xs.length = A.T.length) (hlive : A.live < A.M) {q : Nat} {l : List Bool} (hq : IsBlock w q l) :
    Calls Tryd.prog 68 #[.pointer (some ⟨p, 0, none⟩), .pointer (some ⟨q, 0, none⟩)] w fun e w' => NodePost w w' p C A xs root vis (TT.leaf 0 q l).nd e := by
  have HN := Lib.hid (tNode_any h hlen hlive ⟨-1, -1, 0, 0, 0, 0, 0, some q⟩ (TT.leaf 0 q l).nd (fun w1 C1 A1 xs1 k h1 s1 hk _ => by
    have hq1 : IsBlock w1 q l := hq.chg s1.chg (h.notBlk hq.type)
    exact tFix_leaf h1 hk rfl hq1))
  clear h hlen hlive hq
  go_enter Tryd.func68, Tryd.ntmps68
  go_wp2_with fail
  refine HN.out.mono ?_
  rintro e w' hP
  obtain ⟨k, C', A', xs', rfl, rest⟩ := hP.ex
  have HR := Lib.hid rest
  clear rest hP
  go_wp2_with fail
  go_ret
  exact ⟨⟨k, C', A', xs', rfl, HR.out⟩⟩

/-- A new node above two. -/
theorem tPair_any {w : World} {p : Nat} {C : Nat → Prop} {A : Ar} {xs : List Nd} {root vis : Int} (h : Head w p C A xs root vis) (hlen : xs.length = A.T.length) (hlive : A.live < A.M) {a b : TT} (ha : Sub w xs a) (hb : Sub w xs b)
    (ta : ∀ j ∈ a.nums, A.T[j]? = some true) (tb : ∀ j ∈ b.nums, A.T[j]? = some true) (s1 : Small a.st) (s2 : Small b.st) :
    Calls Tryd.prog 93 #[.pointer (some ⟨p, 0, none⟩), .int .i64 a.num, .int .i64 b.num] w fun e w' => NodePost w w' p C A xs root vis (TT.pair 0 a b).nd e := by
  have HN := Lib.hid (tNode_any h hlen hlive ⟨a.num, b.num, 0, 0, 0, 0, 0, none⟩ (TT.pair 0 a b).nd (fun w1 C1 A1 xs1 k h1 g1 hk hkeep =>
    tFix_tt (k := k) h1 hk rfl rfl rfl (ha.chgC h g1.chg (fun j hj => hkeep j (ta j hj))) (hb.chgC h g1.chg (fun j hj => hkeep j (tb j hj))) s1 s2))
  obtain ⟨na, hna⟩ : ∃ na, a.num = na := ⟨_, rfl⟩
  obtain ⟨nb, hnb⟩ : ∃ nb, b.num = nb := ⟨_, rfl⟩
  have HP : Hid ((⟨a.num, b.num, 0, 0, 0, 0, 0, none⟩ : Nd) = ⟨na, nb, 0, 0, 0, 0, 0, none⟩) := by rw [hna, hnb]; rfl
  rw [HP.out] at HN
  rw [hna, hnb]
  clear h hlen hlive ha hb ta tb s1 s2 hna hnb HP
  go_enter Tryd.func93, Tryd.ntmps93
  go_wp2_with fail
  refine HN.out.mono ?_
  rintro e w' hP
  obtain ⟨k, C', A', xs', rfl, rest⟩ := hP.ex
  have HR := Lib.hid rest
  clear rest hP
  go_wp2_with fail
  go_ret
  exact ⟨⟨k, C', A', xs', rfl, HR.out⟩⟩

end Go.Proofs.YtcppgpjodfeigaaDoor

namespace Go.Proofs.YtcppgpjodfeigaaDoor
set_option linter.unusedVariables false
set_option linter.unusedSimpArgs false
open Go.RowKit

/-- A tree's numbers are taken, each once; so its blocks. -/
structure Own (A : Ar) (T : TT) : Prop where
  nn : T.nums.Nodup
  bn : T.bl.Nodup
  tk : ∀ j ∈ T.nums, A.T[j]? = some true
theorem Own.l {A : Ar} {k : Nat} {a b : TT} (h : Own A (.pair k a b)) : Own A a := by
  obtain ⟨_, _, h3, _, _⟩ := TT.dis h.nn
  have := h.bn
  simp only [TT.bl, List.nodup_append] at this
  exact ⟨h3, this.1, fun j hj => h.tk j (TT.mem_l hj)⟩
theorem Own.r {A : Ar} {k : Nat} {a b : TT} (h : Own A (.pair k a b)) : Own A b := by
  obtain ⟨_, _, _, h4, _⟩ := TT.dis h.nn
  have := h.bn
  simp only [TT.bl, List.nodup_append] at this
  exact ⟨h4, this.2.1, fun j hj => h.tk j (TT.mem_r hj)⟩

/-- What a change of a subtree leaves: it is another one; all that is neither its own nor new is as it was. -/
structure SubPost (w w' : World) (p : Nat) (C : Nat → Prop) (A : Ar) (xs : List Nd) (root vis : Int) (T T' : TT) (C' : Nat → Prop) (A' : Ar) (xs' : List Nd) (v' : Int) : Prop where
  head : Head w' p C' A' xs' root v'
  sub : Sub w' xs' T'
  own : Own A' T'
  len : xs'.length = A'.T.length
  newC : ∀ j, C' j → C j ∨ w.heap.size ≤ j
  newB : ∀ q ∈ T'.bl, q ∈ T.bl ∨ w.heap.size ≤ q
  keep : ∀ j : Nat, A.T[j]? = some true → j ∉ T.nums → xs'[j]? = xs[j]? ∧ A'.T[j]? = some true ∧ j ∉ T'.nums
  live : A'.live + T.st.size = A.live + T'.st.size
  max : A'.M = A.M
  vis : vis ≤ v' ∧ v' ≤ vis + 7 * T.st.high + 2
  chg : Chg (fun j => C j ∨ j ∈ T.bl) w w'
/-- What insert leaves. -/
def InsPost (w w' : World) (p : Nat) (C : Nat → Prop) (A : Ar) (xs : List Nd) (root vis : Int) (T : TT) (k : Nat) (b : Bool) (e : Ending) : Prop :=
  ∃ T' C' A' xs' v', e = .returned (.int .i64 T'.num) ∧ SubPost w w' p C A xs root vis T T' C' A' xs' v' ∧ T'.st = insT T.st k b

set_option maxHeartbeats 3200000 in
set_option maxRecDepth 100000 in
theorem tIns_leaf {w : World} {p : Nat} {C : Nat → Prop} {A : Ar} {xs : List Nd} {root vis : Int} (h : Head w p C A xs root vis) (hlen : xs.length = A.T.length) (hv0 : 0 ≤ vis) (hv : vis ≤ 100000000000) {kn q : Nat} {l : List Bool} (hS : Sub w xs (.leaf kn q l))
    (hO : Own A (.leaf kn q l)) (hl : l.length < 128) (k : Nat) (hk : k ≤ l.length) (b : Bool) :
    Calls Tryd.prog 69 #[.pointer (some ⟨p, 0, none⟩), .int .i64 kn, .int .i64 k, .bool b] w fun e w' => InsPost w w' p C A xs root vis (.leaf kn q l) k b e := by
  have hx := hS.root
  change xs[kn]? = some (TT.leaf kn q l).nd at hx
  obtain ⟨g, rc, cur, c1, hgp, _⟩ := h.row (by have := (List.getElem?_eq_some_iff.1 hx).1; omega)
  obtain ⟨_, _, hkx, _⟩ := h.node c1 hx
  obtain ⟨a0, a1, a2, a3, a4, a5, a6, a7⟩ := h.eight c1 hx
  obtain ⟨_, _, cv, fz⟩ := h.cells
  have f3 := fz 3
  have hp := h.lt p h.self
  have hg := World.block_lt_of_cell? w _ a0
  simp only [TT.nd, ptrN, Option.map_some] at a0 a1 a2 a3 a4 a5 a6 a7
  have hq := hS.2
  have hqC : ¬ C q := h.notBlk hq.type
  have HW : Hid (∀ v o, IsBlock ((w.setCell ⟨p, 3, none⟩ v).alloc o) q l) := fun v o => hq.chg ((Chg.refl.setCell ⟨p, 3, none⟩ (Or.inl h.self) v).alloc o) hqC
  have HH3 : Hid (∀ o, Head ((w.setCell ⟨p, 3, none⟩ (.int .i64 (vis + 1))).alloc o) p C A xs root (vis + 1)) := fun o => (h.set3 (vis + 1)).below (below_alloc _ _)
  have HG : Hid (∀ o, Chg C w ((w.setCell ⟨p, 3, none⟩ (.int .i64 (vis + 1))).alloc o)) := fun o => (h.chg3 _ 3).alloc o
  have d1 : ((l.length : Int) == 128) = false := by rw [beq_eq_false_iff_ne]; omega
  have HX := Lib.hid hx
  have HQC := Lib.hid hqC
  have HO := Lib.hid hO
  have HL := Lib.hid hlen
  clear h fz hx hS hq hqC hO hlen
  go_enter Tryd.func69, Tryd.ntmps69
  go_wp2_with fail
  refine (blkLen (HW.out _ _)).mono ?_
  rintro e w2 ⟨rfl, rfl⟩
  go_wp2_with fail
  refine (blkInsert (HW.out _ _) hl k hk b).mono ?_
  rintro e w3 ⟨rfl, hb3, c3⟩
  have h3 := (HH3.out _).chg c3 (fun j hj e => HQC.out (e ▸ hj))
  have g3 : Chg (fun j => C j ∨ j ∈ (TT.leaf kn q l).bl) w w3 := ((HG.out _).mono (fun j hj => Or.inl hj)).trans c3 (fun j e => Or.inl (Or.inr (by simp [TT.bl, e])))
  have HF := Lib.hid (tFix_leaf h3 HX.out rfl hb3)
  have H3 := Lib.hid h3
  have G3 := Lib.hid g3
  have HB3 := Lib.hid hb3
  clear h3 g3 hb3 c3
  go_wp2_with fail
  refine HF.out.mono ?_
  rintro e w4 ⟨rfl, h4, g4⟩
  have H4 := Lib.hid h4
  have G4 := Lib.hid g4
  clear h4 g4
  go_wp2_with fail
  go_ret
  refine ⟨.leaf kn q (inL l k b), C, A, _, _, rfl, ⟨H4.out, ⟨set_get HX.out, ?_⟩, ⟨HO.out.nn, HO.out.bn, HO.out.tk⟩, ?_, fun j hj => Or.inl hj, fun j hj => Or.inl hj, fun j h1 h2 => ⟨?_, h1, h2⟩, rfl, rfl, ?_, ?_⟩, ?_⟩
  · exact HB3.out.chg (H3.out.chgRow G4.out) (H3.out.notBlk HB3.out.type)
  · rw [List.length_set]; exact HL.out
  · exact set_ne (by rintro rfl; exact h2 (by simp [TT.nums]))
  · exact ⟨by omega, by simp only [TT.st, ST.high]; omega⟩
  · exact G3.out.trans (H3.out.chgRow G4.out) (fun j hj => Or.inl (Or.inl hj))
  · simp only [TT.st, insT]; rw [if_neg (by omega)]

end Go.Proofs.YtcppgpjodfeigaaDoor

namespace Go.Proofs.YtcppgpjodfeigaaDoor
set_option linter.unusedVariables false
set_option linter.unusedSimpArgs false
open Go.RowKit

set_option maxHeartbeats 3200000 in
set_option maxRecDepth 100000 in
theorem tIns_split {w : World} {p : Nat} {C : Nat → Prop} {A : Ar} {xs : List Nd} {root vis : Int} (h : Head w p C A xs root vis) (hlen : xs.length = A.T.length) (hv0 : 0 ≤ vis) (hv : vis ≤ 100000000000) {kn q : Nat} {l : List Bool} (hS : Sub w xs (.leaf kn q l))
    (hO : Own A (.leaf kn q l)) (hl : l.length = 128) (hlv : A.live + 2 ≤ A.M) (k : Nat) (hk : k ≤ 128) (b : Bool) :
    Calls Tryd.prog 69 #[.pointer (some ⟨p, 0, none⟩), .int .i64 kn, .int .i64 k, .bool b] w fun e w' => InsPost w w' p C A xs root vis (.leaf kn q l) k b e := by
  have hx := hS.root
  change xs[kn]? = some (TT.leaf kn q l).nd at hx
  obtain ⟨g, rc, cur, c1, hgp, _⟩ := h.row (by have := (List.getElem?_eq_some_iff.1 hx).1; omega)
  obtain ⟨_, _, hkx, _⟩ := h.node c1 hx
  obtain ⟨a0, a1, a2, a3, a4, a5, a6, a7⟩ := h.eight c1 hx
  obtain ⟨_, _, cv, fz⟩ := h.cells
  have f3 := fz 3
  have hp := h.lt p h.self
  have hg := World.block_lt_of_cell? w _ a0
  simp only [TT.nd, ptrN, Option.map_some] at a0 a1 a2 a3 a4 a5 a6 a7
  have hq := hS.2
  have hqC : ¬ C q := h.notBlk hq.type
  have HW : Hid (∀ v o, IsBlock ((w.setCell ⟨p, 3, none⟩ v).alloc o) q l) := fun v o => hq.chg ((Chg.refl.setCell ⟨p, 3, none⟩ (Or.inl h.self) v).alloc o) hqC
  have HH3 : Hid (∀ o, Head ((w.setCell ⟨p, 3, none⟩ (.int .i64 (vis + 1))).alloc o) p C A xs root (vis + 1)) := fun o => (h.set3 (vis + 1)).below (below_alloc _ _)
  have HG : Hid (∀ o, Chg C w ((w.setCell ⟨p, 3, none⟩ (.int .i64 (vis + 1))).alloc o)) := fun o => (h.chg3 _ 3).alloc o
  have d1 : ((l.length : Int) == 128) = true := by rw [beq_iff_eq]; omega
  have HX := Lib.hid hx
  have HQC := Lib.hid hqC
  have HO := Lib.hid hO
  have HL := Lib.hid hlen
  have HLV := Lib.hid hlv
  have HQL := Lib.hid hq.lt
  have hBq : ¬ w.heap.size = q := by have := hq.lt; omega
  clear h fz hx hS hq hqC hO hlen hlv
  go_enter Tryd.func69, Tryd.ntmps69
  go_wp2_with fail
  refine (blkLen (HW.out _ _)).mono ?_
  rintro e w2 ⟨rfl, rfl⟩
  go_wp2_with fail
  refine (blkSplit (HW.out _ _)).mono ?_
  rintro e w3 ⟨q2, rfl, hq2, hhi, hlo, c3⟩
  rw [hl] at hhi hlo
  have x7 : w3.cell? ⟨w.heap.size, 7, none⟩ = some (.pointer (some ⟨q, 0, none⟩)) := c3.cell (p := ⟨w.heap.size, 7, none⟩) (by go_simp) hBq
  have h3 := (HH3.out _).chg c3 (fun j hj e => HQC.out (e ▸ hj))
  have g3 : Chg (fun j => C j ∨ j ∈ (TT.leaf kn q l).bl) w w3 := ((HG.out _).mono (fun j hj => Or.inl hj)).trans c3 (fun j e => Or.inl (Or.inr (by simp [TT.bl, e])))
  have hq2' : w.heap.size ≤ q2 := by simp at hq2; omega
  have HQ2 := Lib.hid hq2'
  have HNE : Hid (q ≠ q2) := by have := HQL.out; show q ≠ q2; omega
  have H3 := Lib.hid h3
  have G3 := Lib.hid g3
  have hl1 : (l.take (128 / 2)).length = 64 := by rw [List.length_take]; omega
  have hl2 : (l.drop (128 / 2)).length = 64 := by rw [List.length_drop]; omega
  obtain ⟨lo, hlo1⟩ : ∃ lo, lo = l.take (128 / 2) := ⟨_, rfl⟩
  obtain ⟨hi, hhi1⟩ : ∃ hi, hi = l.drop (128 / 2) := ⟨_, rfl⟩
  rw [← hlo1] at hlo hl1
  rw [← hhi1] at hhi hl2
  have HTK : Hid (lo = l.take 64 ∧ hi = l.drop 64) := ⟨hlo1, hhi1⟩
  clear hlo1 hhi1
  have HB1 := Lib.hid hlo
  have HB2 := Lib.hid hhi
  obtain ⟨v1, hv1⟩ : ∃ v1, v1 = vis + 1 := ⟨_, rfl⟩
  have HV1 := Lib.hid hv1
  rw [← hv1] at H3
  have hv10 : 0 ≤ v1 ∧ v1 ≤ 200000000000 := by omega
  obtain ⟨hv10, hv11⟩ := hv10
  clear h3 g3 hlo hhi c3 hq2 hq2' HH3 HG HW a0 a1 a2 a3 a4 a5 a6 a7 c1 hv1 d1
  go_wp2_with fail
  refine (blkLen HB1.out).mono ?_
  rintro e w4 ⟨rfl, rfl⟩
  rw [hl1]
  by_cases hkn : 64 < k
  · have d2 : decide ((64 : Int) < (k : Int)) = true := decide_eq_true (by omega)
    have d2' : decide (64 < k) = true := decide_eq_true (by omega)
    obtain ⟨k', hk'⟩ : ∃ k', k = 64 + k' := ⟨k - 64, by omega⟩
    have HKK := Lib.hid hk'
    subst hk'
    go_wp2_with fail
    rw [show (64 + (k' : Int) - 64) = (k' : Int) by omega]
    refine (blkInsert HB2.out (by omega) k' (by omega) b).mono ?_
    rintro e w4 ⟨rfl, hhi, c4'⟩
    have hlo := HB1.out.chg c4' (fun e => HNE.out e)
    have c4 : Chg (fun j => j = q ∨ j = q2) w3 w4 := c4'.mono (fun j e => Or.inr e)
    clear c4'
    have h4 := H3.out.chg c4 (fun j hj e => e.elim (fun e => HQC.out (e ▸ hj)) (fun e => H3.out.notBlk HB2.out.type (e ▸ hj)))
    have HF := Lib.hid (tFix_leaf h4 HX.out rfl hlo)
    have H4 := Lib.hid h4
    have G4 := Lib.hid c4
    have HLO := Lib.hid hlo
    have HHI := Lib.hid hhi
    clear h4 c4 hlo hhi x7
    go_wp2_with fail
    refine HF.out.mono ?_
    rintro e w5 ⟨rfl, h5, g5⟩
    change Head w5 p C A (xs.set kn (TT.leaf kn q lo).nd) root v1 at h5
    have g5C := H4.out.chgRow g5
    have lo5 := HLO.out.chg g5C (H4.out.notBlk HLO.out.type)
    have hi5 := HHI.out.chg g5C (H4.out.notBlk HHI.out.type)
    have xk5 : (xs.set kn (TT.leaf kn q lo).nd)[kn]? = some (TT.leaf kn q lo).nd := set_get HX.out
    have kp5 : ∀ j : Nat, j ≠ kn → (xs.set kn (TT.leaf kn q lo).nd)[j]? = xs[j]? := fun j hj => set_ne hj
    have ln5 : (xs.set kn (TT.leaf kn q lo).nd).length = A.T.length := by rw [List.length_set]; exact HL.out
    generalize xs.set kn (TT.leaf kn q lo).nd = xs5 at *
    obtain ⟨_, _, cv5, fz5⟩ := h5.cells
    have f35 := fz5 3
    have h6 := h5.set3 (v1 + 1)
    have g6 := h5.chg3 (.int .i64 (v1 + 1)) 3
    have lo6 := lo5.chg g6 (h5.notBlk lo5.type)
    have hi6 := hi5.chg g6 (h5.notBlk hi5.type)
    have HLF := Lib.hid (tLeaf_any h6 ln5 (by have := HLV.out; omega) hi6)
    have H6 := Lib.hid h6
    have G6 := Lib.hid (g5C.trans g6 (fun j hj => Or.inl hj))
    have LO6 := Lib.hid lo6
    have HI6 := Lib.hid hi6
    have XK5 := Lib.hid xk5
    have KP5 := Lib.hid kp5
    clear fz5 h5 g5 g5C lo5 hi5 xk5 kp5 ln5 h6 g6 lo6 hi6
    go_wp2_with fail
    refine HLF.out.mono ?_
    rintro e w7 hP
    obtain ⟨k2, C7, A7, xs7, rfl, h7, s7, l7, x7, n7, kp7, t7, lv7, m7, _⟩ := hP.ex
    have tkn := HO.out.tk kn (by simp [TT.nums])
    have sa : Sub w7 xs7 (.leaf kn q lo) := ⟨(kp7 kn tkn).1.trans XK5.out, LO6.out.chg s7.chg (H6.out.notBlk LO6.out.type)⟩
    have sb : Sub w7 xs7 (.leaf k2 q2 (inL hi k' b)) := ⟨x7, HI6.out.chg s7.chg (H6.out.notBlk HI6.out.type)⟩
    have ta : ∀ j ∈ (TT.leaf kn q lo).nums, A7.T[j]? = some true := by
      intro j hj; simp [TT.nums] at hj; subst hj; exact (kp7 _ tkn).2
    have tb : ∀ j ∈ (TT.leaf k2 q2 (inL hi k' b)).nums, A7.T[j]? = some true := by
      intro j hj; simp [TT.nums] at hj; subst hj; exact t7
    have HPA := Lib.hid (tPair_any h7 l7 (by have := HLV.out; omega) sa sb ta tb ⟨by have := LO6.out.1; simp only [TT.st, ST.bits]; omega, by simp [TT.st, ST.high]⟩ ⟨by have := HI6.out.1; simp only [TT.st, ST.bits]; omega, by simp [TT.st, ST.high]⟩)
    have H7 := Lib.hid h7
    have S7 := Lib.hid s7
    have SA := Lib.hid sa
    have SB := Lib.hid sb
    have N7 := Lib.hid n7
    have KP7 := Lib.hid kp7
    have T7 : Hid (A7.T[kn]? = some true ∧ A7.T[k2]? = some true) := ⟨(kp7 _ tkn).2, t7⟩
    have LV7 := Lib.hid lv7
    have M7 := Lib.hid m7
    have TKN := Lib.hid tkn
    clear hP h7 s7 l7 x7 n7 kp7 t7 lv7 m7 tkn sa sb ta tb
    go_wp2_with fail
    refine HPA.out.mono ?_
    rintro e w8 hP
    obtain ⟨k3, C8, A8, xs8, rfl, h8, s8, l8, x8, n8, kp8, t8, lv8, m8, _⟩ := hP.ex
    have H8 := Lib.hid h8
    have S8 := Lib.hid s8
    have L8 := Lib.hid l8
    have X8 := Lib.hid x8
    have N8 := Lib.hid n8
    have KP8 := Lib.hid kp8
    have T8 := Lib.hid t8
    have LV8 := Lib.hid lv8
    have M8 := Lib.hid m8
    clear hP h8 s8 l8 x8 n8 kp8 t8 lv8 m8
    go_wp2_with fail
    go_ret
    have hne : q ≠ q2 := HNE.out
    have e1 : kn ≠ k2 := by rintro rfl; exact N7.out TKN.out
    have e2 : k3 ≠ kn := by rintro rfl; exact N8.out T7.out.1
    have e3 : k3 ≠ k2 := by rintro rfl; exact N8.out T7.out.2
    have gall : Chg (fun j => C j ∨ j ∈ (TT.leaf kn q l).bl) w w7 := ((G3.out.trans G4.out (fun j e => by
      rcases e with e | e
      · exact Or.inl (Or.inr (by simp [TT.bl, e]))
      · subst e; exact Or.inr HQ2.out)).trans G6.out (fun j hj => Or.inl (Or.inl hj))).trans S7.out.chg (fun j hj => Or.inl (Or.inl hj))
    have hs3 := G3.out.size
    have hs4 := G4.out.size
    have hs6 := G6.out.size
    have hs7 := S7.out.chg.size
    refine ⟨.pair k3 (.leaf kn q lo) (.leaf k2 q2 (inL hi k' b)), C8, A8, xs8, _, rfl, ⟨H8.out, ⟨X8.out, ?_, ?_⟩, ⟨?_, ?_, ?_⟩, L8.out, fun j hj => ?_, fun j hj => ?_, fun j h1 h2 => ?_, ?_, ?_, ?_, ?_⟩, ?_⟩
    · exact SA.out.chgC H7.out S8.out.chg (fun j hj => by simp [TT.nums] at hj; subst hj; exact (KP8.out _ T7.out.1).1)
    · exact SB.out.chgC H7.out S8.out.chg (fun j hj => by simp [TT.nums] at hj; subst hj; exact (KP8.out _ T7.out.2).1)
    · simp [TT.nums, e1, e2, e3]
    · simp [TT.bl, hne]
    · intro j hj
      simp [TT.nums] at hj
      rcases hj with rfl | rfl | rfl
      · exact T8.out
      · exact (KP8.out _ T7.out.1).2
      · exact (KP8.out _ T7.out.2).2
    · rcases S8.out.new j hj with h | h
      · rcases S7.out.new j h with h | h
        · exact Or.inl h
        · right; omega
      · right; omega
    · simp [TT.bl] at hj
      rcases hj with rfl | rfl
      · exact Or.inl (by simp [TT.bl])
      · exact Or.inr HQ2.out
    · have hjn : j ≠ kn := by rintro rfl; exact h2 (by simp [TT.nums])
      have k7 := KP7.out j h1
      have k8 := KP8.out j k7.2
      refine ⟨k8.1.trans (k7.1.trans (KP5.out j hjn)), k8.2, ?_⟩
      simp only [TT.nums, List.mem_cons, List.cons_append, List.nil_append, List.not_mem_nil, or_false]
      rintro (rfl | rfl | rfl)
      · exact N8.out k7.2
      · exact hjn rfl
      · exact N7.out h1
    · have := LV7.out; have := LV8.out; simp only [TT.st, ST.size]; omega
    · exact M8.out.trans M7.out
    · have := HV1.out; exact ⟨by omega, by simp only [TT.st, ST.high]; omega⟩
    · exact gall.trans S8.out.chg (fun j hj => (S7.out.new j hj).elim (fun h => Or.inl (Or.inl h)) (fun h => Or.inr (by omega)))
    · simp only [TT.st, insT]; rw [if_pos hl, if_pos (by omega), HTK.out.1, HTK.out.2, Nat.add_sub_cancel_left]
  · have d2 : decide ((64 : Int) < (k : Int)) = false := decide_eq_false (by omega)
    have d2' : decide (64 < k) = false := decide_eq_false (by omega)
    go_wp2_with fail
    refine (blkInsert HB1.out (by omega) k (by omega) b).mono ?_
    rintro e w4 ⟨rfl, hlo, c4'⟩
    have hhi := HB2.out.chg c4' (fun e => HNE.out e.symm)
    have c4 : Chg (fun j => j = q ∨ j = q2) w3 w4 := c4'.mono (fun j e => Or.inl e)
    clear c4'
    have h4 := H3.out.chg c4 (fun j hj e => e.elim (fun e => HQC.out (e ▸ hj)) (fun e => H3.out.notBlk HB2.out.type (e ▸ hj)))
    have HF := Lib.hid (tFix_leaf h4 HX.out rfl hlo)
    have H4 := Lib.hid h4
    have G4 := Lib.hid c4
    have HLO := Lib.hid hlo
    have HHI := Lib.hid hhi
    clear h4 c4 hlo hhi x7
    go_wp2_with fail
    refine HF.out.mono ?_
    rintro e w5 ⟨rfl, h5, g5⟩
    change Head w5 p C A (xs.set kn (TT.leaf kn q (inL lo k b)).nd) root v1 at h5
    have g5C := H4.out.chgRow g5
    have lo5 := HLO.out.chg g5C (H4.out.notBlk HLO.out.type)
    have hi5 := HHI.out.chg g5C (H4.out.notBlk HHI.out.type)
    have xk5 : (xs.set kn (TT.leaf kn q (inL lo k b)).nd)[kn]? = some (TT.leaf kn q (inL lo k b)).nd := set_get HX.out
    have kp5 : ∀ j : Nat, j ≠ kn → (xs.set kn (TT.leaf kn q (inL lo k b)).nd)[j]? = xs[j]? := fun j hj => set_ne hj
    have ln5 : (xs.set kn (TT.leaf kn q (inL lo k b)).nd).length = A.T.length := by rw [List.length_set]; exact HL.out
    generalize xs.set kn (TT.leaf kn q (inL lo k b)).nd = xs5 at *
    obtain ⟨_, _, cv5, fz5⟩ := h5.cells
    have f35 := fz5 3
    have h6 := h5.set3 (v1 + 1)
    have g6 := h5.chg3 (.int .i64 (v1 + 1)) 3
    have lo6 := lo5.chg g6 (h5.notBlk lo5.type)
    have hi6 := hi5.chg g6 (h5.notBlk hi5.type)
    have HLF := Lib.hid (tLeaf_any h6 ln5 (by have := HLV.out; omega) hi6)
    have H6 := Lib.hid h6
    have G6 := Lib.hid (g5C.trans g6 (fun j hj => Or.inl hj))
    have LO6 := Lib.hid lo6
    have HI6 := Lib.hid hi6
    have XK5 := Lib.hid xk5
    have KP5 := Lib.hid kp5
    clear fz5 h5 g5 g5C lo5 hi5 xk5 kp5 ln5 h6 g6 lo6 hi6
    go_wp2_with fail
    refine HLF.out.mono ?_
    rintro e w7 hP
    obtain ⟨k2, C7, A7, xs7, rfl, h7, s7, l7, x7, n7, kp7, t7, lv7, m7, _⟩ := hP.ex
    have tkn := HO.out.tk kn (by simp [TT.nums])
    have sa : Sub w7 xs7 (.leaf kn q (inL lo k b)) := ⟨(kp7 kn tkn).1.trans XK5.out, LO6.out.chg s7.chg (H6.out.notBlk LO6.out.type)⟩
    have sb : Sub w7 xs7 (.leaf k2 q2 hi) := ⟨x7, HI6.out.chg s7.chg (H6.out.notBlk HI6.out.type)⟩
    have ta : ∀ j ∈ (TT.leaf kn q (inL lo k b)).nums, A7.T[j]? = some true := by
      intro j hj; simp [TT.nums] at hj; subst hj; exact (kp7 _ tkn).2
    have tb : ∀ j ∈ (TT.leaf k2 q2 hi).nums, A7.T[j]? = some true := by
      intro j hj; simp [TT.nums] at hj; subst hj; exact t7
    have HPA := Lib.hid (tPair_any h7 l7 (by have := HLV.out; omega) sa sb ta tb ⟨by have := LO6.out.1; simp only [TT.st, ST.bits]; omega, by simp [TT.st, ST.high]⟩ ⟨by have := HI6.out.1; simp only [TT.st, ST.bits]; omega, by simp [TT.st, ST.high]⟩)
    have H7 := Lib.hid h7
    have S7 := Lib.hid s7
    have SA := Lib.hid sa
    have SB := Lib.hid sb
    have N7 := Lib.hid n7
    have KP7 := Lib.hid kp7
    have T7 : Hid (A7.T[kn]? = some true ∧ A7.T[k2]? = some true) := ⟨(kp7 _ tkn).2, t7⟩
    have LV7 := Lib.hid lv7
    have M7 := Lib.hid m7
    have TKN := Lib.hid tkn
    clear hP h7 s7 l7 x7 n7 kp7 t7 lv7 m7 tkn sa sb ta tb
    go_wp2_with fail
    refine HPA.out.mono ?_
    rintro e w8 hP
    obtain ⟨k3, C8, A8, xs8, rfl, h8, s8, l8, x8, n8, kp8, t8, lv8, m8, _⟩ := hP.ex
    have H8 := Lib.hid h8
    have S8 := Lib.hid s8
    have L8 := Lib.hid l8
    have X8 := Lib.hid x8
    have N8 := Lib.hid n8
    have KP8 := Lib.hid kp8
    have T8 := Lib.hid t8
    have LV8 := Lib.hid lv8
    have M8 := Lib.hid m8
    clear hP h8 s8 l8 x8 n8 kp8 t8 lv8 m8
    go_wp2_with fail
    go_ret
    have hne : q ≠ q2 := HNE.out
    have e1 : kn ≠ k2 := by rintro rfl; exact N7.out TKN.out
    have e2 : k3 ≠ kn := by rintro rfl; exact N8.out T7.out.1
    have e3 : k3 ≠ k2 := by rintro rfl; exact N8.out T7.out.2
    have gall : Chg (fun j => C j ∨ j ∈ (TT.leaf kn q l).bl) w w7 := ((G3.out.trans G4.out (fun j e => by
      rcases e with e | e
      · exact Or.inl (Or.inr (by simp [TT.bl, e]))
      · subst e; exact Or.inr HQ2.out)).trans G6.out (fun j hj => Or.inl (Or.inl hj))).trans S7.out.chg (fun j hj => Or.inl (Or.inl hj))
    have hs3 := G3.out.size
    have hs4 := G4.out.size
    have hs6 := G6.out.size
    have hs7 := S7.out.chg.size
    refine ⟨.pair k3 (.leaf kn q (inL lo k b)) (.leaf k2 q2 hi), C8, A8, xs8, _, rfl, ⟨H8.out, ⟨X8.out, ?_, ?_⟩, ⟨?_, ?_, ?_⟩, L8.out, fun j hj => ?_, fun j hj => ?_, fun j h1 h2 => ?_, ?_, ?_, ?_, ?_⟩, ?_⟩
    · exact SA.out.chgC H7.out S8.out.chg (fun j hj => by simp [TT.nums] at hj; subst hj; exact (KP8.out _ T7.out.1).1)
    · exact SB.out.chgC H7.out S8.out.chg (fun j hj => by simp [TT.nums] at hj; subst hj; exact (KP8.out _ T7.out.2).1)
    · simp [TT.nums, e1, e2, e3]
    · simp [TT.bl, hne]
    · intro j hj
      simp [TT.nums] at hj
      rcases hj with rfl | rfl | rfl
      · exact T8.out
      · exact (KP8.out _ T7.out.1).2
      · exact (KP8.out _ T7.out.2).2
    · rcases S8.out.new j hj with h | h
      · rcases S7.out.new j h with h | h
        · exact Or.inl h
        · right; omega
      · right; omega
    · simp [TT.bl] at hj
      rcases hj with rfl | rfl
      · exact Or.inl (by simp [TT.bl])
      · exact Or.inr HQ2.out
    · have hjn : j ≠ kn := by rintro rfl; exact h2 (by simp [TT.nums])
      have k7 := KP7.out j h1
      have k8 := KP8.out j k7.2
      refine ⟨k8.1.trans (k7.1.trans (KP5.out j hjn)), k8.2, ?_⟩
      simp only [TT.nums, List.mem_cons, List.cons_append, List.nil_append, List.not_mem_nil, or_false]
      rintro (rfl | rfl | rfl)
      · exact N8.out k7.2
      · exact hjn rfl
      · exact N7.out h1
    · have := LV7.out; have := LV8.out; simp only [TT.st, ST.size]; omega
    · exact M8.out.trans M7.out
    · have := HV1.out; exact ⟨by omega, by simp only [TT.st, ST.high]; omega⟩
    · exact gall.trans S8.out.chg (fun j hj => (S7.out.new j hj).elim (fun h => Or.inl (Or.inl h)) (fun h => Or.inr (by omega)))
    · simp only [TT.st, insT]; rw [if_pos hl, if_neg (by omega), HTK.out.1, HTK.out.2]

end Go.Proofs.YtcppgpjodfeigaaDoor

namespace Go.Proofs.YtcppgpjodfeigaaDoor
set_option linter.unusedVariables false
set_option linter.unusedSimpArgs false
open Go.RowKit

/-- What a change of a subtree leaves, but for its nodes. -/
structure SubPre (w w' : World) (C : Nat → Prop) (A : Ar) (xs : List Nd) (T T' : TT) (C' : Nat → Prop) (A' : Ar) (xs' : List Nd) : Prop where
  own : Own A' T'
  len : xs'.length = A'.T.length
  newC : ∀ j, C' j → C j ∨ w.heap.size ≤ j
  newB : ∀ q ∈ T'.bl, q ∈ T.bl ∨ w.heap.size ≤ q
  keep : ∀ j : Nat, A.T[j]? = some true → j ∉ T.nums → xs'[j]? = xs[j]? ∧ A'.T[j]? = some true ∧ j ∉ T'.nums
  live : A'.live + T.st.size = A.live + T'.st.size
  max : A'.M = A.M
  chg : Chg (fun j => C j ∨ j ∈ T.bl) w w'

section
variable {w w1 w2 w3 w' : World} {p : Nat} {C C' C3 : Nat → Prop} {A A' A3 : Ar} {xs xs' xs3 : List Nd} {root vis v' : Int} {T T' T1 T2 a c : TT} {kn : Nat}

theorem SubPost.pre (h : SubPost w w' p C A xs root vis T T' C' A' xs' v') : SubPre w w' C A xs T T' C' A' xs' := ⟨h.own, h.len, h.newC, h.newB, h.keep, h.live, h.max, h.chg⟩
theorem SubPost.of (h1 : Head w' p C' A' xs' root v') (h2 : Sub w' xs' T') (h : SubPre w w' C A xs T T' C' A' xs') (h3 : vis ≤ v' ∧ v' ≤ vis + 7 * T.st.high + 2) : SubPost w w' p C A xs root vis T T' C' A' xs' v' :=
  ⟨h1, h2, h.own, h.len, h.newC, h.newB, h.keep, h.live, h.max, h3, h.chg⟩

theorem SubPre.first (h0 : Chg C w w1) (h : SubPre w1 w' C A xs T T' C' A' xs') : SubPre w w' C A xs T T' C' A' xs' :=
  ⟨h.own, h.len, fun j hj => (h.newC j hj).imp id (fun h => Nat.le_trans h0.size h), fun q hq => (h.newB q hq).imp id (fun h => Nat.le_trans h0.size h), h.keep, h.live, h.max,
    (h0.mono (fun j hj => Or.inl hj)).trans h.chg (fun j hj => Or.inl hj)⟩

/-- A step that changes the nodes of the new subtree alone. -/
theorem SubPre.next (h : SubPre w w3 C A xs T T1 C3 A3 xs3) (hc : Chg C3 w3 w') (hk : ∀ j, j ∉ T1.nums → xs'[j]? = xs3[j]?) (hl : xs'.length = xs3.length) (hn : T2.nums.Perm T1.nums) (hb : T2.bl = T1.bl) (hs : T2.st.size = T1.st.size) :
    SubPre w w' C A xs T T2 C3 A3 xs' :=
  ⟨⟨hn.nodup_iff.2 h.own.nn, by rw [hb]; exact h.own.bn, fun j hj => h.own.tk j (hn.mem_iff.1 hj)⟩, hl.trans h.len, h.newC, by rw [hb]; exact h.newB, fun j h1 h2 => by
    obtain ⟨e1, e2, e3⟩ := h.keep j h1 h2
    exact ⟨(hk j e3).trans e1, e2, fun hj => e3 (hn.mem_iff.1 hj)⟩, by rw [hs]; exact h.live, h.max,
    h.chg.trans hc (fun j hj => (h.newC j hj).imp Or.inl id)⟩

/-- The left child has changed. -/
theorem SubPre.left (hO : Own A (.pair kn a c)) (h : SubPre w w3 C A xs a T' C3 A3 xs3) (hH : Head w p C A xs root vis) (hc : Sub w xs c) :
    SubPre w w3 C A xs (.pair kn a c) (.pair kn T' c) C3 A3 xs3 ∧ Sub w3 xs3 c ∧ xs3[kn]? = xs[kn]? := by
  obtain ⟨n1, n2, n3, n4, n5⟩ := TT.dis hO.nn
  have hbn := hO.bn
  simp only [TT.bl, List.nodup_append] at hbn
  obtain ⟨b1, b2, b3⟩ := hbn
  have tk := hO.tk kn TT.mem_k
  obtain ⟨k1, k2, k3⟩ := h.keep kn tk n1
  have kc : ∀ j ∈ c.nums, xs3[j]? = xs[j]? ∧ A3.T[j]? = some true ∧ j ∉ T'.nums := fun j hj => h.keep j (hO.tk j (TT.mem_r hj)) (fun e => n5 j e hj)
  have bc : ∀ q ∈ c.bl, q < w.heap.size := fun q hq => (hc.type hq).lt
  refine ⟨⟨⟨?_, ?_, fun j hj => ?_⟩, h.len, h.newC, fun q hq => ?_, fun j h1 h2 => ?_, ?_, h.max, h.chg.mono (fun j hj => hj.imp id (fun h => by simp [TT.bl, h]))⟩, ?_, k1⟩
  · simp only [TT.nums, List.nodup_cons, List.mem_append, not_or, List.nodup_append]
    exact ⟨⟨k3, n2⟩, h.own.nn, n4, fun x hx y hy e => by subst e; exact (kc x hy).2.2 hx⟩
  · simp only [TT.bl, List.nodup_append]
    refine ⟨h.own.bn, b2, fun x hx y hy e => ?_⟩
    subst e
    rcases h.newB x hx with e | e
    · exact b3 x e x hy rfl
    · have := bc x hy; omega
  · simp only [TT.nums, List.mem_cons, List.mem_append] at hj
    rcases hj with rfl | hj | hj
    · exact k2
    · exact h.own.tk j hj
    · exact (kc j hj).2.1
  · simp only [TT.bl, List.mem_append] at hq ⊢
    rcases hq with hq | hq
    · exact (h.newB q hq).imp Or.inl id
    · exact Or.inl (Or.inr hq)
  · have h2' : j ≠ kn ∧ j ∉ a.nums ∧ j ∉ c.nums := by
      simp only [TT.nums, List.mem_cons, List.mem_append, not_or] at h2; exact h2
    obtain ⟨e1, e2, e3⟩ := h.keep j h1 h2'.2.1
    refine ⟨e1, e2, ?_⟩
    simp only [TT.nums, List.mem_cons, List.mem_append, not_or]
    exact ⟨h2'.1, e3, h2'.2.2⟩
  · have := h.live; simp only [TT.st, ST.size]; omega
  · exact hc.keep (fun j hj => (kc j hj).1) (fun q hq => h.chg.block q (bc q hq) (fun hs => hs.elim (hH.notBlk (hc.type hq)) (fun e => b3 q e q hq rfl)))

/-- The right child has changed. -/
theorem SubPre.right (hO : Own A (.pair kn a c)) (h : SubPre w w3 C A xs c T' C3 A3 xs3) (hH : Head w p C A xs root vis) (ha : Sub w xs a) :
    SubPre w w3 C A xs (.pair kn a c) (.pair kn a T') C3 A3 xs3 ∧ Sub w3 xs3 a ∧ xs3[kn]? = xs[kn]? := by
  obtain ⟨n1, n2, n3, n4, n5⟩ := TT.dis hO.nn
  have hbn := hO.bn
  simp only [TT.bl, List.nodup_append] at hbn
  obtain ⟨b1, b2, b3⟩ := hbn
  have tk := hO.tk kn TT.mem_k
  obtain ⟨k1, k2, k3⟩ := h.keep kn tk n2
  have kc : ∀ j ∈ a.nums, xs3[j]? = xs[j]? ∧ A3.T[j]? = some true ∧ j ∉ T'.nums := fun j hj => h.keep j (hO.tk j (TT.mem_l hj)) (fun e => n5 j hj e)
  have bc : ∀ q ∈ a.bl, q < w.heap.size := fun q hq => (ha.type hq).lt
  refine ⟨⟨⟨?_, ?_, fun j hj => ?_⟩, h.len, h.newC, fun q hq => ?_, fun j h1 h2 => ?_, ?_, h.max, h.chg.mono (fun j hj => hj.imp id (fun h => by simp [TT.bl, h]))⟩, ?_, k1⟩
  · simp only [TT.nums, List.nodup_cons, List.mem_append, not_or, List.nodup_append]
    exact ⟨⟨n1, k3⟩, n3, h.own.nn, fun x hx y hy e => by subst e; exact (kc x hx).2.2 hy⟩
  · simp only [TT.bl, List.nodup_append]
    refine ⟨b1, h.own.bn, fun x hx y hy e => ?_⟩
    subst e
    rcases h.newB x hy with e | e
    · exact b3 x hx x e rfl
    · have := bc x hx; omega
  · simp only [TT.nums, List.mem_cons, List.mem_append] at hj
    rcases hj with rfl | hj | hj
    · exact k2
    · exact (kc j hj).2.1
    · exact h.own.tk j hj
  · simp only [TT.bl, List.mem_append] at hq ⊢
    rcases hq with hq | hq
    · exact Or.inl (Or.inl hq)
    · exact (h.newB q hq).imp Or.inr id
  · have h2' : j ≠ kn ∧ j ∉ a.nums ∧ j ∉ c.nums := by
      simp only [TT.nums, List.mem_cons, List.mem_append, not_or] at h2; exact h2
    obtain ⟨e1, e2, e3⟩ := h.keep j h1 h2'.2.2
    refine ⟨e1, e2, ?_⟩
    simp only [TT.nums, List.mem_cons, List.mem_append, not_or]
    exact ⟨h2'.1, h2'.2.1, e3⟩
  · have := h.live; simp only [TT.st, ST.size]; omega
  · exact ha.keep (fun j hj => (kc j hj).1) (fun q hq => h.chg.block q (bc q hq) (fun hs => hs.elim (hH.notBlk (ha.type hq)) (fun e => b3 q hq q e rfl)))
end

theorem bal_high (l r : ST) : (bal (.pair l r)).high ≤ max l.high r.high + 1 := by
  simp only [bal]
  by_cases hc : r.high + 1 < l.high
  · rw [if_pos hc]
    cases l with
    | leaf x => simp [ST.high] at hc
    | pair a b =>
      simp only [ST.high] at hc
      by_cases hd : a.high < b.high
      · rw [if_pos (show (ST.pair a b).hl < (ST.pair a b).hr from hd)]
        cases b with
        | leaf x => simp [ST.high] at hd
        | pair b1 b2 =>
          simp only [ST.high] at hc hd
          simp only [rotL, rotR, ST.high]; omega
      · rw [if_neg (show ¬ (ST.pair a b).hl < (ST.pair a b).hr from hd)]
        simp only [rotR, ST.high]; omega
  · rw [if_neg hc]
    by_cases hc' : l.high + 1 < r.high
    · rw [if_pos hc']
      cases r with
      | leaf x => simp [ST.high] at hc'
      | pair a b =>
        simp only [ST.high] at hc hc'
        by_cases hd : b.high < a.high
        · rw [if_pos (show (ST.pair a b).hr < (ST.pair a b).hl from hd)]
          cases a with
          | leaf x => simp [ST.high] at hd
          | pair b1 b2 =>
            simp only [ST.high] at hc hc' hd
            simp only [rotL, rotR, ST.high]; omega
        · rw [if_neg (show ¬ (ST.pair a b).hr < (ST.pair a b).hl from hd)]
          simp only [rotL, ST.high]; omega
    · rw [if_neg hc']; exact Nat.le_refl _
theorem insT_high (t : ST) (k : Nat) (b : Bool) : (insT t k b).high ≤ t.high + 1 := by
  induction t generalizing k with
  | leaf l =>
    simp only [insT]
    split
    · split <;> simp [ST.high]
    · simp [ST.high]
  | pair x y ihx ihy =>
    simp only [insT]
    split
    · have := bal_high (insT x k b) y; have := ihx k; simp only [ST.high]; omega
    · have := bal_high x (insT y (k - x.bits.length) b); have := ihy (k - x.bits.length); simp only [ST.high]; omega

end Go.Proofs.YtcppgpjodfeigaaDoor

namespace Go.Proofs.YtcppgpjodfeigaaDoor
set_option linter.unusedVariables false
set_option linter.unusedSimpArgs false
open Go.RowKit

set_option maxHeartbeats 6400000 in
set_option maxRecDepth 100000 in
theorem tIns_any (T : TT) : ∀ (w : World) (p : Nat) (C : Nat → Prop) (A : Ar) (xs : List Nd) (root vis : Int) (k : Nat) (b : Bool), Head w p C A xs root vis → xs.length = A.T.length → 0 ≤ vis → vis + 7 * T.st.high + 10 ≤ 100000000000 → Sub w xs T → Own A T → A.live + 2 ≤ A.M → k ≤ T.st.bits.length →
    T.st.bits.length < 8589934592 → T.st.high < 1000000000 →
    Calls Tryd.prog 69 #[.pointer (some ⟨p, 0, none⟩), .int .i64 T.num, .int .i64 k, .bool b] w fun e w' => InsPost w w' p C A xs root vis T k b e := by
  induction T with
  | leaf kn q l =>
    intro w p C A xs root vis k b h hlen hv0 hv hS hO hlv hk hb1 hh1
    simp only [TT.st, ST.bits] at hk
    have hl := hS.2.1
    by_cases h128 : l.length = 128
    · exact tIns_split h hlen hv0 (by simp only [TT.st, ST.high] at hv; omega) hS hO h128 hlv k (by omega) b
    · exact tIns_leaf h hlen hv0 (by simp only [TT.st, ST.high] at hv; omega) hS hO (by omega) k hk b
  | pair kn a c iha ihc =>
    intro w p C A xs root vis k b h hlen hv0 hv hS hO hlv hk hb1 hh1
    change Calls Tryd.prog _ #[.pointer (some ⟨p, 0, none⟩), .int .i64 (kn : Int), .int .i64 k, .bool b] w _
    have hx := hS.root
    change xs[kn]? = some (TT.pair kn a c).nd at hx
    obtain ⟨g, rc, cur, c1, hgp, _⟩ := h.row (by have := (List.getElem?_eq_some_iff.1 hx).1; omega)
    obtain ⟨_, _, hkx, _⟩ := h.node c1 hx
    obtain ⟨a0, a1, a2, a3, a4, a5, a6, a7⟩ := h.eight c1 hx
    obtain ⟨_, _, cv, fz⟩ := h.cells
    have f3 := fz 3
    have hp := h.lt p h.self
    have hg := World.block_lt_of_cell? w _ a0
    simp only [TT.st, ST.bits, ST.high, List.length_append] at hv hk hb1 hh1
    obtain ⟨na, hna⟩ : ∃ na, a.num = na := ⟨_, rfl⟩
    obtain ⟨nc, hnc⟩ : ∃ nc, c.num = nc := ⟨_, rfl⟩
    obtain ⟨la, hla⟩ : ∃ la, a.st.bits.length = la := ⟨_, rfl⟩
    obtain ⟨ha, hha⟩ : ∃ h, a.st.high = h := ⟨_, rfl⟩
    obtain ⟨hc, hhc⟩ : ∃ h, c.st.high = h := ⟨_, rfl⟩
    rw [hla] at hk hb1
    rw [hha, hhc] at hv hh1
    simp only [TT.nd, ptrN, Option.map_none] at a0 a1 a2 a3 a4 a5 a6 a7
    rw [hla] at a3 a5
    have hna' : Hid (a.num = na) := hna
    change w.cell? ⟨g, kn * 8, none⟩ = some (.int .i64 (a.num : Int)) at a0
    change w.cell? ⟨g, kn * 8 + 1, none⟩ = some (.int .i64 (c.num : Int)) at a1
    rw [hna] at a0
    rw [hnc] at a1
    have HNA := Lib.hid hna
    have HNC := Lib.hid hnc
    have HLA := Lib.hid hla
    have HHA := Lib.hid hha
    have HHC := Lib.hid hhc
    have HH3 : Hid (∀ o, Head ((w.setCell ⟨p, 3, none⟩ (.int .i64 (vis + 1))).alloc o) p C A xs root (vis + 1)) := fun o => (h.set3 (vis + 1)).below (below_alloc _ _)
    have HG : Hid (∀ o, Chg C w ((w.setCell ⟨p, 3, none⟩ (.int .i64 (vis + 1))).alloc o)) := fun o => (h.chg3 _ 3).alloc o
    have HSA : Hid (∀ w', Chg C w w' → Sub w' xs a) := fun w' hc => hS.2.1.chgC h hc (fun _ _ => rfl)
    have HSC : Hid (∀ w', Chg C w w' → Sub w' xs c) := fun w' hc => hS.2.2.chgC h hc (fun _ _ => rfl)
    have HX := Lib.hid hx
    have HO := Lib.hid hO
    have HL := Lib.hid hlen
    have HIA := Lib.hid iha
    have HIC := Lib.hid ihc
    have HLV := Lib.hid hlv
    have hkb : k ≤ 8589934592 := by omega
    clear h fz hx hS hO hlen iha ihc hlv hna hnc hla hha hhc hna'
    by_cases hlt : k ≤ la
    · have d1 : decide (k ≤ la) = true := decide_eq_true hlt
      go_enter Tryd.func69, Tryd.ntmps69
      go_wp2_with fail
      have h2 := HH3.out (.cells #[.int .i64 na, .int .i64 nc, .int .i64 (ST.pair a.st c.st).high, .int .i64 (la + c.st.bits.length), .int .i64 (a.st.bits.count true + c.st.bits.count true), .int .i64 la, .int .i64 (a.st.bits.count true), .pointer none] 88)
      have hih := HIA.out _ p C A xs root (vis + 1) k b h2 HL.out (by omega) (by rw [HHA.out]; omega) (HSA.out _ (HG.out _)) HO.out.l HLV.out (by rw [HLA.out]; omega) (by rw [HLA.out]; omega) (by rw [HHA.out]; omega)
      rw [HNA.out] at hih
      refine hih.mono ?_
      rintro e w3 ⟨T', C3, A3, xs3, v3, rfl, hP, hst⟩
      obtain ⟨q1, q2, q3⟩ := SubPre.left HO.out hP.pre h2 (HSC.out _ (HG.out _))
      have hx3 := q3.trans HX.out
      have hg2 := HG.out (.cells #[.int .i64 na, .int .i64 nc, .int .i64 (ST.pair a.st c.st).high, .int .i64 (la + c.st.bits.length), .int .i64 (a.st.bits.count true + c.st.bits.count true), .int .i64 la, .int .i64 (a.st.bits.count true), .pointer none] 88)
      have hpre := SubPre.first hg2 q1
      have h3 := hP.head
      have s3 := hP.sub
      have hv3 := hP.vis
      rw [HHA.out] at hv3
      obtain ⟨g3, rc3, cur3, r3, hgp3, _⟩ := h3.row (by have := (List.getElem?_eq_some_iff.1 hx3).1; omega)
      obtain ⟨_, fz3, hkx3, _⟩ := h3.node r3 hx3
      obtain ⟨e0, e1, _⟩ := h3.eight r3 hx3
      have z3 := fz3 (kn * 8)
      have hp3 := h3.lt p h3.self
      obtain ⟨h4, g4, _⟩ := h3.put r3 hx3 (i := 0) (v := .int .i64 T'.num) (x' := ⟨T'.num, c.num, (TT.pair kn a c).nd.height, (TT.pair kn a c).nd.n, (TT.pair kn a c).nd.ones, (TT.pair kn a c).nd.ln, (TT.pair kn a c).nd.lones, none⟩) (by omega) rfl
      have g4C : Chg C3 w3 _ := g4.mono (fun j e => by subst e; exact h3.rowC ⟨_, _, r3⟩)
      have hdis := TT.dis hpre.own.nn
      have st4 := s3.chgC h3 g4C (set_out (y := ⟨T'.num, c.num, (TT.pair kn a c).nd.height, (TT.pair kn a c).nd.n, (TT.pair kn a c).nd.ones, (TT.pair kn a c).nd.ln, (TT.pair kn a c).nd.lones, none⟩) hdis.1)
      have sc4 := q2.chgC h3 g4C (set_out (y := ⟨T'.num, c.num, (TT.pair kn a c).nd.height, (TT.pair kn a c).nd.n, (TT.pair kn a c).nd.ones, (TT.pair kn a c).nd.ln, (TT.pair kn a c).nd.lones, none⟩) hdis.2.1)
      have hTh : T'.st.high ≤ ha + 1 := by rw [hst, ← HHA.out]; exact insT_high _ _ _
      have hTb : T'.st.bits.length = la + 1 := by rw [hst, insT_bits (by rw [HLA.out]; omega), inL_len (by rw [HLA.out]; omega), HLA.out]
      have hsmall : Small (.pair T'.st c.st) := by
        refine ⟨?_, ?_⟩
        · simp only [ST.bits, List.length_append, hTb]; omega
        · simp only [ST.high]; rw [HHC.out]; omega
      have HB := Lib.hid (tBal_any h4 (by omega) (by omega) (k := kn) (x := ⟨T'.num, c.num, (TT.pair kn a c).nd.height, (TT.pair kn a c).nd.n, (TT.pair kn a c).nd.ones, (TT.pair kn a c).nd.ln, (TT.pair kn a c).nd.lones, none⟩) (a := T') (c := c) (set_get hx3) rfl rfl rfl st4 sc4 hpre.own.nn hsmall)
      have H4 := Lib.hid h4
      have G4 := Lib.hid g4C
      have HP := Lib.hid hpre
      have HST := Lib.hid hst
      have HTH := Lib.hid hTh
      have HV3 := Lib.hid hv3
      clear h2 hih hP hst q1 q2 q3 hx3 hg2 hpre h3 s3 fz3 h4 g4 g4C hdis st4 sc4 hTh hTb hsmall hv3
      obtain ⟨nt, hnt⟩ : ∃ n, T'.num = n := ⟨_, rfl⟩
      rw [hnt]
      rw [hnt] at HB G4 H4
      go_wp2_with fail
      refine HB.out.mono ?_
      rintro e w5 hB
      obtain ⟨T2, xs5, v5, rfl, h5, s5, hst5, hn5, hb5, kp5, ln5, hv5⟩ := hB.ex
      have H5 := Lib.hid h5
      have S5 := Lib.hid s5
      have HST5 := Lib.hid hst5
      have HN5 := Lib.hid hn5
      have HB5 := Lib.hid hb5
      have KP5 := Lib.hid kp5
      have LN5 := Lib.hid ln5
      have HV5 := Lib.hid hv5
      have C5 := Lib.hid hB.chg
      clear hB h5 s5 hst5 hn5 hb5 kp5 ln5 hv5
      go_wp2_with fail
      go_ret
      have hx5 := HP.out.next (T2 := T2) (xs' := xs5) (G4.out.trans C5.out (fun j hj => Or.inl hj)) (fun j hj => by rw [KP5.out j hj]; exact set_ne (by rintro rfl; exact hj TT.mem_k)) (by rw [LN5.out]; simp) HN5.out HB5.out (by rw [HST5.out, bal_size]; rfl)
      refine ⟨T2, C3, A3, xs5, v5, rfl, SubPost.of H5.out S5.out hx5 ?_, ?_⟩
      · have := HV3.out; have := HV5.out
        simp only [TT.st, ST.high]
        rw [HHA.out, HHC.out]
        exact ⟨by omega, by omega⟩
      · rw [HST5.out, HST.out]
        simp only [TT.st, insT]
        rw [if_pos (by rw [HLA.out]; exact hlt)]
    · have d1 : decide (k ≤ la) = false := decide_eq_false hlt
      go_enter Tryd.func69, Tryd.ntmps69
      go_wp2_with fail
      rw [show (k : Int) - (la : Int) = ((k - la : Nat) : Int) by omega]
      have h2 := HH3.out (.cells #[.int .i64 na, .int .i64 nc, .int .i64 (ST.pair a.st c.st).high, .int .i64 (la + c.st.bits.length), .int .i64 (a.st.bits.count true + c.st.bits.count true), .int .i64 la, .int .i64 (a.st.bits.count true), .pointer none] 88)
      have hih := HIC.out _ p C A xs root (vis + 1) (k - la) b h2 HL.out (by omega) (by rw [HHC.out]; omega) (HSC.out _ (HG.out _)) HO.out.r HLV.out (by omega) (by omega) (by rw [HHC.out]; omega)
      rw [HNC.out] at hih
      refine hih.mono ?_
      rintro e w3 ⟨T', C3, A3, xs3, v3, rfl, hP, hst⟩
      obtain ⟨q1, q2, q3⟩ := SubPre.right HO.out hP.pre h2 (HSA.out _ (HG.out _))
      have hx3 := q3.trans HX.out
      have hg2 := HG.out (.cells #[.int .i64 na, .int .i64 nc, .int .i64 (ST.pair a.st c.st).high, .int .i64 (la + c.st.bits.length), .int .i64 (a.st.bits.count true + c.st.bits.count true), .int .i64 la, .int .i64 (a.st.bits.count true), .pointer none] 88)
      have hpre := SubPre.first hg2 q1
      have h3 := hP.head
      have s3 := hP.sub
      have hv3 := hP.vis
      rw [HHC.out] at hv3
      obtain ⟨g3, rc3, cur3, r3, hgp3, _⟩ := h3.row (by have := (List.getElem?_eq_some_iff.1 hx3).1; omega)
      obtain ⟨_, fz3, hkx3, _⟩ := h3.node r3 hx3
      obtain ⟨e0, e1, _⟩ := h3.eight r3 hx3
      have z3 := fz3 (kn * 8 + 1)
      have hp3 := h3.lt p h3.self
      obtain ⟨h4, g4, _⟩ := h3.put r3 hx3 (i := 1) (v := .int .i64 T'.num) (x' := ⟨a.num, T'.num, (TT.pair kn a c).nd.height, (TT.pair kn a c).nd.n, (TT.pair kn a c).nd.ones, (TT.pair kn a c).nd.ln, (TT.pair kn a c).nd.lones, none⟩) (by omega) rfl
      have g4C : Chg C3 w3 _ := g4.mono (fun j e => by subst e; exact h3.rowC ⟨_, _, r3⟩)
      have hdis := TT.dis hpre.own.nn
      have st4 := s3.chgC h3 g4C (set_out (y := ⟨a.num, T'.num, (TT.pair kn a c).nd.height, (TT.pair kn a c).nd.n, (TT.pair kn a c).nd.ones, (TT.pair kn a c).nd.ln, (TT.pair kn a c).nd.lones, none⟩) hdis.2.1)
      have sc4 := q2.chgC h3 g4C (set_out (y := ⟨a.num, T'.num, (TT.pair kn a c).nd.height, (TT.pair kn a c).nd.n, (TT.pair kn a c).nd.ones, (TT.pair kn a c).nd.ln, (TT.pair kn a c).nd.lones, none⟩) hdis.1)
      have hTh : T'.st.high ≤ hc + 1 := by rw [hst, ← HHC.out]; exact insT_high _ _ _
      have hTb : T'.st.bits.length = c.st.bits.length + 1 := by rw [hst, insT_bits (by omega), inL_len (by omega)]
      have hsmall : Small (.pair a.st T'.st) := by
        refine ⟨?_, ?_⟩
        · simp only [ST.bits, List.length_append, hTb]; rw [HLA.out]; omega
        · simp only [ST.high]; rw [HHA.out]; omega
      have HB := Lib.hid (tBal_any h4 (by omega) (by omega) (k := kn) (x := ⟨a.num, T'.num, (TT.pair kn a c).nd.height, (TT.pair kn a c).nd.n, (TT.pair kn a c).nd.ones, (TT.pair kn a c).nd.ln, (TT.pair kn a c).nd.lones, none⟩) (a := a) (c := T') (set_get hx3) rfl rfl rfl sc4 st4 hpre.own.nn hsmall)
      have H4 := Lib.hid h4
      have G4 := Lib.hid g4C
      have HP := Lib.hid hpre
      have HST := Lib.hid hst
      have HTH := Lib.hid hTh
      have HV3 := Lib.hid hv3
      clear h2 hih hP hst q1 q2 q3 hx3 hg2 hpre h3 s3 fz3 h4 g4 g4C hdis st4 sc4 hTh hTb hsmall hv3
      obtain ⟨nt, hnt⟩ : ∃ n, T'.num = n := ⟨_, rfl⟩
      rw [hnt]
      rw [hnt] at HB G4 H4
      go_wp2_with fail
      refine HB.out.mono ?_
      rintro e w5 hB
      obtain ⟨T2, xs5, v5, rfl, h5, s5, hst5, hn5, hb5, kp5, ln5, hv5⟩ := hB.ex
      have H5 := Lib.hid h5
      have S5 := Lib.hid s5
      have HST5 := Lib.hid hst5
      have HN5 := Lib.hid hn5
      have HB5 := Lib.hid hb5
      have KP5 := Lib.hid kp5
      have LN5 := Lib.hid ln5
      have HV5 := Lib.hid hv5
      have C5 := Lib.hid hB.chg
      clear hB h5 s5 hst5 hn5 hb5 kp5 ln5 hv5
      go_wp2_with fail
      go_ret
      have hx5 := HP.out.next (T2 := T2) (xs' := xs5) (G4.out.trans C5.out (fun j hj => Or.inl hj)) (fun j hj => by rw [KP5.out j hj]; exact set_ne (by rintro rfl; exact hj TT.mem_k)) (by rw [LN5.out]; simp) HN5.out HB5.out (by rw [HST5.out, bal_size]; rfl)
      refine ⟨T2, C3, A3, xs5, v5, rfl, SubPost.of H5.out S5.out hx5 ?_, ?_⟩
      · have := HV3.out; have := HV5.out
        simp only [TT.st, ST.high]
        rw [HHA.out, HHC.out]
        exact ⟨by omega, by omega⟩
      · rw [HST5.out, HST.out]
        simp only [TT.st, insT]
        rw [if_neg (by rw [HLA.out]; exact hlt), HLA.out]
end Go.Proofs.YtcppgpjodfeigaaDoor

namespace Go.Proofs.YtcppgpjodfeigaaDoor
set_option linter.unusedVariables false
set_option linter.unusedSimpArgs false
open Go.RowKit

theorem tRank_nil (w : World) (k : Int) (x : Bool) : Calls Tryd.prog 20 #[.pointer none, .int .i64 k, .bool x] w fun e w' => e = .returned (.int .i64 0) ∧ w = w' := by
  go_enter Tryd.func20, Tryd.ntmps20
  go_wp2_with fail
  go_ret
  exact ⟨rfl, rfl⟩

/-- Rank at 0. -/
theorem tRank_zero {w : World} {p : Nat} {C : Nat → Prop} {A : Ar} {xs : List Nd} {vis : Int} {o : Option TT} (h : Head w p C A xs (onum o) vis) (hS : OSub w xs o) (k : Int) (x : Bool) (hk : k ≤ 0 ∨ (obits o).length = 0) :
    Calls Tryd.prog 20 #[.pointer (some ⟨p, 0, none⟩), .int .i64 k, .bool x] w fun e w' => e = .returned (.int .i64 0) ∧ Look w w' p C A xs (onum o) 0 := by
  have f3 := h.cells.2.2.2 3
  have c3 := h.cells.2.2.1
  have h0 := h.set3 0
  have hc0 := h.chg3 (.int .i64 0) 3
  have hl := tLen_any h0 (hS.chgC h hc0)
  have HL := Lib.hid hl
  have H0 := Lib.hid h0
  have HC := Lib.hid hc0
  clear h hS h0 hc0 hl
  have hk' : (k < 0) ∨ (k = 0) ∨ (0 < k ∧ (obits o).length = 0) := by omega
  generalize (obits o).length = n at *
  clear hk
  rcases hk' with hk | rfl | ⟨hk, rfl⟩
  all_goals
    go_enter Tryd.func20, Tryd.ntmps20
    go_wp2_with fail
    refine HL.out.mono ?_
    rintro e w' ⟨rfl, m, rfl⟩
    go_wp2_with fail
    go_ret
    exact ⟨rfl, ⟨0, Nat.le_refl _, H0.out.drewN _⟩, HC.out.drewN _⟩

set_option maxHeartbeats 3200000 in
/-- Rank, where there are some. -/
theorem tRank_core {w : World} {p : Nat} {C : Nat → Prop} {A : Ar} {xs : List Nd} {vis : Int} {T0 : TT} (h : Head w p C A xs T0.num vis) (hS : Sub w xs T0) (hm : T0.Sm) (k0 : Int) (K : Nat) (x : Bool)
    (hk : (0 < k0 ∧ k0 ≤ T0.st.bits.length ∧ k0 = K) ∨ ((T0.st.bits.length : Int) < k0 ∧ K = T0.st.bits.length)) (hK : 0 < K) :
    Calls Tryd.prog 20 #[.pointer (some ⟨p, 0, none⟩), .int .i64 k0, .bool x] w fun e w' => e = .returned (.int .i64 (rankL T0.st.bits K x)) ∧ Look w w' p C A xs T0.num (T0.st.high + 1) := by
  have f3 := h.cells.2.2.2 3
  have c3 := h.cells.2.2.1
  have h0 := h.set3 0
  have hc0 := h.chg3 (.int .i64 0) 3
  have hS0 := hS.chgC h hc0 (fun _ _ => rfl)
  have hl := tLen_some h0 hS0
  have c2 := h0.cells.2.1
  have HL := Lib.hid hl
  have H0 := Lib.hid h0
  have HC := Lib.hid hc0
  have HS0 := Lib.hid hS0
  have hhm := hm.high
  have hlm := hm.len
  have hKn : K ≤ T0.st.bits.length := by omega
  have HM := Lib.hid hm
  have HKN := Lib.hid hKn
  have HR : Hid (rankL T0.st.bits K x ≤ 8589934592) := by have := rankL_le T0.st.bits K x; show _ ≤ _; omega
  have d0 : ((K : Int) == 0) = false := by rw [beq_eq_false_iff_ne]; omega
  clear h hS h0 hc0 hl hS0 hm hKn
  obtain ⟨W0, hW0⟩ : ∃ W0, W0 = w.setCell ⟨p, 3, none⟩ (.int .i64 0) := ⟨_, rfl⟩
  rw [← hW0] at HL H0 HC HS0 c2
  have HW0 := Lib.hid hW0
  clear hW0
  obtain ⟨n0, hn0⟩ : ∃ n0, n0 = T0.st.bits.length := ⟨_, rfl⟩
  rw [← hn0] at hk HL hlm HKN
  have HN0 := Lib.hid hn0
  clear hn0
  rcases hk with ⟨hk1, hk2, rfl⟩ | ⟨hk, rfl⟩
  all_goals
    go_enter Tryd.func20, Tryd.ntmps20
    go_wp2_with fail
    rw [← HW0.out]
    refine HL.out.mono ?_
    rintro e w' ⟨rfl, m, rfl⟩
    go_wp2_with fail
    go_loopg [7, 8, 1] (T0.st.high + 1) (fun n a s b wr => ∃ (T : TT) (kn k s0 v : Nat), T.num = kn ∧ a = .int .i64 kn ∧ s = .int .i64 s0 ∧ b = .int .i64 k ∧ 0 < k ∧ k ≤ T.st.bits.length ∧ Sub wr xs T ∧ Head wr p C A xs T0.num v ∧ Chg C w wr ∧
      s0 + rankL T.st.bits k x = rankL T0.st.bits K x ∧ v + T.st.high ≤ T0.st.high ∧ T.st.high < n ∧ T.st.bits.length ≤ 8589934592)
    case atStart => exact ⟨T0, _, _, 0, 0, rfl, rfl, rfl, rfl, by first | exact hK | omega, by rw [← HN0.out]; have := HKN.out; omega, HS0.out.keep (fun _ _ => rfl) (fun _ _ => rfl), H0.out.drewN _, HC.out.drewN _, by simp, by omega, by omega, HM.out.len⟩
    case round =>
      obtain ⟨T, kn, k, s0, v, hkn, rfl, rfl, rfl, hk0, hk, hS, hH, hC, hb, hv, hT, hlen⟩ := hrel
      have hvw := hS.view hkn
      have hx : ∃ x, xs[kn]? = some x := ⟨_, by rw [← hkn]; exact hS.root⟩
      obtain ⟨g, rc, cur, c1, hgp, _⟩ := hH.row (by obtain ⟨x, hx⟩ := hx; have := (List.getElem?_eq_some_iff.1 hx).1; omega)
      obtain ⟨_, _, cv, fz⟩ := hH.cells
      have f3 := fz 3
      have hp := hH.lt p hH.self
      have HH3 : Hid (∀ v : Int, Head (wr.setCell ⟨p, 3, none⟩ (.int .i64 v)) p C A xs T0.num v) := fun v => hH.set3 v
      have HCC := Lib.hid hC
      have hs0 : s0 ≤ 8589934592 := by have := HR.out; omega
      have HB := Lib.hid hb
      have HCp := Lib.hid hH.self
      have HNC : Hid (∀ q l, IsBlock wr q l → ¬ C q) := fun q l h => hH.notBlk h.type
      clear hC hb hx fz HS0 HC H0 HW0 HL c2 hgp hK
      rcases hvw with ⟨q, l, hst, hblk, hx⟩ | ⟨Ta, Tb, hst, hSa, hSb, hx⟩
      · obtain ⟨_, _, hkx, _⟩ := hH.node c1 hx
        obtain ⟨a0, a1, a2, a3, a4, a5, a6, a7⟩ := hH.eight c1 hx
        have hg := World.block_lt_of_cell? wr _ a0
        simp only [ptrN, Option.map_some] at a0 a1 a2 a3 a4 a5 a6 a7
        rw [hst] at hk hv hT hlen
        have hbb := HB.out
        rw [hst] at hbb
        simp only [ST.bits] at hbb
        have HBB := Lib.hid hbb
        have HW : Hid (∀ v o, IsBlock ((wr.setCell ⟨p, 3, none⟩ v).alloc o) q l) := fun v o => hblk.chg ((Chg.refl.setCell ⟨p, 3, none⟩ (Or.inl HCp.out) v).alloc o) (HNC.out q l hblk)
        have HLK := Lib.hid (likeN_rank (x := x) hk)
        simp only [ST.high, ST.bits] at hk hv hT hlen
        have HRR := Lib.hid (rankL_le l k true)
        clear hH hS hkn hx hst hblk hbb
        go_wp2_with fail
        refine (blkRank (HW.out _ _) k).mono ?_
        rintro e w2 ⟨rfl, hb2⟩
        rw [Int.toNat_natCast]
        have HB2 := Lib.hid hb2
        clear hb2
        generalize hr : rankL l k true = r at *
        have HLK2 := Lib.hid (show likeN k r x = rankL l k x by rw [← hr]; exact HLK.out)
        have HRR2 := HRR.out
        have hlk3 := HLK2.out
        generalize hR2 : rankL l k x = R2 at *
        have HLK3 := Lib.hid hlk3
        have hR3 : R2 ≤ k := by rw [← hR2]; exact (rankL_le l k x).1
        clear hr hR2 hlk3 HLK
        go_wp2_with fail
        refine (tLike_any k r x w2 (by omega) (by omega) (by omega)).mono ?_
        rintro e w' ⟨rfl, rfl⟩
        rw [HLK3.out]
        go_wp2_with fail
        go_ret
        refine ⟨ret_int ?_, ⟨v + 1, by omega, ?_⟩, ?_⟩
        · have := HBB.out; omega
        · exact_mod_cast ((HH3.out (v + 1)).below (below_alloc _ _)).below HB2.out
        · exact ((HCC.out.setCell _ (Or.inl HCp.out) _).alloc _).trans (Chg.of_below (S := C) HB2.out) (fun _ h => Or.inl h)
      · obtain ⟨_, _, hkx, _⟩ := hH.node c1 hx
        obtain ⟨a0, a1, a2, a3, a4, a5, a6, a7⟩ := hH.eight c1 hx
        have hg := World.block_lt_of_cell? wr _ a0
        simp only [ptrN, Option.map_none] at a0 a1 a2 a3 a4 a5 a6 a7
        rw [hst] at hk hv hT hlen
        simp only [ST.bits, ST.high, List.length_append] at hk hv hT hlen
        have HSa : Hid (∀ W, Chg C wr W → Sub W xs Ta) := fun W hc => hSa.chgC hH hc (fun _ _ => rfl)
        have HSb : Hid (∀ W, Chg C wr W → Sub W xs Tb) := fun W hc => hSb.chgC hH hc (fun _ _ => rfl)
        have hb := HB.out
        rw [hst] at hb
        simp only [ST.bits] at hb
        have HB2 := Lib.hid hb
        have HLN := Lib.hid (likeN_count Ta.st.bits x)
        have hca := count_le Ta.st.bits true
        have hca2 := count_le Ta.st.bits x
        obtain ⟨na, hna⟩ : ∃ na, Ta.num = na := ⟨_, rfl⟩
        obtain ⟨nb, hnb⟩ : ∃ nb, Tb.num = nb := ⟨_, rfl⟩
        obtain ⟨la, hla⟩ : ∃ la, Ta.st.bits.length = la := ⟨_, rfl⟩
        obtain ⟨ca, hca'⟩ : ∃ ca, Ta.st.bits.count true = ca := ⟨_, rfl⟩
        obtain ⟨cx, hcx⟩ : ∃ cx, Ta.st.bits.count x = cx := ⟨_, rfl⟩
        rw [hla] at hk hlen hca hca2
        rw [hca'] at hca
        rw [hcx] at hca2
        simp only [hna, hnb, hla, hca'] at a0 a1 a2 a3 a4 a5 a6
        have HLN2 := Lib.hid (show likeN la ca x = cx by rw [← hla, ← hca', ← hcx]; exact HLN.out)
        have HNA := Lib.hid hna
        have HNB := Lib.hid hnb
        have HLA := Lib.hid hla
        have HCX := Lib.hid hcx
        by_cases hlt : k ≤ la
        · have d1 : decide (k ≤ la) = true := decide_eq_true hlt
          clear hH hS hkn hx hst hSa hSb hb hna hnb hla hca' hcx HB HLN
          go_wp2_with fail
          go_roundg (max Ta.st.high Tb.st.high + 1)
          case measure => omega
          case rel =>
            refine ⟨Ta, na, k, s0, v + 1, HNA.out, rfl, rfl, rfl, hk0, by rw [HLA.out]; exact hlt, HSa.out _ ((Chg.refl.setCell ⟨p, 3, none⟩ (Or.inl HCp.out) _).alloc _), ?_, HCC.out.trans ((Chg.refl.setCell ⟨p, 3, none⟩ (Or.inl HCp.out) _).alloc _) (fun _ h => Or.inl h), ?_, by omega, by omega, by have := HLA.out; omega⟩
            · exact_mod_cast (HH3.out (v + 1)).below (below_alloc _ _)
            · rw [← HB2.out, rankL_app_l (by rw [HLA.out]; exact hlt)]
        · have d1 : decide (k ≤ la) = false := decide_eq_false hlt
          clear hH hS hkn hx hst hSa hSb hb hna hnb hla hca' hcx HB HLN
          go_wp2_with fail
          refine (tLike_any la ca x _ (by omega) (by omega) (by omega)).mono ?_
          rintro e w' ⟨rfl, rfl⟩
          rw [HLN2.out]
          go_wp2_with fail
          go_quiet (fail)
          go_wp2_with fail
          go_roundg (max Ta.st.high Tb.st.high + 1)
          case measure => omega
          case rel =>
            refine ⟨Tb, nb, k - la, s0 + cx, v + 1, HNB.out, rfl, ?_, ?_, by omega, by omega, HSb.out _ (((Chg.refl.setCell ⟨p, 3, none⟩ (Or.inl HCp.out) _).alloc _).drewN _), ?_, HCC.out.trans (((Chg.refl.setCell ⟨p, 3, none⟩ (Or.inl HCp.out) _).alloc _).drewN _) (fun _ h => Or.inl h), ?_, by omega, by omega, by omega⟩
            · congr 1
            · congr 1; omega
            · exact_mod_cast ((HH3.out (v + 1)).below (below_alloc _ _)).drewN _
            · rw [← HB2.out, rankL_app_r (by rw [HLA.out]; omega), HLA.out, HCX.out]; omega

def ohigh : Option TT → Nat
  | none => 0
  | some T => T.st.high + 1
def OSm : Option TT → Prop
  | none => True
  | some T => T.Sm
theorem Look.mono {w w' : World} {p : Nat} {C : Nat → Prop} {A : Ar} {xs : List Nd} {root : Int} {m m' : Nat} (h : Look w w' p C A xs root m) (hm : m ≤ m') : Look w w' p C A xs root m' := by
  obtain ⟨v, hv, hH⟩ := h.head
  exact ⟨⟨v, by omega, hH⟩, h.chg⟩
/-- Rank, whatever is asked. -/
theorem tRank_any {w : World} {p : Nat} {C : Nat → Prop} {A : Ar} {xs : List Nd} {vis : Int} {o : Option TT} (h : Head w p C A xs (onum o) vis) (hS : OSub w xs o) (hm : OSm o) (k : Int) (x : Bool) :
    Calls Tryd.prog 20 #[.pointer (some ⟨p, 0, none⟩), .int .i64 k, .bool x] w fun e w' => e = .returned (.int .i64 (rankL (obits o) k.toNat x)) ∧ Look w w' p C A xs (onum o) (ohigh o) := by
  by_cases hz : k ≤ 0 ∨ (obits o).length = 0
  · have e0 : rankL (obits o) k.toNat x = 0 := by
      have := rankL_le (obits o) k.toNat x
      rcases hz with hz | hz <;> omega
    rw [e0]
    refine (tRank_zero h hS k x hz).mono ?_
    rintro e w' ⟨rfl, hL⟩
    exact ⟨rfl, hL.mono (Nat.zero_le _)⟩
  · cases o with
    | none => exact absurd (Or.inr rfl) hz
    | some T =>
      have hz' : 0 < k ∧ T.st.bits.length ≠ 0 := ⟨by omega, fun e => hz (Or.inr e)⟩
      by_cases hk : k ≤ T.st.bits.length
      · exact tRank_core h hS hm k k.toNat x (Or.inl ⟨hz'.1, hk, by omega⟩) (by omega)
      · have e1 : rankL (obits (some T)) k.toNat x = rankL T.st.bits T.st.bits.length x := by
          show rankL T.st.bits k.toNat x = _
          rw [rankL_over x (by omega), rankL_over x (Nat.le_refl _)]
        rw [e1]
        exact tRank_core h hS hm k T.st.bits.length x (Or.inr ⟨by omega, rfl⟩) (by omega)

end Go.Proofs.YtcppgpjodfeigaaDoor

namespace Go.Proofs.YtcppgpjodfeigaaDoor
set_option linter.unusedVariables false
set_option linter.unusedSimpArgs false
open Go.RowKit

theorem BitTab.chg {S : Nat → Prop} {w w' : World} (h : BitTab w) (hc : Chg S w w') (hn : ¬ S 0) : BitTab w' := fun j hj => hc.cell (h j hj) hn

theorem tSelect_nil (w : World) (k : Int) (x : Bool) : Calls Tryd.prog 21 #[.pointer none, .int .i64 k, .bool x] w fun e w' => e = .returned (.int .i64 (-1)) ∧ w = w' := by
  go_enter Tryd.func21, Tryd.ntmps21
  go_wp2_with fail
  go_ret
  exact ⟨rfl, rfl⟩

theorem tSelect_neg {w : World} {p : Nat} {C : Nat → Prop} {A : Ar} {xs : List Nd} {root vis : Int} (h : Head w p C A xs root vis) (j : Int) (x : Bool) (hj : j < 0) :
    Calls Tryd.prog 21 #[.pointer (some ⟨p, 0, none⟩), .int .i64 j, .bool x] w fun e w' => e = .returned (.int .i64 (-1)) ∧ Look w w' p C A xs root 0 := by
  have f3 := h.cells.2.2.2 3
  have c3 := h.cells.2.2.1
  have H0 := Lib.hid (h.set3 0)
  have HC := Lib.hid (h.chg3 (.int .i64 0) 3)
  clear h
  go_enter Tryd.func21, Tryd.ntmps21
  go_wp2_with fail
  go_ret
  exact ⟨rfl, ⟨0, Nat.le_refl _, H0.out⟩, HC.out⟩

set_option maxHeartbeats 3200000 in
theorem tSelect_many {w : World} {p : Nat} {C : Nat → Prop} {A : Ar} {xs : List Nd} {vis : Int} {o : Option TT} (h : Head w p C A xs (onum o) vis) (hS : OSub w xs o) (hm : OSm o) (j : Int) (x : Bool) (hj0 : 0 ≤ j) (hj : ((obits o).count x : Int) ≤ j) :
    Calls Tryd.prog 21 #[.pointer (some ⟨p, 0, none⟩), .int .i64 j, .bool x] w fun e w' => e = .returned (.int .i64 (-1)) ∧ Look w w' p C A xs (onum o) 0 := by
  have f3 := h.cells.2.2.2 3
  have c3 := h.cells.2.2.1
  have h0 := h.set3 0
  have hc0 := h.chg3 (.int .i64 0) 3
  have hS0 := hS.chgC h hc0
  have HL := Lib.hid (tLen_any h0 hS0)
  have HO : Hid (∀ n, Calls Tryd.prog 23 #[.pointer (some ⟨p, 0, none⟩)] ((w.setCell ⟨p, 3, none⟩ (.int .i64 0)).drewN n) fun e w' => e = .returned (.int .i64 ((obits o).count true)) ∧ ∃ m, w' = ((w.setCell ⟨p, 3, none⟩ (.int .i64 0)).drewN n).drewN m) := by
    intro n
    refine tOnes_any (h0.drewN n) ?_
    cases o with
    | none => trivial
    | some T => exact Sub.keep hS0 (fun _ _ => rfl) (fun _ _ => rfl)
  have H0 := Lib.hid h0
  have HC := Lib.hid hc0
  have hlen : (obits o).length ≤ 8589934592 := by
    cases o with
    | none => simp [obits]
    | some T => exact hm.len
  have HK := Lib.hid (likeN_count (obits o) x)
  have hct := count_le (obits o) true
  have d0 : decide (j < 0) = false := by simp; omega
  have d1 : decide (((obits o).count x : Int) ≤ j) = true := by simpa using hj
  clear h hS h0 hc0 hS0 hm hj
  generalize (obits o).length = n at *
  generalize (obits o).count x = cx at *
  generalize (obits o).count true = ct at *
  go_enter Tryd.func21, Tryd.ntmps21
  go_wp2_with fail
  refine HL.out.mono ?_
  rintro e w' ⟨rfl, m, rfl⟩
  go_wp2_with fail
  refine (HO.out m).mono ?_
  rintro e w' ⟨rfl, m2, rfl⟩
  go_wp2_with fail
  refine (tLike_any n ct x _ (by omega) (by omega) (by omega)).mono ?_
  rintro e w' ⟨rfl, rfl⟩
  rw [HK.out]
  go_wp2_with fail
  go_ret
  exact ⟨rfl, ⟨0, Nat.le_refl _, H0.out.drewN _⟩, HC.out.drewN _⟩

set_option maxHeartbeats 3200000 in
/-- Select, where there is one. -/
theorem tSelect_core {w : World} {p : Nat} {C : Nat → Prop} {A : Ar} {xs : List Nd} {vis : Int} {T0 : TT} (h : Head w p C A xs T0.num vis) (hS : Sub w xs T0) (hm : T0.Sm) (hTab : BitTab w) (hN : ¬ C 0) (J : Nat) (x : Bool)
    (hJ : J < T0.st.bits.count x) :
    Calls Tryd.prog 21 #[.pointer (some ⟨p, 0, none⟩), .int .i64 J, .bool x] w fun e w' => e = .returned (.int .i64 (selL T0.st.bits J x)) ∧ Look w w' p C A xs T0.num (T0.st.high + 1) := by
  have f3 := h.cells.2.2.2 3
  have c3 := h.cells.2.2.1
  have h0 := h.set3 0
  have hc0 := h.chg3 (.int .i64 0) 3
  have hS0 := hS.chgC h hc0 (fun _ _ => rfl)
  have c2 := h0.cells.2.1
  have HT0 := Lib.hid hTab
  have HNT := Lib.hid hN
  have HL := Lib.hid (tLen_some h0 hS0)
  have HO : Hid (∀ n, Calls Tryd.prog 23 #[.pointer (some ⟨p, 0, none⟩)] ((w.setCell ⟨p, 3, none⟩ (.int .i64 0)).drewN n) fun e w' => e = .returned (.int .i64 (T0.st.bits.count true)) ∧ ∃ m, w' = ((w.setCell ⟨p, 3, none⟩ (.int .i64 0)).drewN n).drewN m) := by
    intro n
    exact tOnes_some (h0.drewN n) (hS0.keep (fun _ _ => rfl) (fun _ _ => rfl))
  have H0 := Lib.hid h0
  have HC := Lib.hid hc0
  have HS0 := Lib.hid hS0
  have hhm := hm.high
  have hlm := hm.len
  have HM := Lib.hid hm
  have HK := Lib.hid (likeN_count T0.st.bits x)
  have hct := count_le T0.st.bits true
  have hcx := count_le T0.st.bits x
  have HJ := Lib.hid hJ
  have hJ2 : J ≤ 8589934592 := by omega
  have HR : Hid (selL T0.st.bits J x ≤ 8589934592 ∧ 0 ≤ selL T0.st.bits J x) := by
    obtain ⟨k, h1, h2, h3⟩ := sel_ex x T0.st.bits J hJ
    rw [selL_hit h1 h2 (by rw [h3])]
    exact ⟨by omega, by omega⟩
  have d0 : decide ((J : Int) < 0) = false := by simp
  have d1 : decide (T0.st.bits.count x ≤ J) = false := decide_eq_false (by omega)
  clear h hS h0 hc0 hS0 hm hTab hN hJ
  obtain ⟨W0, hW0⟩ : ∃ W0, W0 = w.setCell ⟨p, 3, none⟩ (.int .i64 0) := ⟨_, rfl⟩
  rw [← hW0] at HL H0 HC HS0 c2 HO
  have HW0 := Lib.hid hW0
  clear hW0
  obtain ⟨n0, hn0⟩ : ∃ n0, n0 = T0.st.bits.length := ⟨_, rfl⟩
  obtain ⟨cx, hcx0⟩ : ∃ cx, cx = T0.st.bits.count x := ⟨_, rfl⟩
  obtain ⟨ct, hct0⟩ : ∃ ct, ct = T0.st.bits.count true := ⟨_, rfl⟩
  rw [← hn0] at HL hlm hct hcx HK
  rw [← hcx0] at hcx HK d1 HJ
  rw [← hct0] at hct HK HO
  have HCX0 := Lib.hid hcx0
  clear hn0 hcx0 hct0
  go_enter Tryd.func21, Tryd.ntmps21
  go_wp2_with fail
  rw [← HW0.out]
  refine HL.out.mono ?_
  rintro e w' ⟨rfl, m, rfl⟩
  go_wp2_with fail
  refine (HO.out m).mono ?_
  rintro e w' ⟨rfl, m2, rfl⟩
  go_wp2_with fail
  refine (tLike_any n0 ct x _ (by omega) (by omega) (by omega)).mono ?_
  rintro e w' ⟨rfl, rfl⟩
  rw [HK.out]
  go_wp2_with fail
  go_loopg [7, 8, 1] (T0.st.high + 1) (fun n a s b wr => ∃ (T : TT) (kn j s0 v : Nat), T.num = kn ∧ a = .int .i64 kn ∧ s = .int .i64 s0 ∧ b = .int .i64 j ∧ j < T.st.bits.count x ∧ Sub wr xs T ∧ Head wr p C A xs T0.num v ∧ Chg C w wr ∧
    s0 + selL T.st.bits j x = selL T0.st.bits J x ∧ v + T.st.high ≤ T0.st.high ∧ T.st.high < n ∧ T.st.bits.length ≤ 8589934592 ∧ s0 + T.st.bits.length ≤ 8589934592)
  case atStart => exact ⟨T0, _, _, 0, 0, rfl, rfl, rfl, rfl, by rw [← HCX0.out]; exact HJ.out, HS0.out.keep (fun _ _ => rfl) (fun _ _ => rfl), H0.out.drewN _, HC.out.drewN _, by simp, by omega, by omega, HM.out.len, by have := HM.out.len; omega⟩
  case round =>
    obtain ⟨T, kn, k, s0, v, hkn, rfl, rfl, rfl, hk, hS, hH, hC, hb, hv, hT, hlen, hsl⟩ := hrel
    have hvw := hS.view hkn
    have hx : ∃ x, xs[kn]? = some x := ⟨_, by rw [← hkn]; exact hS.root⟩
    obtain ⟨g, rc, cur, c1, hgp, _⟩ := hH.row (by obtain ⟨x, hx⟩ := hx; have := (List.getElem?_eq_some_iff.1 hx).1; omega)
    obtain ⟨_, _, cv, fz⟩ := hH.cells
    have f3 := fz 3
    have hp := hH.lt p hH.self
    have HH3 : Hid (∀ v : Int, Head (wr.setCell ⟨p, 3, none⟩ (.int .i64 v)) p C A xs T0.num v) := fun v => hH.set3 v
    have HTB := Lib.hid (HT0.out.chg hC HNT.out)
    have HCC := Lib.hid hC
    have hkl : k ≤ T.st.bits.length := by have := count_le T.st.bits x; omega
    have hkl2 : k ≤ 8589934592 := by omega
    have HB := Lib.hid hb
    have HCp := Lib.hid hH.self
    have HNC : Hid (∀ q l, IsBlock wr q l → ¬ C q) := fun q l h => hH.notBlk h.type
    clear hC hb hx fz HS0 HC H0 HW0 HL HO c2 hgp hkl
    rcases hvw with ⟨q, l, hst, hblk, hx⟩ | ⟨Ta, Tb, hst, hSa, hSb, hx⟩
    · obtain ⟨_, _, hkx, _⟩ := hH.node c1 hx
      obtain ⟨a0, a1, a2, a3, a4, a5, a6, a7⟩ := hH.eight c1 hx
      have hg := World.block_lt_of_cell? wr _ a0
      simp only [ptrN, Option.map_some] at a0 a1 a2 a3 a4 a5 a6 a7
      rw [hst] at hk hv hT hlen hsl
      have hbb := HB.out
      rw [hst] at hbb
      simp only [ST.bits] at hbb
      have HBB := Lib.hid hbb
      have HW : Hid (∀ v o, IsBlock ((wr.setCell ⟨p, 3, none⟩ v).alloc o) q l) := fun v o => hblk.chg ((Chg.refl.setCell ⟨p, 3, none⟩ (Or.inl HCp.out) v).alloc o) (HNC.out q l hblk)
      have HWT : Hid (∀ v o, BitTab ((wr.setCell ⟨p, 3, none⟩ v).alloc o)) := fun v o => HTB.out.chg ((Chg.refl.setCell ⟨p, 3, none⟩ (Or.inl HCp.out) v).alloc o) HNT.out
      simp only [ST.high, ST.bits] at hk hv hT hlen hsl
      have hR3 : 0 ≤ selL l k x ∧ selL l k x ≤ l.length := by
        obtain ⟨i, h1, h2, h3⟩ := sel_ex x l k hk
        rw [selL_hit h1 h2 (by rw [h3])]
        exact ⟨by omega, by omega⟩
      obtain ⟨hR3, hR4⟩ := hR3
      have hct1 := count_le l true
      clear hH hS hkn hx hst hblk hbb
      have hl0 := tLike_any 0 0 x
      have hl1 : likeN 0 0 x = 0 := by cases x <;> rfl
      rw [hl1] at hl0
      have HL0 := Lib.hid (fun w => hl0 w (by omega) (by omega) (by omega))
      clear hl0 hl1
      go_wp2_with fail
      refine (HL0.out _).mono ?_
      rintro e w2 ⟨rfl, rfl⟩
      go_wp2_with fail
      refine (blkSelect (HW.out _ _) (HWT.out _ _) k x (by omega)).mono ?_
      rintro e w2 ⟨rfl, hb2⟩
      have HB2 := Lib.hid hb2
      clear hb2
      generalize selL l k x = R2 at *
      go_wp2_with fail
      go_ret
      refine ⟨ret_int HBB.out, ⟨v + 1, by omega, ?_⟩, ?_⟩
      · exact_mod_cast ((HH3.out (v + 1)).below (below_alloc _ _)).below HB2.out
      · exact ((HCC.out.setCell _ (Or.inl HCp.out) _).alloc _).trans (Chg.of_below (S := C) HB2.out) (fun _ h => Or.inl h)
    · obtain ⟨_, _, hkx, _⟩ := hH.node c1 hx
      obtain ⟨a0, a1, a2, a3, a4, a5, a6, a7⟩ := hH.eight c1 hx
      have hg := World.block_lt_of_cell? wr _ a0
      simp only [ptrN, Option.map_none] at a0 a1 a2 a3 a4 a5 a6 a7
      rw [hst] at hk hv hT hlen hsl
      simp only [ST.bits, ST.high, List.length_append, List.count_append] at hk hv hT hlen hsl
      have HSa : Hid (∀ W, Chg C wr W → Sub W xs Ta) := fun W hc => hSa.chgC hH hc (fun _ _ => rfl)
      have HSb : Hid (∀ W, Chg C wr W → Sub W xs Tb) := fun W hc => hSb.chgC hH hc (fun _ _ => rfl)
      have hb := HB.out
      rw [hst] at hb
      simp only [ST.bits] at hb
      have HB2 := Lib.hid hb
      have HLN := Lib.hid (likeN_count Ta.st.bits x)
      have hca := count_le Ta.st.bits true
      have hca2 := count_le Ta.st.bits x
      obtain ⟨na, hna⟩ : ∃ na, Ta.num = na := ⟨_, rfl⟩
      obtain ⟨nb, hnb⟩ : ∃ nb, Tb.num = nb := ⟨_, rfl⟩
      obtain ⟨la, hla⟩ : ∃ la, Ta.st.bits.length = la := ⟨_, rfl⟩
      obtain ⟨ca, hca'⟩ : ∃ ca, Ta.st.bits.count true = ca := ⟨_, rfl⟩
      obtain ⟨cx2, hcx2⟩ : ∃ cx, Ta.st.bits.count x = cx := ⟨_, rfl⟩
      rw [hla] at hlen hca hca2 hsl
      rw [hca'] at hca
      rw [hcx2] at hca2 hk
      simp only [hna, hnb, hla, hca'] at a0 a1 a2 a3 a4 a5 a6
      have HLN2 := Lib.hid (show likeN la ca x = cx2 by rw [← hla, ← hca', ← hcx2]; exact HLN.out)
      have HNA := Lib.hid hna
      have HNB := Lib.hid hnb
      have HLA := Lib.hid hla
      have HCX := Lib.hid hcx2
      by_cases hlt : k < cx2
      · have d1 : decide (k < cx2) = true := decide_eq_true hlt
        clear hH hS hkn hx hst hSa hSb hb hna hnb hla hca' hcx2 HB HLN
        go_wp2_with fail
        refine (tLike_any la ca x _ (by omega) (by omega) (by omega)).mono ?_
        rintro e w' ⟨rfl, rfl⟩
        rw [HLN2.out]
        go_wp2_with fail
        go_roundg (max Ta.st.high Tb.st.high + 1)
        case measure => omega
        case rel =>
          refine ⟨Ta, na, k, s0, v + 1, HNA.out, rfl, rfl, rfl, by rw [HCX.out]; exact hlt, HSa.out _ ((Chg.refl.setCell ⟨p, 3, none⟩ (Or.inl HCp.out) _).alloc _), ?_, HCC.out.trans ((Chg.refl.setCell ⟨p, 3, none⟩ (Or.inl HCp.out) _).alloc _) (fun _ h => Or.inl h), ?_, by omega, by omega, by have := HLA.out; omega, by have := HLA.out; omega⟩
          · exact_mod_cast (HH3.out (v + 1)).below (below_alloc _ _)
          · rw [← HB2.out, selL_app_l (by rw [HCX.out]; exact hlt)]
      · have d1 : decide (k < cx2) = false := decide_eq_false hlt
        clear hH hS hkn hx hst hSa hSb hb hna hnb hla hca' hcx2 HB HLN
        go_wp2_with fail
        refine (tLike_any la ca x _ (by omega) (by omega) (by omega)).mono ?_
        rintro e w' ⟨rfl, rfl⟩
        rw [HLN2.out]
        go_wp2_with fail
        go_roundg (max Ta.st.high Tb.st.high + 1)
        case measure => omega
        case rel =>
          refine ⟨Tb, nb, k - cx2, s0 + la, v + 1, HNB.out, rfl, ?_, ?_, by omega, HSb.out _ ((Chg.refl.setCell ⟨p, 3, none⟩ (Or.inl HCp.out) _).alloc _), ?_, HCC.out.trans ((Chg.refl.setCell ⟨p, 3, none⟩ (Or.inl HCp.out) _).alloc _) (fun _ h => Or.inl h), ?_, by omega, by omega, by omega, by omega⟩
          · congr 1
          · congr 1; omega
          · exact_mod_cast (HH3.out (v + 1)).below (below_alloc _ _)
          · rw [← HB2.out, selL_app_r (by rw [HCX.out]; omega) (by rw [List.count_append, HCX.out]; exact hk), HLA.out, HCX.out]; omega

/-- Select, whatever is asked. -/
theorem tSelect_any {w : World} {p : Nat} {C : Nat → Prop} {A : Ar} {xs : List Nd} {vis : Int} {o : Option TT} (h : Head w p C A xs (onum o) vis) (hS : OSub w xs o) (hm : OSm o) (hTab : BitTab w) (hN : ¬ C 0) (j : Int) (x : Bool) :
    Calls Tryd.prog 21 #[.pointer (some ⟨p, 0, none⟩), .int .i64 j, .bool x] w fun e w' => e = .returned (.int .i64 (selL (obits o) j x)) ∧ Look w w' p C A xs (onum o) (ohigh o) := by
  by_cases h0 : j < 0
  · rw [selL_neg h0]
    refine (tSelect_neg h j x h0).mono ?_
    rintro e w' ⟨rfl, hL⟩
    exact ⟨rfl, hL.mono (Nat.zero_le _)⟩
  · by_cases h1 : ((obits o).count x : Int) ≤ j
    · rw [selL_many h1]
      refine (tSelect_many h hS hm j x (by omega) h1).mono ?_
      rintro e w' ⟨rfl, hL⟩
      exact ⟨rfl, hL.mono (Nat.zero_le _)⟩
    · obtain ⟨J, rfl⟩ := Int.eq_ofNat_of_zero_le (show 0 ≤ j by omega)
      cases o with
      | none => exact absurd (show ((obits none).count x : Int) ≤ J by simp [obits]) h1
      | some T => exact tSelect_core h hS hm hTab hN J x (by simp only [obits] at h1; omega)

end Go.Proofs.YtcppgpjodfeigaaDoor

namespace Go.Proofs.YtcppgpjodfeigaaDoor
set_option linter.unusedVariables false
set_option linter.unusedSimpArgs false
open Go.RowKit

def obl : Option TT → List Nat
  | none => []
  | some T => T.bl
def osz : Option TT → Nat
  | none => 0
  | some T => T.st.size
def ost : Option TT → Option ST
  | none => none
  | some T => some T.st
def OOwn (A : Ar) : Option TT → Prop
  | none => True
  | some T => Own A T
/-- The bits of a tree that may have no node. -/
def sbits : Option ST → List Bool
  | none => []
  | some t => t.bits
def shigh : Option ST → Nat
  | none => 0
  | some t => t.high
def Good : Option ST → Prop
  | none => True
  | some t => t.Avl ∧ t.Root
theorem obits_st (O : Option TT) : obits O = sbits (ost O) := by cases O <;> rfl

/-- Block p holds the head of a tree of bits, of blocks S; of how many nodes numbers were made, how many the last call looked at. -/
structure TreeIs (S : Nat → Prop) (w : World) (p : Nat) (o : Option ST) (made : Nat) (vis : Int) : Prop where
  ex : ∃ (C : Nat → Prop) (A : Ar) (xs : List Nd) (O : Option TT), Head w p C A xs (onum O) vis ∧ OSub w xs O ∧ OOwn A O ∧ xs.length = A.T.length ∧ A.live = osz O ∧ A.M = 268435456 ∧ ost O = o ∧ made = A.T.length ∧ (∀ k, S k ↔ C k ∨ k ∈ obl O)
  good : Good o
  len : (sbits o).length ≤ 2147483648

/-- A step of a tree: another one; the blocks it had, or new ones. -/
structure TreeStep (S : Nat → Prop) (w w' : World) (p : Nat) (o' : Option ST) (made' : Nat) (vis' : Int) : Prop where
  ex : ∃ S', TreeIs S' w' p o' made' vis' ∧ ∀ k, S' k → S k ∨ w.heap.size ≤ k
  chg : Chg S w w'

section
variable {S : Nat → Prop} {w w' : World} {p made : Nat} {o : Option ST} {vis : Int}
theorem TreeIs.lt (h : TreeIs S w p o made vis) : ∀ k, S k → k < w.heap.size := by
  obtain ⟨C, A, xs, O, h1, h2, _, _, _, _, _, _, h9⟩ := h.ex
  intro k hk
  rcases (h9 k).1 hk with hk | hk
  · exact h1.lt k hk
  · cases O with
    | none => simp [obl] at hk
    | some T => exact (Sub.type h2 hk).lt
theorem TreeIs.self (h : TreeIs S w p o made vis) : S p := by
  obtain ⟨C, A, xs, O, h1, h2, _, _, _, _, _, _, h9⟩ := h.ex
  exact (h9 p).2 (Or.inl h1.self)
theorem TreeIs.chg {S' : Nat → Prop} (h : TreeIs S w p o made vis) (hc : Chg S' w w') (hd : ∀ k, S k → ¬ S' k) : TreeIs S w' p o made vis := by
  obtain ⟨C, A, xs, O, h1, h2, h3, h4, h5, h6, h7, h8, h9⟩ := h.ex
  refine ⟨⟨C, A, xs, O, h1.chg hc (fun k hk => hd k ((h9 k).2 (Or.inl hk))), ?_, h3, h4, h5, h6, h7, h8, h9⟩, h.good, h.len⟩
  cases O with
  | none => trivial
  | some T => exact Sub.same h2 hc (fun q hq => hd q ((h9 q).2 (Or.inr hq)))
theorem TreeIs.below (h : TreeIs S w p o made vis) (hb : Below w.heap.size w w') : TreeIs S w' p o made vis := h.chg (S' := fun _ => False) (Chg.of_below hb) (fun _ _ h => h)
/-- All sums are small. -/
theorem good_small {t : ST} (hr : t.Root) (hl : t.bits.length ≤ 2147483648) : t.size ≤ 134217729 ∧ t.high < 134217730 := by
  have h1 := hr.len
  have h2 := t.size_leaves
  have h3 := t.high_size
  have h4 := t.leaves_pos
  omega
end

theorem tInsert_nil (w : World) (k : Int) (b : Bool) : Calls Tryd.prog 25 #[.pointer none, .int .i64 k, .bool b] w fun e w' => e = .returned (.int .i64 6) ∧ w = w' := by
  go_enter Tryd.func25, Tryd.ntmps25
  go_wp2_with fail
  go_ret
  exact ⟨rfl, rfl⟩

set_option maxHeartbeats 1600000 in
theorem tInsert_bad {w : World} {p : Nat} {C : Nat → Prop} {A : Ar} {xs : List Nd} {O : Option TT} {vis : Int} (h : Head w p C A xs (onum O) vis) (hS : OSub w xs O) (k : Int) (b : Bool) (hk : k < 0 ∨ ((obits O).length : Int) < k) :
    Calls Tryd.prog 25 #[.pointer (some ⟨p, 0, none⟩), .int .i64 k, .bool b] w fun e w' => e = .returned (.int .i64 2) ∧ Head w' p C A xs (onum O) 0 ∧ Chg C w w' := by
  have f3 := h.cells.2.2.2 3
  have c3 := h.cells.2.2.1
  by_cases h0 : k < 0
  · have H0 := Lib.hid (h.set3 0)
    have HC := Lib.hid (h.chg3 (.int .i64 0) 3)
    clear h hS hk
    go_enter Tryd.func25, Tryd.ntmps25
    go_wp2_with fail
    go_ret
    exact ⟨rfl, H0.out, HC.out⟩
  · have HL := Lib.hid (tLen_any h hS)
    have H0 : Hid (∀ n, Head ((w.drewN n).setCell ⟨p, 3, none⟩ (.int .i64 0)) p C A xs (onum O) 0) := fun n => (h.drewN n).set3 0
    have HC : Hid (∀ n, Chg C w ((w.drewN n).setCell ⟨p, 3, none⟩ (.int .i64 0))) := fun n => (Chg.refl.drewN n).setCell _ (Or.inl h.self) _
    have d0 : decide (k < 0) = false := by simp; omega
    have d1 : decide (((obits O).length : Int) < k) = true := by simp; omega
    clear h hS hk
    generalize (obits O).length = n at *
    go_enter Tryd.func25, Tryd.ntmps25
    go_wp2_with fail
    refine HL.out.mono ?_
    rintro e w' ⟨rfl, m, rfl⟩
    go_wp2_with fail
    go_ret
    exact ⟨rfl, H0.out _, HC.out _⟩

set_option maxHeartbeats 3200000 in
theorem tInsert_none {w : World} {p : Nat} {C : Nat → Prop} {A : Ar} {xs : List Nd} {vis : Int} (h : Head w p C A xs (-1) vis) (hlen : xs.length = A.T.length) (hlive : A.live < A.M) (b : Bool) :
    Calls Tryd.prog 25 #[.pointer (some ⟨p, 0, none⟩), .int .i64 0, .bool b] w fun e w' => e = .returned (.int .i64 0) ∧ ∃ (k q : Nat) (C' : Nat → Prop) (A' : Ar) (xs' : List Nd), Head w' p C' A' xs' k 1 ∧ Sub w' xs' (.leaf k q [b]) ∧ xs'.length = A'.T.length ∧
      A'.T[k]? = some true ∧ A'.live = A.live + 1 ∧ A'.M = A.M ∧ w.heap.size ≤ q ∧ HStep w w' C C' := by
  have f3 := h.cells.2.2.2 3
  have f2 := h.cells.2.2.2 2
  have c3 := h.cells.2.2.1
  have c2 := h.cells.2.1
  have hp := h.lt p h.self
  have HL := Lib.hid (tLen_none h)
  have H0 : Hid (∀ n o, Head (((w.drewN n).setCell ⟨p, 3, none⟩ (.int .i64 0)).alloc o) p C A xs (-1) 0) := fun n o => ((h.drewN n).set3 0).below (below_alloc _ _)
  have HC : Hid (∀ n o, Chg C w (((w.drewN n).setCell ⟨p, 3, none⟩ (.int .i64 0)).alloc o)) := fun n o => ((Chg.refl.drewN n).setCell _ (Or.inl h.self) _).alloc o
  have HRV : Hid (∀ n, ReadsV (((w.drewN n).setCell ⟨p, 3, none⟩ (.int .i64 0)).alloc (.cells #[.bool b] 4)) (some ⟨w.heap.size, 0, none⟩) ([b].map Value.bool)) := fun n => by
    have e : ((w.drewN n).setCell ⟨p, 3, none⟩ (.int .i64 0)).heap.size = w.heap.size := by simp [World.setCell]
    have h1 := heap_alloc_new ((w.drewN n).setCell ⟨p, 3, none⟩ (.int .i64 0)) (.cells #[.bool b] 4)
    rw [e] at h1
    exact readsV_block h1
  have HLN := Lib.hid hlen
  have HLV := Lib.hid hlive
  clear h hlen hlive
  go_enter Tryd.func25, Tryd.ntmps25
  go_wp2_with fail
  refine HL.out.mono ?_
  rintro e w' ⟨rfl, m, rfl⟩
  go_wp2_with fail
  refine (blkNew _ _ 1 [b] (HRV.out m) (by simp)).mono ?_
  rintro e w3 ⟨rfl, hq3, hb3⟩
  have h3 := (H0.out m (.cells #[.bool b] 4)).below hb3
  have g3 := (HC.out m (.cells #[.bool b] 4)).trans (Chg.of_below (S := C) hb3) (fun j hj => Or.inl hj)
  generalize hq : (((w.drewN m).setCell ⟨p, 3, none⟩ (.int .i64 0)).alloc (.cells #[.bool b] 4)).heap.size = q at *
  have hqw : w.heap.size ≤ q := by rw [← hq]; simp [World.setCell]
  have HLF := Lib.hid (tLeaf_any h3 HLN.out HLV.out hq3)
  have H3 := Lib.hid h3
  have G3 := Lib.hid g3
  have HQ3 := Lib.hid hq3
  have HQ := Lib.hid hq
  have HQW := Lib.hid hqw
  clear h3 g3 hq3 hq hqw hb3 H0 HC HRV
  go_wp2_with fail
  first
  | (refine HLF.out.mono ?_)
  | (rw [HQ.out]; refine HLF.out.mono ?_)
  rintro e w4 hP
  obtain ⟨k2, C4, A4, xs4, rfl, h4, s4, l4, x4, n4, kp4, t4, lv4, m4, _⟩ := hP.ex
  obtain ⟨_, d2, d3, fz4⟩ := h4.cells
  have z2 := fz4 2
  have z3 := fz4 3
  have H4 := Lib.hid h4
  have S4 := Lib.hid s4
  have HQ4 := Lib.hid (HQ3.out.chg s4.chg (H3.out.notBlk HQ3.out.type))
  have HR : Hid (xs4.length = A4.T.length ∧ xs4[k2]? = some (TT.leaf 0 q [b]).nd ∧ A4.T[k2]? = some true ∧ A4.live = A.live + 1 ∧ A4.M = A.M) := ⟨l4, x4, t4, lv4, m4⟩
  clear hP h4 s4 l4 x4 n4 kp4 t4 lv4 m4 fz4
  go_wp2_with fail
  go_ret
  obtain ⟨l4, x4, t4, lv4, m4⟩ := HR.out
  have h5 := (H4.out.set2 k2).set3 1
  have c5 : Chg C4 w4 ((w4.setCell ⟨p, 2, none⟩ (.int .i64 k2)).setCell ⟨p, 3, none⟩ (.int .i64 1)) := (Chg.refl.setCell _ (Or.inl H4.out.self) _).setCell _ (Or.inl H4.out.self) _
  refine ⟨rfl, k2, q, C4, A4, xs4, h5, ⟨x4, HQ4.out.chg c5 (H4.out.notBlk HQ4.out.type)⟩, l4, t4, lv4, m4, HQW.out, HStep.trans ⟨G3.out, fun j hj => Or.inl hj⟩ (S4.out.trans ⟨c5, fun j hj => Or.inl hj⟩)⟩

set_option maxHeartbeats 3200000 in
theorem tInsert_some {w : World} {p : Nat} {C : Nat → Prop} {A : Ar} {xs : List Nd} {vis : Int} {T : TT} (h : Head w p C A xs T.num vis) (hS : Sub w xs T) (hlen : xs.length = A.T.length) (hO : Own A T) (hlive : A.live + 2 ≤ A.M) (hb1 : T.st.bits.length ≤ 2147483648) (hh : T.st.high < 1000000000) (k : Nat) (hk : k ≤ T.st.bits.length) (b : Bool) :
    Calls Tryd.prog 25 #[.pointer (some ⟨p, 0, none⟩), .int .i64 k, .bool b] w fun e w' => e = .returned (.int .i64 0) ∧ ∃ T' C' A' xs' v', SubPost w w' p C A xs T'.num 0 T T' C' A' xs' v' ∧ T'.st = insT T.st k b := by
  have f3 := h.cells.2.2.2 3
  have f2 := h.cells.2.2.2 2
  have c3 := h.cells.2.2.1
  have c2 := h.cells.2.1
  have hkn := (List.getElem?_eq_some_iff.1 hS.root).1
  have HL := Lib.hid (tLen_some h hS)
  have H0 : Hid (∀ n, Head ((w.drewN n).setCell ⟨p, 3, none⟩ (.int .i64 0)) p C A xs T.num 0) := fun n => ((h.drewN n).set3 0)
  have HC : Hid (∀ n, Chg C w ((w.drewN n).setCell ⟨p, 3, none⟩ (.int .i64 0))) := fun n => ((Chg.refl.drewN n).setCell _ (Or.inl h.self) _)
  have HS : Hid (∀ w', Chg C w w' → Sub w' xs T) := fun w' hc => hS.chgC h hc (fun _ _ => rfl)
  have HI : Hid (∀ n, Calls Tryd.prog 69 #[.pointer (some ⟨p, 0, none⟩), .int .i64 T.num, .int .i64 k, .bool b] ((w.drewN n).setCell ⟨p, 3, none⟩ (.int .i64 0)) fun e w' => InsPost ((w.drewN n).setCell ⟨p, 3, none⟩ (.int .i64 0)) w' p C A xs T.num 0 T k b e) :=
    fun n => tIns_any T _ p C A xs T.num 0 k b (H0.out n) hlen (by omega) (by omega) (HS.out _ (HC.out n)) hO hlive hk (by omega) (by omega)
  have hp := h.lt p h.self
  have d1 : decide (T.st.bits.length < k) = false := decide_eq_false (by omega)
  have dr : ((T.num : Int) == -1) = false := by rw [beq_eq_false_iff_ne]; omega
  clear h hS hO hlive
  obtain ⟨nt, hnt⟩ : ∃ n, T.num = n := ⟨_, rfl⟩
  obtain ⟨n, hn⟩ : ∃ n, T.st.bits.length = n := ⟨_, rfl⟩
  rw [hnt] at c2 dr H0 HI
  rw [hn] at d1 HL hb1 hk
  have HNT := Lib.hid hnt
  clear hn hnt
  go_enter Tryd.func25, Tryd.ntmps25
  go_wp2_with fail
  refine HL.out.mono ?_
  rintro e w' ⟨rfl, m, rfl⟩
  go_wp2_with fail
  refine (HI.out m).mono ?_
  rintro e w3 ⟨T', C3, A3, xs3, v3, rfl, hP, hst⟩
  have h3 := hP.head
  obtain ⟨_, d2, d3, fz3⟩ := h3.cells
  have z2 := fz3 2
  have H3 := Lib.hid h3
  have HP := Lib.hid hP
  have HST := Lib.hid hst
  clear hP h3 hst fz3
  go_wp2_with fail
  go_ret
  have h4 := H3.out.set2 T'.num
  have c4 : Chg C3 w3 (w3.setCell ⟨p, 2, none⟩ (.int .i64 T'.num)) := Chg.refl.setCell _ (Or.inl H3.out.self) _
  refine ⟨rfl, T', C3, A3, xs3, v3, SubPost.of h4 (HP.out.sub.chgC H3.out c4 (fun _ _ => rfl)) (SubPre.first (HC.out m) (HP.out.pre.next c4 (fun _ _ => rfl) rfl (List.Perm.refl _) rfl rfl)) HP.out.vis, HST.out⟩

/-- A tree behind a bit more. -/
def insO (o : Option ST) (k : Nat) (b : Bool) : Option ST := some (match o with | none => .leaf [b] | some t => insT t k b)
theorem insO_bits {o : Option ST} {k : Nat} {b : Bool} (hk : k ≤ (sbits o).length) : sbits (insO o k b) = inL (sbits o) k b := by
  cases o with
  | none =>
    obtain rfl : k = 0 := by simpa [sbits] using hk
    rfl
  | some t => exact insT_bits hk
theorem insO_good {o : Option ST} {k : Nat} {b : Bool} (hg : Good o) (hk : k ≤ (sbits o).length) : Good (insO o k b) := by
  cases o with
  | none => exact ⟨trivial, by simp [ST.Root]⟩
  | some t => exact ⟨(insT_avl hg.1 k b).1, insT_root hg.2 b hk⟩
theorem insO_high {o : Option ST} {k : Nat} {b : Bool} (hg : Good o) : shigh o ≤ shigh (insO o k b) ∧ shigh (insO o k b) ≤ shigh o + 1 := by
  cases o with
  | none => simp [shigh, insO, ST.high]
  | some t => exact (insT_avl hg.1 k b).2

/-- Insert, where the place may be. -/
theorem tInsert_is {S : Nat → Prop} {w : World} {p made : Nat} {o : Option ST} {vis : Int} (h : TreeIs S w p o made vis) (hl : (sbits o).length < 2147483648) (k : Nat) (hk : k ≤ (sbits o).length) (b : Bool) :
    Calls Tryd.prog 25 #[.pointer (some ⟨p, 0, none⟩), .int .i64 k, .bool b] w fun e w' => e = .returned (.int .i64 0) ∧ ∃ made' v', TreeStep S w w' p (insO o k b) made' v' ∧ 0 ≤ v' ∧ v' ≤ 7 * shigh o + 2 := by
  have hgood := insO_good (b := b) h.good hk
  have hbits := insO_bits (b := b) hk
  have hlen' : (sbits (insO o k b)).length ≤ 2147483648 := by rw [hbits, inL_len hk]; omega
  have hlt := h.lt
  obtain ⟨C, A, xs, O, h1, h2, h3, h4, h5, h6, h7, h8, h9⟩ := h.ex
  have hCS : ∀ j, C j → S j := fun j hj => (h9 j).2 (Or.inl hj)
  cases O with
  | none =>
    obtain rfl : o = none := h7.symm
    obtain rfl : k = 0 := by simpa [sbits] using hk
    refine (tInsert_none h1 h4 (by rw [h5, h6]; simp [osz]) b).mono ?_
    rintro e w' ⟨rfl, kn, q, C', A', xs', g1, g2, g3, g4, g5, g6, g7, g8⟩
    refine ⟨rfl, A'.T.length, 1, ⟨⟨fun j => C' j ∨ j ∈ obl (some (.leaf kn q [b])), ⟨⟨C', A', xs', some (.leaf kn q [b]), g1, g2, ⟨by simp [TT.nums], by simp [TT.bl], fun j hj => by simp [TT.nums] at hj; subst hj; exact g4⟩, g3, by rw [g5, h5]; rfl, by rw [g6, h6], rfl, rfl, fun j => Iff.rfl⟩, hgood, hlen'⟩, fun j hj => ?_⟩, g8.chg.mono hCS⟩, by omega, by simp [shigh]⟩
    rcases hj with hj | hj
    · exact (g8.new j hj).imp (hCS j) id
    · simp [obl, TT.bl] at hj; subst hj; exact Or.inr g7
  | some T =>
    obtain rfl : o = some T.st := h7.symm
    have hsm := good_small h.good.2 h.len
    refine (tInsert_some h1 h2 h4 h3 (by rw [h5, h6]; show T.st.size + 2 ≤ _; omega) h.len (by omega) k hk b).mono ?_
    rintro e w' ⟨rfl, T', C', A', xs', v', hP, hst⟩
    have hv := hP.vis
    refine ⟨rfl, A'.T.length, v', ⟨⟨fun j => C' j ∨ j ∈ obl (some T'), ⟨⟨C', A', xs', some T', hP.head, hP.sub, hP.own, hP.len, ?_, by rw [hP.max, h6], ?_, rfl, fun j => Iff.rfl⟩, hgood, hlen'⟩, fun j hj => ?_⟩, hP.chg.mono (fun j hj => (h9 j).2 hj)⟩, by omega, by simp only [shigh]; omega⟩
    · have := hP.live; have h5' : A.live = T.st.size := h5; show A'.live = T'.st.size; omega
    · show some T'.st = _; rw [hst]; rfl
    · rcases hj with hj | hj
      · exact (hP.newC j hj).imp (hCS j) id
      · exact (hP.newB j hj).imp (fun h => (h9 j).2 (Or.inr h)) id

end Go.Proofs.YtcppgpjodfeigaaDoor

namespace Go.Proofs.YtcppgpjodfeigaaDoor
set_option linter.unusedVariables false
set_option linter.unusedSimpArgs false

/-- The bits of the leaves from one on, below another one, of so many. -/
def segL (L : List Bool) (m f t : Nat) : List Bool := (L.take (L.length * t / m)).drop (L.length * f / m)

theorem seg_le {n m f t : Nat} (h : f ≤ t) : n * f / m ≤ n * t / m := Nat.div_le_div_right (Nat.mul_le_mul_left n h)
theorem seg_top {n m t : Nat} (h : t ≤ m) (hm : 0 < m) : n * t / m ≤ n :=
  Nat.div_le_of_le_mul (by rw [Nat.mul_comm m n]; exact Nat.mul_le_mul_left n h)
theorem segL_len {L : List Bool} {m f t : Nat} (h1 : f ≤ t) (h2 : t ≤ m) (hm : 0 < m) : (segL L m f t).length = L.length * t / m - L.length * f / m := by
  have := seg_top (n := L.length) h2 hm
  simp only [segL, List.length_drop, List.length_take]; omega
theorem segL_cat {L : List Bool} {m f k t : Nat} (h1 : f ≤ k) (h2 : k ≤ t) (h3 : t ≤ m) (hm : 0 < m) : segL L m f k ++ segL L m k t = segL L m f t := by
  have a1 := seg_le (n := L.length) (m := m) h1
  have a2 := seg_le (n := L.length) (m := m) h2
  have a3 := seg_top (n := L.length) h3 hm
  unfold segL
  generalize L.length * f / m = x at *
  generalize L.length * k / m = y at *
  generalize L.length * t / m = z at *
  have e1 : L.take z = L.take y ++ (L.take z).drop y := by
    have := (List.take_append_drop y (L.take z)).symm
    rwa [List.take_take, Nat.min_eq_left a2] at this
  conv => rhs; rw [e1]
  rw [List.drop_append_of_le_length (by rw [List.length_take]; omega)]
theorem segL_all {L : List Bool} {m : Nat} (hm : 0 < m) : segL L m 0 m = L := by
  simp only [segL, Nat.mul_zero, Nat.zero_div, List.drop_zero, Nat.mul_div_cancel _ hm, List.take_length]

/-- How many a leaf has. -/
theorem seg_step_le {n m f : Nat} (hn : n ≤ 128 * m) (hm : 0 < m) : n * (f + 1) / m ≤ n * f / m + 128 := by
  have h : n * (f + 1) ≤ n * f + 128 * m := by rw [Nat.mul_add, Nat.mul_one]; omega
  calc n * (f + 1) / m ≤ (n * f + 128 * m) / m := Nat.div_le_div_right h
    _ = n * f / m + 128 := Nat.add_mul_div_right _ _ hm
theorem seg_step_ge {n m f : Nat} (hn : 64 * m ≤ n) (hm : 0 < m) : n * f / m + 64 ≤ n * (f + 1) / m := by
  have h : n * f + 64 * m ≤ n * (f + 1) := by rw [Nat.mul_add, Nat.mul_one]; omega
  calc n * f / m + 64 = (n * f + 64 * m) / m := (Nat.add_mul_div_right _ _ hm).symm
    _ ≤ n * (f + 1) / m := Nat.div_le_div_right h

/-- What build makes. -/
structure Bld (L : List Bool) (m f t : Nat) (T : ST) : Prop where
  bits : T.bits = segL L m f t
  avl : T.Avl
  leaves : T.leaves = t - f
  up : t - f ≤ 2 ^ T.high
  low : (T.high = 0 ∧ t - f = 1) ∨ (∃ h, T.high = h + 1 ∧ 2 ^ h < t - f)
  le : T.Le
  fill : 2 ≤ m → T.Fill

theorem bld_leaf {L : List Bool} {m f t : Nat} (hm : m = (L.length + 127) / 128) (h : t - f = 1) (ht : t ≤ m) : Bld L m f t (.leaf (segL L m f t)) := by
  have e : t = f + 1 := by omega
  subst e
  have hp : 0 < m := by omega
  have hl := segL_len (L := L) (m := m) (f := f) (t := f + 1) (by omega) ht hp
  have h1 := seg_step_le (n := L.length) (m := m) (f := f) (by omega) hp
  refine ⟨rfl, trivial, by simp [ST.leaves], by simp [ST.high], Or.inl ⟨rfl, h⟩, ?_, ?_⟩
  · change _ ≤ 128
    rw [hl]; omega
  · intro h2
    have h3 := seg_step_ge (n := L.length) (m := m) (f := f) (by omega) hp
    change 32 ≤ _ ∧ _ ≤ 128
    rw [hl]; omega

theorem bld_pair {L : List Bool} {m f t : Nat} {a b : ST} (hp : 0 < m) (h : 2 ≤ t - f) (ht : t ≤ m) (ha : Bld L m f ((f + t) / 2) a) (hb : Bld L m ((f + t) / 2) t b) : Bld L m f t (.pair a b) := by
  obtain ⟨k, hk⟩ : ∃ k, k = (f + t) / 2 := ⟨_, rfl⟩
  rw [← hk] at ha hb
  have hka : k - f = (t - f) / 2 := by omega
  have hkb : t - k = (t - f + 1) / 2 := by omega
  have k1 : f ≤ k := by omega
  have k2 : k ≤ t := by omega
  have k3 : k - f + (t - k) = t - f := by omega
  obtain ⟨d, hd⟩ : ∃ d, d = t - f := ⟨_, rfl⟩
  rw [← hd] at hka hkb h
  have ua := ha.up; have ub := hb.up; have la := ha.low; have lb := hb.low
  rw [hka] at ua la
  rw [hkb] at ub lb
  -- the sides' heights
  have low_lt : ∀ {x h : Nat}, ((h = 0 ∧ x = 1) ∨ ∃ g, h = g + 1 ∧ 2 ^ g < x) → ∀ g, x ≤ 2 ^ g → h ≤ g := by
    rintro x h (⟨rfl, _⟩ | ⟨q, rfl, hq⟩) g hg
    · omega
    · have : 2 ^ q < 2 ^ g := Nat.lt_of_lt_of_le hq hg
      have := (Nat.pow_lt_pow_iff_right (a := 2) (by omega)).1 this
      omega
  have hab : a.high ≤ b.high := low_lt la _ (by omega)
  have hba : b.high ≤ a.high + 1 := low_lt lb _ (by rw [Nat.pow_succ]; omega)
  have hh : (ST.pair a b).high = b.high + 1 := by simp only [ST.high]; omega
  refine ⟨?_, ⟨ha.avl, hb.avl, by omega, hba⟩, ?_, ?_, Or.inr ⟨b.high, hh, ?_⟩, ⟨ha.le, hb.le⟩, fun h2 => ⟨ha.fill h2, hb.fill h2⟩⟩
  · change a.bits ++ b.bits = _
    rw [ha.bits, hb.bits]
    exact segL_cat k1 k2 ht hp
  · change a.leaves + b.leaves = _
    rw [ha.leaves, hb.leaves]; exact k3
  · rw [hh, Nat.pow_succ]; omega
  · rcases lb with ⟨h0, h1⟩ | ⟨g, hg, h1⟩
    · rw [h0]; simp; omega
    · rw [hg, Nat.pow_succ]; omega

/-- The whole tree. -/
theorem bld_root {L : List Bool} {m : Nat} {T : ST} (hm : m = (L.length + 127) / 128) (h0 : 0 < m) (h : Bld L m 0 m T) : T.bits = L ∧ T.Avl ∧ T.Root := by
  have hb : T.bits = L := by rw [h.bits, segL_all h0]
  refine ⟨hb, h.avl, ?_⟩
  rcases Nat.lt_or_ge m 2 with h1 | h1
  · cases T with
    | leaf l =>
      have hl := h.le
      refine ⟨?_, hl⟩
      have : l.length = L.length := congrArg List.length hb
      omega
    | pair a b =>
      exfalso
      have h2 := h.leaves
      have := a.leaves_pos; have := b.leaves_pos
      simp only [ST.leaves] at h2; omega
  · exact (h.fill h1).root

end Go.Proofs.YtcppgpjodfeigaaDoor

namespace Go.Proofs.YtcppgpjodfeigaaDoor
set_option linter.unusedVariables false
set_option linter.unusedSimpArgs false
open Go.RowKit

theorem run_sliceMid {P : Program} {w : World} {t e : TypeId} {a : Option Addr} {len cap j k : Nat} (ht : P.underlying t = some (.slice e)) (hinfo : (P.info? e).map (fun i => i.size) = some 1) (hj : j ≤ k) (hk : k ≤ cap) :
    (Instr.slice t (.slice a len cap) (some (.int .i64 (j : Int))) (some (.int .i64 (k : Int))) none).run P w = .ok (.slice (offA a j cap) (k - j) (cap - j)) w := by
  obtain ⟨i, hi, hs⟩ := Option.map_eq_some_iff.1 hinfo
  have hk' : (k : Int) ≤ (cap : Int) := by omega
  have hj' : (j : Int) ≤ (k : Int) := by omega
  simp [Instr.slice, run_underlying ht, Instr.sliceBounds, Instr.sliceBound, asIntOf, hk', hj', sizeOf, typeInfo, hi, hs, go_sem, offA, hj, hk]

/-- What build leaves: a new tree; all taken before is as it was. -/
structure BldStep (w w' : World) (p : Nat) (C : Nat → Prop) (A : Ar) (xs : List Nd) (root vis : Int) (T' : TT) (C' : Nat → Prop) (A' : Ar) (xs' : List Nd) : Prop where
  head : Head w' p C' A' xs' root vis
  sub : Sub w' xs' T'
  own : Own A' T'
  len : xs'.length = A'.T.length
  newC : ∀ j, C' j → C j ∨ w.heap.size ≤ j
  newB : ∀ q ∈ T'.bl, w.heap.size ≤ q
  keep : ∀ j : Nat, A.T[j]? = some true → xs'[j]? = xs[j]? ∧ A'.T[j]? = some true ∧ j ∉ T'.nums
  live : A'.live = A.live + T'.st.size
  max : A'.M = A.M
  fr : A.F = [] → A'.F = []
  chg : Chg C w w'
def BldPost (w w' : World) (p : Nat) (C : Nat → Prop) (A : Ar) (xs : List Nd) (root vis : Int) (L : List Bool) (m f t : Nat) (e : Ending) : Prop :=
  ∃ T' C' A' xs', e = .returned (.int .i64 T'.num) ∧ BldStep w w' p C A xs root vis T' C' A' xs' ∧ Bld L m f t T'.st

set_option maxHeartbeats 3200000 in
set_option maxRecDepth 100000 in
theorem tBuild_leaf {w : World} {p : Nat} {C : Nat → Prop} {A : Ar} {xs : List Nd} {root vis : Int} (h : Head w p C A xs root vis) (hlen : xs.length = A.T.length) {a : Option Addr} {c : Nat} {L : List Bool} (hr : ReadsV w a (L.map Value.bool))
    (hc : L.length ≤ c) (hL : L.length ≤ 2147483648) {m f t : Nat} (hm : m = (L.length + 127) / 128) (hft : t - f = 1) (ht : t ≤ m) (hlive : A.live < A.M) :
    Calls Tryd.prog 61 #[.pointer (some ⟨p, 0, none⟩), .slice a L.length c, .int .i64 f, .int .i64 t, .int .i64 m] w fun e w' => BldPost w w' p C A xs root vis L m f t e := by
  have hp0 : 0 < m := by omega
  have hB := bld_leaf (L := L) hm hft ht
  have hsl := segL_len (L := L) (m := m) (f := f) (t := t) (by omega) ht hp0
  have hx2 := seg_le (n := L.length) (m := m) (f := f) (t := t) (by omega)
  have hx3 := seg_top (n := L.length) ht hp0
  obtain ⟨x, hx⟩ : ∃ x, x = L.length * f / m := ⟨_, rfl⟩
  obtain ⟨y, hy⟩ : ∃ y, y = L.length * t / m := ⟨_, rfl⟩
  obtain ⟨sg, hsg⟩ : ∃ sg, sg = segL L m f t := ⟨_, rfl⟩
  have hb1 : L.length * f ≤ 2147483648 * 16777217 := Nat.mul_le_mul hL (by omega)
  have hb2 : L.length * t ≤ 2147483648 * 16777217 := Nat.mul_le_mul hL (by omega)
  have hsr : ReadsV w (offA a x c) (sg.map Value.bool) := by
    rw [hsg]; unfold segL; rw [← hx, ← hy, List.map_drop, List.map_take]
    exact (hr.take y).drop (by rw [List.length_take, List.length_map]; omega)
  rw [← hx, ← hy] at hx2 hsl
  rw [← hy] at hx3
  rw [← hsg] at hsl hB
  have hsl128 : sg.length ≤ 128 := hB.le
  have d0 : ((t : Int) - (f : Int) == 1) = true := by rw [beq_iff_eq]; omega
  have d1 : IntKind.i64.wrap ((t : Int) - (f : Int)) = (t : Int) - (f : Int) := IntWalk.i64_in _ (by omega)
  obtain ⟨zf, hzf⟩ : ∃ zf, zf = L.length * f := ⟨_, rfl⟩
  obtain ⟨zt, hzt⟩ : ∃ zt, zt = L.length * t := ⟨_, rfl⟩
  have d2 : IntKind.i64.wrap ((L.length : Int) * (f : Int)) = (zf : Int) := by rw [← Int.natCast_mul, ← hzf]; exact IntWalk.i64_in _ (by omega)
  have d3 : IntKind.i64.wrap ((L.length : Int) * (t : Int)) = (zt : Int) := by rw [← Int.natCast_mul, ← hzt]; exact IntWalk.i64_in _ (by omega)
  have d4 : IntKind.i64.wrap ((zf : Int) / (m : Int)) = (x : Int) := by
    rw [← Int.natCast_ediv, hzf, ← hx]; exact IntWalk.i64_in _ (by omega)
  have d5 : IntKind.i64.wrap ((zt : Int) / (m : Int)) = (y : Int) := by
    rw [← Int.natCast_ediv, hzt, ← hy]; exact IntWalk.i64_in _ (by omega)
  have d6 : ¬ m = 0 := by omega
  have hS2 : ∀ (w : World), (Instr.slice 23 (.slice a L.length c) (some (.int .i64 (x : Int))) (some (.int .i64 (y : Int))) none).run Tryd.prog w = .ok (.slice (offA a x c) (y - x) (c - x)) w := fun w =>
    run_sliceMid (e := 4) (by kernel_rfl) (by kernel_rfl) hx2 (by omega)
  have HN : Hid (∀ n, Calls Tryd.prog 67 #[.slice (offA a x c) (y - x) (c - x)] (w.drewN n) fun e w' => e = .returned (.tuple #[.pointer (some ⟨w.heap.size, 0, none⟩), .int .i64 0]) ∧ IsBlock w' w.heap.size sg ∧ Below w.heap.size w w') := fun n => by
    have := blkNew (w.drewN n) (offA a x c) (c - x) sg hsr hsl128
    rw [hsl] at this
    refine this.mono ?_
    rintro e w' ⟨rfl, h1, h2⟩
    exact ⟨rfl, h1, ⟨h2.os, h2.tape, h2.output, h2.size, h2.block⟩⟩
  have HH := Lib.hid h
  have HL := Lib.hid hlen
  have HLV := Lib.hid hlive
  have HB := Lib.hid hB
  clear h hlen hlive hB hr hsr hsl hsl128 hb1 hb2 hx hy hzf hzt hsg hm
  generalize L.length = n0 at *
  go_enter Tryd.func61, Tryd.ntmps61
  go_wp2_with fail
  -- REGION leaf
  refine reg_start (fun _ => True) (by kernel_rfl) (trivial) (fun hHeld => ?_)
  refine reg_take (i := 0) (v := ?vlf0) rfl (by kernel_rfl) rfl hHeld ?ylf0 ?rlf0
  case ylf0 => (intro w hSw; (try dsimp only at hSw); go_simp; all_goals with_reducible rfl)
  try simp only [Act.put, List.setIfInBounds_toArray, List.set_cons_zero, List.set_cons_succ]
  refine reg_take (i := 1) (v := ?vlf1) rfl (by kernel_rfl) rfl hHeld ?ylf1 ?rlf1
  case ylf1 => (intro w hSw; (try dsimp only at hSw); go_simp; all_goals with_reducible rfl)
  try simp only [Act.put, List.setIfInBounds_toArray, List.set_cons_zero, List.set_cons_succ]
  refine reg_take (i := 2) (v := ?vlf2) rfl (by kernel_rfl) rfl hHeld ?ylf2 ?rlf2
  case ylf2 => (intro w hSw; (try dsimp only at hSw); go_simp; all_goals with_reducible rfl)
  try simp only [Act.put, List.setIfInBounds_toArray, List.set_cons_zero, List.set_cons_succ]
  refine reg_take (i := 3) (v := ?vlf3) rfl (by kernel_rfl) rfl hHeld ?ylf3 ?rlf3
  case ylf3 => (intro w hSw; (try dsimp only at hSw); go_simp; all_goals with_reducible rfl)
  try simp only [Act.put, List.setIfInBounds_toArray, List.set_cons_zero, List.set_cons_succ]
  refine reg_take (i := 4) (v := ?vlf4) rfl (by kernel_rfl) rfl hHeld ?ylf4 ?rlf4
  case ylf4 => (intro w hSw; (try dsimp only at hSw); go_simp; all_goals with_reducible rfl)
  try simp only [Act.put, List.setIfInBounds_toArray, List.set_cons_zero, List.set_cons_succ]
  refine reg_take (i := 5) (v := ?vlf5) rfl (by kernel_rfl) rfl hHeld ?ylf5 ?rlf5
  case ylf5 => (intro w hSw; (try dsimp only at hSw); go_simp; all_goals with_reducible rfl)
  try simp only [Act.put, List.setIfInBounds_toArray, List.set_cons_zero, List.set_cons_succ]
  refine reg_take (i := 6) (v := ?vlf6) rfl (by kernel_rfl) rfl hHeld ?ylf6 ?rlf6
  case ylf6 => (intro w hSw; (try dsimp only at hSw); go_simp; all_goals with_reducible rfl)
  try simp only [Act.put, List.setIfInBounds_toArray, List.set_cons_zero, List.set_cons_succ]
  refine reg_take (i := 7) (v := ?vlf7) rfl (by kernel_rfl) rfl hHeld ?ylf7 ?rlf7
  case ylf7 => (intro w hSw; (try dsimp only at hSw); go_simp; all_goals with_reducible rfl)
  try simp only [Act.put, List.setIfInBounds_toArray, List.set_cons_zero, List.set_cons_succ]
  refine reg_take (i := 8) (v := ?vlf8) rfl (by kernel_rfl) rfl hHeld ?ylf8 ?rlf8
  case ylf8 => (intro w hSw; (try dsimp only at hSw); go_simp; all_goals with_reducible rfl)
  try simp only [Act.put, List.setIfInBounds_toArray, List.set_cons_zero, List.set_cons_succ]
  refine reg_take (i := 9) (v := ?vlf9) rfl (by kernel_rfl) rfl hHeld ?ylf9 ?rlf9
  case ylf9 => (intro w hSw; (try dsimp only at hSw); go_simp; all_goals with_reducible rfl)
  try simp only [Act.put, List.setIfInBounds_toArray, List.set_cons_zero, List.set_cons_succ]
  refine reg_take (i := 10) (v := ?vlf10) rfl (by kernel_rfl) rfl hHeld ?ylf10 ?rlf10
  case ylf10 => (intro w hSw; (try dsimp only at hSw); go_simp; all_goals with_reducible rfl)
  try simp only [Act.put, List.setIfInBounds_toArray, List.set_cons_zero, List.set_cons_succ]
  refine reg_take (i := 11) (v := ?vlf11) rfl (by kernel_rfl) rfl hHeld ?ylf11 ?rlf11
  case ylf11 => (intro w hSw; (try dsimp only at hSw); go_simp; all_goals with_reducible rfl)
  try simp only [Act.put, List.setIfInBounds_toArray, List.set_cons_zero, List.set_cons_succ]
  refine reg_take (i := 12) (v := ?vlf12) rfl (by kernel_rfl) rfl hHeld ?ylf12 ?rlf12
  case ylf12 => (intro w hSw; (try dsimp only at hSw); go_simp; all_goals with_reducible rfl)
  try simp only [Act.put, List.setIfInBounds_toArray, List.set_cons_zero, List.set_cons_succ]
  refine reg_take (i := 13) (v := ?vlf13) rfl (by kernel_rfl) rfl hHeld ?ylf13 ?rlf13
  case ylf13 => (intro w hSw; (try dsimp only at hSw); go_simp; all_goals with_reducible rfl)
  try simp only [Act.put, List.setIfInBounds_toArray, List.set_cons_zero, List.set_cons_succ]
  refine reg_loud (i := 14) rfl (by kernel_rfl) rfl (fun K hK => ?_)
  go_simp
  ((refine (HN.out _).mono ?_))
  rintro e w2 ⟨rfl, hq, hb2⟩
  refine hK.out _ _ (trivial) (fun hNew => ?_)
  clear hK K hHeld
  have hHeld := hNew
  clear hNew
  try simp only [Act.put, List.setIfInBounds_toArray, List.set_cons_zero, List.set_cons_succ]
  refine reg_take (i := 15) (v := ?vlf15) rfl (by kernel_rfl) rfl hHeld ?ylf15 ?rlf15
  case ylf15 => (intro w hSw; (try dsimp only at hSw); go_simp; all_goals with_reducible rfl)
  try simp only [Act.put, List.setIfInBounds_toArray, List.set_cons_zero, List.set_cons_succ]
  refine reg_take (i := 16) (v := ?vlf16) rfl (by kernel_rfl) rfl hHeld ?ylf16 ?rlf16
  case ylf16 => (intro w hSw; (try dsimp only at hSw); go_simp; all_goals with_reducible rfl)
  try simp only [Act.put, List.setIfInBounds_toArray, List.set_cons_zero, List.set_cons_succ]
  refine reg_take (i := 17) (v := ?vlf17) rfl (by kernel_rfl) rfl hHeld ?ylf17 ?rlf17
  case ylf17 => (intro w hSw; (try dsimp only at hSw); go_simp; all_goals with_reducible rfl)
  try simp only [Act.put, List.setIfInBounds_toArray, List.set_cons_zero, List.set_cons_succ]
  refine reg_take (i := 18) (v := ?vlf18) rfl (by kernel_rfl) rfl hHeld ?ylf18 ?rlf18
  case ylf18 => (intro w hSw; (try dsimp only at hSw); go_simp; all_goals with_reducible rfl)
  try simp only [Act.put, List.setIfInBounds_toArray, List.set_cons_zero, List.set_cons_succ]
  refine reg_take (i := 19) (v := ?vlf19) rfl (by kernel_rfl) rfl hHeld ?ylf19 ?rlf19
  case ylf19 => (intro w hSw; (try dsimp only at hSw); go_simp; all_goals with_reducible rfl)
  try simp only [Act.put, List.setIfInBounds_toArray, List.set_cons_zero, List.set_cons_succ]
  refine reg_done (by kernel_rfl) ?_ _
  -- END OF REGION leaf
  clear hHeld
  have HQ := Lib.hid hq
  have h2 := HH.out.below hb2
  have HC2 := Lib.hid (Chg.of_below (S := C) hb2)
  have HLF := Lib.hid (tLeaf_any h2 HL.out HLV.out hq)
  have HHK := Lib.hid h2
  clear hq hb2 h2
  go_wp2_with fail
  refine HLF.out.mono ?_
  rintro e w3 ⟨k, C', A', xs', rfl, h3, s3, l3, hk3, t3, keep3, t3', live3, max3, fr3⟩
  have hq3 : IsBlock w3 w.heap.size sg := HQ.out.chg s3.chg (HHK.out.notBlk HQ.out.type)
  have HP : Hid (BldPost w w3 p C A xs root vis L m f t (.returned (.int .i64 (k : Int)))) := by
    refine ⟨.leaf k w.heap.size sg, C', A', xs', rfl, ⟨h3, ⟨hk3, hq3⟩, ⟨by simp [TT.nums], by simp [TT.bl], fun j hj => ?_⟩, l3, fun j hj => ?_, fun q hq => ?_, fun j hj => ?_, ?_, max3, fr3, ?_⟩, HB.out⟩
    · simp [TT.nums] at hj; subst hj; exact t3'
    · rcases s3.new j hj with h | h
      · exact Or.inl h
      · right; have := HC2.out.size; omega
    · simp [TT.bl] at hq; omega
    · refine ⟨(keep3 j hj).1, (keep3 j hj).2, ?_⟩
      simp only [TT.nums, List.mem_cons, List.not_mem_nil, or_false]
      rintro rfl; exact t3 hj
    · rw [live3]; simp [TT.st, ST.size]
    · exact HC2.out.trans s3.chg (fun j hj => Or.inl hj)
  clear h3 s3 l3 hk3 t3 keep3 t3' live3 max3 fr3 hq3 HB HLF HHK HC2 HQ
  go_wp2_with fail
  go_ret
  exact HP.out

end Go.Proofs.YtcppgpjodfeigaaDoor

namespace Go.Proofs.YtcppgpjodfeigaaDoor
set_option linter.unusedVariables false
set_option linter.unusedSimpArgs false
open Go.RowKit

section
variable {w w2 w3 w4 : World} {p : Nat} {C C2 C3 : Nat → Prop} {A A2 A3 : Ar} {xs x2 x3 : List Nd} {root vis : Int} {Ta Tb : TT}
theorem BldStep.subA (Sa : BldStep w w2 p C A xs root vis Ta C2 A2 x2) (Sb : BldStep w2 w3 p C2 A2 x2 root vis Tb C3 A3 x3) : Sub w3 x3 Ta :=
  Sa.sub.chgC Sa.head Sb.chg (fun j hj => (Sb.keep j (Sa.own.tk j hj)).1)
theorem BldStep.joined (Sa : BldStep w w2 p C A xs root vis Ta C2 A2 x2) (Sb : BldStep w2 w3 p C2 A2 x2 root vis Tb C3 A3 x3) {e : Ending} (hn : NodePost w3 w4 p C3 A3 x3 root vis (TT.pair 0 Ta Tb).nd e)
    {L : List Bool} {m f t : Nat} (hB : Bld L m f t (.pair Ta.st Tb.st)) : BldPost w w4 p C A xs root vis L m f t e := by
  obtain ⟨k, C', A', xs', rfl, h4, s4, l4, hk4, t4, keep4, t4', live4, max4, fr4⟩ := hn.ex
  have s1 := Sa.chg.size
  have s2 := Sb.chg.size
  have kA : ∀ j ∈ Ta.nums, A3.T[j]? = some true := fun j hj => (Sb.keep j (Sa.own.tk j hj)).2.1
  have kB : ∀ j ∈ Tb.nums, A3.T[j]? = some true := Sb.own.tk
  have dAB : ∀ j ∈ Ta.nums, j ∉ Tb.nums := fun j hj => (Sb.keep j (Sa.own.tk j hj)).2.2
  have subA := (Sa.subA Sb).chgC Sb.head s4.chg (fun j hj => (keep4 j (kA j hj)).1)
  have subB := Sb.sub.chgC Sb.head s4.chg (fun j hj => (keep4 j (kB j hj)).1)
  refine ⟨.pair k Ta Tb, C', A', xs', rfl, ⟨h4, ⟨hk4, subA, subB⟩, ⟨?_, ?_, ?_⟩, l4, ?_, ?_, ?_, ?_, ?_, fun h => fr4 (Sb.fr (Sa.fr h)), ?_⟩, hB⟩
  · simp only [TT.nums, List.nodup_cons, List.mem_append, not_or, List.nodup_append]
    exact ⟨⟨fun h => t4 (kA k h), fun h => t4 (kB k h)⟩, Sa.own.nn, Sb.own.nn, fun j hj i hi e => dAB j hj (e ▸ hi)⟩
  · simp only [TT.bl, List.nodup_append]
    refine ⟨Sa.own.bn, Sb.own.bn, fun j hj i hi e => ?_⟩
    have h1 := (Sa.sub.type hj).lt
    have h2 := Sb.newB i hi
    omega
  · intro j hj
    simp only [TT.nums, List.mem_cons, List.mem_append] at hj
    rcases hj with rfl | hj | hj
    · exact t4'
    · exact (keep4 j (kA j hj)).2
    · exact (keep4 j (kB j hj)).2
  · intro j hj
    rcases s4.new j hj with h | h
    · rcases Sb.newC j h with h | h
      · exact Sa.newC j h
      · right; omega
    · right; omega
  · intro q hq
    simp only [TT.bl, List.mem_append] at hq
    rcases hq with hq | hq
    · exact Sa.newB q hq
    · have := Sb.newB q hq; omega
  · intro j hj
    have k1 := Sa.keep j hj
    have k2 := Sb.keep j k1.2.1
    have k3 := keep4 j k2.2.1
    refine ⟨k3.1.trans (k2.1.trans k1.1), k3.2, ?_⟩
    simp only [TT.nums, List.mem_cons, List.mem_append]
    rintro (rfl | hj | hj)
    · exact t4 k2.2.1
    · exact k1.2.2 hj
    · exact k2.2.2 hj
  · have := Sa.live; have := Sb.live; simp only [TT.st, ST.size]; omega
  · rw [max4, Sb.max, Sa.max]
  · refine (Sa.chg.trans Sb.chg (fun j hj => Sa.newC j hj)).trans s4.chg (fun j hj => ?_)
    rcases Sb.newC j hj with h | h
    · exact Sa.newC j h
    · right; omega
end

set_option maxHeartbeats 3200000 in
set_option maxRecDepth 100000 in
theorem tBuild_any {p : Nat} {root vis : Int} {a : Option Addr} {c : Nat} {L : List Bool} {m : Nat} (hc : L.length ≤ c) (hL : L.length ≤ 2147483648) (hm : m = (L.length + 127) / 128) (n : Nat) :
    ∀ (w : World) (C : Nat → Prop) (A : Ar) (xs : List Nd) (f t : Nat), Head w p C A xs root vis → xs.length = A.T.length → ReadsV w a (L.map Value.bool) → (∀ ad, a = some ad → ¬ C ad.block ∧ ad.block < w.heap.size) →
      t - f = n → 1 ≤ n → t ≤ m → A.live + 2 * n ≤ A.M + 1 →
      Calls Tryd.prog 61 #[.pointer (some ⟨p, 0, none⟩), .slice a L.length c, .int .i64 f, .int .i64 t, .int .i64 m] w fun e w' => BldPost w w' p C A xs root vis L m f t e := by
  induction n using Nat.strongRecOn with
  | ind n ih =>
    intro w C A xs f t h hlen hr had hn hn1 ht hlive
    by_cases h1 : n = 1
    · exact tBuild_leaf h hlen hr hc hL hm (by omega) ht (by omega)
    · obtain ⟨k, hk⟩ : ∃ k, k = (f + t) / 2 := ⟨_, rfl⟩
      have hp0 : 0 < m := by omega
      have IHA := Lib.hid (ih (k - f) (by omega) w C A xs f k h hlen hr had rfl (by omega) (by omega) (by omega))
      have HIB : Hid (∀ w2 Ta C2 A2 x2, BldStep w w2 p C A xs root vis Ta C2 A2 x2 → Bld L m f k Ta.st → Calls Tryd.prog 61 #[.pointer (some ⟨p, 0, none⟩), .slice a L.length c, .int .i64 k, .int .i64 t, .int .i64 m] w2 fun e w' => BldPost w2 w' p C2 A2 x2 root vis L m k t e) := by
        intro w2 Ta C2 A2 x2 Sa Ba
        have hs := Sa.chg.size
        refine ih (t - k) (by omega) w2 C2 A2 x2 k t Sa.head Sa.len (hr.chg Sa.chg (fun ad h => (had ad h).1)) (fun ad h => ⟨fun hc2 => ?_, ?_⟩) rfl (by omega) ht ?_
        · rcases Sa.newC _ hc2 with h2 | h2
          · exact (had ad h).1 h2
          · have := (had ad h).2; omega
        · have := (had ad h).2; omega
        · have e1 := Ba.leaves; have e2 := Ta.st.size_leaves; have e3 := Sa.live; have e4 := Sa.max; omega
      have small : ∀ {f' t' : Nat} {T : ST}, Bld L m f' t' T → f' ≤ t' → t' ≤ m → Small T := by
        intro f' t' T hB h1 h2
        have e0 := segL_len (L := L) h1 h2 hp0
        have e1 := seg_top (n := L.length) h2 hp0
        have e2 := T.high_size; have e3 := T.size_leaves; have e4 := hB.leaves
        refine ⟨?_, by omega⟩
        rw [hB.bits, e0]; exact Nat.le_trans (Nat.sub_le _ _) (Nat.le_trans e1 (by omega))
      have HP : Hid (∀ w2 Ta C2 A2 x2 w3 Tb C3 A3 x3, BldStep w w2 p C A xs root vis Ta C2 A2 x2 → Bld L m f k Ta.st → BldStep w2 w3 p C2 A2 x2 root vis Tb C3 A3 x3 → Bld L m k t Tb.st →
          Calls Tryd.prog 93 #[.pointer (some ⟨p, 0, none⟩), .int .i64 Ta.num, .int .i64 Tb.num] w3 fun e w' => BldPost w w' p C A xs root vis L m f t e) := by
        intro w2 Ta C2 A2 x2 w3 Tb C3 A3 x3 Sa Ba Sb Bb
        have e1 := Ba.leaves; have e2 := Ta.st.size_leaves; have e3 := Sa.live; have e4 := Sa.max
        have g1 := Bb.leaves; have g2 := Tb.st.size_leaves; have g3 := Sb.live; have g4 := Sb.max
        refine (tPair_any Sb.head Sb.len (by omega) (Sa.subA Sb) Sb.sub (fun j hj => (Sb.keep j (Sa.own.tk j hj)).2.1) Sb.own.tk (small Ba (by omega) (by omega)) (small Bb (by omega) (by omega))).mono ?_
        intro e w' hN
        exact Sa.joined Sb hN (bld_pair hp0 (by omega) ht (hk ▸ Ba) (hk ▸ Bb))
      have hbt : t ≤ 16777217 := by omega
      have hft : f ≤ t := by omega
      have d0 : ((t : Int) - (f : Int) == 1) = false := by rw [beq_eq_false_iff_ne]; omega
      have d1 : IntKind.i64.wrap ((t : Int) - (f : Int)) = (t : Int) - (f : Int) := IntWalk.i64_in _ (by omega)
      obtain ⟨ft, hfteq⟩ : ∃ ft, ft = f + t := ⟨_, rfl⟩
      have hw0 : (f : Int) + (t : Int) = (ft : Int) := by omega
      have hw1 : IntKind.i64.wrap (ft : Int) = (ft : Int) := IntWalk.i64_in _ (by omega)
      have hw3 : (ft : Int) / 2 = (k : Int) := by omega
      have hw4 : IntKind.i64.wrap (k : Int) = (k : Int) := IntWalk.i64_in _ (by omega)
      have hw5 : IntKind.i64.wrap ((ft : Int).tdiv 2) = (k : Int) := by rw [Int.tdiv_eq_ediv_of_nonneg (by omega), hw3, hw4]
      have hw6 : IntKind.i64.wrap ((ft : Int) / 2) = (k : Int) := by rw [hw3, hw4]
      clear h hlen hr had hlive ih small hm hL hc hk hfteq
      generalize L.length = n0 at *
      go_enter Tryd.func61, Tryd.ntmps61
      go_wp2_with fail
      refine IHA.out.mono ?_
      rintro e w2 ⟨Ta, C2, A2, x2, rfl, Sa, Ba⟩
      have HSa := Lib.hid Sa
      have HBa := Lib.hid Ba
      have IHB := Lib.hid (HIB.out w2 Ta C2 A2 x2 Sa Ba)
      clear Sa Ba HIB IHA
      go_wp2_with fail
      refine IHB.out.mono ?_
      rintro e w3 ⟨Tb, C3, A3, x3, rfl, Sb, Bb⟩
      have HPP := Lib.hid (HP.out w2 Ta C2 A2 x2 w3 Tb C3 A3 x3 HSa.out HBa.out Sb Bb)
      clear Sb Bb HP IHB HSa HBa
      go_wp2_with fail
      refine HPP.out.mono ?_
      rintro e w4 hh
      have HF := Lib.hid hh
      obtain ⟨T', C', A', xs', rfl, _, _⟩ := hh
      go_wp2_with fail
      go_ret
      exact HF.out

end Go.Proofs.YtcppgpjodfeigaaDoor

namespace Go.Proofs.YtcppgpjodfeigaaDoor
set_option linter.unusedVariables false
set_option linter.unusedSimpArgs false
open Go.RowKit

def boxT (ap : Nat) : Obj := .cells #[.pointer (some ⟨ap, 0, none⟩), .slice none 0 0, .int .i64 (-1), .int .i64 0] 83
theorem head_new {w w1 : World} (hA : IsArena w1 w.heap.size (fun k => k = w.heap.size) (Ar.new 268435456)) (hc : Chg (fun _ => False) w w1) :
    Head (w1.alloc (boxT w.heap.size)) w1.heap.size (fun k => k = w1.heap.size ∨ k = w.heap.size) (Ar.new 268435456) [] (-1) 0 := by
  refine ⟨w.heap.size, fun k => k = w.heap.size, none, 0, ?_, hA.chg (Chg.refl.alloc (S := fun _ => False) (boxT w.heap.size)) (fun _ _ h => h), World.ownsRow_nil _ _ _ _, fun k => ?_⟩
  · change (w1.heap.push (boxT w.heap.size))[w1.heap.size]? = _
    rw [Array.getElem?_push_size]; rfl
  · simp

theorem tNew_nil (w : World) (a : Option Addr) (c : Nat) : Calls Tryd.prog 18 #[.slice a 0 c] w fun e w' => ∃ p q, e = .returned (.pointer (some ⟨p, 0, none⟩)) ∧ w.heap.size ≤ p ∧ w.heap.size ≤ q ∧ Head w' p (fun k => k = p ∨ k = q) (Ar.new 268435456) [] (-1) 0 ∧ Chg (fun _ => False) w w' := by
  have HA : Hid (Calls Tryd.prog 60 #[.int .i64 268435456] w fun e w' => e = .returned (.pointer (some ⟨w.heap.size, 0, none⟩)) ∧ IsArena w' w.heap.size (fun k => k = w.heap.size) (Ar.new 268435456) ∧ Chg (fun _ => False) w w') := arNew_good 268435456 w (by omega)
  go_enter Tryd.func18, Tryd.ntmps18
  go_wp2_with fail
  refine HA.out.mono ?_
  rintro e w1 ⟨rfl, hA, hc⟩
  have HP := Lib.hid (head_new hA hc)
  have HC := Lib.hid hc
  have hs := Lib.hid hc.size
  clear hA hc
  go_wp2_with fail
  go_ret
  exact ⟨w1.heap.size, w.heap.size, rfl, hs.out, Nat.le_refl _, HP.out, HC.out.alloc _⟩

end Go.Proofs.YtcppgpjodfeigaaDoor

namespace Go.Proofs.YtcppgpjodfeigaaDoor
set_option linter.unusedVariables false
set_option linter.unusedSimpArgs false
open Go.RowKit

set_option maxHeartbeats 3200000 in
set_option maxRecDepth 100000 in
theorem tNew_some (w : World) {a : Option Addr} {c : Nat} {L : List Bool} (hr : ReadsV w a (L.map Value.bool)) (hc : L.length ≤ c) (hL : L.length ≤ 2147483648) (h0 : 0 < L.length) (had : ∀ ad, a = some ad → ad.block < w.heap.size) :
    Calls Tryd.prog 18 #[.slice a L.length c] w fun e w' => ∃ p st S, e = .returned (.pointer (some ⟨p, 0, none⟩)) ∧ TreeIs S w' p (some st) st.size 0 ∧ (∀ k, S k → w.heap.size ≤ k) ∧ st.bits = L ∧ Chg (fun _ => False) w w' := by
  have HA : Hid (Calls Tryd.prog 60 #[.int .i64 268435456] w fun e w' => e = .returned (.pointer (some ⟨w.heap.size, 0, none⟩)) ∧ IsArena w' w.heap.size (fun k => k = w.heap.size) (Ar.new 268435456) ∧ Chg (fun _ => False) w w') := arNew_good 268435456 w (by omega)
  obtain ⟨m, hm⟩ : ∃ m, m = (L.length + 127) / 128 := ⟨_, rfl⟩
  have hm1 : 0 < m := by omega
  obtain ⟨z, hz⟩ : ∃ z, z = L.length + 127 := ⟨_, rfl⟩
  have q1 : (L.length : Int) + 128 - 1 = (z : Int) := by omega
  have q3 : (z : Int) / 128 = (m : Int) := by omega
  have q4 : IntKind.i64.wrap (m : Int) = (m : Int) := IntWalk.i64_in _ (by omega)
  have q5 : IntKind.i64.wrap ((z : Int) / 128) = (m : Int) := by rw [q3, q4]
  have q6 : decide ((0 : Int) < (m : Int)) = true := by simp; omega
  have HR := Lib.hid hr
  have HAD := Lib.hid had
  have HT : Hid (∀ w1, IsArena w1 w.heap.size (fun k => k = w.heap.size) (Ar.new 268435456) → Chg (fun _ => False) w w1 → Calls Tryd.prog 61 #[.pointer (some ⟨w1.heap.size, 0, none⟩), .slice a L.length c, .int .i64 0, .int .i64 m, .int .i64 m] (w1.alloc (boxT w.heap.size)) fun e w' =>
      ∃ (T' : TT) (w0 : World), e = .returned (.int .i64 T'.num) ∧ w' = w0 ∧ w0.cell? ⟨w1.heap.size, 2, none⟩ = some (.int .i64 (-1)) ∧ w0.frozen? ⟨w1.heap.size, 2, none⟩ = false ∧ Hid (∃ st S, TreeIs S (w0.setCell ⟨w1.heap.size, 2, none⟩ (.int .i64 T'.num)) w1.heap.size (some st) st.size 0 ∧ (∀ k, S k → w.heap.size ≤ k) ∧ st.bits = L ∧ Chg (fun _ => False) w (w0.setCell ⟨w1.heap.size, 2, none⟩ (.int .i64 T'.num)))) := by
    intro w1 hA hc1
    have hH := head_new hA hc1
    have hs1 := hc1.size
    have g1 : Chg (fun _ => False) w (w1.alloc (boxT w.heap.size)) := hc1.alloc _
    have hs2 := g1.size
    refine (tBuild_any hc hL hm m _ _ _ _ 0 m hH rfl (hr.chg g1 (fun _ _ h => h)) (fun ad h => ⟨?_, ?_⟩) (by omega) hm1 (Nat.le_refl _) (by simp [Ar.new, Ar.live]; omega)).mono ?_
    · have := had ad h; rintro (e | e) <;> omega
    · have := had ad h; omega
    rintro e w' ⟨T', C', A', xs', rfl, S, B⟩
    obtain ⟨b1, b2, b3⟩ := bld_root hm hm1 B
    have hC' : ∀ j, C' j → w.heap.size ≤ j := fun j hj => by
      rcases S.newC j hj with (h | h) | h <;> omega
    obtain ⟨_, y2, _, yf⟩ := S.head.cells
    refine ⟨T', w', rfl, rfl, y2, yf 2, T'.st, fun k => C' k ∨ k ∈ T'.bl, ⟨⟨C', A', xs', some T', S.head.set2 _, ?_, S.own, S.len, ?_, ?_, rfl, ?_, fun k => Iff.rfl⟩, ⟨b2, b3⟩, ?_⟩, ?_, b1, ?_⟩
    · exact S.sub.chgC S.head (S.head.chg3 _ 2) (fun _ _ => rfl)
    · have := S.live; simp [Ar.new, Ar.live] at this; simpa [osz, Ar.live] using this
    · exact S.max
    · have h1 := S.live; have h2 := S.fr rfl; simp [Ar.new, Ar.live, h2] at h1; exact h1.symm
    · change T'.st.bits.length ≤ _; rw [b1]; exact hL
    · rintro k (hk | hk)
      · exact hC' k hk
      · have := S.newB k hk; omega
    · exact ((g1.trans S.chg (fun j hj => Or.inr (by rcases hj with h | h <;> omega))).trans (S.head.chg3 _ 2) (fun j hj => Or.inr (hC' j hj)))
  have q7 : IntKind.i64.wrap ((L.length : Int) + 128) = (L.length : Int) + 128 := IntWalk.i64_in _ (by omega)
  have q8 : IntKind.i64.wrap (z : Int) = (z : Int) := IntWalk.i64_in _ (by omega)
  have q9 : (L.length : Int) + 127 = (z : Int) := by omega
  clear hr had hz hm hc
  generalize L.length = n0 at *
  go_enter Tryd.func18, Tryd.ntmps18
  go_wp2_with fail
  refine HA.out.mono ?_
  rintro e w1 ⟨rfl, hA, hc⟩
  have HB := Lib.hid (HT.out w1 hA hc)
  have hs := Lib.hid hc.size
  clear hA hc HT HA
  go_wp2_with fail
  refine HB.out.mono ?_
  rintro e w2 ⟨T', w0, rfl, rfl, y2, yf, HP⟩
  go_wp2_with fail
  go_ret
  obtain ⟨st, S, h1, h2, h3, h4⟩ := HP.out
  exact ⟨w1.heap.size, st, S, rfl, h1, h2, h3, h4⟩

end Go.Proofs.YtcppgpjodfeigaaDoor
