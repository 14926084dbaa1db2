/- Lemmas and contracts under the claims of this seat: Trees of bits in memory: nodes and rows of them, subtrees, the head of a tree. Contracts of package tree that read: Len, Ones, has, like. Contracts of package tree that go down: Get, Rank, Select. Contract of package tree: fix. General lemmas, of no program: makes, own rows told by a function of the place, quiet calls. Contract of package tree: fix, of a node with children. Contracts of package tree: a node counted anew, high, turnRight, turnLeft. Contract of package tree: balance. Contracts of package tree: node, leaf, pair. Contracts of package tree: leaf, pair. Contract of package tree: insert, at a leaf that has room. Contract of package tree: insert, at a leaf that is full. Trees of bits in memory: changes of subtrees put together. Contract of package tree: insert. Contracts of package tree that go down: Rank. Contracts of package tree that go down: Select. Trees of bits as a law sees them; Insert. Plain lemmas, of no program: a tree built of so many leaves, the bits dealt out evenly. -/
import Derived.Test.YtacoeohmdngnkaaDoorZk1
import Derived.Test.YtacoeohmdngnkaaDoorZk2
import Derived.Deep.QuietTactic
import Derived.BigQuiet
import Derived.Deep.LoopGhost
import Derived.IntWalk
import Derived.Deep.DeepCutAuto
import Derived.Deep.CutBlock
import Derived.Deep.CutRange
import Derived.Laws.MakeOwn

namespace Go.Proofs.YtacoeohmdngnkaaDoor
set_option linter.unusedVariables false
set_option linter.unusedSimpArgs false
open Go.RowKit

/-- A node. -/
structure Nd where
  left : Int
  right : Int
  height : Int
  n : Int
  ones : Int
  ln : Int
  lones : Int
  b : Option Nat
def ptrN (b : Option Nat) : Value := .pointer (b.map fun q => ⟨q, 0, none⟩)
def Nd.cells (x : Nd) : List Value := [.int .i64 x.left, .int .i64 x.right, .int .i64 x.height, .int .i64 x.n, .int .i64 x.ones, .int .i64 x.ln, .int .i64 x.lones, ptrN x.b]
def cellsN : List Nd → List Value
  | [] => []
  | x :: xs => x.cells ++ cellsN xs
theorem cellsN_len : ∀ xs : List Nd, (cellsN xs).length = xs.length * 8
  | [] => rfl
  | x :: xs => by simp only [cellsN, List.length_append, List.length_cons, cellsN_len xs]; simp [Nd.cells]; omega
theorem cellsN_get : ∀ (xs : List Nd) (k i : Nat) (x : Nd), xs[k]? = some x → i < 8 → (cellsN xs)[k * 8 + i]? = x.cells[i]?
  | [], k, i, x, h, _ => by simp at h
  | y :: xs, 0, i, x, h, hi => by
    simp at h; subst h
    simp only [cellsN, Nat.zero_mul, Nat.zero_add]
    rw [List.getElem?_append_left (by simpa [Nd.cells] using hi)]
  | y :: xs, k + 1, i, x, h, hi => by
    simp only [cellsN]
    rw [List.getElem?_append_right (by simp [Nd.cells]; omega), show (k + 1) * 8 + i - y.cells.length = k * 8 + i by simp [Nd.cells]; omega]
    exact cellsN_get xs k i x (by simpa using h) hi
theorem cellsN_set : ∀ (xs : List Nd) (k i : Nat) (x x' : Nd) (v : Value), xs[k]? = some x → i < 8 → x.cells.set i v = x'.cells → (cellsN xs).set (k * 8 + i) v = cellsN (xs.set k x')
  | [], k, i, x, x', v, h, _, _ => by simp at h
  | y :: xs, 0, i, x, x', v, h, hi, he => by
    simp at h; subst h
    simp only [cellsN, Nat.zero_mul, Nat.zero_add, List.set_cons_zero]
    rw [List.set_append_left _ _ (by simpa [Nd.cells] using hi), he]
  | y :: xs, k + 1, i, x, x', v, h, hi, he => by
    simp only [cellsN, List.set_cons_succ]
    rw [List.set_append_right _ _ (by simp [Nd.cells]; omega), show (k + 1) * 8 + i - y.cells.length = k * 8 + i by simp [Nd.cells]; omega]
    rw [cellsN_set xs k i x x' v (by simpa using h) hi he]
theorem cellsN_app (xs ys : List Nd) : cellsN (xs ++ ys) = cellsN xs ++ cellsN ys := by
  induction xs with
  | nil => rfl
  | cons x xs ih => simp [cellsN, ih]

/-- Block k holds cells of a type. -/
def TypeAt (w : World) (k : Nat) (T : TypeId) : Prop := ∃ cs, w.heap[k]? = some (.cells cs T (0, 0))
theorem TypeAt.ne {w : World} {k j : Nat} {T U : TypeId} (h : TypeAt w k T) (g : TypeAt w j U) (hn : T ≠ U) : k ≠ j := by
  rintro rfl
  obtain ⟨cs, h⟩ := h
  obtain ⟨ds, g⟩ := g
  rw [h] at g
  injection g with g
  injection g with _ g
  exact hn g
theorem TypeAt.lt {w : World} {k : Nat} {T : TypeId} (h : TypeAt w k T) : k < w.heap.size := by
  obtain ⟨cs, h⟩ := h
  exact (Array.getElem?_eq_some_iff.1 h).1
theorem TypeAt.chg {S : Nat → Prop} {w w' : World} {k : Nat} {T : TypeId} (h : TypeAt w k T) (hc : Chg S w w') (hn : ¬ S k) : TypeAt w' k T := by
  obtain ⟨cs, h⟩ := h
  exact ⟨cs, hc.heap h hn⟩
theorem own_type {w : World} {base : Nat} {e : TypeId} {sz n c g : Nat} {xs : List Value} (h : w.ownsRow base e sz (.slice (some ⟨g, 0, none⟩) n c) n xs) : TypeAt w g e := by
  rcases h.2 with ⟨h, _⟩ | ⟨g', cap, cur, hv, _, hg, _⟩
  · cases h
  · injection hv with e1 _ e3
    injection e1 with e1
    injection e1 with e1 _ _
    subst e1
    exact ⟨_, hg⟩
theorem IsArena.types {w : World} {p : Nat} {S : Nat → Prop} {a : Ar} (h : IsArena w p S a) {k : Nat} (hk : S k) : TypeAt w k 128 ∨ TypeAt w k 4 ∨ TypeAt w k 3 := by
  obtain ⟨ta, tc, fa, fc, _, _, _, _, hp, ht, hf, _, _, _, _, hS, _⟩ := h.see
  rcases (hS k).1 hk with rfl | rfl | rfl
  · exact Or.inl ⟨_, hp⟩
  · exact Or.inr (Or.inl (own_type ht))
  · exact Or.inr (Or.inr (own_type hf))
theorem IsBlock.type {w : World} {p : Nat} {l : List Bool} (h : IsBlock w p l) : TypeAt w p 71 := ⟨_, h.2⟩

/-- Block p holds the head of a tree: its arena, its row of nodes, the first one's number, how many the last call looked at; these blocks are C. -/
structure Head (w : World) (p : Nat) (C : Nat → Prop) (A : Ar) (xs : List Nd) (root vis : Int) : Prop where
  ex : ∃ ap SA ra rc, w.heap[p]? = some (.cells #[.pointer (some ⟨ap, 0, none⟩), .slice ra xs.length rc, .int .i64 root, .int .i64 vis] 117 (0, 0)) ∧
    IsArena w ap SA A ∧ w.ownsRow 0 120 8 (.slice ra xs.length rc) xs.length (cellsN xs) ∧ (∀ k, C k ↔ k = p ∨ SA k ∨ ra = some ⟨k, 0, none⟩)

/-- What a step on a tree's own blocks leaves. -/
structure HStep (w w' : World) (C C' : Nat → Prop) : Prop where
  chg : Chg C w w'
  new : ∀ k, C' k → C k ∨ w.heap.size ≤ k

section
variable {w w' w1 w2 : World} {p : Nat} {C C' C'' : Nat → Prop} {A : Ar} {xs : List Nd} {root vis : Int}
theorem HStep.refl : HStep w w C C := ⟨Chg.refl, fun _ h => Or.inl h⟩
theorem HStep.trans (h : HStep w w1 C C') (g : HStep w1 w2 C' C'') : HStep w w2 C C'' :=
  ⟨h.chg.trans g.chg h.new, fun k hk => (g.new k hk).elim (h.new k) (fun h' => Or.inr (Nat.le_trans h.chg.size h'))⟩

theorem own_addr {base : Nat} {e : TypeId} {sz n c : Nat} {a : Option Addr} {ys : List Value} (h : w.ownsRow base e sz (.slice a n c) n ys) : ∀ ad, a = some ad → ∃ g, ad = (⟨g, 0, none⟩ : Addr) := by
  obtain ⟨x, c', hv, _, hb⟩ := own_slice h
  injection hv with e1 _ _
  subst e1
  intro ad h; obtain ⟨g, e, _⟩ := hb ad h; exact ⟨g, e⟩
theorem ownBlock_addr {a : Option Addr} {n c k : Nat} (h : ∀ ad, a = some ad → ∃ g, ad = (⟨g, 0, none⟩ : Addr)) : (Value.slice a n c).ownBlock = some k ↔ a = some ⟨k, 0, none⟩ := by
  cases a with
  | none => simp [Value.ownBlock]
  | some ad => obtain ⟨g, rfl⟩ := h ad rfl; simp [Value.ownBlock]

theorem Head.types (h : Head w p C A xs root vis) {k : Nat} (hk : C k) : TypeAt w k 117 ∨ TypeAt w k 120 ∨ TypeAt w k 128 ∨ TypeAt w k 4 ∨ TypeAt w k 3 := by
  obtain ⟨ap, SA, ra, rc, hp, ha, ho, hC⟩ := h.ex
  rcases (hC k).1 hk with rfl | hk | rfl
  · exact Or.inl ⟨_, hp⟩
  · exact Or.inr (Or.inr (ha.types hk))
  · exact Or.inr (Or.inl (own_type ho))
theorem Head.lt (h : Head w p C A xs root vis) : ∀ k, C k → k < w.heap.size := by
  intro k hk
  rcases h.types hk with h | h | h | h | h <;> exact h.lt
theorem Head.self (h : Head w p C A xs root vis) : C p := by
  obtain ⟨ap, SA, ra, rc, hp, ha, ho, hC⟩ := h.ex
  exact (hC p).2 (Or.inl rfl)
theorem Head.notBlk (h : Head w p C A xs root vis) {q : Nat} (hq : TypeAt w q 71) : ¬ C q := by
  intro hc
  rcases h.types hc with g | g | g | g | g <;> exact g.ne hq (by decide) rfl
theorem Head.drewN (h : Head w p C A xs root vis) (n : Nat) : Head (w.drewN n) p C A xs root vis := by
  obtain ⟨ap, SA, ra, rc, hp, ha, ho, hC⟩ := h.ex
  exact ⟨ap, SA, ra, rc, hp, ha.chg (Chg.refl.drewN n) (S' := fun _ => False) (fun _ _ h => h), ho, hC⟩
theorem Head.chg {S : Nat → Prop} (h : Head w p C A xs root vis) (hc : Chg S w w') (hd : ∀ k, C k → ¬ S k) : Head w' p C A xs root vis := by
  obtain ⟨ap, SA, ra, rc, hp, ha, ho, hC⟩ := h.ex
  exact ⟨ap, SA, ra, rc, hc.heap hp (hd p ((hC p).2 (Or.inl rfl))), ha.chg hc (fun k hk => hd k ((hC k).2 (Or.inr (Or.inl hk)))),
    hc.own ho (fun k hk => hd k ((hC k).2 (Or.inr (Or.inr ((ownBlock_addr (own_addr ho)).1 hk))))), hC⟩
theorem Head.below (h : Head w p C A xs root vis) (hb : Below w.heap.size w w') : Head w' p C A xs root vis :=
  h.chg (S := fun _ => False) (Chg.of_below hb) (fun _ _ h => h)

/-- The head's cells. -/
theorem Head.cells (h : Head w p C A xs root vis) : (∃ ap, w.cell? ⟨p, 0, none⟩ = some (.pointer (some ⟨ap, 0, none⟩))) ∧ w.cell? ⟨p, 2, none⟩ = some (.int .i64 root) ∧ w.cell? ⟨p, 3, none⟩ = some (.int .i64 vis) ∧ (∀ j, w.frozen? ⟨p, j, none⟩ = false) := by
  obtain ⟨ap, SA, ra, rc, hp, ha, ho, hC⟩ := h.ex
  exact ⟨⟨ap, by rw [cell_of_row w p 0 _ _ _ hp]; rfl⟩, by rw [cell_of_row w p 2 _ _ _ hp]; rfl, by rw [cell_of_row w p 3 _ _ _ hp]; rfl, fun j => frozen_of_row w p j _ _ hp⟩

/-- The row of nodes, where it is not empty: its block, its cells. -/
theorem Head.row (h : Head w p C A xs root vis) (hx : 0 < xs.length) : ∃ g rc cur, w.cell? ⟨p, 1, none⟩ = some (.slice (some ⟨g, 0, none⟩) xs.length rc) ∧ g ≠ p ∧ C g ∧ xs.length ≤ rc ∧ rc ≤ maxLen ∧
    w.heap[g]? = some (.cells cur 120 (0, 0)) ∧ cur.size = rc * 8 ∧ cur.toList.take (xs.length * 8) = cellsN xs := by
  obtain ⟨ap, SA, ra, rc, hp, ha, ho, hC⟩ := h.ex
  rcases ho.2 with ⟨_, h0⟩ | ⟨g, cap, cur, hv, _, hg, h1, h2, h3, h4⟩
  · omega
  · injection hv with e1 _ e3
    subst e1; subst e3
    exact ⟨g, rc, cur, by rw [cell_of_row w p 1 _ _ _ hp]; rfl, TypeAt.ne ⟨_, hg⟩ ⟨_, hp⟩ (by decide), (hC g).2 (Or.inr (Or.inr rfl)), h1, h2, hg, h3, h4⟩

/-- A node's cells. -/
theorem Head.node (h : Head w p C A xs root vis) {g n rc : Nat} (hg : w.cell? ⟨p, 1, none⟩ = some (.slice (some ⟨g, 0, none⟩) n rc)) {k : Nat} {x : Nd} (hx : xs[k]? = some x) :
    (∀ i v, x.cells[i]? = some v → w.cell? ⟨g, k * 8 + i, none⟩ = some v) ∧ (∀ j, w.frozen? ⟨g, j, none⟩ = false) ∧ k < xs.length ∧ n = xs.length ∧ g ≠ p ∧ C g := by
  have hk : k < xs.length := (List.getElem?_eq_some_iff.1 hx).1
  obtain ⟨g', rc', cur, h1, h2, h3, h4, h5, h6, h7, h8⟩ := h.row (by omega)
  rw [hg] at h1
  injection h1 with h1
  injection h1 with e1 e2 e3
  injection e1 with e1
  injection e1 with e1 _ _
  subst e1; subst e2; subst e3
  refine ⟨fun i v hv => ?_, fun j => frozen_of_row w g j _ _ h6, hk, rfl, h2, h3⟩
  have hi : i < 8 := by have := (List.getElem?_eq_some_iff.1 hv).1; simpa [Nd.cells] using this
  rw [cell_of_row w g _ _ _ _ h6, ← Array.getElem?_toList]
  have : (cur.toList.take (xs.length * 8))[k * 8 + i]? = cur.toList[k * 8 + i]? := by rw [List.getElem?_take, if_pos (by omega)]
  rw [← this, h8, cellsN_get xs k i x hx hi, hv]

theorem Head.set3 (h : Head w p C A xs root vis) (v : Int) : Head (w.setCell ⟨p, 3, none⟩ (.int .i64 v)) p C A xs root v := by
  obtain ⟨ap, SA, ra, rc, hp, ha, ho, hC⟩ := h.ex
  have hc : Chg (fun k => k = p) w (w.setCell ⟨p, 3, none⟩ (.int .i64 v)) := Chg.refl.setCell (S := fun k => k = p) ⟨p, 3, none⟩ (Or.inl rfl) _
  have hT : TypeAt w p 117 := ⟨_, hp⟩
  refine ⟨ap, SA, ra, rc, heap_setCell_same w p 3 _ _ (.int .i64 v) hp, ha.chg hc (fun k hk e => ?_), hc.own ho (fun k hk e => ?_), hC⟩
  · subst e
    rcases ha.types hk with g | g | g <;> exact g.ne hT (by decide) rfl
  · subst e
    rw [(ownBlock_addr (own_addr ho)).1 hk] at ho
    exact (own_type ho).ne hT (by decide) rfl
theorem Head.set2 (h : Head w p C A xs root vis) (v : Int) : Head (w.setCell ⟨p, 2, none⟩ (.int .i64 v)) p C A xs v vis := by
  obtain ⟨ap, SA, ra, rc, hp, ha, ho, hC⟩ := h.ex
  have hc : Chg (fun k => k = p) w (w.setCell ⟨p, 2, none⟩ (.int .i64 v)) := Chg.refl.setCell (S := fun k => k = p) ⟨p, 2, none⟩ (Or.inl rfl) _
  have hT : TypeAt w p 117 := ⟨_, hp⟩
  refine ⟨ap, SA, ra, rc, heap_setCell_same w p 2 _ _ (.int .i64 v) hp, ha.chg hc (fun k hk e => ?_), hc.own ho (fun k hk e => ?_), hC⟩
  · subst e
    rcases ha.types hk with g | g | g <;> exact g.ne hT (by decide) rfl
  · subst e
    rw [(ownBlock_addr (own_addr ho)).1 hk] at ho
    exact (own_type ho).ne hT (by decide) rfl
theorem Head.chg3 (h : Head w p C A xs root vis) (v : Value) (j : Nat) : Chg C w (w.setCell ⟨p, j, none⟩ v) := Chg.refl.setCell _ (Or.inl h.self) _

/-- One cell of a node is written. -/
theorem Head.put (h : Head w p C A xs root vis) {g n rc : Nat} (hg : w.cell? ⟨p, 1, none⟩ = some (.slice (some ⟨g, 0, none⟩) n rc)) {k i : Nat} {x x' : Nd} {v : Value} (hx : xs[k]? = some x) (hi : i < 8) (he : x.cells.set i v = x'.cells) :
    Head (w.setCell ⟨g, k * 8 + i, none⟩ v) p C A (xs.set k x') root vis ∧ Chg (fun b => b = g) w (w.setCell ⟨g, k * 8 + i, none⟩ v) ∧ (w.setCell ⟨g, k * 8 + i, none⟩ v).cell? ⟨p, 1, none⟩ = some (.slice (some ⟨g, 0, none⟩) n rc) := by
  obtain ⟨_, _, hk, rfl, hgp, hCg⟩ := h.node hg hx
  obtain ⟨ap, SA, ra, rc', hp, ha, ho, hC⟩ := h.ex
  have e0 : ra = some ⟨g, 0, none⟩ ∧ rc' = rc := by
    rw [cell_of_row w p 1 _ _ _ hp] at hg
    have hg : some (Value.slice ra xs.length rc') = some (.slice (some ⟨g, 0, none⟩) xs.length rc) := hg
    injection hg with hg
    injection hg with e1 _ e3
    exact ⟨e1, e3⟩
  obtain ⟨rfl, rfl⟩ := e0
  have hc : Chg (fun k => k = g) w (w.setCell ⟨g, k * 8 + i, none⟩ v) := Chg.refl.setCell (S := fun k => k = g) ⟨g, k * 8 + i, none⟩ (Or.inl rfl) _
  have hp' := hc.heap hp (fun e => hgp e.symm)
  refine ⟨⟨ap, SA, some ⟨g, 0, none⟩, rc', ?_, ha.chg hc (fun j hj e => ?_), ?_, hC⟩, hc, ?_⟩
  · rw [List.length_set]; exact hp'
  · subst e
    have hT := own_type ho
    rcases ha.types hj with g | g | g <;> exact g.ne hT (by decide) rfl
  · rcases ho.2 with ⟨h0, _⟩ | ⟨g', cap, cur, hv, h0, hgg, h1, h2, h3, h4⟩
    · cases h0
    · injection hv with e1 _ e3
      injection e1 with e1
      injection e1 with e1 _ _
      subst e1; subst e3
      refine ⟨by rw [cellsN_len], .inr ⟨g, rc', _, by rw [List.length_set], Nat.zero_le _, heap_setCell_same w g (k * 8 + i) cur _ v hgg, by rw [List.length_set]; exact h1, h2, by simpa using h3, ?_⟩⟩
      rw [List.length_set, Array.toList_setIfInBounds, List.take_set, h4, cellsN_set xs k i x x' v hx hi he]
  · rw [cell_of_row _ p 1 _ _ _ hp']; rfl

/-- The row of nodes lies in block b. -/
def RowB (w : World) (p b : Nat) : Prop := ∃ n c, w.cell? ⟨p, 1, none⟩ = some (.slice (some ⟨b, 0, none⟩) n c)
theorem RowB.eq {p b g n c : Nat} (hg : w.cell? ⟨p, 1, none⟩ = some (.slice (some ⟨g, 0, none⟩) n c)) (h : RowB w p b) : b = g := by
  obtain ⟨n', c', h⟩ := h
  rw [hg] at h
  injection h with h
  injection h with h _ _
  injection h with h
  injection h with h _ _
  exact h.symm
theorem Head.rowC (h : Head w p C A xs root vis) {b : Nat} (hb : RowB w p b) : C b := by
  obtain ⟨n, c, hb⟩ := hb
  obtain ⟨ap, SA, ra, rc, hp, ha, ho, hC⟩ := h.ex
  rw [cell_of_row w p 1 _ _ _ hp] at hb
  have hb : some (Value.slice ra xs.length rc) = some (.slice (some ⟨b, 0, none⟩) n c) := hb
  injection hb with hb
  injection hb with e1 _ _
  exact (hC b).2 (Or.inr (Or.inr e1))
theorem Head.rowNe (h : Head w p C A xs root vis) : ¬ RowB w p p := by
  rintro ⟨n, c, hb⟩
  obtain ⟨ap, SA, ra, rc, hp, ha, ho, hC⟩ := h.ex
  rw [cell_of_row w p 1 _ _ _ hp] at hb
  have hb : some (Value.slice ra xs.length rc) = some (.slice (some ⟨p, 0, none⟩) n c) := hb
  injection hb with hb
  injection hb with e1 _ _
  subst e1
  exact (own_type ho).ne ⟨_, hp⟩ (by decide) rfl
theorem Head.chgRow (h : Head w p C A xs root vis) (hc : Chg (RowB w p) w w') : Chg C w w' := hc.mono (fun b hb => h.rowC hb)

/-- A step of the arena. -/
theorem Head.arena (h : Head w p C A xs root vis) : ∃ ap SA, w.cell? ⟨p, 0, none⟩ = some (.pointer (some ⟨ap, 0, none⟩)) ∧ IsArena w ap SA A ∧ (∀ k, SA k → C k) ∧
    ∀ w' A', ArStep w w' ap SA A' → ∃ C', Head w' p C' A' xs root vis ∧ HStep w w' C C' := by
  obtain ⟨ap, SA, ra, rc, hp, ha, ho, hC⟩ := h.ex
  have hT : TypeAt w p 117 := ⟨_, hp⟩
  have hsub : ∀ k, SA k → C k := fun k hk => (hC k).2 (Or.inr (Or.inl hk))
  refine ⟨ap, SA, by rw [cell_of_row w p 0 _ _ _ hp]; rfl, ha, hsub, ?_⟩
  rintro w' A' ⟨SA', ha', hc, hn⟩
  refine ⟨fun k => k = p ∨ SA' k ∨ ra = some ⟨k, 0, none⟩, ⟨ap, SA', ra, rc, hc.heap hp (fun hk => ?_), ha', hc.own ho (fun k hk hs => ?_), fun k => Iff.rfl⟩, hc.mono hsub, ?_⟩
  · rcases ha.types hk with g | g | g <;> exact g.ne hT (by decide) rfl
  · rw [(ownBlock_addr (own_addr ho)).1 hk] at ho
    have hT := own_type ho
    rcases ha.types hs with g | g | g <;> exact g.ne hT (by decide) rfl
  · intro k hk
    rcases hk with rfl | hk | hk
    · exact Or.inl ((hC _).2 (Or.inl rfl))
    · exact (hn k hk).imp (hsub k) id
    · exact Or.inl ((hC k).2 (Or.inr (Or.inr hk)))
end

/-- A tree of bits, with the nodes' numbers and the leaves' blocks. -/
inductive TT where
  | leaf (k q : Nat) (l : List Bool)
  | pair (k : Nat) (a b : TT)
def TT.num : TT → Nat
  | .leaf k _ _ => k
  | .pair k _ _ => k
def TT.st : TT → ST
  | .leaf _ _ l => .leaf l
  | .pair _ a b => .pair a.st b.st
def TT.nums : TT → List Nat
  | .leaf k _ _ => [k]
  | .pair k a b => k :: (a.nums ++ b.nums)
def TT.bl : TT → List Nat
  | .leaf _ q _ => [q]
  | .pair _ a b => a.bl ++ b.bl
/-- The node that is the first of a tree. -/
def TT.nd : TT → Nd
  | .leaf _ q l => ⟨-1, -1, 0, l.length, l.count true, 0, 0, some q⟩
  | .pair _ a b => ⟨a.num, b.num, (ST.pair a.st b.st).high, a.st.bits.length + b.st.bits.length, a.st.bits.count true + b.st.bits.count true, a.st.bits.length, a.st.bits.count true, none⟩
def Sub (w : World) (xs : List Nd) : TT → Prop
  | .leaf k q l => xs[k]? = some (TT.leaf k q l).nd ∧ IsBlock w q l
  | .pair k a b => xs[k]? = some (TT.pair k a b).nd ∧ Sub w xs a ∧ Sub w xs b
theorem TT.nd_n (T : TT) : T.nd.n = T.st.bits.length := by cases T <;> simp [TT.nd, TT.st, ST.bits]
theorem TT.nd_ones (T : TT) : T.nd.ones = T.st.bits.count true := by cases T <;> simp [TT.nd, TT.st, ST.bits]
theorem TT.nd_high (T : TT) : T.nd.height = T.st.high := by cases T <;> simp [TT.nd, TT.st, ST.high]
section
variable {w w' : World} {xs xs' : List Nd} {T : TT}
theorem Sub.root (h : Sub w xs T) : xs[T.num]? = some T.nd := by
  cases T with
  | leaf k q l => exact h.1
  | pair k a b => exact h.1
theorem Sub.keep (h : Sub w xs T) (hx : ∀ k ∈ T.nums, xs'[k]? = xs[k]?) (hw : ∀ q ∈ T.bl, w'.heap[q]? = w.heap[q]?) : Sub w' xs' T := by
  induction T with
  | leaf k q l => exact ⟨(hx k (by simp [TT.nums])).trans h.1, h.2.1, (hw q (by simp [TT.bl])).trans h.2.2⟩
  | pair k a b iha ihb =>
    refine ⟨(hx k (by simp [TT.nums])).trans h.1, iha h.2.1 (fun j hj => hx j (by simp [TT.nums, hj])) (fun q hq => hw q (by simp [TT.bl, hq])), ihb h.2.2 (fun j hj => hx j (by simp [TT.nums, hj])) (fun q hq => hw q (by simp [TT.bl, hq]))⟩
theorem Sub.type (h : Sub w xs T) {q : Nat} (hq : q ∈ T.bl) : TypeAt w q 71 := by
  induction T with
  | leaf k q' l => simp [TT.bl] at hq; subst hq; exact h.2.type
  | pair k a b iha ihb =>
    simp only [TT.bl, List.mem_append] at hq
    exact hq.elim (iha h.2.1) (ihb h.2.2)
theorem Sub.lt (h : Sub w xs T) {k : Nat} (hk : k ∈ T.nums) : k < xs.length := by
  induction T with
  | leaf k' q l => simp [TT.nums] at hk; subst hk; exact (List.getElem?_eq_some_iff.1 h.1).1
  | pair k' a b iha ihb =>
    simp only [TT.nums, List.mem_cons, List.mem_append] at hk
    rcases hk with rfl | hk | hk
    · exact (List.getElem?_eq_some_iff.1 h.1).1
    · exact iha h.2.1 hk
    · exact ihb h.2.2 hk
theorem Sub.le (h : Sub w xs T) : T.st.Le := by
  induction T with
  | leaf k q l => exact h.2.1
  | pair k a b iha ihb => exact ⟨iha h.2.1, ihb h.2.2⟩
/-- Behind a step that changes only blocks that are no leaves' blocks. -/
theorem Sub.chg {S : Nat → Prop} (h : Sub w xs T) (hc : Chg S w w') (hd : ∀ q ∈ T.bl, ¬ S q) (hx : ∀ k ∈ T.nums, xs'[k]? = xs[k]?) : Sub w' xs' T :=
  h.keep hx (fun q hq => hc.block q (h.type hq).lt (hd q hq))
theorem Sub.chgC {p : Nat} {C : Nat → Prop} {A : Ar} {root vis : Int} {ys : List Nd} (h : Sub w xs T) (hH : Head w p C A ys root vis) (hc : Chg C w w') (hx : ∀ k ∈ T.nums, xs'[k]? = xs[k]?) : Sub w' xs' T :=
  h.chg hc (fun q hq => hH.notBlk (h.type hq)) hx
theorem Sub.same {S : Nat → Prop} (h : Sub w xs T) (hc : Chg S w w') (hd : ∀ q ∈ T.bl, ¬ S q) : Sub w' xs T := h.chg hc hd (fun _ _ => rfl)
end
/-- How large a tree may be here: all sums stay small. -/
structure TT.Sm (T : TT) : Prop where
  len : T.st.bits.length ≤ 8589934592
  high : T.st.high ≤ 1000000000

end Go.Proofs.YtacoeohmdngnkaaDoor

namespace Go.Proofs.YtacoeohmdngnkaaDoor
set_option linter.unusedVariables false
set_option linter.unusedSimpArgs false
open Go.RowKit

theorem tLen_none {w : World} {p : Nat} {C : Nat → Prop} {A : Ar} {xs : List Nd} {vis : Int} (h : Head w p C A xs (-1) vis) :
    Calls Tryd.prog 87 #[.pointer (some ⟨p, 0, none⟩)] w fun e w' => e = .returned (.int .i64 0) ∧ ∃ n, w' = w.drewN n := by
  obtain ⟨_, c2, _⟩ := h.cells
  clear h
  go_enter Tryd.func87, Tryd.ntmps87
  go_wp2_with fail
  go_ret
  exact ⟨rfl, 0, rfl⟩
theorem tLen_some {w : World} {p : Nat} {C : Nat → Prop} {A : Ar} {xs : List Nd} {vis : Int} {T : TT} (h : Head w p C A xs T.num vis) (hS : Sub w xs T) :
    Calls Tryd.prog 87 #[.pointer (some ⟨p, 0, none⟩)] w fun e w' => e = .returned (.int .i64 T.st.bits.length) ∧ ∃ n, w' = w.drewN n := by
  obtain ⟨_, c2, _⟩ := h.cells
  have hr := hS.root
  obtain ⟨g, rc, cur, c1, _⟩ := h.row (by have := (List.getElem?_eq_some_iff.1 hr).1; omega)
  obtain ⟨hn, _, hk, _⟩ := h.node c1 hr
  have c3 := hn 3 (.int .i64 T.st.bits.length) (by rw [← T.nd_n]; rfl)
  have d1 : ((T.num : Int) == -1) = false := by rw [beq_eq_false_iff_ne]; omega
  generalize T.num = k at *
  generalize T.st.bits.length = n at *
  clear h hn hr hS
  go_enter Tryd.func87, Tryd.ntmps87
  go_wp2_with fail
  go_quiet (fail)
  go_wp2_with fail
  go_ret
  exact ⟨rfl, _, rfl⟩

theorem tOnes_none {w : World} {p : Nat} {C : Nat → Prop} {A : Ar} {xs : List Nd} {vis : Int} (h : Head w p C A xs (-1) vis) :
    Calls Tryd.prog 88 #[.pointer (some ⟨p, 0, none⟩)] w fun e w' => e = .returned (.int .i64 0) ∧ ∃ n, w' = w.drewN n := by
  obtain ⟨_, c2, _⟩ := h.cells
  clear h
  go_enter Tryd.func88, Tryd.ntmps88
  go_wp2_with fail
  go_ret
  exact ⟨rfl, 0, rfl⟩
theorem tOnes_some {w : World} {p : Nat} {C : Nat → Prop} {A : Ar} {xs : List Nd} {vis : Int} {T : TT} (h : Head w p C A xs T.num vis) (hS : Sub w xs T) :
    Calls Tryd.prog 88 #[.pointer (some ⟨p, 0, none⟩)] w fun e w' => e = .returned (.int .i64 (T.st.bits.count true)) ∧ ∃ n, w' = w.drewN n := by
  obtain ⟨_, c2, _⟩ := h.cells
  have hr := hS.root
  obtain ⟨g, rc, cur, c1, _⟩ := h.row (by have := (List.getElem?_eq_some_iff.1 hr).1; omega)
  obtain ⟨hn, _, hk, _⟩ := h.node c1 hr
  have c3 := hn 4 (.int .i64 (T.st.bits.count true)) (by rw [← T.nd_ones]; rfl)
  have d1 : ((T.num : Int) == -1) = false := by rw [beq_eq_false_iff_ne]; omega
  generalize T.num = k at *
  generalize T.st.bits.count true = n at *
  clear h hn hr hS
  go_enter Tryd.func88, Tryd.ntmps88
  go_wp2_with fail
  go_quiet (fail)
  go_wp2_with fail
  go_ret
  exact ⟨rfl, _, rfl⟩

theorem tLike_any (n ones : Int) (x : Bool) (w : World) (h : ones ≤ n) (h0 : 0 ≤ ones) (h1 : n ≤ 1000000000000) :
    Calls Tryd.prog 86 #[.int .i64 n, .int .i64 ones, .bool x] w fun e w' => e = .returned (.int .i64 (likeN n ones x)) ∧ w = w' := by
  cases x
  · go_enter Tryd.func86, Tryd.ntmps86
    go_wp2_with fail
    go_ret
    exact ⟨rfl, rfl⟩
  · go_enter Tryd.func86, Tryd.ntmps86
    go_wp2_with fail
    go_ret
    exact ⟨rfl, rfl⟩

/-- The bits of a tree that may have no node. -/
def obits : Option TT → List Bool
  | none => []
  | some T => T.st.bits
def onum : Option TT → Int
  | none => -1
  | some T => T.num
def OSub (w : World) (xs : List Nd) : Option TT → Prop
  | none => True
  | some T => Sub w xs T
section
variable {w w' : World} {p : Nat} {C : Nat → Prop} {A : Ar} {xs : List Nd} {vis : Int} {o : Option TT}
theorem tLen_any (h : Head w p C A xs (onum o) vis) (hS : OSub w xs o) : Calls Tryd.prog 87 #[.pointer (some ⟨p, 0, none⟩)] w fun e w' => e = .returned (.int .i64 (obits o).length) ∧ ∃ n, w' = w.drewN n := by
  cases o with
  | none => exact tLen_none h
  | some T => exact tLen_some h hS
theorem tOnes_any (h : Head w p C A xs (onum o) vis) (hS : OSub w xs o) : Calls Tryd.prog 88 #[.pointer (some ⟨p, 0, none⟩)] w fun e w' => e = .returned (.int .i64 ((obits o).count true)) ∧ ∃ n, w' = w.drewN n := by
  cases o with
  | none => exact tOnes_none h
  | some T => exact tOnes_some h hS
theorem OSub.chgC {ys : List Nd} {root : Int} (hS : OSub w xs o) (hH : Head w p C A ys root vis) (hc : Chg C w w') : OSub w' xs o := by
  cases o with
  | none => trivial
  | some T => exact Sub.chgC hS hH hc (fun _ _ => rfl)
end

/-- Is there such a bit? How many nodes were looked at is forgotten. -/
theorem tHas_any {w : World} {p : Nat} {C : Nat → Prop} {A : Ar} {xs : List Nd} {vis : Int} {o : Option TT} (h : Head w p C A xs (onum o) vis) (hS : OSub w xs o) (k : Int) :
    Calls Tryd.prog 89 #[.pointer (some ⟨p, 0, none⟩), .int .i64 k] w fun e w' => e = .returned (.int .i64 (hasL (obits o) k)) ∧ Head w' p C A xs (onum o) 0 ∧ Chg C w w' := by
  obtain ⟨_, _, _, fz⟩ := h.cells
  have f3 := fz 3
  have c3 := h.cells.2.2.1
  have h0 := h.set3 0
  have hc0 := h.chg3 (.int .i64 0) 3
  have hs0 := hS.chgC h hc0
  by_cases h1 : k < 0
  · have hR := Lib.hid (show (2 : Int) = hasL (obits o) k by unfold hasL; rw [if_neg (by omega)])
    have H0 := Lib.hid h0
    have HC := Lib.hid hc0
    clear h hS fz h0 hc0 hs0
    go_enter Tryd.func89, Tryd.ntmps89
    go_wp2_with fail
    go_ret
    exact ⟨ret_int hR.out, H0.out, HC.out⟩
  · have hl := tLen_any h0 hs0
    have HL := Lib.hid hl
    have H0 := Lib.hid h0
    have HC := Lib.hid hc0
    have d0 : decide (k < 0) = false := by simp; omega
    by_cases h2 : k < (obits o).length
    · have hR := Lib.hid (show (0 : Int) = hasL (obits o) k by unfold hasL; rw [if_pos (by omega)])
      have d : decide (((obits o).length : Int) ≤ k) = false := by simp; omega
      clear h hS fz h0 hc0 hs0 hl
      generalize (obits o).length = n at *
      go_enter Tryd.func89, Tryd.ntmps89
      go_wp2_with fail
      refine HL.out.mono ?_
      rintro e w' ⟨rfl, m, rfl⟩
      go_wp2_with fail
      go_ret
      exact ⟨ret_int hR.out, H0.out.drewN _, HC.out.drewN _⟩
    · have hR := Lib.hid (show (2 : Int) = hasL (obits o) k by unfold hasL; rw [if_neg (by omega)])
      have d : decide (((obits o).length : Int) ≤ k) = true := by simp; omega
      clear h hS fz h0 hc0 hs0 hl
      generalize (obits o).length = n at *
      go_enter Tryd.func89, Tryd.ntmps89
      go_wp2_with fail
      refine HL.out.mono ?_
      rintro e w' ⟨rfl, m, rfl⟩
      go_wp2_with fail
      go_ret
      exact ⟨ret_int hR.out, H0.out.drewN _, HC.out.drewN _⟩
end Go.Proofs.YtacoeohmdngnkaaDoor

namespace Go.Proofs.YtacoeohmdngnkaaDoor
set_option linter.unusedVariables false
set_option linter.unusedSimpArgs false
open Go.RowKit

/-- A node's eight cells. -/
theorem Head.eight {w : World} {p : Nat} {C : Nat → Prop} {A : Ar} {xs : List Nd} {root vis : Int} (h : Head w p C A xs root vis) {g n rc : Nat} (hg : w.cell? ⟨p, 1, none⟩ = some (.slice (some ⟨g, 0, none⟩) n rc)) {k : Nat} {x : Nd} (hx : xs[k]? = some x) :
    w.cell? ⟨g, k * 8, none⟩ = some (.int .i64 x.left) ∧ w.cell? ⟨g, k * 8 + 1, none⟩ = some (.int .i64 x.right) ∧ w.cell? ⟨g, k * 8 + 2, none⟩ = some (.int .i64 x.height) ∧ w.cell? ⟨g, k * 8 + 3, none⟩ = some (.int .i64 x.n) ∧
    w.cell? ⟨g, k * 8 + 4, none⟩ = some (.int .i64 x.ones) ∧ w.cell? ⟨g, k * 8 + 5, none⟩ = some (.int .i64 x.ln) ∧ w.cell? ⟨g, k * 8 + 6, none⟩ = some (.int .i64 x.lones) ∧ w.cell? ⟨g, k * 8 + 7, none⟩ = some (ptrN x.b) := by
  obtain ⟨hn, _⟩ := h.node hg hx
  exact ⟨hn 0 _ rfl, hn 1 _ rfl, hn 2 _ rfl, hn 3 _ rfl, hn 4 _ rfl, hn 5 _ rfl, hn 6 _ rfl, hn 7 _ rfl⟩

/-- What stands at a node: a leaf, or a pair. -/
theorem Sub.view {w : World} {xs : List Nd} {T : TT} {k : Nat} (h : Sub w xs T) (hk : T.num = k) :
    (∃ q l, T.st = .leaf l ∧ IsBlock w q l ∧ xs[k]? = some ⟨-1, -1, 0, l.length, l.count true, 0, 0, some q⟩) ∨
    (∃ a b : TT, T.st = .pair a.st b.st ∧ Sub w xs a ∧ Sub w xs b ∧ xs[k]? = some ⟨a.num, b.num, (ST.pair a.st b.st).high, a.st.bits.length + b.st.bits.length, a.st.bits.count true + b.st.bits.count true, a.st.bits.length, a.st.bits.count true, none⟩) := by
  cases T with
  | leaf kn q l => cases hk; exact Or.inl ⟨q, l, rfl, h.2, h.1⟩
  | pair kn a b => cases hk; exact Or.inr ⟨a, b, rfl, h.2.1, h.2.2, h.1⟩

/-- What a look at a tree leaves: all is as it was, but how many nodes were looked at. -/
structure Look (w w' : World) (p : Nat) (C : Nat → Prop) (A : Ar) (xs : List Nd) (root : Int) (m : Nat) : Prop where
  head : ∃ v : Nat, v ≤ m ∧ Head w' p C A xs root v
  chg : Chg C w w'

set_option maxHeartbeats 1600000 in
theorem tGet_some {w : World} {p : Nat} {C : Nat → Prop} {A : Ar} {xs : List Nd} {vis : Int} {T0 : TT} (h : Head w p C A xs T0.num vis) (hS : Sub w xs T0) (hm : T0.Sm) (k0 : Nat) (hk0 : k0 < T0.st.bits.length) :
    Calls Tryd.prog 68 #[.pointer (some ⟨p, 0, none⟩), .int .i64 k0] w fun e w' => e = .returned (.tuple #[.bool (bitAt T0.st.bits k0), .int .i64 0]) ∧ Look w w' p C A xs T0.num (T0.st.high + 1) := by
  have hh := tHas_any (o := some T0) h hS k0
  have e0 : hasL (obits (some T0)) k0 = 0 := by
    have : ((k0 : Int) < ((obits (some T0)).length : Int)) := by show (k0 : Int) < (T0.st.bits.length : Int); omega
    unfold hasL; rw [if_pos (by omega)]
  rw [e0] at hh
  have HH := Lib.hid hh
  have HS : Hid (∀ w', Chg C w w' → Sub w' xs T0) := fun w' hc => hS.chgC h hc (fun _ _ => rfl)
  have hhm := hm.high
  clear hh h hS e0
  go_enter Tryd.func68, Tryd.ntmps68
  go_wp2_with fail
  refine HH.out.mono ?_
  rintro e w1 ⟨rfl, hH1, hC1⟩
  have c2 := hH1.cells.2.1
  have hS1 := HS.out w1 hC1
  have e1 : onum (some T0) = (T0.num : Int) := rfl
  rw [e1] at c2 hH1
  have HH1 := Lib.hid hH1
  have HC1 := Lib.hid hC1
  have HS1 := Lib.hid hS1
  clear hH1 hC1 hS1 e1
  go_wp2_with fail
  go_loopg [7, 1] (T0.st.high + 1) (fun n a b wr => ∃ (T : TT) (kn k v : Nat), T.num = kn ∧ a = .int .i64 kn ∧ b = .int .i64 k ∧ k < T.st.bits.length ∧ Sub wr xs T ∧ Head wr p C A xs T0.num v ∧ Chg C w wr ∧
    bitAt T.st.bits k = bitAt T0.st.bits k0 ∧ v + T.st.high ≤ T0.st.high ∧ T.st.high < n ∧ T.st.bits.length ≤ 8589934592)
  case atStart => exact ⟨T0, _, k0, 0, rfl, rfl, rfl, hk0, HS1.out, HH1.out, HC1.out, rfl, by omega, by omega, hm.len⟩
  case round =>
    obtain ⟨T, kn, k, v, hkn, rfl, rfl, hk, hS, hH, hC, hb, hv, hT, hlen⟩ := hrel
    have hvw := hS.view hkn
    have hx : ∃ x, xs[kn]? = some x := ⟨_, by rw [← hkn]; exact hS.root⟩
    obtain ⟨g, rc, cur, c1, hgp, _⟩ := hH.row (by obtain ⟨x, hx⟩ := hx; have := (List.getElem?_eq_some_iff.1 hx).1; omega)
    obtain ⟨_, _, cv, fz⟩ := hH.cells
    have f3 := fz 3
    have hp := hH.lt p hH.self
    have HH3 : Hid (∀ v : Int, Head (wr.setCell ⟨p, 3, none⟩ (.int .i64 v)) p C A xs T0.num v) := fun v => hH.set3 v
    have HCC := Lib.hid hC
    have HB := Lib.hid hb
    have HCp := Lib.hid hH.self
    have HNC : Hid (∀ q l, IsBlock wr q l → ¬ C q) := fun q l h => hH.notBlk h.type
    clear hC hb hx fz HH HS HH1 HC1 HS1 c2 hgp
    rcases hvw with ⟨q, l, hst, hblk, hx⟩ | ⟨Ta, Tb, hst, hSa, hSb, hx⟩
    · obtain ⟨_, _, hkx, _⟩ := hH.node c1 hx
      obtain ⟨a0, a1, a2, a3, a4, a5, a6, a7⟩ := hH.eight c1 hx
      have hg := World.block_lt_of_cell? wr _ a0
      simp only [ptrN, Option.map_some] at a0 a1 a2 a3 a4 a5 a6 a7
      rw [hst] at hk hv hT
      have HW : Hid (∀ v o, IsBlock ((wr.setCell ⟨p, 3, none⟩ v).alloc o) q l) := fun v o => hblk.chg ((Chg.refl.setCell ⟨p, 3, none⟩ (Or.inl HCp.out) v).alloc o) (HNC.out q l hblk)
      have HST := Lib.hid hst
      simp only [ST.high, ST.bits] at hk hv hT
      clear hH hS hkn hx hst hblk
      go_wp2_with fail
      refine (blkGet (HW.out _ _) k hk).mono ?_
      rintro e w' ⟨rfl, rfl⟩
      go_wp2_with fail
      go_ret2
      refine ⟨ret_bi ?_ rfl, ⟨v + 1, by omega, ?_⟩, ?_⟩
      · have := HB.out; rw [HST.out] at this; exact this
      · exact_mod_cast (HH3.out (v + 1)).below (below_alloc _ _)
      · exact (HCC.out.setCell _ (Or.inl HCp.out) _).alloc _
    · obtain ⟨_, _, hkx, _⟩ := hH.node c1 hx
      obtain ⟨a0, a1, a2, a3, a4, a5, a6, a7⟩ := hH.eight c1 hx
      have hg := World.block_lt_of_cell? wr _ a0
      simp only [ptrN, Option.map_none] at a0 a1 a2 a3 a4 a5 a6 a7
      rw [hst] at hk hv hT
      simp only [ST.bits, ST.high, List.length_append] at hk hv hT
      have HSa : Hid (∀ W, Chg C wr W → Sub W xs Ta) := fun W hc => hSa.chgC hH hc (fun _ _ => rfl)
      have HSb : Hid (∀ W, Chg C wr W → Sub W xs Tb) := fun W hc => hSb.chgC hH hc (fun _ _ => rfl)
      have hb := HB.out
      rw [hst] at hb
      simp only [ST.bits] at hb
      have HB2 := Lib.hid hb
      obtain ⟨na, hna⟩ : ∃ na, Ta.num = na := ⟨_, rfl⟩
      obtain ⟨nb, hnb⟩ : ∃ nb, Tb.num = nb := ⟨_, rfl⟩
      obtain ⟨la, hla⟩ : ∃ la, Ta.st.bits.length = la := ⟨_, rfl⟩
      rw [hla] at hk
      simp only [hna, hnb, hla] at a0 a1 a2 a3 a4 a5 a6
      have HNA := Lib.hid hna
      have HNB := Lib.hid hnb
      have HLA := Lib.hid hla
      have hlm : la + Tb.st.bits.length ≤ 8589934592 := by rw [hst] at hlen; simp only [ST.bits, List.length_append] at hlen; omega
      by_cases hlt : k < la
      · have d1 : decide (k < la) = true := decide_eq_true hlt
        clear hH hS hkn hx hst hSa hSb hb hna hnb hla HB
        go_wp2_with fail
        go_roundg (max Ta.st.high Tb.st.high + 1)
        case measure => omega
        case rel =>
          refine ⟨Ta, na, k, v + 1, HNA.out, rfl, rfl, by rw [HLA.out]; exact hlt, HSa.out _ ((Chg.refl.setCell ⟨p, 3, none⟩ (Or.inl HCp.out) _).alloc _), ?_, HCC.out.trans ((Chg.refl.setCell ⟨p, 3, none⟩ (Or.inl HCp.out) _).alloc _) (fun _ h => Or.inl h), ?_, by omega, by omega, by have := HLA.out; omega⟩
          · exact_mod_cast (HH3.out (v + 1)).below (below_alloc _ _)
          · rw [← HB2.out, bitAt_app_l (by rw [HLA.out]; exact hlt)]
      · have d1 : decide (k < la) = false := decide_eq_false hlt
        clear hH hS hkn hx hst hSa hSb hb hna hnb hla HB
        go_wp2_with fail
        go_quiet (fail)
        go_wp2_with fail
        go_roundg (max Ta.st.high Tb.st.high + 1)
        case measure => omega
        case rel =>
          refine ⟨Tb, nb, k - la, v + 1, HNB.out, rfl, ?_, by omega, HSb.out _ (((Chg.refl.setCell ⟨p, 3, none⟩ (Or.inl HCp.out) _).alloc _).drewN _), ?_, HCC.out.trans (((Chg.refl.setCell ⟨p, 3, none⟩ (Or.inl HCp.out) _).alloc _).drewN _) (fun _ h => Or.inl h), ?_, by omega, by omega, by omega⟩
          · congr 1; omega
          · exact_mod_cast ((HH3.out (v + 1)).below (below_alloc _ _)).drewN _
          · rw [← HB2.out, bitAt_app_r (by rw [HLA.out]; omega), HLA.out]

end Go.Proofs.YtacoeohmdngnkaaDoor

namespace Go.Proofs.YtacoeohmdngnkaaDoor
set_option linter.unusedVariables false
set_option linter.unusedSimpArgs false
open Go.RowKit

set_option maxHeartbeats 3200000 in
set_option maxRecDepth 100000 in
theorem tFix_leaf {w : World} {p : Nat} {C : Nat → Prop} {A : Ar} {xs : List Nd} {root vis : Int} (h : Head w p C A xs root vis) {k q : Nat} {x : Nd} {l : List Bool} (hx : xs[k]? = some x) (hb : x.b = some q) (hq : IsBlock w q l) :
    Calls Tryd.prog 116 #[.pointer (some ⟨p, 0, none⟩), .int .i64 k] w fun e w' => e = .returned (.tuple #[]) ∧
      Head w' p C A (xs.set k ⟨x.left, x.right, x.height, l.length, l.count true, x.ln, x.lones, some q⟩) root vis ∧ Chg (RowB w p) w w' := by
  obtain ⟨g, rc, cur, c1, hgp, _⟩ := h.row (by have := (List.getElem?_eq_some_iff.1 hx).1; omega)
  obtain ⟨_, fz, hkx, _⟩ := h.node c1 hx
  obtain ⟨a0, a1, a2, a3, a4, a5, a6, a7⟩ := h.eight c1 hx
  have f3 := fz (k * 8 + 3)
  have f4 := fz (k * 8 + 4)
  rw [hb] at a7
  simp only [ptrN, Option.map_some] at a7
  obtain ⟨g1, g2, g3⟩ := h.put (x' := ⟨x.left, x.right, x.height, l.length, x.ones, x.ln, x.lones, some q⟩) (v := .int .i64 l.length) c1 hx (show 3 < 8 by omega) (by cases x; cases hb; rfl)
  have e1 : (xs.set k ⟨x.left, x.right, x.height, l.length, x.ones, x.ln, x.lones, some q⟩)[k]? = some ⟨x.left, x.right, x.height, l.length, x.ones, x.ln, x.lones, some q⟩ := by rw [List.getElem?_set, if_pos rfl, if_pos hkx]
  have hS1 := (g1.eight g3 e1).2.2.2.2.2.2.2
  obtain ⟨g4, g5, g6⟩ := g1.put (k := k) (i := 4) (x := ⟨x.left, x.right, x.height, l.length, x.ones, x.ln, x.lones, some q⟩) (x' := ⟨x.left, x.right, x.height, l.length, l.count true, x.ln, x.lones, some q⟩) (v := .int .i64 (l.count true)) g3 e1 (by omega) rfl
  have hS2 := (g4.eight g6 (k := k) (x := ⟨x.left, x.right, x.height, l.length, l.count true, x.ln, x.lones, some q⟩) (by rw [List.getElem?_set, if_pos rfl, if_pos (by simpa using hkx)])).2.2.2.2.2.2.2
  have HS1 := Lib.hid hS1
  have HS2 := Lib.hid hS2
  rw [List.set_set] at g4
  have G4 := Lib.hid g4
  have G5 : Hid (Chg (RowB w p) w _) := (g2.trans g5 (fun _ h => Or.inl h)).mono (fun b e => by subst e; exact ⟨_, _, c1⟩)
  have HB : Hid (IsBlock w.drew q l) := hq
  clear h fz g1 g2 g3 g4 g5 g6 hq hb hx hS1 hS2 e1
  go_enter Tryd.func116, Tryd.ntmps116
  go_wp2_with fail
  -- REGION leaf
  refine reg_start (fun w' => w'.cell? ⟨g, k * 8 + 7, none⟩ = some (.pointer (some ⟨q, 0, none⟩))) (by kernel_rfl) (a7) (fun hHeld => ?_)
  refine rt 0 hHeld ?_
  refine rt 1 hHeld ?_
  refine rt 2 hHeld ?_
  refine rt 3 hHeld ?_
  refine rt 4 hHeld ?_
  refine rt 5 hHeld ?_
  refine rt 7 hHeld ?_
  refine rt 8 hHeld ?_
  refine rt 9 hHeld ?_
  refine rt 10 hHeld ?_
  refine reg_loud (i := 6) rfl (by kernel_rfl) rfl (fun K hK => ?_)
  go_simp
  ((with_reducible refine (blkLen (w := w.drew) HB.out).mono ?_))
  rintro e w2 ⟨rfl, rfl⟩
  refine hK.out _ _ (a7) (fun hNew => ?_)
  clear hK K hHeld
  have hHeld := hNew
  clear hNew
  try simp only [Act.put, List.setIfInBounds_toArray, List.set_cons_zero, List.set_cons_succ]
  refine reg_loud (i := 11) rfl (by kernel_rfl) rfl (fun K hK => ?_)
  go_simp
  ((with_reducible refine (blkOnes (w := w.drew) HB.out).mono ?_))
  rintro e w2 ⟨rfl, rfl⟩
  refine hK.out _ _ (a7) (fun hNew => ?_)
  clear hK K hHeld
  have hHeld := hNew
  clear hNew
  try simp only [Act.put, List.setIfInBounds_toArray, List.set_cons_zero, List.set_cons_succ]
  refine rt 12 hHeld ?_
  refine rt 13 hHeld ?_
  refine reg_loud (i := 14) rfl (by kernel_rfl) rfl (fun K hK => ?_)
  go_simp
  refine hK.out _ _ (HS1.out) (fun hNew => ?_)
  clear hK K hHeld
  have hHeld := hNew
  clear hNew
  try simp only [Act.put, List.setIfInBounds_toArray, List.set_cons_zero, List.set_cons_succ]
  refine rt 15 hHeld ?_
  refine rt 16 hHeld ?_
  refine reg_loud (i := 17) rfl (by kernel_rfl) rfl (fun K hK => ?_)
  go_simp
  refine hK.out _ _ (HS2.out) (fun hNew => ?_)
  clear hK K hHeld
  have hHeld := hNew
  clear hNew
  try simp only [Act.put, List.setIfInBounds_toArray, List.set_cons_zero, List.set_cons_succ]
  refine reg_done (by kernel_rfl) ?_ _
  -- END OF REGION leaf
  go_wp2_with fail
  refine bodyPost_ret (results_none rfl _ _ _) rfl ?_
  exact ⟨rfl, G4.out.drewN 1, G5.out.drew⟩

end Go.Proofs.YtacoeohmdngnkaaDoor

namespace Go.Proofs.YtacoeohmdngnkaaDoor
set_option linter.unusedVariables false
set_option linter.unusedSimpArgs false
open Go.RowKit

theorem below_al (w : World) (o : Obj) : Below w.heap.size w (w.alloc o) := (Below.refl _ _).alloc (Nat.le_refl _) _
theorem madeCells_oneG (z : Value) (n : Nat) : madeCells #[z] n = (vecL (fun _ => z) n).toArray := by
  apply Array.ext
  · simp [madeCells, vecL]
  · intro i h1 h2
    have h0 : ∀ m, m % 1 = 0 := fun m => by omega
    simp [madeCells, vecL, h0]
/-- 'make([]E, n)', an element of one cell. -/
theorem run_makeG {P : Program} {t e : TypeId} {z : Value} {bytes : Nat} (hinfo : (P.info? e).map (fun i => (i.zero, i.size, i.bytes)) = some (some z, 1, bytes)) (ht : P.underlying t = some (.slice e)) (hz : z.cells = #[z]) (n : Nat) (h : (bytes : Int) * (n : Int) ≤ 281474976710656) (hn : n ≤ maxLen) (w : World) :
    (Instr.makeSlice t (.int .i64 (n : Int)) (.int .i64 (n : Int))).run P w = .ok (.slice (some ⟨w.heap.size, 0, none⟩) n n) (w.alloc (.cells (vecL (fun _ => z) n).toArray e)) := by
  obtain ⟨i, hi, hiz, hsz, hby⟩ := info_parts hinfo
  have h2 := run_make (P := P) w t e i z ht hi hiz .i64 .i64 (n : Int) (n : Int) (by omega) (by omega) (by rw [hby]; exact h) (by unfold maxLen at hn; omega)
  rw [h2, hz, hsz, Int.toNat_natCast, Nat.mul_one, madeCells_oneG]
theorem own_vecG {w : World} {q n base : Nat} {f : Nat → Value} {e : TypeId} (h : w.heap[q]? = some (.cells (vecL f n).toArray e (0, 0))) (hb : base ≤ q) (hn : n ≤ maxLen) : w.ownsRow base e 1 (.slice (some ⟨q, 0, none⟩) n n) n (vecL f n) :=
  ⟨by rw [vecL_len]; omega, .inr ⟨q, n, (vecL f n).toArray, rfl, hb, h, Nat.le_refl _, hn, by simp [vecL_len], by rw [Nat.mul_one]; exact List.take_of_length_le (by rw [vecL_len]; exact Nat.le_refl _)⟩⟩
theorem Tryd.infoIntG : (Tryd.prog.info? 3).map (fun i => (i.zero, i.size, i.bytes)) = some (some (.int .i64 0), 1, 8) := by kernel_rfl
theorem make_ints (n : Nat) (h : n ≤ 1000000000) (w : World) : (Instr.makeSlice 22 (.int .i64 (n : Int)) (.int .i64 (n : Int))).run Tryd.prog w = .ok (.slice (some ⟨w.heap.size, 0, none⟩) n n) (w.alloc (.cells (vecL (fun _ => .int .i64 0) n).toArray 3)) :=
  run_makeG Tryd.infoIntG Tryd.underlying22 rfl n (by omega) (by unfold maxLen; omega) w
/-- A cell of an own row that is told by a function; a store into it. -/
theorem own_vcell {w : World} {base : Nat} {e : TypeId} {g cap n : Nat} {f : Nat → Value} (h : w.ownsRow base e 1 (.slice (some ⟨g, 0, none⟩) n cap) n (vecL f n)) {j : Nat} (hj : j < n) : w.cell? ⟨g, j, none⟩ = some (f j) := by
  obtain ⟨g', cap', hv, _, _, _, _, hc, _⟩ := own_some h (by omega)
  injection hv with e1 _ _; injection e1 with e1; injection e1 with e1 _ _
  subst e1
  rw [hc j hj, vecL_get hj]
theorem own_vfree {w : World} {base : Nat} {e : TypeId} {g cap n : Nat} {xs : List Value} (h : w.ownsRow base e 1 (.slice (some ⟨g, 0, none⟩) n cap) n xs) (j : Nat) : w.frozen? ⟨g, j, none⟩ = false := by
  rcases h.2 with ⟨h, _⟩ | ⟨g', cap', cur, hv, _, hg, _⟩
  · cases h
  · injection hv with e1 _ _; injection e1 with e1; injection e1 with e1 _ _
    subst e1
    exact frozen_of_row w g j cur e hg
theorem own_vset {w : World} {base : Nat} {e : TypeId} {g cap n : Nat} {f : Nat → Value} (h : w.ownsRow base e 1 (.slice (some ⟨g, 0, none⟩) n cap) n (vecL f n)) (j : Nat) (u : Value) :
    (w.setCell ⟨g, j, none⟩ u).ownsRow base e 1 (.slice (some ⟨g, 0, none⟩) n cap) n (vecL (fun i => if i = j then u else f i) n) := by
  have := own_set h j u
  rwa [vecL_set] at this
theorem below_dN {B : Nat} {w w' : World} (h : Below B w w') (n : Nat) : Below B w (w'.drewN n) := ⟨h.os, h.tape, h.output, h.size, h.block⟩

section
variable {P : Program} {md : Region.Mode} {l : List Oper} {Q : Exit → Act → World → Prop} {S : World → Prop} {i : Nat} {oi : Oper} {fuel : Nat} {listed : Array Bool} {a : Act} {w : World} {rs : List Nat}
/-- One of several operations that may come up. -/
theorem all_cons (hi : (l.drop i).head? = some oi) (hw : Region.wanted oi (yielded l.toArray a.tmps) = true)
    (h : ∀ K : Act → World → Prop, Shut (∀ a w, S w → (S w → wpAnyH P md l.toArray (NoPanic Q) S fuel (listed.setIfInBounds i true) a w) → K a w) → Oper.wp P oi a w K (NoPanic Q))
    (hs : AllReadyH P md l.toArray (NoPanic Q) S fuel listed a w rs) : AllReadyH P md l.toArray (NoPanic Q) S fuel listed a w (i :: rs) :=
  AllReadyH.cons (reg_get hi) (fun K hK => by rw [if_pos hw]; exact h K hK) hs
end

end Go.Proofs.YtacoeohmdngnkaaDoor

namespace Go.Proofs.YtacoeohmdngnkaaDoor
set_option linter.unusedVariables false
set_option linter.unusedSimpArgs false
open Go.RowKit

theorem below_alloc2_drew (w : World) (A B : Obj) : Below w.heap.size w ((w.alloc A).alloc B).drew :=
  let h := ((Below.refl w.heap.size w).alloc (Nat.le_refl _) A).alloc (by simp) B
  ⟨h.os, h.tape, h.output, h.size, h.block⟩
theorem Head.drew {w : World} {p : Nat} {C : Nat → Prop} {A : Ar} {xs : List Nd} {root vis : Int} (h : Head w p C A xs root vis) : Head w.drew p C A xs root vis := h.drewN 1
theorem below_alloc1_drew (w : World) (A : Obj) : Below w.heap.size w (w.alloc A).drew :=
  let h := (Below.refl w.heap.size w).alloc (Nat.le_refl _) A
  ⟨h.os, h.tape, h.output, h.size, h.block⟩
theorem below_drew1 (w : World) : Below w.heap.size w w.drew := ⟨rfl, rfl, rfl, Nat.le_refl _, fun _ _ => rfl⟩
/-- Five cells of a node are written. -/
theorem Head.puts {w : World} {p : Nat} {C : Nat → Prop} {A : Ar} {xs : List Nd} {root vis : Int} (h : Head w p C A xs root vis) {g n rc : Nat} (hg : w.cell? ⟨p, 1, none⟩ = some (.slice (some ⟨g, 0, none⟩) n rc)) {k : Nat} {x : Nd} {i j : Int} (hx : xs[k]? = some x) (hb : x.b = none ∧ x.left = i ∧ x.right = j) (ht m o lm lo : Int) :
    Head (((((w.setCell ⟨g, k * 8 + 2, none⟩ (.int .i64 ht)).setCell ⟨g, k * 8 + 3, none⟩ (.int .i64 m)).setCell ⟨g, k * 8 + 4, none⟩ (.int .i64 o)).setCell ⟨g, k * 8 + 5, none⟩ (.int .i64 lm)).setCell ⟨g, k * 8 + 6, none⟩ (.int .i64 lo)) p C A (xs.set k ⟨i, j, ht, m, o, lm, lo, none⟩) root vis ∧
    Chg (fun b => b = g) w (((((w.setCell ⟨g, k * 8 + 2, none⟩ (.int .i64 ht)).setCell ⟨g, k * 8 + 3, none⟩ (.int .i64 m)).setCell ⟨g, k * 8 + 4, none⟩ (.int .i64 o)).setCell ⟨g, k * 8 + 5, none⟩ (.int .i64 lm)).setCell ⟨g, k * 8 + 6, none⟩ (.int .i64 lo)) := by
  obtain ⟨_, _, hk, _⟩ := h.node hg hx
  have key : ∀ y : Nd, (xs.set k y)[k]? = some y := fun y => by rw [List.getElem?_set, if_pos rfl, if_pos hk]
  obtain ⟨hb, rfl, rfl⟩ := hb
  obtain ⟨h1, c1, g1⟩ := h.put hg hx (i := 2) (v := .int .i64 ht) (x' := ⟨x.left, x.right, ht, x.n, x.ones, x.ln, x.lones, none⟩) (by omega) (by cases x; cases hb; rfl)
  obtain ⟨h2, c2, g2⟩ := h1.put g1 (key _) (i := 3) (v := .int .i64 m) (x' := ⟨x.left, x.right, ht, m, x.ones, x.ln, x.lones, none⟩) (by omega) rfl
  rw [List.set_set] at h2
  obtain ⟨h3, c3, g3⟩ := h2.put g2 (key _) (i := 4) (v := .int .i64 o) (x' := ⟨x.left, x.right, ht, m, o, x.ln, x.lones, none⟩) (by omega) rfl
  rw [List.set_set] at h3
  obtain ⟨h4, c4, g4⟩ := h3.put g3 (key _) (i := 5) (v := .int .i64 lm) (x' := ⟨x.left, x.right, ht, m, o, lm, x.lones, none⟩) (by omega) rfl
  rw [List.set_set] at h4
  obtain ⟨h5, c5, _⟩ := h4.put g4 (key _) (i := 6) (v := .int .i64 lo) (x' := ⟨x.left, x.right, ht, m, o, lm, lo, none⟩) (by omega) rfl
  rw [List.set_set] at h5
  exact ⟨h5, (((c1.trans c2 (fun _ h => Or.inl h)).trans c3 (fun _ h => Or.inl h)).trans c4 (fun _ h => Or.inl h)).trans c5 (fun _ h => Or.inl h)⟩

set_option maxHeartbeats 3200000 in
set_option maxRecDepth 100000 in
theorem tFix_pair {w : World} {p : Nat} {C : Nat → Prop} {A : Ar} {xs : List Nd} {root vis : Int} (h : Head w p C A xs root vis) {k i j : Nat} {x a b : Nd} (hx : xs[k]? = some x) (hb : x.b = none) (hl : x.left = i) (hr : x.right = j)
    (ha : xs[i]? = some a) (hbn : xs[j]? = some b) (s1 : 0 ≤ a.height ∧ a.height ≤ 1000000000) (s2 : 0 ≤ b.height ∧ b.height ≤ 1000000000) (s3 : 0 ≤ a.n ∧ a.n ≤ 8589934592) (s4 : 0 ≤ b.n ∧ b.n ≤ 8589934592) (s5 : 0 ≤ a.ones ∧ a.ones ≤ 8589934592) (s6 : 0 ≤ b.ones ∧ b.ones ≤ 8589934592) :
    Calls Tryd.prog 116 #[.pointer (some ⟨p, 0, none⟩), .int .i64 k] w fun e w' => e = .returned (.tuple #[]) ∧
      Head w' p C A (xs.set k ⟨i, j, max a.height b.height + 1, a.n + b.n, a.ones + b.ones, a.n, a.ones, none⟩) root vis ∧ Chg (RowB w p) w w' := by
  obtain ⟨g, rc, cur, c1, hgp, _⟩ := h.row (by have := (List.getElem?_eq_some_iff.1 hx).1; omega)
  obtain ⟨_, fz, hkx, _⟩ := h.node c1 hx
  obtain ⟨_, _, hix, _⟩ := h.node c1 ha
  obtain ⟨_, _, hjx, _⟩ := h.node c1 hbn
  obtain ⟨a0, a1, a2, a3, a4, a5, a6, a7⟩ := h.eight c1 hx
  obtain ⟨b0, b1, b2, b3, b4, b5, b6, b7⟩ := h.eight c1 ha
  obtain ⟨d0, d1, d2, d3, d4, d5, d6, d7⟩ := h.eight c1 hbn
  have hg := World.block_lt_of_cell? w _ a0
  have hp := h.lt p h.self
  rw [hl] at a0
  rw [hr] at a1
  rw [hb] at a7
  simp only [ptrN, Option.map_none] at a7
  have f0 := fz (k * 8 + 0)
  have f2 := fz (k * 8 + 2)
  have f3 := fz (k * 8 + 3)
  have f4 := fz (k * 8 + 4)
  have f5 := fz (k * 8 + 5)
  have f6 := fz (k * 8 + 6)
  have H := Lib.hid h
  have HRB : Hid (RowB w p g) := ⟨_, _, c1⟩
  have HX := Lib.hid hx
  have HXB : Hid (x.b = none ∧ x.left = i ∧ x.right = j) := ⟨hb, hl, hr⟩
  obtain ⟨pa, hpa⟩ : ∃ pa, ptrN a.b = .pointer pa := ⟨_, rfl⟩
  obtain ⟨pb, hpb⟩ : ∃ pb, ptrN b.b = .pointer pb := ⟨_, rfl⟩
  rw [hpa] at b7
  rw [hpb] at d7
  clear hpa hpb
  clear h fz hb hx ha hbn hl hr
  go_enter Tryd.func116, Tryd.ntmps116
  go_wp2_with fail
  go_upto_region 4 with fail
  go_cut [5, 6] (fun va vb wx => ∃ qa qb : Nat, va = .pointer (some ⟨qa, 0, none⟩) ∧ vb = .pointer (some ⟨qb, 0, none⟩) ∧ w.heap.size ≤ qa ∧ w.heap.size ≤ qb ∧ Below w.heap.size w wx ∧
    wx.heap[qa]? = some (.cells #[.int .i64 a.left, .int .i64 a.right, .int .i64 a.height, .int .i64 a.n, .int .i64 a.ones, .int .i64 a.ln, .int .i64 a.lones, .pointer pa] 120 (0, 0)) ∧
    wx.heap[qb]? = some (.cells #[.int .i64 b.left, .int .i64 b.right, .int .i64 b.height, .int .i64 b.n, .int .i64 b.ones, .int .i64 b.ln, .int .i64 b.lones, .pointer pb] 120 (0, 0)))
  case first =>
    -- REGION three
    refine reg_start (fun w' => Below w.heap.size w w') (by kernel_rfl) (below_drew1 _) (fun hHeld => ?_)
    refine reg_take (i := 0) (v := ?vt0) rfl (by kernel_rfl) rfl hHeld ?yt0 ?rt0
    case yt0 => (intro w' hSw; go_simp; all_goals with_reducible rfl)
    try simp only [Act.put, List.setIfInBounds_toArray, List.set_cons_zero, List.set_cons_succ]
    refine reg_take (i := 1) (v := ?vt1) rfl (by kernel_rfl) rfl hHeld ?yt1 ?rt1
    case yt1 => (intro w' hSw; go_simp; all_goals with_reducible rfl)
    try simp only [Act.put, List.setIfInBounds_toArray, List.set_cons_zero, List.set_cons_succ]
    refine reg_take (i := 2) (v := ?vt2) rfl (by kernel_rfl) rfl hHeld ?yt2 ?rt2
    case yt2 => (intro w' hSw; go_simp; all_goals with_reducible rfl)
    try simp only [Act.put, List.setIfInBounds_toArray, List.set_cons_zero, List.set_cons_succ]
    refine reg_take (i := 3) (v := ?vt3) rfl (by kernel_rfl) rfl hHeld ?yt3 ?rt3
    case yt3 => (intro w' hSw; have q1 := (hSw.cell (p := ⟨p, 1, none⟩) hp).trans c1; go_simp; all_goals with_reducible rfl)
    try simp only [Act.put, List.setIfInBounds_toArray, List.set_cons_zero, List.set_cons_succ]
    refine reg_take (i := 4) (v := ?vt4) rfl (by kernel_rfl) rfl hHeld ?yt4 ?rt4
    case yt4 => (intro w' hSw; go_simp; all_goals with_reducible rfl)
    try simp only [Act.put, List.setIfInBounds_toArray, List.set_cons_zero, List.set_cons_succ]
    refine reg_take (i := 5) (v := ?vt5) rfl (by kernel_rfl) rfl hHeld ?yt5 ?rt5
    case yt5 => (intro w' hSw; go_simp; all_goals with_reducible rfl)
    try simp only [Act.put, List.setIfInBounds_toArray, List.set_cons_zero, List.set_cons_succ]
    refine reg_take (i := 6) (v := ?vt6) rfl (by kernel_rfl) rfl hHeld ?yt6 ?rt6
    case yt6 => (intro w' hSw; go_simp; all_goals with_reducible rfl)
    try simp only [Act.put, List.setIfInBounds_toArray, List.set_cons_zero, List.set_cons_succ]
    refine reg_take (i := 7) (v := ?vt7) rfl (by kernel_rfl) rfl hHeld ?yt7 ?rt7
    case yt7 => (intro w' hSw; have q2 := (hSw.cell (p := ⟨g, k * 8, none⟩) hg).trans a0; go_simp; all_goals with_reducible rfl)
    try simp only [Act.put, List.setIfInBounds_toArray, List.set_cons_zero, List.set_cons_succ]
    refine reg_take (i := 8) (v := ?vt8) rfl (by kernel_rfl) rfl hHeld ?yt8 ?rt8
    case yt8 => (intro w' hSw; go_simp; all_goals with_reducible rfl)
    try simp only [Act.put, List.setIfInBounds_toArray, List.set_cons_zero, List.set_cons_succ]
    refine reg_take (i := 9) (v := ?vt9) rfl (by kernel_rfl) rfl hHeld ?yt9 ?rt9
    case yt9 => (intro w' hSw; have r0 := (hSw.cell (p := ⟨g, i * 8, none⟩) hg).trans b0; have r1 := (hSw.cell (p := ⟨g, i * 8 + 1, none⟩) hg).trans b1; have r2 := (hSw.cell (p := ⟨g, i * 8 + 2, none⟩) hg).trans b2; have r3 := (hSw.cell (p := ⟨g, i * 8 + 3, none⟩) hg).trans b3; have r4 := (hSw.cell (p := ⟨g, i * 8 + 4, none⟩) hg).trans b4; have r5 := (hSw.cell (p := ⟨g, i * 8 + 5, none⟩) hg).trans b5; have r6 := (hSw.cell (p := ⟨g, i * 8 + 6, none⟩) hg).trans b6; have r7 := (hSw.cell (p := ⟨g, i * 8 + 7, none⟩) hg).trans b7; go_simp; all_goals with_reducible rfl)
    try simp only [Act.put, List.setIfInBounds_toArray, List.set_cons_zero, List.set_cons_succ]
    refine reg_take (i := 10) (v := ?vt10) rfl (by kernel_rfl) rfl hHeld ?yt10 ?rt10
    case yt10 => (intro w' hSw; go_simp; all_goals with_reducible rfl)
    try simp only [Act.put, List.setIfInBounds_toArray, List.set_cons_zero, List.set_cons_succ]
    refine reg_take (i := 11) (v := ?vt11) rfl (by kernel_rfl) rfl hHeld ?yt11 ?rt11
    case yt11 => (intro w' hSw; go_simp; all_goals with_reducible rfl)
    try simp only [Act.put, List.setIfInBounds_toArray, List.set_cons_zero, List.set_cons_succ]
    refine reg_take (i := 12) (v := ?vt12) rfl (by kernel_rfl) rfl hHeld ?yt12 ?rt12
    case yt12 => (intro w' hSw; go_simp; all_goals with_reducible rfl)
    try simp only [Act.put, List.setIfInBounds_toArray, List.set_cons_zero, List.set_cons_succ]
    refine reg_take (i := 13) (v := ?vt13) rfl (by kernel_rfl) rfl hHeld ?yt13 ?rt13
    case yt13 => (intro w' hSw; have q1 := (hSw.cell (p := ⟨p, 1, none⟩) hp).trans c1; go_simp; all_goals with_reducible rfl)
    try simp only [Act.put, List.setIfInBounds_toArray, List.set_cons_zero, List.set_cons_succ]
    refine reg_take (i := 14) (v := ?vt14) rfl (by kernel_rfl) rfl hHeld ?yt14 ?rt14
    case yt14 => (intro w' hSw; go_simp; all_goals with_reducible rfl)
    try simp only [Act.put, List.setIfInBounds_toArray, List.set_cons_zero, List.set_cons_succ]
    refine reg_take (i := 15) (v := ?vt15) rfl (by kernel_rfl) rfl hHeld ?yt15 ?rt15
    case yt15 => (intro w' hSw; go_simp; all_goals with_reducible rfl)
    try simp only [Act.put, List.setIfInBounds_toArray, List.set_cons_zero, List.set_cons_succ]
    refine reg_take (i := 16) (v := ?vt16) rfl (by kernel_rfl) rfl hHeld ?yt16 ?rt16
    case yt16 => (intro w' hSw; go_simp; all_goals with_reducible rfl)
    try simp only [Act.put, List.setIfInBounds_toArray, List.set_cons_zero, List.set_cons_succ]
    refine reg_take (i := 17) (v := ?vt17) rfl (by kernel_rfl) rfl hHeld ?yt17 ?rt17
    case yt17 => (intro w' hSw; have q3 := (hSw.cell (p := ⟨g, k * 8 + 1, none⟩) hg).trans a1; go_simp; all_goals with_reducible rfl)
    try simp only [Act.put, List.setIfInBounds_toArray, List.set_cons_zero, List.set_cons_succ]
    refine reg_take (i := 18) (v := ?vt18) rfl (by kernel_rfl) rfl hHeld ?yt18 ?rt18
    case yt18 => (intro w' hSw; go_simp; all_goals with_reducible rfl)
    try simp only [Act.put, List.setIfInBounds_toArray, List.set_cons_zero, List.set_cons_succ]
    refine reg_take (i := 19) (v := ?vt19) rfl (by kernel_rfl) rfl hHeld ?yt19 ?rt19
    case yt19 => (intro w' hSw; have r0 := (hSw.cell (p := ⟨g, j * 8, none⟩) hg).trans d0; have r1 := (hSw.cell (p := ⟨g, j * 8 + 1, none⟩) hg).trans d1; have r2 := (hSw.cell (p := ⟨g, j * 8 + 2, none⟩) hg).trans d2; have r3 := (hSw.cell (p := ⟨g, j * 8 + 3, none⟩) hg).trans d3; have r4 := (hSw.cell (p := ⟨g, j * 8 + 4, none⟩) hg).trans d4; have r5 := (hSw.cell (p := ⟨g, j * 8 + 5, none⟩) hg).trans d5; have r6 := (hSw.cell (p := ⟨g, j * 8 + 6, none⟩) hg).trans d6; have r7 := (hSw.cell (p := ⟨g, j * 8 + 7, none⟩) hg).trans d7; go_simp; all_goals with_reducible rfl)
    try simp only [Act.put, List.setIfInBounds_toArray, List.set_cons_zero, List.set_cons_succ]
    refine wpAnyH_ready (rs := [20, 21]) (by kernel_rfl) (by simp) (all_cons rfl rfl (fun K hK => ?_) (all_cons rfl rfl (fun K hK => ?_) AllReadyH.nil))
    · go_simp
      refine hK.out _ _ (below_alloc1_drew _ _) (fun hNew => ?_)
      clear hK K hHeld
      have hHeld := hNew
      clear hNew
      try simp only [Act.put, List.setIfInBounds_toArray, List.set_cons_zero, List.set_cons_succ]
      refine reg_loud (i := 21) rfl (by kernel_rfl) rfl (fun K hK => ?_)
      go_simp
      refine hK.out _ _ (below_alloc2_drew _ _ _) (fun hNew => ?_)
      clear hK K hHeld
      have hHeld := hNew
      clear hNew
      try simp only [Act.put, List.setIfInBounds_toArray, List.set_cons_zero, List.set_cons_succ]
      refine reg_loud (i := 22) rfl (by kernel_rfl) rfl (fun K hK => ?_)
      go_simp
      refine hK.out _ _ (below_alloc2_drew _ _ _) (fun hNew => ?_)
      clear hK K hHeld
      have hHeld := hNew
      clear hNew
      try simp only [Act.put, List.setIfInBounds_toArray, List.set_cons_zero, List.set_cons_succ]
      refine reg_loud (i := 23) rfl (by kernel_rfl) rfl (fun K hK => ?_)
      go_simp
      refine hK.out _ _ (below_alloc2_drew _ _ _) (fun hNew => ?_)
      clear hK K hHeld
      have hHeld := hNew
      clear hNew
      try simp only [Act.put, List.setIfInBounds_toArray, List.set_cons_zero, List.set_cons_succ]
      refine reg_done (by kernel_rfl) ?_ _
      go_wp2_with fail
      go_meet
      case rel => exact ⟨_, _, rfl, rfl, Nat.le_refl _, Nat.le_succ _, hHeld, heap_alloc2_old _ _ _, heap_alloc2_new _ _ _⟩
    · go_simp
      refine hK.out _ _ (below_alloc1_drew _ _) (fun hNew => ?_)
      clear hK K hHeld
      have hHeld := hNew
      clear hNew
      try simp only [Act.put, List.setIfInBounds_toArray, List.set_cons_zero, List.set_cons_succ]
      refine reg_loud (i := 20) rfl (by kernel_rfl) rfl (fun K hK => ?_)
      go_simp
      refine hK.out _ _ (below_alloc2_drew _ _ _) (fun hNew => ?_)
      clear hK K hHeld
      have hHeld := hNew
      clear hNew
      try simp only [Act.put, List.setIfInBounds_toArray, List.set_cons_zero, List.set_cons_succ]
      refine reg_loud (i := 22) rfl (by kernel_rfl) rfl (fun K hK => ?_)
      go_simp
      refine hK.out _ _ (below_alloc2_drew _ _ _) (fun hNew => ?_)
      clear hK K hHeld
      have hHeld := hNew
      clear hNew
      try simp only [Act.put, List.setIfInBounds_toArray, List.set_cons_zero, List.set_cons_succ]
      refine reg_loud (i := 23) rfl (by kernel_rfl) rfl (fun K hK => ?_)
      go_simp
      refine hK.out _ _ (below_alloc2_drew _ _ _) (fun hNew => ?_)
      clear hK K hHeld
      have hHeld := hNew
      clear hNew
      try simp only [Act.put, List.setIfInBounds_toArray, List.set_cons_zero, List.set_cons_succ]
      refine reg_done (by kernel_rfl) ?_ _
      go_wp2_with fail
      go_meet
      case rel => exact ⟨_, _, rfl, rfl, Nat.le_succ _, Nat.le_refl _, hHeld, heap_alloc2_new _ _ _, heap_alloc2_old _ _ _⟩
    -- END OF REGION three
  case rest =>
    obtain ⟨qa, qb, rfl, rfl, l1, l2, hb, hqa, hqb⟩ := hcut
    have Hc := H.out.below hb
    obtain ⟨P1, P2⟩ := Hc.puts ((hb.cell (p := ⟨p, 1, none⟩) hp).trans c1) HX.out HXB.out (max a.height b.height + 1) (a.n + b.n) (a.ones + b.ones) a.n a.ones
    have HP1 := Lib.hid P1
    have HP2 : Hid (Chg (RowB w p) wc _) := P2.mono (fun b e => by subst e; exact HRB.out)
    have HC := Lib.hid hb
    have ea2 : wc.cell? ⟨qa, 2, none⟩ = some (.int .i64 a.height) := by rw [cell_of_row wc qa 2 _ _ _ hqa]; rfl
    have ea3 : wc.cell? ⟨qa, 3, none⟩ = some (.int .i64 a.n) := by rw [cell_of_row wc qa 3 _ _ _ hqa]; rfl
    have ea4 : wc.cell? ⟨qa, 4, none⟩ = some (.int .i64 a.ones) := by rw [cell_of_row wc qa 4 _ _ _ hqa]; rfl
    have eb2 : wc.cell? ⟨qb, 2, none⟩ = some (.int .i64 b.height) := by rw [cell_of_row wc qb 2 _ _ _ hqb]; rfl
    have eb3 : wc.cell? ⟨qb, 3, none⟩ = some (.int .i64 b.n) := by rw [cell_of_row wc qb 3 _ _ _ hqb]; rfl
    have eb4 : wc.cell? ⟨qb, 4, none⟩ = some (.int .i64 b.ones) := by rw [cell_of_row wc qb 4 _ _ _ hqb]; rfl
    have e2 := (hb.cell (p := ⟨g, k * 8 + 2, none⟩) hg).trans a2
    have e3 := (hb.cell (p := ⟨g, k * 8 + 3, none⟩) hg).trans a3
    have e4 := (hb.cell (p := ⟨g, k * 8 + 4, none⟩) hg).trans a4
    have e5 := (hb.cell (p := ⟨g, k * 8 + 5, none⟩) hg).trans a5
    have e6 := (hb.cell (p := ⟨g, k * 8 + 6, none⟩) hg).trans a6
    have k2 := (hb.frozen (p := ⟨g, k * 8 + 2, none⟩) hg).trans f2
    have k3 := (hb.frozen (p := ⟨g, k * 8 + 3, none⟩) hg).trans f3
    have k4 := (hb.frozen (p := ⟨g, k * 8 + 4, none⟩) hg).trans f4
    have k5 := (hb.frozen (p := ⟨g, k * 8 + 5, none⟩) hg).trans f5
    have k6 := (hb.frozen (p := ⟨g, k * 8 + 6, none⟩) hg).trans f6
    have hg' : g < w.heap.size := hg
    have n1 : ¬ qa = g := by omega
    have n2 : ¬ qb = g := by omega
    have n3 : ¬ g = qa := by omega
    have n4 : ¬ g = qb := by omega
    clear P1 P2 hb hqa hqb Hc a0 a1 a2 a3 a4 a5 a6 a7 b0 b1 b2 b3 b4 b5 b6 b7 d0 d1 d2 d3 d4 d5 d6 d7 f0 f2 f3 f4 f5 f6 c1
    have HWN : Hid (IntKind.i64.wrap (a.n + b.n) = a.n + b.n) := IntWalk.i64_in _ (by omega)
    have HWO : Hid (IntKind.i64.wrap (a.ones + b.ones) = a.ones + b.ones) := IntWalk.i64_in _ (by omega)
    obtain ⟨hm, hhm⟩ : ∃ hm, hm = max a.height b.height := ⟨_, rfl⟩
    rw [← hhm] at HP1 HP2
    have HHM := Lib.hid hhm
    clear hhm
    go_upto_region 4 with fail
    go_cut [5] (fun va wx => va = .pointer (some ⟨qa, 0, none⟩) ∧ wx = wc.setCell ⟨g, k * 8 + 2, none⟩ (.int .i64 (hm + 1)))
    case first =>
      by_cases hlt : a.height < b.height
      · have e0 := HHM.out
        rw [Int.max_eq_right (by omega)] at e0
        subst e0
        go_wp2_with fail
        go_meet
        case rel => exact ⟨rfl, rfl⟩
      · have e0 := HHM.out
        rw [Int.max_eq_left (by omega)] at e0
        subst e0
        go_wp2_with fail
        go_meet
        case rel => exact ⟨rfl, rfl⟩
    case rest =>
      obtain ⟨rfl, rfl⟩ := hcut
      go_wp2_with fail
      -- REGION five
      refine reg_start (fun w' => w'.cell? ⟨qa, 3, none⟩ = some (.int .i64 a.n) ∧ w'.cell? ⟨qa, 4, none⟩ = some (.int .i64 a.ones) ∧ w'.cell? ⟨qb, 3, none⟩ = some (.int .i64 b.n) ∧ w'.cell? ⟨qb, 4, none⟩ = some (.int .i64 b.ones)) (by kernel_rfl) ?hif (fun hHeld => ?_)
      case hif => (refine ⟨?_, ?_, ?_, ?_⟩ <;> go_simp)
      refine rt 0 hHeld ?_
      refine rt 1 hHeld ?_
      refine rt 2 hHeld ?_
      refine rt 3 hHeld ?_
      refine rt 4 hHeld ?_
      refine rt 5 hHeld ?_
      refine rt 6 hHeld ?_
      refine rt 7 hHeld ?_
      refine rt 8 hHeld ?_
      refine rt 9 hHeld ?_
      refine rt 10 hHeld ?_
      refine rt 11 hHeld ?_
      refine rt 12 hHeld ?_
      refine rt 13 hHeld ?_
      refine reg_loud (i := 14) rfl (by kernel_rfl) rfl (fun K hK => ?_)
      go_simp
      refine hK.out _ _ ?kpf14 (fun hNew => ?_)
      case kpf14 => (refine ⟨?_, ?_, ?_, ?_⟩ <;> go_simp)
      clear hK K hHeld
      have hHeld := hNew
      clear hNew
      try simp only [Act.put, List.setIfInBounds_toArray, List.set_cons_zero, List.set_cons_succ]
      refine rt 15 hHeld ?_
      refine rt 16 hHeld ?_
      refine reg_loud (i := 17) rfl (by kernel_rfl) rfl (fun K hK => ?_)
      go_simp
      refine hK.out _ _ ?kpf17 (fun hNew => ?_)
      case kpf17 => (refine ⟨?_, ?_, ?_, ?_⟩ <;> go_simp)
      clear hK K hHeld
      have hHeld := hNew
      clear hNew
      try simp only [Act.put, List.setIfInBounds_toArray, List.set_cons_zero, List.set_cons_succ]
      refine reg_done (by kernel_rfl) ?_ _
      -- END OF REGION five
      go_wp2_with fail
      -- REGION six
      refine reg_start (fun w' => w'.cell? ⟨qa, 3, none⟩ = some (.int .i64 a.n) ∧ w'.cell? ⟨qa, 4, none⟩ = some (.int .i64 a.ones) ∧ w'.cell? ⟨qb, 3, none⟩ = some (.int .i64 b.n) ∧ w'.cell? ⟨qb, 4, none⟩ = some (.int .i64 b.ones)) (by kernel_rfl) ?his (fun hHeld => ?_)
      case his => (refine ⟨?_, ?_, ?_, ?_⟩ <;> go_simp)
      refine rt 0 hHeld ?_
      refine rt 1 hHeld ?_
      refine rt 2 hHeld ?_
      refine rt 3 hHeld ?_
      refine rt 4 hHeld ?_
      refine rt 5 hHeld ?_
      refine rt 6 hHeld ?_
      refine rt 7 hHeld ?_
      refine reg_loud (i := 8) rfl (by kernel_rfl) rfl (fun K hK => ?_)
      go_simp
      refine hK.out _ _ ?kps8 (fun hNew => ?_)
      case kps8 => (refine ⟨?_, ?_, ?_, ?_⟩ <;> go_simp)
      clear hK K hHeld
      have hHeld := hNew
      clear hNew
      try simp only [Act.put, List.setIfInBounds_toArray, List.set_cons_zero, List.set_cons_succ]
      refine rt 9 hHeld ?_
      refine rt 10 hHeld ?_
      refine reg_loud (i := 11) rfl (by kernel_rfl) rfl (fun K hK => ?_)
      go_simp
      refine hK.out _ _ ?kps11 (fun hNew => ?_)
      case kps11 => (refine ⟨?_, ?_, ?_, ?_⟩ <;> go_simp)
      clear hK K hHeld
      have hHeld := hNew
      clear hNew
      try simp only [Act.put, List.setIfInBounds_toArray, List.set_cons_zero, List.set_cons_succ]
      refine reg_done (by kernel_rfl) ?_ _
      -- END OF REGION six
      go_wp2_with fail
      go_end0
      rw [← HHM.out]
      rw [HWN.out, HWO.out]
      exact ⟨rfl, HP1.out.drew.drew, ((Chg.of_below HC.out).trans HP2.out (fun _ h => Or.inl h)).drew.drew⟩

end Go.Proofs.YtacoeohmdngnkaaDoor

namespace Go.Proofs.YtacoeohmdngnkaaDoor
set_option linter.unusedVariables false
set_option linter.unusedSimpArgs false
open Go.RowKit

theorem set_get {α : Type} {xs : List α} {k : Nat} {x y : α} (h : xs[k]? = some x) : (xs.set k y)[k]? = some y := by
  rw [List.getElem?_set, if_pos rfl, if_pos (List.getElem?_eq_some_iff.1 h).1]
theorem set_ne {α : Type} {xs : List α} {k j : Nat} {y : α} (h : j ≠ k) : (xs.set k y)[j]? = xs[j]? := by
  rw [List.getElem?_set, if_neg (fun e => h e.symm)]

theorem set_out {xs : List Nd} {k : Nat} {y : Nd} {T : TT} (hk : k ∉ T.nums) : ∀ j ∈ T.nums, (xs.set k y)[j]? = xs[j]? := fun j hj => set_ne (by rintro rfl; exact hk hj)
theorem Sub.set {w : World} {xs : List Nd} {T : TT} (h : Sub w xs T) {k : Nat} (hk : k ∉ T.nums) (y : Nd) : Sub w (xs.set k y) T := h.keep (set_out hk) (fun _ _ => rfl)

/-- How many bits there are in all, and how high it is. -/
def Small (t : ST) : Prop := t.bits.length ≤ 8589934592 ∧ t.high ≤ 1000000000
theorem Small.l {a b : ST} (h : Small (.pair a b)) : Small a := by
  obtain ⟨h1, h2⟩ := h
  simp only [ST.bits, ST.high, List.length_append] at h1 h2
  exact ⟨by omega, by omega⟩
theorem Small.r {a b : ST} (h : Small (.pair a b)) : Small b := by
  obtain ⟨h1, h2⟩ := h
  simp only [ST.bits, ST.high, List.length_append] at h1 h2
  exact ⟨by omega, by omega⟩

/-- A node whose children are known is counted anew. -/
theorem tFix_tt {w : World} {p : Nat} {C : Nat → Prop} {A : Ar} {xs : List Nd} {root vis : Int} (h : Head w p C A xs root vis) {k : Nat} {x : Nd} {a b : TT} (hx : xs[k]? = some x) (hb : x.b = none) (hl : x.left = a.num) (hr : x.right = b.num)
    (ha : Sub w xs a) (hbn : Sub w xs b) (s1 : Small a.st) (s2 : Small b.st) :
    Calls Tryd.prog 116 #[.pointer (some ⟨p, 0, none⟩), .int .i64 k] w fun e w' => e = .returned (.tuple #[]) ∧ Head w' p C A (xs.set k (TT.pair k a b).nd) root vis ∧ Chg (RowB w p) w w' := by
  have c1 := count_le a.st.bits true
  have c2 := count_le b.st.bits true
  obtain ⟨l1, g1⟩ := s1
  obtain ⟨l2, g2⟩ := s2
  refine (tFix_pair h hx hb hl hr ha.root hbn.root ?_ ?_ ?_ ?_ ?_ ?_).mono ?_
  · rw [a.nd_high]; omega
  · rw [b.nd_high]; omega
  · rw [a.nd_n]; omega
  · rw [b.nd_n]; omega
  · rw [a.nd_ones]; omega
  · rw [b.nd_ones]; omega
  · rintro e w' ⟨rfl, h1, h2⟩
    refine ⟨rfl, ?_, h2⟩
    rw [a.nd_high, b.nd_high, a.nd_n, b.nd_n, a.nd_ones, b.nd_ones] at h1
    have e : (TT.pair k a b).nd = ⟨a.num, b.num, max (a.st.high : Int) b.st.high + 1, a.st.bits.length + b.st.bits.length, a.st.bits.count true + b.st.bits.count true, a.st.bits.length, a.st.bits.count true, none⟩ := by
      simp only [TT.nd, ST.high]
      congr 1
      omega
    rw [e]; exact h1

end Go.Proofs.YtacoeohmdngnkaaDoor

namespace Go.Proofs.YtacoeohmdngnkaaDoor
set_option linter.unusedVariables false
set_option linter.unusedSimpArgs false
open Go.RowKit

theorem TT.dis {k : Nat} {a b : TT} (h : (TT.pair k a b).nums.Nodup) : k ∉ a.nums ∧ k ∉ b.nums ∧ a.nums.Nodup ∧ b.nums.Nodup ∧ (∀ j, j ∈ a.nums → j ∉ b.nums) := by
  simp only [TT.nums, List.nodup_cons, List.mem_append, not_or, List.nodup_append] at h
  obtain ⟨⟨h1, h2⟩, h3, h4, h5⟩ := h
  exact ⟨h1, h2, h3, h4, fun j hj hk => h5 j hj j hk rfl⟩
theorem TT.mem_l {k j : Nat} {a b : TT} (h : j ∈ a.nums) : j ∈ (TT.pair k a b).nums := by simp [TT.nums, h]
theorem TT.mem_r {k j : Nat} {a b : TT} (h : j ∈ b.nums) : j ∈ (TT.pair k a b).nums := by simp [TT.nums, h]
theorem TT.mem_k {k : Nat} {a b : TT} : k ∈ (TT.pair k a b).nums := by simp [TT.nums]

end Go.Proofs.YtacoeohmdngnkaaDoor

namespace Go.Proofs.YtacoeohmdngnkaaDoor
set_option linter.unusedVariables false
set_option linter.unusedSimpArgs false
open Go.RowKit

theorem Tryd.infoNode : (Tryd.prog.info? 120).map (fun i => (i.zero, i.size, i.bytes)) = some (some (.agg #[.int .i64 0, .int .i64 0, .int .i64 0, .int .i64 0, .int .i64 0, .int .i64 0, .int .i64 0, .pointer none]), 8, 64) := by kernel_rfl

/-- 's = append(s, x)' of one element of eight cells, one operation. -/
theorem wp_push8 {P : Program} {w : World} {o : Oper} {a : Act} {K : Act → World → Prop} {Q : Exit → Act → World → Prop} {e' : TypeId} {us : List Value} (s x : Operand) (t : TypeId)
    (ho : o.op = .call { callee := .builtin .append, args := #[s, x], argTypes := #[t, t] })
    (base : Nat) (e : TypeId) {z : Value} {bytes : Nat} (hinfo : (P.info? e).map (fun i => (i.zero, i.size, i.bytes)) = some (some z, 8, bytes)) (ht : P.underlying t = some (.slice e)) (hz1 : z.cells.size = 8)
    (v : Value) (n : Nat) (xs : List Value) (hs : a.eval s = v) (hown : w.ownsRow base e 8 v n xs)
    (hx : a.eval x = .slice (some ⟨w.heap.size, 0, none⟩) 1 1) (hu : us.length = 8) (h1 : ∀ u ∈ us, u.oneCell' = true)
    (h63 : n + 1 ≤ maxLen) (hbytes : (n + 1) * bytes ≤ 140737488355328) (hbase : base ≤ w.heap.size)
    (h : ∀ g cap w', w'.ownsRow base e 8 (.slice (some ⟨g, 0, none⟩) (n + 1) cap) (n + 1) (xs ++ us) → w.grownBy w' v.ownBlock → (v.ownBlock = some g ∨ w.heap.size ≤ g) → g < w'.heap.size →
      K (a.put o.dst (.slice (some ⟨g, 0, none⟩) (n + 1) cap)) w') : Oper.wp P o a (w.alloc (.cells us.toArray e')) K Q := by
  obtain ⟨i, hi, hz, hsz, hby⟩ := info_parts hinfo
  refine wp_append_lies (w.alloc (.cells us.toArray e')) s x t ho base e i z 8 bytes ht hi hz hsz hby hz1 (by omega) v n xs hs (hown.alloc _) ⟨w.heap.size, 0, none⟩ 1 1 us hx (by omega) ?_ h1 (by omega) h63 hbytes ?_ _ rfl ?_
  · intro j u hj
    rw [Addr.add_lit, Nat.zero_add, cell_of_row _ _ j _ _ _ (heap_alloc_new w _), List.getElem?_toArray, hj]
  · simp; omega
  · intro g cap w' h1 h2 h3 h4
    exact h g cap w' h1 ⟨h2.os, h2.tape, h2.output, by have := h2.size; simp at this; omega, fun k hk hne => by
      rw [h2.block k (by simp; omega) hne]; exact Below.heap_alloc w _ k hk⟩ (h3.imp id (fun h => by simp at h; omega)) h4

section
variable {w w' : World} {p : Nat} {C : Nat → Prop} {A : Ar} {xs : List Nd} {root vis : Int}
theorem HStep.of_below {C : Nat → Prop} (h : Below w.heap.size w w') : HStep w w' C C := ⟨Chg.of_below h, fun k hk => Or.inl hk⟩
theorem Head.see1 (h : Head w p C A xs root vis) : ∃ ra rc, w.cell? ⟨p, 1, none⟩ = some (.slice ra xs.length rc) ∧ w.ownsRow 0 120 8 (.slice ra xs.length rc) xs.length (cellsN xs) := by
  obtain ⟨ap, SA, ra, rc, hp, ha, ho, hC⟩ := h.ex
  exact ⟨ra, rc, by rw [cell_of_row w p 1 _ _ _ hp]; rfl, ho⟩
/-- The row of nodes has grown by one. -/
theorem Head.grow (h : Head w p C A xs root vis) {ra : Option Addr} {rc : Nat} (h1 : w.cell? ⟨p, 1, none⟩ = some (.slice ra xs.length rc)) {g cap : Nat} {x : Nd}
    (hown : w'.ownsRow 0 120 8 (.slice (some ⟨g, 0, none⟩) (xs.length + 1) cap) (xs.length + 1) (cellsN xs ++ x.cells)) (hg : w.grownBy w' (Value.slice ra xs.length rc).ownBlock) (hor : (Value.slice ra xs.length rc).ownBlock = some g ∨ w.heap.size ≤ g) :
    ∃ C', Head (w'.setCell ⟨p, 1, none⟩ (.slice (some ⟨g, 0, none⟩) (xs.length + 1) cap)) p C' A (xs ++ [x]) root vis ∧ HStep w (w'.setCell ⟨p, 1, none⟩ (.slice (some ⟨g, 0, none⟩) (xs.length + 1) cap)) C C' := by
  obtain ⟨ap, SA, ra', rc', hp, ha, ho, hC⟩ := h.ex
  have e0 : ra' = ra ∧ rc' = rc := by
    rw [cell_of_row w p 1 _ _ _ hp] at h1
    have h1 : some (Value.slice ra' xs.length rc') = some (.slice ra xs.length rc) := h1
    injection h1 with h1
    injection h1 with e1 _ e3
    exact ⟨e1, e3⟩
  obtain ⟨rfl, rfl⟩ := e0
  have hT : TypeAt w p 117 := ⟨_, hp⟩
  have hob : ∀ k, (Value.slice ra' xs.length rc').ownBlock = some k ↔ ra' = some ⟨k, 0, none⟩ := fun k => ownBlock_addr (own_addr ho)
  have hne : ∀ k T, TypeAt w k T → T ≠ 120 → (Value.slice ra' xs.length rc').ownBlock ≠ some k := by
    intro k T hk hT e
    rw [(hob k).1 e] at ho
    exact (own_type ho).ne hk (fun e => hT e.symm) rfl
  have hc1 : Chg (fun k => ra' = some ⟨k, 0, none⟩) w w' := Chg.refl.grown hg (fun k hk => Or.inl ((hob k).1 hk))
  have hp' := hc1.heap hp (fun e => hne p _ hT (by decide) ((hob p).2 e))
  have ha' : IsArena w' ap SA A := ha.chg hc1 (fun k hk e => by
    rcases ha.types hk with t | t | t <;> exact hne k _ t (by decide) ((hob k).2 e))
  have hgp : g ≠ p := by
    rcases hor with e | e
    · rintro rfl; exact hne _ _ hT (by decide) e
    · have := hT.lt; omega
  have hgT : TypeAt w' g 120 := own_type hown
  have hc2 : Chg (fun k => k = p) w' (w'.setCell ⟨p, 1, none⟩ (.slice (some ⟨g, 0, none⟩) (xs.length + 1) cap)) := Chg.refl.setCell (S := fun k => k = p) ⟨p, 1, none⟩ (Or.inl rfl) _
  refine ⟨fun k => k = p ∨ SA k ∨ (some (⟨g, 0, none⟩ : Addr)) = some ⟨k, 0, none⟩, ⟨ap, SA, some ⟨g, 0, none⟩, cap, ?_, ha'.chg hc2 (fun k hk e => ?_), ?_, fun k => Iff.rfl⟩, ?_, fun k hk => ?_⟩
  · have := heap_setCell_same w' p 1 _ _ (.slice (some ⟨g, 0, none⟩) (xs.length + 1) cap) hp'
    rw [List.length_append]; exact this
  · subst e
    rcases ha.types hk with t | t | t <;> exact t.ne hT (by decide) rfl
  · rw [List.length_append, cellsN_app, show cellsN [x] = x.cells by simp [cellsN]]
    exact hc2.own hown (fun k hk e => by
      simp [Value.ownBlock] at hk
      omega)
  · refine (hc1.mono (fun k e => (hC k).2 (Or.inr (Or.inr e)))).trans hc2 (fun k e => Or.inl (by subst e; exact (hC _).2 (Or.inl rfl)))
  · rcases hk with rfl | hk | hk
    · exact Or.inl ((hC _).2 (Or.inl rfl))
    · exact Or.inl ((hC _).2 (Or.inr (Or.inl hk)))
    · injection hk with hk
      injection hk with hk _ _
      subst hk
      rcases hor with e | e
      · exact Or.inl ((hC _).2 (Or.inr (Or.inr ((hob _).1 e))))
      · exact Or.inr e
end

theorem Nd.one (x : Nd) : ∀ u ∈ x.cells, u.oneCell' = true := by
  intro u hu
  simp only [Nd.cells, List.mem_cons, List.not_mem_nil, or_false] at hu
  rcases hu with rfl | rfl | rfl | rfl | rfl | rfl | rfl | rfl <;> first | rfl | (unfold ptrN; rfl)

/-- A whole node is written. -/
theorem Head.puts8 {w : World} {p : Nat} {C : Nat → Prop} {A : Ar} {xs : List Nd} {root vis : Int} (h : Head w p C A xs root vis) {g n rc : Nat} (hg : w.cell? ⟨p, 1, none⟩ = some (.slice (some ⟨g, 0, none⟩) n rc)) {k : Nat} {xk : Nd} (hx : xs[k]? = some xk) (x : Nd) {pb : Option Addr} (hpb : ptrN x.b = .pointer pb) :
    Head ((((((((w.setCell ⟨g, k * 8, none⟩ (.int .i64 x.left)).setCell ⟨g, k * 8 + 1, none⟩ (.int .i64 x.right)).setCell ⟨g, k * 8 + 2, none⟩ (.int .i64 x.height)).setCell ⟨g, k * 8 + 3, none⟩ (.int .i64 x.n)).setCell ⟨g, k * 8 + 4, none⟩ (.int .i64 x.ones)).setCell ⟨g, k * 8 + 5, none⟩ (.int .i64 x.ln)).setCell ⟨g, k * 8 + 6, none⟩ (.int .i64 x.lones)).setCell ⟨g, k * 8 + 7, none⟩ (.pointer pb)) p C A (xs.set k x) root vis ∧ Chg (fun b => b = g) w ((((((((w.setCell ⟨g, k * 8, none⟩ (.int .i64 x.left)).setCell ⟨g, k * 8 + 1, none⟩ (.int .i64 x.right)).setCell ⟨g, k * 8 + 2, none⟩ (.int .i64 x.height)).setCell ⟨g, k * 8 + 3, none⟩ (.int .i64 x.n)).setCell ⟨g, k * 8 + 4, none⟩ (.int .i64 x.ones)).setCell ⟨g, k * 8 + 5, none⟩ (.int .i64 x.ln)).setCell ⟨g, k * 8 + 6, none⟩ (.int .i64 x.lones)).setCell ⟨g, k * 8 + 7, none⟩ (.pointer pb)) := by
  rw [← hpb]
  obtain ⟨_, _, hk, _⟩ := h.node hg hx
  have key : ∀ y : Nd, (xs.set k y)[k]? = some y := fun y => by rw [List.getElem?_set, if_pos rfl, if_pos hk]
  obtain ⟨h1, c1, g1⟩ := h.put hg hx (i := 0) (v := .int .i64 x.left) (x' := ⟨x.left, xk.right, xk.height, xk.n, xk.ones, xk.ln, xk.lones, xk.b⟩) (by omega) rfl
  obtain ⟨h2, c2, g2⟩ := h1.put g1 (key _) (i := 1) (v := .int .i64 x.right) (x' := ⟨x.left, x.right, xk.height, xk.n, xk.ones, xk.ln, xk.lones, xk.b⟩) (by omega) rfl
  rw [List.set_set] at h2
  obtain ⟨h3, c3, g3⟩ := h2.put g2 (key _) (i := 2) (v := .int .i64 x.height) (x' := ⟨x.left, x.right, x.height, xk.n, xk.ones, xk.ln, xk.lones, xk.b⟩) (by omega) rfl
  rw [List.set_set] at h3
  obtain ⟨h4, c4, g4⟩ := h3.put g3 (key _) (i := 3) (v := .int .i64 x.n) (x' := ⟨x.left, x.right, x.height, x.n, xk.ones, xk.ln, xk.lones, xk.b⟩) (by omega) rfl
  rw [List.set_set] at h4
  obtain ⟨h5, c5, g5⟩ := h4.put g4 (key _) (i := 4) (v := .int .i64 x.ones) (x' := ⟨x.left, x.right, x.height, x.n, x.ones, xk.ln, xk.lones, xk.b⟩) (by omega) rfl
  rw [List.set_set] at h5
  obtain ⟨h6, c6, g6⟩ := h5.put g5 (key _) (i := 5) (v := .int .i64 x.ln) (x' := ⟨x.left, x.right, x.height, x.n, x.ones, x.ln, xk.lones, xk.b⟩) (by omega) rfl
  rw [List.set_set] at h6
  obtain ⟨h7, c7, g7⟩ := h6.put g6 (key _) (i := 6) (v := .int .i64 x.lones) (x' := ⟨x.left, x.right, x.height, x.n, x.ones, x.ln, x.lones, xk.b⟩) (by omega) rfl
  rw [List.set_set] at h7
  obtain ⟨h8, c8, g8⟩ := h7.put g7 (key _) (i := 7) (v := ptrN x.b) (x' := x) (by omega) rfl
  rw [List.set_set] at h8
  exact ⟨h8, ((((((c1.trans c2 (fun _ h => Or.inl h)).trans c3 (fun _ h => Or.inl h)).trans c4 (fun _ h => Or.inl h)).trans c5 (fun _ h => Or.inl h)).trans c6 (fun _ h => Or.inl h)).trans c7 (fun _ h => Or.inl h)).trans c8 (fun _ h => Or.inl h)⟩

/-- What a new node leaves. -/
structure NodePost (w w' : World) (p : Nat) (C : Nat → Prop) (A : Ar) (xs : List Nd) (root vis : Int) (y : Nd) (e : Ending) : Prop where
  ex : ∃ (k : Nat) (C' : Nat → Prop) (A' : Ar) (xs' : List Nd), e = .returned (.int .i64 k) ∧ Head w' p C' A' xs' root vis ∧ HStep w w' C C' ∧ xs'.length = A'.T.length ∧ xs'[k]? = some y ∧ A.T[k]? ≠ some true ∧
    (∀ j : Nat, A.T[j]? = some true → xs'[j]? = xs[j]? ∧ A'.T[j]? = some true) ∧ A'.T[k]? = some true ∧ A'.live = A.live + 1 ∧ A'.M = A.M ∧ (A.F = [] → A'.F = [])

def boxN (x : Nd) : Obj := .cells x.cells.toArray 120

set_option maxHeartbeats 3200000 in
set_option maxRecDepth 100000 in
theorem tNode_pop {w : World} {p : Nat} {C : Nat → Prop} {A : Ar} {xs : List Nd} {root vis : Int} (h : Head w p C A xs root vis) (hlen : xs.length = A.T.length) (hlive : A.live < A.M) (x y : Nd) {k : Nat} (hk : A.F.getLast? = some k)
    (hfix : ∀ (w1 : World) (C1 : Nat → Prop) (xs1 : List Nd), Head w1 p C1 (A.pop k) xs1 root vis → HStep w w1 C C1 → xs1[k]? = some x → (∀ j : Nat, A.T[j]? = some true → xs1[j]? = xs[j]?) →
      Calls Tryd.prog 116 #[.pointer (some ⟨p, 0, none⟩), .int .i64 k] w1 fun e w' => e = .returned (.tuple #[]) ∧ Head w' p C1 (A.pop k) (xs1.set k y) root vis ∧ Chg (RowB w1 p) w1 w') :
    Calls Tryd.prog 109 #[.pointer (some ⟨p, 0, none⟩), .agg x.cells.toArray] w fun e w' => NodePost w w' p C A xs root vis y e := by
  have h0 := h.below (below_alloc w (boxN x))
  obtain ⟨ap, SA, p0, hA, hsub, hstep⟩ := h0.arena
  have hok := hA.ok
  have hkT := hok.last_lt hk
  have hkF : A.T[k]? = some false := (hok.iff k).2 (List.mem_of_getLast? hk)
  have hTk := Lib.hid (arTake_pop hA (by omega) hk)
  have HST := Lib.hid hstep
  have hbox : (w.alloc (boxN x)).heap[w.heap.size]? = some (boxN x) := heap_alloc_new w _
  have hnb : ¬ SA w.heap.size := fun hs => by have := h.lt _ (hsub _ hs); omega
  have HBX : Hid (∀ w1 A', ArStep (w.alloc (boxN x)) w1 ap SA A' → w1.heap[w.heap.size]? = some (boxN x)) := fun w1 A' ⟨_, _, hc, _⟩ => hc.heap hbox hnb
  have HS0 : Hid (HStep w (w.alloc (boxN x)) C C) := HStep.of_below (below_alloc w _)
  have HF := Lib.hid hfix
  have HL := Lib.hid hlen
  have HKF := Lib.hid hkF
  have HOK := Lib.hid hok
  have hxk : k < xs.length := by omega
  have HLV := Lib.hid hlive
  have HK := Lib.hid hk
  have HLT : Hid (∀ j, C j → j < w.heap.size) := h.lt
  clear h h0 hA hsub hstep hbox hnb hfix hlen hkT hkF hok hlive hk
  unfold boxN at *
  go_enter Tryd.func109, Tryd.ntmps109
  go_wp2_with fail
  refine hTk.out.mono ?_
  rintro e w1 ⟨rfl, hst⟩
  obtain ⟨C1, h1, s1⟩ := HST.out _ _ hst
  have bx := HBX.out _ _ hst
  clear hst hTk HST HBX p0
  obtain ⟨g, rc, cur, r1, hgp, hCg, _⟩ := h1.row (by omega)
  obtain ⟨xk, hxk2⟩ : ∃ xk, xs[k]? = some xk := ⟨_, List.getElem?_eq_getElem hxk⟩
  obtain ⟨e0, e1, e2, e3, e4, e5, e6, e7⟩ := h1.eight r1 hxk2
  obtain ⟨_, fz, _⟩ := h1.node r1 hxk2
  have hs01 := HS0.out.trans s1
  have hgB : g ≠ w.heap.size := by
    rcases s1.new g hCg with e | e
    · have := HLT.out g e; omega
    · simp at e; omega
  obtain ⟨pb, hpb⟩ : ∃ pb, ptrN x.b = .pointer pb := ⟨_, rfl⟩
  obtain ⟨pk, hpk⟩ : ∃ pb, ptrN xk.b = .pointer pb := ⟨_, rfl⟩
  have b0 : w1.cell? ⟨w.heap.size, 0, none⟩ = some (.int .i64 x.left) := by rw [cell_of_row w1 _ 0 _ _ _ bx]; rfl
  have b1 : w1.cell? ⟨w.heap.size, 1, none⟩ = some (.int .i64 x.right) := by rw [cell_of_row w1 _ 1 _ _ _ bx]; rfl
  have b2 : w1.cell? ⟨w.heap.size, 2, none⟩ = some (.int .i64 x.height) := by rw [cell_of_row w1 _ 2 _ _ _ bx]; rfl
  have b3 : w1.cell? ⟨w.heap.size, 3, none⟩ = some (.int .i64 x.n) := by rw [cell_of_row w1 _ 3 _ _ _ bx]; rfl
  have b4 : w1.cell? ⟨w.heap.size, 4, none⟩ = some (.int .i64 x.ones) := by rw [cell_of_row w1 _ 4 _ _ _ bx]; rfl
  have b5 : w1.cell? ⟨w.heap.size, 5, none⟩ = some (.int .i64 x.ln) := by rw [cell_of_row w1 _ 5 _ _ _ bx]; rfl
  have b6 : w1.cell? ⟨w.heap.size, 6, none⟩ = some (.int .i64 x.lones) := by rw [cell_of_row w1 _ 6 _ _ _ bx]; rfl
  have b7 : w1.cell? ⟨w.heap.size, 7, none⟩ = some (.pointer pb) := by rw [cell_of_row w1 _ 7 _ _ _ bx, ← hpb]; rfl
  rw [hpk] at e7
  have z0 := fz (k * 8)
  have z1 := fz (k * 8 + 1)
  have z2 := fz (k * 8 + 2)
  have z3 := fz (k * 8 + 3)
  have z4 := fz (k * 8 + 4)
  have z5 := fz (k * 8 + 5)
  have z6 := fz (k * 8 + 6)
  have z7 := fz (k * 8 + 7)
  have H1 := Lib.hid h1
  have S01 := Lib.hid hs01
  have HX2 := Lib.hid hxk2
  have HPB := Lib.hid hpb
  have dk : ((k : Int) == (xs.length : Int)) = false := by rw [beq_eq_false_iff_ne]; omega
  clear h1 s1 bx hxk2 fz hs01 hpb hpk HS0 HLT hCg
  generalize w.heap.size = B0 at *
  obtain ⟨W2, hW2⟩ : ∃ W2, W2 = ((((((((w1.setCell ⟨g, k * 8, none⟩ (.int .i64 x.left)).setCell ⟨g, k * 8 + 1, none⟩ (.int .i64 x.right)).setCell ⟨g, k * 8 + 2, none⟩ (.int .i64 x.height)).setCell ⟨g, k * 8 + 3, none⟩ (.int .i64 x.n)).setCell ⟨g, k * 8 + 4, none⟩ (.int .i64 x.ones)).setCell ⟨g, k * 8 + 5, none⟩ (.int .i64 x.ln)).setCell ⟨g, k * 8 + 6, none⟩ (.int .i64 x.lones)).setCell ⟨g, k * 8 + 7, none⟩ (.pointer pb)).drew := ⟨_, rfl⟩
  have hp8 := H1.out.puts8 r1 HX2.out x HPB.out
  have h2 : Head W2 p C1 (A.pop k) (xs.set k x) root vis := by rw [hW2]; exact hp8.1.drew
  have c2 : Chg C1 w1 W2 := by rw [hW2]; exact (hp8.2.mono (fun b e => by subst e; exact H1.out.rowC ⟨_, _, r1⟩)).drew
  have hs2 := S01.out.trans ⟨c2, fun j hj => Or.inl hj⟩
  have hTk : ∀ j : Nat, A.T[j]? = some true → j ≠ k := by
    rintro j hj rfl
    have := HKF.out
    rw [hj] at this
    cases this
  have HFF := Lib.hid (HF.out W2 C1 (xs.set k x) h2 hs2 (set_get HX2.out) (fun j hj => set_ne (hTk j hj)))
  have HW2 := Lib.hid hW2
  have H2 := Lib.hid h2
  have HS2 := Lib.hid hs2
  have HTK := Lib.hid hTk
  clear hW2 hp8 h2 c2 hs2 hTk HF
  go_wp2_with fail
  -- REGION store
  refine reg_start (fun w' => w'.cell? ⟨p, 1, none⟩ = some (.slice (some ⟨g, 0, none⟩) xs.length rc) ∧ w'.cell? ⟨B0, 0, none⟩ = some (.int .i64 x.left) ∧ w'.cell? ⟨B0, 1, none⟩ = some (.int .i64 x.right) ∧ w'.cell? ⟨B0, 2, none⟩ = some (.int .i64 x.height) ∧ w'.cell? ⟨B0, 3, none⟩ = some (.int .i64 x.n) ∧ w'.cell? ⟨B0, 4, none⟩ = some (.int .i64 x.ones) ∧ w'.cell? ⟨B0, 5, none⟩ = some (.int .i64 x.ln) ∧ w'.cell? ⟨B0, 6, none⟩ = some (.int .i64 x.lones) ∧ w'.cell? ⟨B0, 7, none⟩ = some (.pointer pb)) (by kernel_rfl) ?hiq (fun hHeld => ?_)
  case hiq => (refine ⟨?_, ?_, ?_, ?_, ?_, ?_, ?_, ?_, ?_⟩ <;> go_simp)
  refine rt 0 hHeld ?_
  refine rt 1 hHeld ?_
  refine rt 2 hHeld ?_
  refine rt 3 hHeld ?_
  refine rt 4 hHeld ?_
  refine rt 5 hHeld ?_
  refine rt 6 hHeld ?_
  refine reg_loud (i := 7) rfl (by kernel_rfl) rfl (fun K hK => ?_)
  go_simp
  refine hK.out _ _ ?kpq7 (fun hNew => ?_)
  case kpq7 => (refine ⟨?_, ?_, ?_, ?_, ?_, ?_, ?_, ?_, ?_⟩ <;> go_simp)
  clear hK K hHeld
  have hHeld := hNew
  clear hNew
  try simp only [Act.put, List.setIfInBounds_toArray, List.set_cons_zero, List.set_cons_succ]
  refine reg_done (by kernel_rfl) ?_ _
  -- END OF REGION store
  go_wp2_with fail
  rw [← HW2.out]
  refine HFF.out.mono ?_
  rintro e w3 ⟨rfl, h3, c3⟩
  have H3 := Lib.hid h3
  have C3 := Lib.hid c3
  clear h3 c3 hHeld
  go_wp2_with fail
  go_ret
  refine ⟨⟨k, C1, A.pop k, _, rfl, H3.out, HS2.out.trans ⟨H2.out.chgRow C3.out, fun j hj => Or.inl hj⟩, ?_, set_get (set_get HX2.out), ?_, fun j hj => ⟨?_, ?_⟩, ?_, ?_, rfl, fun hF => by first | exact hF | (show A.F.dropLast = []; rw [hF]; rfl)⟩⟩
  · rw [List.length_set, List.length_set, HL.out]; simp [Ar.pop]
  · rw [HKF.out]; simp
  · rw [set_ne (HTK.out j hj), set_ne (HTK.out j hj)]
  · show (A.T.set k true)[j]? = some true
    rw [set_ne (HTK.out j hj)]; exact hj
  · exact set_get HKF.out
  · have e1 := HOK.out.fle
    have e2 : 0 < A.F.length := List.length_pos_iff.2 (by intro e; have := HK.out; rw [e] at this; cases this)
    show (A.T.set k true).length - A.F.dropLast.length = A.T.length - A.F.length + 1
    rw [List.length_set, List.length_dropLast]; omega

set_option maxHeartbeats 3200000 in
set_option maxRecDepth 100000 in
theorem tNode_more {w : World} {p : Nat} {C : Nat → Prop} {A : Ar} {xs : List Nd} {root vis : Int} (h : Head w p C A xs root vis) (hlen : xs.length = A.T.length) (hlive : A.live < A.M) (x y : Nd) (hk : A.F = []) (hlm : A.T.length ≤ 268435456)
    (hfix : ∀ (w1 : World) (C1 : Nat → Prop) (xs1 : List Nd), Head w1 p C1 (A.more) xs1 root vis → HStep w w1 C C1 → xs1[xs.length]? = some x → (∀ j : Nat, A.T[j]? = some true → xs1[j]? = xs[j]?) →
      Calls Tryd.prog 116 #[.pointer (some ⟨p, 0, none⟩), .int .i64 xs.length] w1 fun e w' => e = .returned (.tuple #[]) ∧ Head w' p C1 (A.more) (xs1.set xs.length y) root vis ∧ Chg (RowB w1 p) w1 w') :
    Calls Tryd.prog 109 #[.pointer (some ⟨p, 0, none⟩), .agg x.cells.toArray] w fun e w' => NodePost w w' p C A xs root vis y e := by
  have h0 := h.below (below_alloc w (boxN x))
  obtain ⟨ap, SA, p0, hA, hsub, hstep⟩ := h0.arena
  have hok := hA.ok
  have hTk0 := arTake_more hA (by omega) hk
  rw [← hlen] at hTk0
  have hTk := Lib.hid hTk0
  have HST := Lib.hid hstep
  have hbox : (w.alloc (boxN x)).heap[w.heap.size]? = some (boxN x) := heap_alloc_new w _
  have hnb : ¬ SA w.heap.size := fun hs => by have := h.lt _ (hsub _ hs); omega
  have HBX : Hid (∀ w1 A', ArStep (w.alloc (boxN x)) w1 ap SA A' → w1.heap[w.heap.size]? = some (boxN x)) := fun w1 A' ⟨_, _, hc, _⟩ => hc.heap hbox hnb
  have HS0 : Hid (HStep w (w.alloc (boxN x)) C C) := HStep.of_below (below_alloc w _)
  have HF := Lib.hid hfix
  have HL := Lib.hid hlen
  have HOK := Lib.hid hok
  have HLV := Lib.hid hlive
  have HK := Lib.hid hk
  have HLT : Hid (∀ j, C j → j < w.heap.size) := h.lt
  rw [← hlen] at hlm
  clear h h0 hA hsub hstep hbox hnb hfix hlen hok hlive hk hTk0
  unfold boxN at *
  go_enter Tryd.func109, Tryd.ntmps109
  go_wp2_with fail
  refine hTk.out.mono ?_
  rintro e w1 ⟨rfl, hst⟩
  obtain ⟨C1, h1, s1⟩ := HST.out _ _ hst
  have bx := HBX.out _ _ hst
  clear hst hTk HST HBX p0
  obtain ⟨ra, rc, r1, hown⟩ := h1.see1
  have hs01 := HS0.out.trans s1
  have hB1 : w.heap.size < w1.heap.size := (Array.getElem?_eq_some_iff.1 bx).1
  have hp := h1.lt p h1.self
  have fz := (h1.cells).2.2.2 1
  obtain ⟨pb, hpb⟩ : ∃ pb, ptrN x.b = .pointer pb := ⟨_, rfl⟩
  have b0 : w1.cell? ⟨w.heap.size, 0, none⟩ = some (.int .i64 x.left) := by rw [cell_of_row w1 _ 0 _ _ _ bx]; rfl
  have b1 : w1.cell? ⟨w.heap.size, 1, none⟩ = some (.int .i64 x.right) := by rw [cell_of_row w1 _ 1 _ _ _ bx]; rfl
  have b2 : w1.cell? ⟨w.heap.size, 2, none⟩ = some (.int .i64 x.height) := by rw [cell_of_row w1 _ 2 _ _ _ bx]; rfl
  have b3 : w1.cell? ⟨w.heap.size, 3, none⟩ = some (.int .i64 x.n) := by rw [cell_of_row w1 _ 3 _ _ _ bx]; rfl
  have b4 : w1.cell? ⟨w.heap.size, 4, none⟩ = some (.int .i64 x.ones) := by rw [cell_of_row w1 _ 4 _ _ _ bx]; rfl
  have b5 : w1.cell? ⟨w.heap.size, 5, none⟩ = some (.int .i64 x.ln) := by rw [cell_of_row w1 _ 5 _ _ _ bx]; rfl
  have b6 : w1.cell? ⟨w.heap.size, 6, none⟩ = some (.int .i64 x.lones) := by rw [cell_of_row w1 _ 6 _ _ _ bx]; rfl
  have b7 : w1.cell? ⟨w.heap.size, 7, none⟩ = some (.pointer pb) := by rw [cell_of_row w1 _ 7 _ _ _ bx, ← hpb]; rfl
  have H1 := Lib.hid h1
  have S01 := Lib.hid hs01
  have HPB := Lib.hid hpb
  have HO : Hid (w1.drew.ownsRow 0 120 8 (.slice ra xs.length rc) xs.length (cellsN xs)) := hown
  have HONE : Hid (∀ u ∈ [Value.int .i64 x.left, .int .i64 x.right, .int .i64 x.height, .int .i64 x.n, .int .i64 x.ones, .int .i64 x.ln, .int .i64 x.lones, .pointer pb], u.oneCell' = true) := by
    have h := x.one
    simp only [Nd.cells, hpb] at h
    exact h
  have HNP : Hid (some p ≠ (Value.slice ra xs.length rc).ownBlock ∧ some w.heap.size ≠ (Value.slice ra xs.length rc).ownBlock) := by
    refine ⟨fun e => ?_, fun e => ?_⟩
    · exact h1.rowNe ⟨_, _, by rw [r1, (ownBlock_addr (own_addr hown)).1 e.symm]⟩
    · have := h1.rowC ⟨_, _, by rw [r1, (ownBlock_addr (own_addr hown)).1 e.symm]⟩
      rcases s1.new _ this with e | e
      · have := HLT.out _ e; omega
      · simp at e; omega
  have hpB : ¬ p = w.heap.size := by
    rcases s1.new p h1.self with e | e
    · have := HLT.out p e; omega
    · simp at e; omega
  clear h1 s1 bx hs01 hpb HS0 HLT hown
  generalize w.heap.size = B0 at *
  go_upto_region 3 with fail
  go_cut [5] (fun v wx => v = .int .i64 xs.length ∧ ∃ C2, Head wx p C2 A.more (xs ++ [x]) root vis ∧ HStep w1 wx C1 C2)
  case first =>
    -- REGION app
    refine reg_start (fun w' => w'.cell? ⟨B0, 0, none⟩ = some (.int .i64 x.left) ∧ w'.cell? ⟨B0, 1, none⟩ = some (.int .i64 x.right) ∧ w'.cell? ⟨B0, 2, none⟩ = some (.int .i64 x.height) ∧ w'.cell? ⟨B0, 3, none⟩ = some (.int .i64 x.n) ∧ w'.cell? ⟨B0, 4, none⟩ = some (.int .i64 x.ones) ∧ w'.cell? ⟨B0, 5, none⟩ = some (.int .i64 x.ln) ∧ w'.cell? ⟨B0, 6, none⟩ = some (.int .i64 x.lones) ∧ w'.cell? ⟨B0, 7, none⟩ = some (.pointer pb)) (by kernel_rfl) ?hia (fun hHeld => ?_)
    case hia => (refine ⟨?_, ?_, ?_, ?_, ?_, ?_, ?_, ?_⟩ <;> go_simp)
    refine rt 0 hHeld ?_
    refine rt 1 hHeld ?_
    refine rt 2 hHeld ?_
    refine rt 3 hHeld ?_
    refine rt 5 hHeld ?_
    refine wpAnyH_ready (rs := [4, 6]) (by kernel_rfl) (by simp) (all_cons rfl rfl (fun K hK => ?_) (all_cons rfl rfl (fun K hK => ?_) AllReadyH.nil))
    · go_simp
      refine hK.out _ _ ?k1p (fun hNew => ?_)
      case k1p => (refine ⟨?_, ?_, ?_, ?_, ?_, ?_, ?_, ?_⟩ <;> go_simp)
      clear hK K hHeld
      have hHeld := hNew
      clear hNew
      try simp only [Act.put, List.setIfInBounds_toArray, List.set_cons_zero, List.set_cons_succ]
      refine reg_loud (i := 6) rfl (by kernel_rfl) rfl (fun K hK => ?_)
      go_simp
      refine hK.out _ _ ?k2p (fun hNew => ?_)
      case k2p => (refine ⟨?_, ?_, ?_, ?_, ?_, ?_, ?_, ?_⟩ <;> go_simp)
      clear hK K hHeld
      have hHeld := hNew
      clear hNew
      try simp only [Act.put, List.setIfInBounds_toArray, List.set_cons_zero, List.set_cons_succ]
      refine reg_loud (i := 7) rfl (by kernel_rfl) rfl (fun K hK => ?_)
      refine wp_push8 (w := w1.drew) _ _ 115 rfl 0 120 Tryd.infoNode Tryd.underlying115 rfl _ _ _ rfl HO.out rfl rfl HONE.out (by unfold maxLen; omega) (by omega) (Nat.zero_le _) ?_
      intro g cap w2 hown2 hgrow hor hgl
      have u1 : w2.cell? ⟨p, 1, none⟩ = some (.slice ra xs.length rc) := hgrow.cell (w := w1.drew) r1 HNP.out.1
      have u2 : w2.frozen? ⟨p, 1, none⟩ = false := (World.frozen?_of_block (hgrow.block p hp HNP.out.1)).trans fz
      have v0 := hgrow.cell (w := w1.drew) b0 HNP.out.2
      have v1 := hgrow.cell (w := w1.drew) b1 HNP.out.2
      have v2 := hgrow.cell (w := w1.drew) b2 HNP.out.2
      have v3 := hgrow.cell (w := w1.drew) b3 HNP.out.2
      have v4 := hgrow.cell (w := w1.drew) b4 HNP.out.2
      have v5 := hgrow.cell (w := w1.drew) b5 HNP.out.2
      have v6 := hgrow.cell (w := w1.drew) b6 HNP.out.2
      have v7 := hgrow.cell (w := w1.drew) b7 HNP.out.2
      have hgr : ∃ C2, Head (w2.setCell ⟨p, 1, none⟩ (.slice (some ⟨g, 0, none⟩) (xs.length + 1) cap)) p C2 A.more (xs ++ [x]) root vis ∧ HStep w1 (w2.setCell ⟨p, 1, none⟩ (.slice (some ⟨g, 0, none⟩) (xs.length + 1) cap)) C1 C2 := by
        obtain ⟨C2, q1, q2⟩ := H1.out.drew.grow (x := x) (w' := w2) (g := g) (cap := cap) r1 (by rw [show x.cells = [Value.int .i64 x.left, .int .i64 x.right, .int .i64 x.height, .int .i64 x.n, .int .i64 x.ones, .int .i64 x.ln, .int .i64 x.lones, .pointer pb] by simp only [Nd.cells, HPB.out]]; exact hown2) hgrow hor
        exact ⟨C2, q1, ⟨(Chg.refl.drew).trans q2.chg (fun b hb => Or.inl hb), q2.new⟩⟩
      have HGR := Lib.hid hgr
      clear hgr hown2 hgrow hor hgl
      refine hK.out _ _ ?k3p (fun hNew => ?_)
      case k3p => exact ⟨v0, v1, v2, v3, v4, v5, v6, v7⟩
      clear hK K hHeld
      have hHeld := hNew
      clear hNew
      try simp only [Act.put, List.setIfInBounds_toArray, List.set_cons_zero, List.set_cons_succ]
      refine rt 8 hHeld ?_
      refine rt 9 hHeld ?_
      refine reg_loud (i := 10) rfl (by kernel_rfl) rfl (fun K hK => ?_)
      go_simp
      refine hK.out _ _ ?k4p (fun hNew => ?_)
      case k4p => (refine ⟨?_, ?_, ?_, ?_, ?_, ?_, ?_, ?_⟩ <;> go_simp)
      clear hK K hHeld
      have hHeld := hNew
      clear hNew
      try simp only [Act.put, List.setIfInBounds_toArray, List.set_cons_zero, List.set_cons_succ]
      refine reg_done (by kernel_rfl) ?_ _
      go_wp2_with fail
      go_meet
      case rel => exact ⟨rfl, HGR.out⟩
    · go_simp
      refine hK.out _ _ ?k1q (fun hNew => ?_)
      case k1q => (refine ⟨?_, ?_, ?_, ?_, ?_, ?_, ?_, ?_⟩ <;> go_simp)
      clear hK K hHeld
      have hHeld := hNew
      clear hNew
      try simp only [Act.put, List.setIfInBounds_toArray, List.set_cons_zero, List.set_cons_succ]
      refine reg_loud (i := 4) rfl (by kernel_rfl) rfl (fun K hK => ?_)
      go_simp
      refine hK.out _ _ ?k2q (fun hNew => ?_)
      case k2q => (refine ⟨?_, ?_, ?_, ?_, ?_, ?_, ?_, ?_⟩ <;> go_simp)
      clear hK K hHeld
      have hHeld := hNew
      clear hNew
      try simp only [Act.put, List.setIfInBounds_toArray, List.set_cons_zero, List.set_cons_succ]
      refine reg_loud (i := 7) rfl (by kernel_rfl) rfl (fun K hK => ?_)
      refine wp_push8 (w := w1.drew) _ _ 115 rfl 0 120 Tryd.infoNode Tryd.underlying115 rfl _ _ _ rfl HO.out rfl rfl HONE.out (by unfold maxLen; omega) (by omega) (Nat.zero_le _) ?_
      intro g cap w2 hown2 hgrow hor hgl
      have u1 : w2.cell? ⟨p, 1, none⟩ = some (.slice ra xs.length rc) := hgrow.cell (w := w1.drew) r1 HNP.out.1
      have u2 : w2.frozen? ⟨p, 1, none⟩ = false := (World.frozen?_of_block (hgrow.block p hp HNP.out.1)).trans fz
      have v0 := hgrow.cell (w := w1.drew) b0 HNP.out.2
      have v1 := hgrow.cell (w := w1.drew) b1 HNP.out.2
      have v2 := hgrow.cell (w := w1.drew) b2 HNP.out.2
      have v3 := hgrow.cell (w := w1.drew) b3 HNP.out.2
      have v4 := hgrow.cell (w := w1.drew) b4 HNP.out.2
      have v5 := hgrow.cell (w := w1.drew) b5 HNP.out.2
      have v6 := hgrow.cell (w := w1.drew) b6 HNP.out.2
      have v7 := hgrow.cell (w := w1.drew) b7 HNP.out.2
      have hgr : ∃ C2, Head (w2.setCell ⟨p, 1, none⟩ (.slice (some ⟨g, 0, none⟩) (xs.length + 1) cap)) p C2 A.more (xs ++ [x]) root vis ∧ HStep w1 (w2.setCell ⟨p, 1, none⟩ (.slice (some ⟨g, 0, none⟩) (xs.length + 1) cap)) C1 C2 := by
        obtain ⟨C2, q1, q2⟩ := H1.out.drew.grow (x := x) (w' := w2) (g := g) (cap := cap) r1 (by rw [show x.cells = [Value.int .i64 x.left, .int .i64 x.right, .int .i64 x.height, .int .i64 x.n, .int .i64 x.ones, .int .i64 x.ln, .int .i64 x.lones, .pointer pb] by simp only [Nd.cells, HPB.out]]; exact hown2) hgrow hor
        exact ⟨C2, q1, ⟨(Chg.refl.drew).trans q2.chg (fun b hb => Or.inl hb), q2.new⟩⟩
      have HGR := Lib.hid hgr
      clear hgr hown2 hgrow hor hgl
      refine hK.out _ _ ?k3q (fun hNew => ?_)
      case k3q => exact ⟨v0, v1, v2, v3, v4, v5, v6, v7⟩
      clear hK K hHeld
      have hHeld := hNew
      clear hNew
      try simp only [Act.put, List.setIfInBounds_toArray, List.set_cons_zero, List.set_cons_succ]
      refine rt 8 hHeld ?_
      refine rt 9 hHeld ?_
      refine reg_loud (i := 10) rfl (by kernel_rfl) rfl (fun K hK => ?_)
      go_simp
      refine hK.out _ _ ?k4q (fun hNew => ?_)
      case k4q => (refine ⟨?_, ?_, ?_, ?_, ?_, ?_, ?_, ?_⟩ <;> go_simp)
      clear hK K hHeld
      have hHeld := hNew
      clear hNew
      try simp only [Act.put, List.setIfInBounds_toArray, List.set_cons_zero, List.set_cons_succ]
      refine reg_done (by kernel_rfl) ?_ _
      go_wp2_with fail
      go_meet
      case rel => exact ⟨rfl, HGR.out⟩
    -- END OF REGION app
  case rest =>
    obtain ⟨rfl, C2, h2, s2⟩ := hcut
    have hs2 := S01.out.trans s2
    have hlt : ∀ j : Nat, A.T[j]? = some true → j < xs.length := fun j hj => by rw [HL.out]; exact (List.getElem?_eq_some_iff.1 hj).1
    have HLT := Lib.hid hlt
    have HFF := Lib.hid (HF.out wc C2 (xs ++ [x]) h2 hs2 (by simp) (fun j hj => List.getElem?_append_left (hlt j hj)))
    have H2 := Lib.hid h2
    have HS2 := Lib.hid hs2
    clear h2 s2 hs2 HF hlt b0 b1 b2 b3 b4 b5 b6 b7 hB1 hpB r1 hp fz
    go_wp2_with fail
    refine HFF.out.mono ?_
    rintro e w3 ⟨rfl, h3, c3⟩
    have H3 := Lib.hid h3
    have C3 := Lib.hid c3
    clear h3 c3
    go_wp2_with fail
    go_ret
    refine ⟨⟨xs.length, C2, A.more, _, rfl, H3.out, HS2.out.trans ⟨H2.out.chgRow C3.out, fun j hj => Or.inl hj⟩, ?_, set_get (x := x) (by simp), ?_, fun j hj => ⟨?_, ?_⟩, ?_, ?_, rfl, fun hF => by first | exact hF | (show A.F.dropLast = []; rw [hF]; rfl)⟩⟩
    · rw [List.length_set, List.length_append, HL.out]; simp [Ar.more]
    · rw [List.getElem?_eq_none (by rw [HL.out]; exact Nat.le_refl _)]; simp
    · rw [set_ne (by have := HLT.out j hj; omega), List.getElem?_append_left (HLT.out j hj)]
    · show (A.T ++ [true])[j]? = some true
      rw [List.getElem?_append_left (List.getElem?_eq_some_iff.1 hj).1]; exact hj
    · show (A.T ++ [true])[xs.length]? = some true
      rw [HL.out]; simp
    · have e2 := HK.out
      show (A.T ++ [true]).length - A.F.length = A.T.length - A.F.length + 1
      rw [e2]; simp

end Go.Proofs.YtacoeohmdngnkaaDoor

namespace Go.Proofs.YtacoeohmdngnkaaDoor
set_option linter.unusedVariables false
set_option linter.unusedSimpArgs false
open Go.RowKit

theorem Ar.Ok.live_len {a : Ar} (h : a.Ok) : a.T.length ≤ 268435456 := Nat.le_trans h.le h.max
theorem Head.arOk {w : World} {p : Nat} {C : Nat → Prop} {A : Ar} {xs : List Nd} {root vis : Int} (h : Head w p C A xs root vis) : A.Ok := by
  obtain ⟨ap, SA, _, hA, _, _⟩ := h.arena
  exact hA.ok

/-- A new node. -/
theorem tNode_any {w : World} {p : Nat} {C : Nat → Prop} {A : Ar} {xs : List Nd} {root vis : Int} (h : Head w p C A xs root vis) (hlen : xs.length = A.T.length) (hlive : A.live < A.M) (x y : Nd)
    (hfix : ∀ (w1 : World) (C1 : Nat → Prop) (A1 : Ar) (xs1 : List Nd) (k : Nat), Head w1 p C1 A1 xs1 root vis → HStep w w1 C C1 → xs1[k]? = some x → (∀ j : Nat, A.T[j]? = some true → xs1[j]? = xs[j]?) →
      Calls Tryd.prog 116 #[.pointer (some ⟨p, 0, none⟩), .int .i64 k] w1 fun e w' => e = .returned (.tuple #[]) ∧ Head w' p C1 A1 (xs1.set k y) root vis ∧ Chg (RowB w1 p) w1 w') :
    Calls Tryd.prog 109 #[.pointer (some ⟨p, 0, none⟩), .agg x.cells.toArray] w fun e w' => NodePost w w' p C A xs root vis y e := by
  cases hF : A.F.getLast? with
  | some k => exact tNode_pop h hlen hlive x y hF (fun w1 C1 xs1 a b c d => hfix w1 C1 _ xs1 k a b c d)
  | none => exact tNode_more h hlen hlive x y (List.getLast?_eq_none_iff.1 hF) h.arOk.live_len (fun w1 C1 xs1 a b c d => hfix w1 C1 _ xs1 xs.length a b c d)

/-- A new leaf. -/
theorem tLeaf_any {w : World} {p : Nat} {C : Nat → Prop} {A : Ar} {xs : List Nd} {root vis : Int} (h : Head w p C A xs root vis) (hlen : xs.length = A.T.length) (hlive : A.live < A.M) {q : Nat} {l : List Bool} (hq : IsBlock w q l) :
    Calls Tryd.prog 97 #[.pointer (some ⟨p, 0, none⟩), .pointer (some ⟨q, 0, none⟩)] w fun e w' => NodePost w w' p C A xs root vis (TT.leaf 0 q l).nd e := by
  have HN := Lib.hid (tNode_any h hlen hlive ⟨-1, -1, 0, 0, 0, 0, 0, some q⟩ (TT.leaf 0 q l).nd (fun w1 C1 A1 xs1 k h1 s1 hk _ => by
    have hq1 : IsBlock w1 q l := hq.chg s1.chg (h.notBlk hq.type)
    exact tFix_leaf h1 hk rfl hq1))
  clear h hlen hlive hq
  go_enter Tryd.func97, Tryd.ntmps97
  go_wp2_with fail
  refine HN.out.mono ?_
  rintro e w' hP
  obtain ⟨k, C', A', xs', rfl, rest⟩ := hP.ex
  have HR := Lib.hid rest
  clear rest hP
  go_wp2_with fail
  go_ret
  exact ⟨⟨k, C', A', xs', rfl, HR.out⟩⟩

/-- A new node above two. -/
theorem tPair_any {w : World} {p : Nat} {C : Nat → Prop} {A : Ar} {xs : List Nd} {root vis : Int} (h : Head w p C A xs root vis) (hlen : xs.length = A.T.length) (hlive : A.live < A.M) {a b : TT} (ha : Sub w xs a) (hb : Sub w xs b)
    (ta : ∀ j ∈ a.nums, A.T[j]? = some true) (tb : ∀ j ∈ b.nums, A.T[j]? = some true) (s1 : Small a.st) (s2 : Small b.st) :
    Calls Tryd.prog 98 #[.pointer (some ⟨p, 0, none⟩), .int .i64 a.num, .int .i64 b.num] w fun e w' => NodePost w w' p C A xs root vis (TT.pair 0 a b).nd e := by
  have HN := Lib.hid (tNode_any h hlen hlive ⟨a.num, b.num, 0, 0, 0, 0, 0, none⟩ (TT.pair 0 a b).nd (fun w1 C1 A1 xs1 k h1 g1 hk hkeep =>
    tFix_tt (k := k) h1 hk rfl rfl rfl (ha.chgC h g1.chg (fun j hj => hkeep j (ta j hj))) (hb.chgC h g1.chg (fun j hj => hkeep j (tb j hj))) s1 s2))
  obtain ⟨na, hna⟩ : ∃ na, a.num = na := ⟨_, rfl⟩
  obtain ⟨nb, hnb⟩ : ∃ nb, b.num = nb := ⟨_, rfl⟩
  have HP : Hid ((⟨a.num, b.num, 0, 0, 0, 0, 0, none⟩ : Nd) = ⟨na, nb, 0, 0, 0, 0, 0, none⟩) := by rw [hna, hnb]; rfl
  rw [HP.out] at HN
  rw [hna, hnb]
  clear h hlen hlive ha hb ta tb s1 s2 hna hnb HP
  go_enter Tryd.func98, Tryd.ntmps98
  go_wp2_with fail
  refine HN.out.mono ?_
  rintro e w' hP
  obtain ⟨k, C', A', xs', rfl, rest⟩ := hP.ex
  have HR := Lib.hid rest
  clear rest hP
  go_wp2_with fail
  go_ret
  exact ⟨⟨k, C', A', xs', rfl, HR.out⟩⟩

end Go.Proofs.YtacoeohmdngnkaaDoor

namespace Go.Proofs.YtacoeohmdngnkaaDoor
set_option linter.unusedVariables false
set_option linter.unusedSimpArgs false
open Go.RowKit

/-- A tree's numbers are taken, each once; so its blocks. -/
structure Own (A : Ar) (T : TT) : Prop where
  nn : T.nums.Nodup
  bn : T.bl.Nodup
  tk : ∀ j ∈ T.nums, A.T[j]? = some true
theorem Own.l {A : Ar} {k : Nat} {a b : TT} (h : Own A (.pair k a b)) : Own A a := by
  obtain ⟨_, _, h3, _, _⟩ := TT.dis h.nn
  have := h.bn
  simp only [TT.bl, List.nodup_append] at this
  exact ⟨h3, this.1, fun j hj => h.tk j (TT.mem_l hj)⟩
theorem Own.r {A : Ar} {k : Nat} {a b : TT} (h : Own A (.pair k a b)) : Own A b := by
  obtain ⟨_, _, _, h4, _⟩ := TT.dis h.nn
  have := h.bn
  simp only [TT.bl, List.nodup_append] at this
  exact ⟨h4, this.2.1, fun j hj => h.tk j (TT.mem_r hj)⟩

/-- What a change of a subtree leaves: it is another one; all that is neither its own nor new is as it was. -/
structure SubPost (w w' : World) (p : Nat) (C : Nat → Prop) (A : Ar) (xs : List Nd) (root vis : Int) (T T' : TT) (C' : Nat → Prop) (A' : Ar) (xs' : List Nd) (v' : Int) : Prop where
  head : Head w' p C' A' xs' root v'
  sub : Sub w' xs' T'
  own : Own A' T'
  len : xs'.length = A'.T.length
  newC : ∀ j, C' j → C j ∨ w.heap.size ≤ j
  newB : ∀ q ∈ T'.bl, q ∈ T.bl ∨ w.heap.size ≤ q
  keep : ∀ j : Nat, A.T[j]? = some true → j ∉ T.nums → xs'[j]? = xs[j]? ∧ A'.T[j]? = some true ∧ j ∉ T'.nums
  live : A'.live + T.st.size = A.live + T'.st.size
  max : A'.M = A.M
  vis : vis ≤ v' ∧ v' ≤ vis + 7 * T.st.high + 2
  chg : Chg (fun j => C j ∨ j ∈ T.bl) w w'
end Go.Proofs.YtacoeohmdngnkaaDoor

namespace Go.Proofs.YtacoeohmdngnkaaDoor
set_option linter.unusedVariables false
set_option linter.unusedSimpArgs false
open Go.RowKit

end Go.Proofs.YtacoeohmdngnkaaDoor

namespace Go.Proofs.YtacoeohmdngnkaaDoor
set_option linter.unusedVariables false
set_option linter.unusedSimpArgs false
open Go.RowKit

/-- What a change of a subtree leaves, but for its nodes. -/
structure SubPre (w w' : World) (C : Nat → Prop) (A : Ar) (xs : List Nd) (T T' : TT) (C' : Nat → Prop) (A' : Ar) (xs' : List Nd) : Prop where
  own : Own A' T'
  len : xs'.length = A'.T.length
  newC : ∀ j, C' j → C j ∨ w.heap.size ≤ j
  newB : ∀ q ∈ T'.bl, q ∈ T.bl ∨ w.heap.size ≤ q
  keep : ∀ j : Nat, A.T[j]? = some true → j ∉ T.nums → xs'[j]? = xs[j]? ∧ A'.T[j]? = some true ∧ j ∉ T'.nums
  live : A'.live + T.st.size = A.live + T'.st.size
  max : A'.M = A.M
  chg : Chg (fun j => C j ∨ j ∈ T.bl) w w'

section
variable {w w1 w2 w3 w' : World} {p : Nat} {C C' C3 : Nat → Prop} {A A' A3 : Ar} {xs xs' xs3 : List Nd} {root vis v' : Int} {T T' T1 T2 a c : TT} {kn : Nat}

theorem SubPost.pre (h : SubPost w w' p C A xs root vis T T' C' A' xs' v') : SubPre w w' C A xs T T' C' A' xs' := ⟨h.own, h.len, h.newC, h.newB, h.keep, h.live, h.max, h.chg⟩
theorem SubPost.of (h1 : Head w' p C' A' xs' root v') (h2 : Sub w' xs' T') (h : SubPre w w' C A xs T T' C' A' xs') (h3 : vis ≤ v' ∧ v' ≤ vis + 7 * T.st.high + 2) : SubPost w w' p C A xs root vis T T' C' A' xs' v' :=
  ⟨h1, h2, h.own, h.len, h.newC, h.newB, h.keep, h.live, h.max, h3, h.chg⟩

theorem SubPre.first (h0 : Chg C w w1) (h : SubPre w1 w' C A xs T T' C' A' xs') : SubPre w w' C A xs T T' C' A' xs' :=
  ⟨h.own, h.len, fun j hj => (h.newC j hj).imp id (fun h => Nat.le_trans h0.size h), fun q hq => (h.newB q hq).imp id (fun h => Nat.le_trans h0.size h), h.keep, h.live, h.max,
    (h0.mono (fun j hj => Or.inl hj)).trans h.chg (fun j hj => Or.inl hj)⟩

/-- A step that changes the nodes of the new subtree alone. -/
theorem SubPre.next (h : SubPre w w3 C A xs T T1 C3 A3 xs3) (hc : Chg C3 w3 w') (hk : ∀ j, j ∉ T1.nums → xs'[j]? = xs3[j]?) (hl : xs'.length = xs3.length) (hn : T2.nums.Perm T1.nums) (hb : T2.bl = T1.bl) (hs : T2.st.size = T1.st.size) :
    SubPre w w' C A xs T T2 C3 A3 xs' :=
  ⟨⟨hn.nodup_iff.2 h.own.nn, by rw [hb]; exact h.own.bn, fun j hj => h.own.tk j (hn.mem_iff.1 hj)⟩, hl.trans h.len, h.newC, by rw [hb]; exact h.newB, fun j h1 h2 => by
    obtain ⟨e1, e2, e3⟩ := h.keep j h1 h2
    exact ⟨(hk j e3).trans e1, e2, fun hj => e3 (hn.mem_iff.1 hj)⟩, by rw [hs]; exact h.live, h.max,
    h.chg.trans hc (fun j hj => (h.newC j hj).imp Or.inl id)⟩

/-- The left child has changed. -/
theorem SubPre.left (hO : Own A (.pair kn a c)) (h : SubPre w w3 C A xs a T' C3 A3 xs3) (hH : Head w p C A xs root vis) (hc : Sub w xs c) :
    SubPre w w3 C A xs (.pair kn a c) (.pair kn T' c) C3 A3 xs3 ∧ Sub w3 xs3 c ∧ xs3[kn]? = xs[kn]? := by
  obtain ⟨n1, n2, n3, n4, n5⟩ := TT.dis hO.nn
  have hbn := hO.bn
  simp only [TT.bl, List.nodup_append] at hbn
  obtain ⟨b1, b2, b3⟩ := hbn
  have tk := hO.tk kn TT.mem_k
  obtain ⟨k1, k2, k3⟩ := h.keep kn tk n1
  have kc : ∀ j ∈ c.nums, xs3[j]? = xs[j]? ∧ A3.T[j]? = some true ∧ j ∉ T'.nums := fun j hj => h.keep j (hO.tk j (TT.mem_r hj)) (fun e => n5 j e hj)
  have bc : ∀ q ∈ c.bl, q < w.heap.size := fun q hq => (hc.type hq).lt
  refine ⟨⟨⟨?_, ?_, fun j hj => ?_⟩, h.len, h.newC, fun q hq => ?_, fun j h1 h2 => ?_, ?_, h.max, h.chg.mono (fun j hj => hj.imp id (fun h => by simp [TT.bl, h]))⟩, ?_, k1⟩
  · simp only [TT.nums, List.nodup_cons, List.mem_append, not_or, List.nodup_append]
    exact ⟨⟨k3, n2⟩, h.own.nn, n4, fun x hx y hy e => by subst e; exact (kc x hy).2.2 hx⟩
  · simp only [TT.bl, List.nodup_append]
    refine ⟨h.own.bn, b2, fun x hx y hy e => ?_⟩
    subst e
    rcases h.newB x hx with e | e
    · exact b3 x e x hy rfl
    · have := bc x hy; omega
  · simp only [TT.nums, List.mem_cons, List.mem_append] at hj
    rcases hj with rfl | hj | hj
    · exact k2
    · exact h.own.tk j hj
    · exact (kc j hj).2.1
  · simp only [TT.bl, List.mem_append] at hq ⊢
    rcases hq with hq | hq
    · exact (h.newB q hq).imp Or.inl id
    · exact Or.inl (Or.inr hq)
  · have h2' : j ≠ kn ∧ j ∉ a.nums ∧ j ∉ c.nums := by
      simp only [TT.nums, List.mem_cons, List.mem_append, not_or] at h2; exact h2
    obtain ⟨e1, e2, e3⟩ := h.keep j h1 h2'.2.1
    refine ⟨e1, e2, ?_⟩
    simp only [TT.nums, List.mem_cons, List.mem_append, not_or]
    exact ⟨h2'.1, e3, h2'.2.2⟩
  · have := h.live; simp only [TT.st, ST.size]; omega
  · exact hc.keep (fun j hj => (kc j hj).1) (fun q hq => h.chg.block q (bc q hq) (fun hs => hs.elim (hH.notBlk (hc.type hq)) (fun e => b3 q e q hq rfl)))

/-- The right child has changed. -/
theorem SubPre.right (hO : Own A (.pair kn a c)) (h : SubPre w w3 C A xs c T' C3 A3 xs3) (hH : Head w p C A xs root vis) (ha : Sub w xs a) :
    SubPre w w3 C A xs (.pair kn a c) (.pair kn a T') C3 A3 xs3 ∧ Sub w3 xs3 a ∧ xs3[kn]? = xs[kn]? := by
  obtain ⟨n1, n2, n3, n4, n5⟩ := TT.dis hO.nn
  have hbn := hO.bn
  simp only [TT.bl, List.nodup_append] at hbn
  obtain ⟨b1, b2, b3⟩ := hbn
  have tk := hO.tk kn TT.mem_k
  obtain ⟨k1, k2, k3⟩ := h.keep kn tk n2
  have kc : ∀ j ∈ a.nums, xs3[j]? = xs[j]? ∧ A3.T[j]? = some true ∧ j ∉ T'.nums := fun j hj => h.keep j (hO.tk j (TT.mem_l hj)) (fun e => n5 j hj e)
  have bc : ∀ q ∈ a.bl, q < w.heap.size := fun q hq => (ha.type hq).lt
  refine ⟨⟨⟨?_, ?_, fun j hj => ?_⟩, h.len, h.newC, fun q hq => ?_, fun j h1 h2 => ?_, ?_, h.max, h.chg.mono (fun j hj => hj.imp id (fun h => by simp [TT.bl, h]))⟩, ?_, k1⟩
  · simp only [TT.nums, List.nodup_cons, List.mem_append, not_or, List.nodup_append]
    exact ⟨⟨n1, k3⟩, n3, h.own.nn, fun x hx y hy e => by subst e; exact (kc x hx).2.2 hy⟩
  · simp only [TT.bl, List.nodup_append]
    refine ⟨b1, h.own.bn, fun x hx y hy e => ?_⟩
    subst e
    rcases h.newB x hy with e | e
    · exact b3 x hx x e rfl
    · have := bc x hx; omega
  · simp only [TT.nums, List.mem_cons, List.mem_append] at hj
    rcases hj with rfl | hj | hj
    · exact k2
    · exact (kc j hj).2.1
    · exact h.own.tk j hj
  · simp only [TT.bl, List.mem_append] at hq ⊢
    rcases hq with hq | hq
    · exact Or.inl (Or.inl hq)
    · exact (h.newB q hq).imp Or.inr id
  · have h2' : j ≠ kn ∧ j ∉ a.nums ∧ j ∉ c.nums := by
      simp only [TT.nums, List.mem_cons, List.mem_append, not_or] at h2; exact h2
    obtain ⟨e1, e2, e3⟩ := h.keep j h1 h2'.2.2
    refine ⟨e1, e2, ?_⟩
    simp only [TT.nums, List.mem_cons, List.mem_append, not_or]
    exact ⟨h2'.1, h2'.2.1, e3⟩
  · have := h.live; simp only [TT.st, ST.size]; omega
  · exact ha.keep (fun j hj => (kc j hj).1) (fun q hq => h.chg.block q (bc q hq) (fun hs => hs.elim (hH.notBlk (ha.type hq)) (fun e => b3 q hq q e rfl)))
end

end Go.Proofs.YtacoeohmdngnkaaDoor

namespace Go.Proofs.YtacoeohmdngnkaaDoor
set_option linter.unusedVariables false
set_option linter.unusedSimpArgs false
open Go.RowKit

end Go.Proofs.YtacoeohmdngnkaaDoor

namespace Go.Proofs.YtacoeohmdngnkaaDoor
set_option linter.unusedVariables false
set_option linter.unusedSimpArgs false
open Go.RowKit

/-- Rank at 0. -/
theorem tRank_zero {w : World} {p : Nat} {C : Nat → Prop} {A : Ar} {xs : List Nd} {vis : Int} {o : Option TT} (h : Head w p C A xs (onum o) vis) (hS : OSub w xs o) (k : Int) (x : Bool) (hk : k ≤ 0 ∨ (obits o).length = 0) :
    Calls Tryd.prog 83 #[.pointer (some ⟨p, 0, none⟩), .int .i64 k, .bool x] w fun e w' => e = .returned (.int .i64 0) ∧ Look w w' p C A xs (onum o) 0 := by
  have f3 := h.cells.2.2.2 3
  have c3 := h.cells.2.2.1
  have h0 := h.set3 0
  have hc0 := h.chg3 (.int .i64 0) 3
  have hl := tLen_any h0 (hS.chgC h hc0)
  have HL := Lib.hid hl
  have H0 := Lib.hid h0
  have HC := Lib.hid hc0
  clear h hS h0 hc0 hl
  have hk' : (k < 0) ∨ (k = 0) ∨ (0 < k ∧ (obits o).length = 0) := by omega
  generalize (obits o).length = n at *
  clear hk
  rcases hk' with hk | rfl | ⟨hk, rfl⟩
  all_goals
    go_enter Tryd.func83, Tryd.ntmps83
    go_wp2_with fail
    refine HL.out.mono ?_
    rintro e w' ⟨rfl, m, rfl⟩
    go_wp2_with fail
    go_ret
    exact ⟨rfl, ⟨0, Nat.le_refl _, H0.out.drewN _⟩, HC.out.drewN _⟩

set_option maxHeartbeats 3200000 in
/-- Rank, where there are some. -/
theorem tRank_core {w : World} {p : Nat} {C : Nat → Prop} {A : Ar} {xs : List Nd} {vis : Int} {T0 : TT} (h : Head w p C A xs T0.num vis) (hS : Sub w xs T0) (hm : T0.Sm) (k0 : Int) (K : Nat) (x : Bool)
    (hk : (0 < k0 ∧ k0 ≤ T0.st.bits.length ∧ k0 = K) ∨ ((T0.st.bits.length : Int) < k0 ∧ K = T0.st.bits.length)) (hK : 0 < K) :
    Calls Tryd.prog 83 #[.pointer (some ⟨p, 0, none⟩), .int .i64 k0, .bool x] w fun e w' => e = .returned (.int .i64 (rankL T0.st.bits K x)) ∧ Look w w' p C A xs T0.num (T0.st.high + 1) := by
  have f3 := h.cells.2.2.2 3
  have c3 := h.cells.2.2.1
  have h0 := h.set3 0
  have hc0 := h.chg3 (.int .i64 0) 3
  have hS0 := hS.chgC h hc0 (fun _ _ => rfl)
  have hl := tLen_some h0 hS0
  have c2 := h0.cells.2.1
  have HL := Lib.hid hl
  have H0 := Lib.hid h0
  have HC := Lib.hid hc0
  have HS0 := Lib.hid hS0
  have hhm := hm.high
  have hlm := hm.len
  have hKn : K ≤ T0.st.bits.length := by omega
  have HM := Lib.hid hm
  have HKN := Lib.hid hKn
  have HR : Hid (rankL T0.st.bits K x ≤ 8589934592) := by have := rankL_le T0.st.bits K x; show _ ≤ _; omega
  have d0 : ((K : Int) == 0) = false := by rw [beq_eq_false_iff_ne]; omega
  clear h hS h0 hc0 hl hS0 hm hKn
  obtain ⟨W0, hW0⟩ : ∃ W0, W0 = w.setCell ⟨p, 3, none⟩ (.int .i64 0) := ⟨_, rfl⟩
  rw [← hW0] at HL H0 HC HS0 c2
  have HW0 := Lib.hid hW0
  clear hW0
  obtain ⟨n0, hn0⟩ : ∃ n0, n0 = T0.st.bits.length := ⟨_, rfl⟩
  rw [← hn0] at hk HL hlm HKN
  have HN0 := Lib.hid hn0
  clear hn0
  rcases hk with ⟨hk1, hk2, rfl⟩ | ⟨hk, rfl⟩
  all_goals
    go_enter Tryd.func83, Tryd.ntmps83
    go_wp2_with fail
    rw [← HW0.out]
    refine HL.out.mono ?_
    rintro e w' ⟨rfl, m, rfl⟩
    go_wp2_with fail
    go_loopg [7, 8, 1] (T0.st.high + 1) (fun n a s b wr => ∃ (T : TT) (kn k s0 v : Nat), T.num = kn ∧ a = .int .i64 kn ∧ s = .int .i64 s0 ∧ b = .int .i64 k ∧ 0 < k ∧ k ≤ T.st.bits.length ∧ Sub wr xs T ∧ Head wr p C A xs T0.num v ∧ Chg C w wr ∧
      s0 + rankL T.st.bits k x = rankL T0.st.bits K x ∧ v + T.st.high ≤ T0.st.high ∧ T.st.high < n ∧ T.st.bits.length ≤ 8589934592)
    case atStart => exact ⟨T0, _, _, 0, 0, rfl, rfl, rfl, rfl, by first | exact hK | omega, by rw [← HN0.out]; have := HKN.out; omega, HS0.out.keep (fun _ _ => rfl) (fun _ _ => rfl), H0.out.drewN _, HC.out.drewN _, by simp, by omega, by omega, HM.out.len⟩
    case round =>
      obtain ⟨T, kn, k, s0, v, hkn, rfl, rfl, rfl, hk0, hk, hS, hH, hC, hb, hv, hT, hlen⟩ := hrel
      have hvw := hS.view hkn
      have hx : ∃ x, xs[kn]? = some x := ⟨_, by rw [← hkn]; exact hS.root⟩
      obtain ⟨g, rc, cur, c1, hgp, _⟩ := hH.row (by obtain ⟨x, hx⟩ := hx; have := (List.getElem?_eq_some_iff.1 hx).1; omega)
      obtain ⟨_, _, cv, fz⟩ := hH.cells
      have f3 := fz 3
      have hp := hH.lt p hH.self
      have HH3 : Hid (∀ v : Int, Head (wr.setCell ⟨p, 3, none⟩ (.int .i64 v)) p C A xs T0.num v) := fun v => hH.set3 v
      have HCC := Lib.hid hC
      have hs0 : s0 ≤ 8589934592 := by have := HR.out; omega
      have HB := Lib.hid hb
      have HCp := Lib.hid hH.self
      have HNC : Hid (∀ q l, IsBlock wr q l → ¬ C q) := fun q l h => hH.notBlk h.type
      clear hC hb hx fz HS0 HC H0 HW0 HL c2 hgp hK
      rcases hvw with ⟨q, l, hst, hblk, hx⟩ | ⟨Ta, Tb, hst, hSa, hSb, hx⟩
      · obtain ⟨_, _, hkx, _⟩ := hH.node c1 hx
        obtain ⟨a0, a1, a2, a3, a4, a5, a6, a7⟩ := hH.eight c1 hx
        have hg := World.block_lt_of_cell? wr _ a0
        simp only [ptrN, Option.map_some] at a0 a1 a2 a3 a4 a5 a6 a7
        rw [hst] at hk hv hT hlen
        have hbb := HB.out
        rw [hst] at hbb
        simp only [ST.bits] at hbb
        have HBB := Lib.hid hbb
        have HW : Hid (∀ v o, IsBlock ((wr.setCell ⟨p, 3, none⟩ v).alloc o) q l) := fun v o => hblk.chg ((Chg.refl.setCell ⟨p, 3, none⟩ (Or.inl HCp.out) v).alloc o) (HNC.out q l hblk)
        have HLK := Lib.hid (likeN_rank (x := x) hk)
        simp only [ST.high, ST.bits] at hk hv hT hlen
        have HRR := Lib.hid (rankL_le l k true)
        clear hH hS hkn hx hst hblk hbb
        go_wp2_with fail
        refine (blkRank (HW.out _ _) k).mono ?_
        rintro e w2 ⟨rfl, hb2⟩
        rw [Int.toNat_natCast]
        have HB2 := Lib.hid hb2
        clear hb2
        generalize hr : rankL l k true = r at *
        have HLK2 := Lib.hid (show likeN k r x = rankL l k x by rw [← hr]; exact HLK.out)
        have HRR2 := HRR.out
        have hlk3 := HLK2.out
        generalize hR2 : rankL l k x = R2 at *
        have HLK3 := Lib.hid hlk3
        have hR3 : R2 ≤ k := by rw [← hR2]; exact (rankL_le l k x).1
        clear hr hR2 hlk3 HLK
        go_wp2_with fail
        refine (tLike_any k r x w2 (by omega) (by omega) (by omega)).mono ?_
        rintro e w' ⟨rfl, rfl⟩
        rw [HLK3.out]
        go_wp2_with fail
        go_ret
        refine ⟨ret_int ?_, ⟨v + 1, by omega, ?_⟩, ?_⟩
        · have := HBB.out; omega
        · exact_mod_cast ((HH3.out (v + 1)).below (below_alloc _ _)).below HB2.out
        · exact ((HCC.out.setCell _ (Or.inl HCp.out) _).alloc _).trans (Chg.of_below (S := C) HB2.out) (fun _ h => Or.inl h)
      · obtain ⟨_, _, hkx, _⟩ := hH.node c1 hx
        obtain ⟨a0, a1, a2, a3, a4, a5, a6, a7⟩ := hH.eight c1 hx
        have hg := World.block_lt_of_cell? wr _ a0
        simp only [ptrN, Option.map_none] at a0 a1 a2 a3 a4 a5 a6 a7
        rw [hst] at hk hv hT hlen
        simp only [ST.bits, ST.high, List.length_append] at hk hv hT hlen
        have HSa : Hid (∀ W, Chg C wr W → Sub W xs Ta) := fun W hc => hSa.chgC hH hc (fun _ _ => rfl)
        have HSb : Hid (∀ W, Chg C wr W → Sub W xs Tb) := fun W hc => hSb.chgC hH hc (fun _ _ => rfl)
        have hb := HB.out
        rw [hst] at hb
        simp only [ST.bits] at hb
        have HB2 := Lib.hid hb
        have HLN := Lib.hid (likeN_count Ta.st.bits x)
        have hca := count_le Ta.st.bits true
        have hca2 := count_le Ta.st.bits x
        obtain ⟨na, hna⟩ : ∃ na, Ta.num = na := ⟨_, rfl⟩
        obtain ⟨nb, hnb⟩ : ∃ nb, Tb.num = nb := ⟨_, rfl⟩
        obtain ⟨la, hla⟩ : ∃ la, Ta.st.bits.length = la := ⟨_, rfl⟩
        obtain ⟨ca, hca'⟩ : ∃ ca, Ta.st.bits.count true = ca := ⟨_, rfl⟩
        obtain ⟨cx, hcx⟩ : ∃ cx, Ta.st.bits.count x = cx := ⟨_, rfl⟩
        rw [hla] at hk hlen hca hca2
        rw [hca'] at hca
        rw [hcx] at hca2
        simp only [hna, hnb, hla, hca'] at a0 a1 a2 a3 a4 a5 a6
        have HLN2 := Lib.hid (show likeN la ca x = cx by rw [← hla, ← hca', ← hcx]; exact HLN.out)
        have HNA := Lib.hid hna
        have HNB := Lib.hid hnb
        have HLA := Lib.hid hla
        have HCX := Lib.hid hcx
        by_cases hlt : k ≤ la
        · have d1 : decide (k ≤ la) = true := decide_eq_true hlt
          clear hH hS hkn hx hst hSa hSb hb hna hnb hla hca' hcx HB HLN
          go_wp2_with fail
          go_roundg (max Ta.st.high Tb.st.high + 1)
          case measure => omega
          case rel =>
            refine ⟨Ta, na, k, s0, v + 1, HNA.out, rfl, rfl, rfl, hk0, by rw [HLA.out]; exact hlt, HSa.out _ ((Chg.refl.setCell ⟨p, 3, none⟩ (Or.inl HCp.out) _).alloc _), ?_, HCC.out.trans ((Chg.refl.setCell ⟨p, 3, none⟩ (Or.inl HCp.out) _).alloc _) (fun _ h => Or.inl h), ?_, by omega, by omega, by have := HLA.out; omega⟩
            · exact_mod_cast (HH3.out (v + 1)).below (below_alloc _ _)
            · rw [← HB2.out, rankL_app_l (by rw [HLA.out]; exact hlt)]
        · have d1 : decide (k ≤ la) = false := decide_eq_false hlt
          clear hH hS hkn hx hst hSa hSb hb hna hnb hla hca' hcx HB HLN
          go_wp2_with fail
          refine (tLike_any la ca x _ (by omega) (by omega) (by omega)).mono ?_
          rintro e w' ⟨rfl, rfl⟩
          rw [HLN2.out]
          go_wp2_with fail
          go_quiet (fail)
          go_wp2_with fail
          go_roundg (max Ta.st.high Tb.st.high + 1)
          case measure => omega
          case rel =>
            refine ⟨Tb, nb, k - la, s0 + cx, v + 1, HNB.out, rfl, ?_, ?_, by omega, by omega, HSb.out _ (((Chg.refl.setCell ⟨p, 3, none⟩ (Or.inl HCp.out) _).alloc _).drewN _), ?_, HCC.out.trans (((Chg.refl.setCell ⟨p, 3, none⟩ (Or.inl HCp.out) _).alloc _).drewN _) (fun _ h => Or.inl h), ?_, by omega, by omega, by omega⟩
            · congr 1
            · congr 1; omega
            · exact_mod_cast ((HH3.out (v + 1)).below (below_alloc _ _)).drewN _
            · rw [← HB2.out, rankL_app_r (by rw [HLA.out]; omega), HLA.out, HCX.out]; omega

def ohigh : Option TT → Nat
  | none => 0
  | some T => T.st.high + 1
def OSm : Option TT → Prop
  | none => True
  | some T => T.Sm
theorem Look.mono {w w' : World} {p : Nat} {C : Nat → Prop} {A : Ar} {xs : List Nd} {root : Int} {m m' : Nat} (h : Look w w' p C A xs root m) (hm : m ≤ m') : Look w w' p C A xs root m' := by
  obtain ⟨v, hv, hH⟩ := h.head
  exact ⟨⟨v, by omega, hH⟩, h.chg⟩
/-- Rank, whatever is asked. -/
theorem tRank_any {w : World} {p : Nat} {C : Nat → Prop} {A : Ar} {xs : List Nd} {vis : Int} {o : Option TT} (h : Head w p C A xs (onum o) vis) (hS : OSub w xs o) (hm : OSm o) (k : Int) (x : Bool) :
    Calls Tryd.prog 83 #[.pointer (some ⟨p, 0, none⟩), .int .i64 k, .bool x] w fun e w' => e = .returned (.int .i64 (rankL (obits o) k.toNat x)) ∧ Look w w' p C A xs (onum o) (ohigh o) := by
  by_cases hz : k ≤ 0 ∨ (obits o).length = 0
  · have e0 : rankL (obits o) k.toNat x = 0 := by
      have := rankL_le (obits o) k.toNat x
      rcases hz with hz | hz <;> omega
    rw [e0]
    refine (tRank_zero h hS k x hz).mono ?_
    rintro e w' ⟨rfl, hL⟩
    exact ⟨rfl, hL.mono (Nat.zero_le _)⟩
  · cases o with
    | none => exact absurd (Or.inr rfl) hz
    | some T =>
      have hz' : 0 < k ∧ T.st.bits.length ≠ 0 := ⟨by omega, fun e => hz (Or.inr e)⟩
      by_cases hk : k ≤ T.st.bits.length
      · exact tRank_core h hS hm k k.toNat x (Or.inl ⟨hz'.1, hk, by omega⟩) (by omega)
      · have e1 : rankL (obits (some T)) k.toNat x = rankL T.st.bits T.st.bits.length x := by
          show rankL T.st.bits k.toNat x = _
          rw [rankL_over x (by omega), rankL_over x (Nat.le_refl _)]
        rw [e1]
        exact tRank_core h hS hm k T.st.bits.length x (Or.inr ⟨by omega, rfl⟩) (by omega)

end Go.Proofs.YtacoeohmdngnkaaDoor

namespace Go.Proofs.YtacoeohmdngnkaaDoor
set_option linter.unusedVariables false
set_option linter.unusedSimpArgs false
open Go.RowKit

theorem BitTab.chg {S : Nat → Prop} {w w' : World} (h : BitTab w) (hc : Chg S w w') (hn : ¬ S 0) : BitTab w' := fun j hj => hc.cell (h j hj) hn

theorem tSelect_neg {w : World} {p : Nat} {C : Nat → Prop} {A : Ar} {xs : List Nd} {root vis : Int} (h : Head w p C A xs root vis) (j : Int) (x : Bool) (hj : j < 0) :
    Calls Tryd.prog 66 #[.pointer (some ⟨p, 0, none⟩), .int .i64 j, .bool x] w fun e w' => e = .returned (.int .i64 (-1)) ∧ Look w w' p C A xs root 0 := by
  have f3 := h.cells.2.2.2 3
  have c3 := h.cells.2.2.1
  have H0 := Lib.hid (h.set3 0)
  have HC := Lib.hid (h.chg3 (.int .i64 0) 3)
  clear h
  go_enter Tryd.func66, Tryd.ntmps66
  go_wp2_with fail
  go_ret
  exact ⟨rfl, ⟨0, Nat.le_refl _, H0.out⟩, HC.out⟩

set_option maxHeartbeats 3200000 in
theorem tSelect_many {w : World} {p : Nat} {C : Nat → Prop} {A : Ar} {xs : List Nd} {vis : Int} {o : Option TT} (h : Head w p C A xs (onum o) vis) (hS : OSub w xs o) (hm : OSm o) (j : Int) (x : Bool) (hj0 : 0 ≤ j) (hj : ((obits o).count x : Int) ≤ j) :
    Calls Tryd.prog 66 #[.pointer (some ⟨p, 0, none⟩), .int .i64 j, .bool x] w fun e w' => e = .returned (.int .i64 (-1)) ∧ Look w w' p C A xs (onum o) 0 := by
  have f3 := h.cells.2.2.2 3
  have c3 := h.cells.2.2.1
  have h0 := h.set3 0
  have hc0 := h.chg3 (.int .i64 0) 3
  have hS0 := hS.chgC h hc0
  have HL := Lib.hid (tLen_any h0 hS0)
  have HO : Hid (∀ n, Calls Tryd.prog 88 #[.pointer (some ⟨p, 0, none⟩)] ((w.setCell ⟨p, 3, none⟩ (.int .i64 0)).drewN n) fun e w' => e = .returned (.int .i64 ((obits o).count true)) ∧ ∃ m, w' = ((w.setCell ⟨p, 3, none⟩ (.int .i64 0)).drewN n).drewN m) := by
    intro n
    refine tOnes_any (h0.drewN n) ?_
    cases o with
    | none => trivial
    | some T => exact Sub.keep hS0 (fun _ _ => rfl) (fun _ _ => rfl)
  have H0 := Lib.hid h0
  have HC := Lib.hid hc0
  have hlen : (obits o).length ≤ 8589934592 := by
    cases o with
    | none => simp [obits]
    | some T => exact hm.len
  have HK := Lib.hid (likeN_count (obits o) x)
  have hct := count_le (obits o) true
  have d0 : decide (j < 0) = false := by simp; omega
  have d1 : decide (((obits o).count x : Int) ≤ j) = true := by simpa using hj
  clear h hS h0 hc0 hS0 hm hj
  generalize (obits o).length = n at *
  generalize (obits o).count x = cx at *
  generalize (obits o).count true = ct at *
  go_enter Tryd.func66, Tryd.ntmps66
  go_wp2_with fail
  refine HL.out.mono ?_
  rintro e w' ⟨rfl, m, rfl⟩
  go_wp2_with fail
  refine (HO.out m).mono ?_
  rintro e w' ⟨rfl, m2, rfl⟩
  go_wp2_with fail
  refine (tLike_any n ct x _ (by omega) (by omega) (by omega)).mono ?_
  rintro e w' ⟨rfl, rfl⟩
  rw [HK.out]
  go_wp2_with fail
  go_ret
  exact ⟨rfl, ⟨0, Nat.le_refl _, H0.out.drewN _⟩, HC.out.drewN _⟩

set_option maxHeartbeats 3200000 in
/-- Select, where there is one. -/
theorem tSelect_core {w : World} {p : Nat} {C : Nat → Prop} {A : Ar} {xs : List Nd} {vis : Int} {T0 : TT} (h : Head w p C A xs T0.num vis) (hS : Sub w xs T0) (hm : T0.Sm) (hTab : BitTab w) (hN : ¬ C 0) (J : Nat) (x : Bool)
    (hJ : J < T0.st.bits.count x) :
    Calls Tryd.prog 66 #[.pointer (some ⟨p, 0, none⟩), .int .i64 J, .bool x] w fun e w' => e = .returned (.int .i64 (selL T0.st.bits J x)) ∧ Look w w' p C A xs T0.num (T0.st.high + 1) := by
  have f3 := h.cells.2.2.2 3
  have c3 := h.cells.2.2.1
  have h0 := h.set3 0
  have hc0 := h.chg3 (.int .i64 0) 3
  have hS0 := hS.chgC h hc0 (fun _ _ => rfl)
  have c2 := h0.cells.2.1
  have HT0 := Lib.hid hTab
  have HNT := Lib.hid hN
  have HL := Lib.hid (tLen_some h0 hS0)
  have HO : Hid (∀ n, Calls Tryd.prog 88 #[.pointer (some ⟨p, 0, none⟩)] ((w.setCell ⟨p, 3, none⟩ (.int .i64 0)).drewN n) fun e w' => e = .returned (.int .i64 (T0.st.bits.count true)) ∧ ∃ m, w' = ((w.setCell ⟨p, 3, none⟩ (.int .i64 0)).drewN n).drewN m) := by
    intro n
    exact tOnes_some (h0.drewN n) (hS0.keep (fun _ _ => rfl) (fun _ _ => rfl))
  have H0 := Lib.hid h0
  have HC := Lib.hid hc0
  have HS0 := Lib.hid hS0
  have hhm := hm.high
  have hlm := hm.len
  have HM := Lib.hid hm
  have HK := Lib.hid (likeN_count T0.st.bits x)
  have hct := count_le T0.st.bits true
  have hcx := count_le T0.st.bits x
  have HJ := Lib.hid hJ
  have hJ2 : J ≤ 8589934592 := by omega
  have HR : Hid (selL T0.st.bits J x ≤ 8589934592 ∧ 0 ≤ selL T0.st.bits J x) := by
    obtain ⟨k, h1, h2, h3⟩ := sel_ex x T0.st.bits J hJ
    rw [selL_hit h1 h2 (by rw [h3])]
    exact ⟨by omega, by omega⟩
  have d0 : decide ((J : Int) < 0) = false := by simp
  have d1 : decide (T0.st.bits.count x ≤ J) = false := decide_eq_false (by omega)
  clear h hS h0 hc0 hS0 hm hTab hN hJ
  obtain ⟨W0, hW0⟩ : ∃ W0, W0 = w.setCell ⟨p, 3, none⟩ (.int .i64 0) := ⟨_, rfl⟩
  rw [← hW0] at HL H0 HC HS0 c2 HO
  have HW0 := Lib.hid hW0
  clear hW0
  obtain ⟨n0, hn0⟩ : ∃ n0, n0 = T0.st.bits.length := ⟨_, rfl⟩
  obtain ⟨cx, hcx0⟩ : ∃ cx, cx = T0.st.bits.count x := ⟨_, rfl⟩
  obtain ⟨ct, hct0⟩ : ∃ ct, ct = T0.st.bits.count true := ⟨_, rfl⟩
  rw [← hn0] at HL hlm hct hcx HK
  rw [← hcx0] at hcx HK d1 HJ
  rw [← hct0] at hct HK HO
  have HCX0 := Lib.hid hcx0
  clear hn0 hcx0 hct0
  go_enter Tryd.func66, Tryd.ntmps66
  go_wp2_with fail
  rw [← HW0.out]
  refine HL.out.mono ?_
  rintro e w' ⟨rfl, m, rfl⟩
  go_wp2_with fail
  refine (HO.out m).mono ?_
  rintro e w' ⟨rfl, m2, rfl⟩
  go_wp2_with fail
  refine (tLike_any n0 ct x _ (by omega) (by omega) (by omega)).mono ?_
  rintro e w' ⟨rfl, rfl⟩
  rw [HK.out]
  go_wp2_with fail
  go_loopg [7, 8, 1] (T0.st.high + 1) (fun n a s b wr => ∃ (T : TT) (kn j s0 v : Nat), T.num = kn ∧ a = .int .i64 kn ∧ s = .int .i64 s0 ∧ b = .int .i64 j ∧ j < T.st.bits.count x ∧ Sub wr xs T ∧ Head wr p C A xs T0.num v ∧ Chg C w wr ∧
    s0 + selL T.st.bits j x = selL T0.st.bits J x ∧ v + T.st.high ≤ T0.st.high ∧ T.st.high < n ∧ T.st.bits.length ≤ 8589934592 ∧ s0 + T.st.bits.length ≤ 8589934592)
  case atStart => exact ⟨T0, _, _, 0, 0, rfl, rfl, rfl, rfl, by rw [← HCX0.out]; exact HJ.out, HS0.out.keep (fun _ _ => rfl) (fun _ _ => rfl), H0.out.drewN _, HC.out.drewN _, by simp, by omega, by omega, HM.out.len, by have := HM.out.len; omega⟩
  case round =>
    obtain ⟨T, kn, k, s0, v, hkn, rfl, rfl, rfl, hk, hS, hH, hC, hb, hv, hT, hlen, hsl⟩ := hrel
    have hvw := hS.view hkn
    have hx : ∃ x, xs[kn]? = some x := ⟨_, by rw [← hkn]; exact hS.root⟩
    obtain ⟨g, rc, cur, c1, hgp, _⟩ := hH.row (by obtain ⟨x, hx⟩ := hx; have := (List.getElem?_eq_some_iff.1 hx).1; omega)
    obtain ⟨_, _, cv, fz⟩ := hH.cells
    have f3 := fz 3
    have hp := hH.lt p hH.self
    have HH3 : Hid (∀ v : Int, Head (wr.setCell ⟨p, 3, none⟩ (.int .i64 v)) p C A xs T0.num v) := fun v => hH.set3 v
    have HTB := Lib.hid (HT0.out.chg hC HNT.out)
    have HCC := Lib.hid hC
    have hkl : k ≤ T.st.bits.length := by have := count_le T.st.bits x; omega
    have hkl2 : k ≤ 8589934592 := by omega
    have HB := Lib.hid hb
    have HCp := Lib.hid hH.self
    have HNC : Hid (∀ q l, IsBlock wr q l → ¬ C q) := fun q l h => hH.notBlk h.type
    clear hC hb hx fz HS0 HC H0 HW0 HL HO c2 hgp hkl
    rcases hvw with ⟨q, l, hst, hblk, hx⟩ | ⟨Ta, Tb, hst, hSa, hSb, hx⟩
    · obtain ⟨_, _, hkx, _⟩ := hH.node c1 hx
      obtain ⟨a0, a1, a2, a3, a4, a5, a6, a7⟩ := hH.eight c1 hx
      have hg := World.block_lt_of_cell? wr _ a0
      simp only [ptrN, Option.map_some] at a0 a1 a2 a3 a4 a5 a6 a7
      rw [hst] at hk hv hT hlen hsl
      have hbb := HB.out
      rw [hst] at hbb
      simp only [ST.bits] at hbb
      have HBB := Lib.hid hbb
      have HW : Hid (∀ v o, IsBlock ((wr.setCell ⟨p, 3, none⟩ v).alloc o) q l) := fun v o => hblk.chg ((Chg.refl.setCell ⟨p, 3, none⟩ (Or.inl HCp.out) v).alloc o) (HNC.out q l hblk)
      have HWT : Hid (∀ v o, BitTab ((wr.setCell ⟨p, 3, none⟩ v).alloc o)) := fun v o => HTB.out.chg ((Chg.refl.setCell ⟨p, 3, none⟩ (Or.inl HCp.out) v).alloc o) HNT.out
      simp only [ST.high, ST.bits] at hk hv hT hlen hsl
      have hR3 : 0 ≤ selL l k x ∧ selL l k x ≤ l.length := by
        obtain ⟨i, h1, h2, h3⟩ := sel_ex x l k hk
        rw [selL_hit h1 h2 (by rw [h3])]
        exact ⟨by omega, by omega⟩
      obtain ⟨hR3, hR4⟩ := hR3
      have hct1 := count_le l true
      clear hH hS hkn hx hst hblk hbb
      have hl0 := tLike_any 0 0 x
      have hl1 : likeN 0 0 x = 0 := by cases x <;> rfl
      rw [hl1] at hl0
      have HL0 := Lib.hid (fun w => hl0 w (by omega) (by omega) (by omega))
      clear hl0 hl1
      go_wp2_with fail
      refine (HL0.out _).mono ?_
      rintro e w2 ⟨rfl, rfl⟩
      go_wp2_with fail
      refine (blkSelect (HW.out _ _) (HWT.out _ _) k x (by omega)).mono ?_
      rintro e w2 ⟨rfl, hb2⟩
      have HB2 := Lib.hid hb2
      clear hb2
      generalize selL l k x = R2 at *
      go_wp2_with fail
      go_ret
      refine ⟨ret_int HBB.out, ⟨v + 1, by omega, ?_⟩, ?_⟩
      · exact_mod_cast ((HH3.out (v + 1)).below (below_alloc _ _)).below HB2.out
      · exact ((HCC.out.setCell _ (Or.inl HCp.out) _).alloc _).trans (Chg.of_below (S := C) HB2.out) (fun _ h => Or.inl h)
    · obtain ⟨_, _, hkx, _⟩ := hH.node c1 hx
      obtain ⟨a0, a1, a2, a3, a4, a5, a6, a7⟩ := hH.eight c1 hx
      have hg := World.block_lt_of_cell? wr _ a0
      simp only [ptrN, Option.map_none] at a0 a1 a2 a3 a4 a5 a6 a7
      rw [hst] at hk hv hT hlen hsl
      simp only [ST.bits, ST.high, List.length_append, List.count_append] at hk hv hT hlen hsl
      have HSa : Hid (∀ W, Chg C wr W → Sub W xs Ta) := fun W hc => hSa.chgC hH hc (fun _ _ => rfl)
      have HSb : Hid (∀ W, Chg C wr W → Sub W xs Tb) := fun W hc => hSb.chgC hH hc (fun _ _ => rfl)
      have hb := HB.out
      rw [hst] at hb
      simp only [ST.bits] at hb
      have HB2 := Lib.hid hb
      have HLN := Lib.hid (likeN_count Ta.st.bits x)
      have hca := count_le Ta.st.bits true
      have hca2 := count_le Ta.st.bits x
      obtain ⟨na, hna⟩ : ∃ na, Ta.num = na := ⟨_, rfl⟩
      obtain ⟨nb, hnb⟩ : ∃ nb, Tb.num = nb := ⟨_, rfl⟩
      obtain ⟨la, hla⟩ : ∃ la, Ta.st.bits.length = la := ⟨_, rfl⟩
      obtain ⟨ca, hca'⟩ : ∃ ca, Ta.st.bits.count true = ca := ⟨_, rfl⟩
      obtain ⟨cx2, hcx2⟩ : ∃ cx, Ta.st.bits.count x = cx := ⟨_, rfl⟩
      rw [hla] at hlen hca hca2 hsl
      rw [hca'] at hca
      rw [hcx2] at hca2 hk
      simp only [hna, hnb, hla, hca'] at a0 a1 a2 a3 a4 a5 a6
      have HLN2 := Lib.hid (show likeN la ca x = cx2 by rw [← hla, ← hca', ← hcx2]; exact HLN.out)
      have HNA := Lib.hid hna
      have HNB := Lib.hid hnb
      have HLA := Lib.hid hla
      have HCX := Lib.hid hcx2
      by_cases hlt : k < cx2
      · have d1 : decide (k < cx2) = true := decide_eq_true hlt
        clear hH hS hkn hx hst hSa hSb hb hna hnb hla hca' hcx2 HB HLN
        go_wp2_with fail
        refine (tLike_any la ca x _ (by omega) (by omega) (by omega)).mono ?_
        rintro e w' ⟨rfl, rfl⟩
        rw [HLN2.out]
        go_wp2_with fail
        go_roundg (max Ta.st.high Tb.st.high + 1)
        case measure => omega
        case rel =>
          refine ⟨Ta, na, k, s0, v + 1, HNA.out, rfl, rfl, rfl, by rw [HCX.out]; exact hlt, HSa.out _ ((Chg.refl.setCell ⟨p, 3, none⟩ (Or.inl HCp.out) _).alloc _), ?_, HCC.out.trans ((Chg.refl.setCell ⟨p, 3, none⟩ (Or.inl HCp.out) _).alloc _) (fun _ h => Or.inl h), ?_, by omega, by omega, by have := HLA.out; omega, by have := HLA.out; omega⟩
          · exact_mod_cast (HH3.out (v + 1)).below (below_alloc _ _)
          · rw [← HB2.out, selL_app_l (by rw [HCX.out]; exact hlt)]
      · have d1 : decide (k < cx2) = false := decide_eq_false hlt
        clear hH hS hkn hx hst hSa hSb hb hna hnb hla hca' hcx2 HB HLN
        go_wp2_with fail
        refine (tLike_any la ca x _ (by omega) (by omega) (by omega)).mono ?_
        rintro e w' ⟨rfl, rfl⟩
        rw [HLN2.out]
        go_wp2_with fail
        go_roundg (max Ta.st.high Tb.st.high + 1)
        case measure => omega
        case rel =>
          refine ⟨Tb, nb, k - cx2, s0 + la, v + 1, HNB.out, rfl, ?_, ?_, by omega, HSb.out _ ((Chg.refl.setCell ⟨p, 3, none⟩ (Or.inl HCp.out) _).alloc _), ?_, HCC.out.trans ((Chg.refl.setCell ⟨p, 3, none⟩ (Or.inl HCp.out) _).alloc _) (fun _ h => Or.inl h), ?_, by omega, by omega, by omega, by omega⟩
          · congr 1
          · congr 1; omega
          · exact_mod_cast (HH3.out (v + 1)).below (below_alloc _ _)
          · rw [← HB2.out, selL_app_r (by rw [HCX.out]; omega) (by rw [List.count_append, HCX.out]; exact hk), HLA.out, HCX.out]; omega

/-- Select, whatever is asked. -/
theorem tSelect_any {w : World} {p : Nat} {C : Nat → Prop} {A : Ar} {xs : List Nd} {vis : Int} {o : Option TT} (h : Head w p C A xs (onum o) vis) (hS : OSub w xs o) (hm : OSm o) (hTab : BitTab w) (hN : ¬ C 0) (j : Int) (x : Bool) :
    Calls Tryd.prog 66 #[.pointer (some ⟨p, 0, none⟩), .int .i64 j, .bool x] w fun e w' => e = .returned (.int .i64 (selL (obits o) j x)) ∧ Look w w' p C A xs (onum o) (ohigh o) := by
  by_cases h0 : j < 0
  · rw [selL_neg h0]
    refine (tSelect_neg h j x h0).mono ?_
    rintro e w' ⟨rfl, hL⟩
    exact ⟨rfl, hL.mono (Nat.zero_le _)⟩
  · by_cases h1 : ((obits o).count x : Int) ≤ j
    · rw [selL_many h1]
      refine (tSelect_many h hS hm j x (by omega) h1).mono ?_
      rintro e w' ⟨rfl, hL⟩
      exact ⟨rfl, hL.mono (Nat.zero_le _)⟩
    · obtain ⟨J, rfl⟩ := Int.eq_ofNat_of_zero_le (show 0 ≤ j by omega)
      cases o with
      | none => exact absurd (show ((obits none).count x : Int) ≤ J by simp [obits]) h1
      | some T => exact tSelect_core h hS hm hTab hN J x (by simp only [obits] at h1; omega)

end Go.Proofs.YtacoeohmdngnkaaDoor

namespace Go.Proofs.YtacoeohmdngnkaaDoor
set_option linter.unusedVariables false
set_option linter.unusedSimpArgs false
open Go.RowKit

def obl : Option TT → List Nat
  | none => []
  | some T => T.bl
def osz : Option TT → Nat
  | none => 0
  | some T => T.st.size
def ost : Option TT → Option ST
  | none => none
  | some T => some T.st
def OOwn (A : Ar) : Option TT → Prop
  | none => True
  | some T => Own A T
/-- The bits of a tree that may have no node. -/
def sbits : Option ST → List Bool
  | none => []
  | some t => t.bits
def shigh : Option ST → Nat
  | none => 0
  | some t => t.high
def Good : Option ST → Prop
  | none => True
  | some t => t.Avl ∧ t.Root
theorem obits_st (O : Option TT) : obits O = sbits (ost O) := by cases O <;> rfl

/-- Block p holds the head of a tree of bits, of blocks S; of how many nodes numbers were made, how many the last call looked at. -/
structure TreeIs (S : Nat → Prop) (w : World) (p : Nat) (o : Option ST) (made : Nat) (vis : Int) : Prop where
  ex : ∃ (C : Nat → Prop) (A : Ar) (xs : List Nd) (O : Option TT), Head w p C A xs (onum O) vis ∧ OSub w xs O ∧ OOwn A O ∧ xs.length = A.T.length ∧ A.live = osz O ∧ A.M = 268435456 ∧ ost O = o ∧ made = A.T.length ∧ (∀ k, S k ↔ C k ∨ k ∈ obl O)
  good : Good o
  len : (sbits o).length ≤ 2147483648

section
variable {S : Nat → Prop} {w w' : World} {p made : Nat} {o : Option ST} {vis : Int}
theorem TreeIs.lt (h : TreeIs S w p o made vis) : ∀ k, S k → k < w.heap.size := by
  obtain ⟨C, A, xs, O, h1, h2, _, _, _, _, _, _, h9⟩ := h.ex
  intro k hk
  rcases (h9 k).1 hk with hk | hk
  · exact h1.lt k hk
  · cases O with
    | none => simp [obl] at hk
    | some T => exact (Sub.type h2 hk).lt
theorem TreeIs.self (h : TreeIs S w p o made vis) : S p := by
  obtain ⟨C, A, xs, O, h1, h2, _, _, _, _, _, _, h9⟩ := h.ex
  exact (h9 p).2 (Or.inl h1.self)
theorem TreeIs.chg {S' : Nat → Prop} (h : TreeIs S w p o made vis) (hc : Chg S' w w') (hd : ∀ k, S k → ¬ S' k) : TreeIs S w' p o made vis := by
  obtain ⟨C, A, xs, O, h1, h2, h3, h4, h5, h6, h7, h8, h9⟩ := h.ex
  refine ⟨⟨C, A, xs, O, h1.chg hc (fun k hk => hd k ((h9 k).2 (Or.inl hk))), ?_, h3, h4, h5, h6, h7, h8, h9⟩, h.good, h.len⟩
  cases O with
  | none => trivial
  | some T => exact Sub.same h2 hc (fun q hq => hd q ((h9 q).2 (Or.inr hq)))
theorem TreeIs.below (h : TreeIs S w p o made vis) (hb : Below w.heap.size w w') : TreeIs S w' p o made vis := h.chg (S' := fun _ => False) (Chg.of_below hb) (fun _ _ h => h)
/-- All sums are small. -/
theorem good_small {t : ST} (hr : t.Root) (hl : t.bits.length ≤ 2147483648) : t.size ≤ 134217729 ∧ t.high < 134217730 := by
  have h1 := hr.len
  have h2 := t.size_leaves
  have h3 := t.high_size
  have h4 := t.leaves_pos
  omega
end

end Go.Proofs.YtacoeohmdngnkaaDoor

namespace Go.Proofs.YtacoeohmdngnkaaDoor
set_option linter.unusedVariables false
set_option linter.unusedSimpArgs false

/-- The bits of the leaves from one on, below another one, of so many. -/
def segL (L : List Bool) (m f t : Nat) : List Bool := (L.take (L.length * t / m)).drop (L.length * f / m)

theorem seg_le {n m f t : Nat} (h : f ≤ t) : n * f / m ≤ n * t / m := Nat.div_le_div_right (Nat.mul_le_mul_left n h)
theorem seg_top {n m t : Nat} (h : t ≤ m) (hm : 0 < m) : n * t / m ≤ n :=
  Nat.div_le_of_le_mul (by rw [Nat.mul_comm m n]; exact Nat.mul_le_mul_left n h)
theorem segL_len {L : List Bool} {m f t : Nat} (h1 : f ≤ t) (h2 : t ≤ m) (hm : 0 < m) : (segL L m f t).length = L.length * t / m - L.length * f / m := by
  have := seg_top (n := L.length) h2 hm
  simp only [segL, List.length_drop, List.length_take]; omega
theorem segL_cat {L : List Bool} {m f k t : Nat} (h1 : f ≤ k) (h2 : k ≤ t) (h3 : t ≤ m) (hm : 0 < m) : segL L m f k ++ segL L m k t = segL L m f t := by
  have a1 := seg_le (n := L.length) (m := m) h1
  have a2 := seg_le (n := L.length) (m := m) h2
  have a3 := seg_top (n := L.length) h3 hm
  unfold segL
  generalize L.length * f / m = x at *
  generalize L.length * k / m = y at *
  generalize L.length * t / m = z at *
  have e1 : L.take z = L.take y ++ (L.take z).drop y := by
    have := (List.take_append_drop y (L.take z)).symm
    rwa [List.take_take, Nat.min_eq_left a2] at this
  conv => rhs; rw [e1]
  rw [List.drop_append_of_le_length (by rw [List.length_take]; omega)]
theorem segL_all {L : List Bool} {m : Nat} (hm : 0 < m) : segL L m 0 m = L := by
  simp only [segL, Nat.mul_zero, Nat.zero_div, List.drop_zero, Nat.mul_div_cancel _ hm, List.take_length]

/-- How many a leaf has. -/
theorem seg_step_le {n m f : Nat} (hn : n ≤ 128 * m) (hm : 0 < m) : n * (f + 1) / m ≤ n * f / m + 128 := by
  have h : n * (f + 1) ≤ n * f + 128 * m := by rw [Nat.mul_add, Nat.mul_one]; omega
  calc n * (f + 1) / m ≤ (n * f + 128 * m) / m := Nat.div_le_div_right h
    _ = n * f / m + 128 := Nat.add_mul_div_right _ _ hm
theorem seg_step_ge {n m f : Nat} (hn : 64 * m ≤ n) (hm : 0 < m) : n * f / m + 64 ≤ n * (f + 1) / m := by
  have h : n * f + 64 * m ≤ n * (f + 1) := by rw [Nat.mul_add, Nat.mul_one]; omega
  calc n * f / m + 64 = (n * f + 64 * m) / m := (Nat.add_mul_div_right _ _ hm).symm
    _ ≤ n * (f + 1) / m := Nat.div_le_div_right h

/-- What build makes. -/
structure Bld (L : List Bool) (m f t : Nat) (T : ST) : Prop where
  bits : T.bits = segL L m f t
  avl : T.Avl
  leaves : T.leaves = t - f
  up : t - f ≤ 2 ^ T.high
  low : (T.high = 0 ∧ t - f = 1) ∨ (∃ h, T.high = h + 1 ∧ 2 ^ h < t - f)
  le : T.Le
  fill : 2 ≤ m → T.Fill

theorem bld_leaf {L : List Bool} {m f t : Nat} (hm : m = (L.length + 127) / 128) (h : t - f = 1) (ht : t ≤ m) : Bld L m f t (.leaf (segL L m f t)) := by
  have e : t = f + 1 := by omega
  subst e
  have hp : 0 < m := by omega
  have hl := segL_len (L := L) (m := m) (f := f) (t := f + 1) (by omega) ht hp
  have h1 := seg_step_le (n := L.length) (m := m) (f := f) (by omega) hp
  refine ⟨rfl, trivial, by simp [ST.leaves], by simp [ST.high], Or.inl ⟨rfl, h⟩, ?_, ?_⟩
  · change _ ≤ 128
    rw [hl]; omega
  · intro h2
    have h3 := seg_step_ge (n := L.length) (m := m) (f := f) (by omega) hp
    change 32 ≤ _ ∧ _ ≤ 128
    rw [hl]; omega

theorem bld_pair {L : List Bool} {m f t : Nat} {a b : ST} (hp : 0 < m) (h : 2 ≤ t - f) (ht : t ≤ m) (ha : Bld L m f ((f + t) / 2) a) (hb : Bld L m ((f + t) / 2) t b) : Bld L m f t (.pair a b) := by
  obtain ⟨k, hk⟩ : ∃ k, k = (f + t) / 2 := ⟨_, rfl⟩
  rw [← hk] at ha hb
  have hka : k - f = (t - f) / 2 := by omega
  have hkb : t - k = (t - f + 1) / 2 := by omega
  have k1 : f ≤ k := by omega
  have k2 : k ≤ t := by omega
  have k3 : k - f + (t - k) = t - f := by omega
  obtain ⟨d, hd⟩ : ∃ d, d = t - f := ⟨_, rfl⟩
  rw [← hd] at hka hkb h
  have ua := ha.up; have ub := hb.up; have la := ha.low; have lb := hb.low
  rw [hka] at ua la
  rw [hkb] at ub lb
  -- the sides' heights
  have low_lt : ∀ {x h : Nat}, ((h = 0 ∧ x = 1) ∨ ∃ g, h = g + 1 ∧ 2 ^ g < x) → ∀ g, x ≤ 2 ^ g → h ≤ g := by
    rintro x h (⟨rfl, _⟩ | ⟨q, rfl, hq⟩) g hg
    · omega
    · have : 2 ^ q < 2 ^ g := Nat.lt_of_lt_of_le hq hg
      have := (Nat.pow_lt_pow_iff_right (a := 2) (by omega)).1 this
      omega
  have hab : a.high ≤ b.high := low_lt la _ (by omega)
  have hba : b.high ≤ a.high + 1 := low_lt lb _ (by rw [Nat.pow_succ]; omega)
  have hh : (ST.pair a b).high = b.high + 1 := by simp only [ST.high]; omega
  refine ⟨?_, ⟨ha.avl, hb.avl, by omega, hba⟩, ?_, ?_, Or.inr ⟨b.high, hh, ?_⟩, ⟨ha.le, hb.le⟩, fun h2 => ⟨ha.fill h2, hb.fill h2⟩⟩
  · change a.bits ++ b.bits = _
    rw [ha.bits, hb.bits]
    exact segL_cat k1 k2 ht hp
  · change a.leaves + b.leaves = _
    rw [ha.leaves, hb.leaves]; exact k3
  · rw [hh, Nat.pow_succ]; omega
  · rcases lb with ⟨h0, h1⟩ | ⟨g, hg, h1⟩
    · rw [h0]; simp; omega
    · rw [hg, Nat.pow_succ]; omega

/-- The whole tree. -/
theorem bld_root {L : List Bool} {m : Nat} {T : ST} (hm : m = (L.length + 127) / 128) (h0 : 0 < m) (h : Bld L m 0 m T) : T.bits = L ∧ T.Avl ∧ T.Root := by
  have hb : T.bits = L := by rw [h.bits, segL_all h0]
  refine ⟨hb, h.avl, ?_⟩
  rcases Nat.lt_or_ge m 2 with h1 | h1
  · cases T with
    | leaf l =>
      have hl := h.le
      refine ⟨?_, hl⟩
      have : l.length = L.length := congrArg List.length hb
      omega
    | pair a b =>
      exfalso
      have h2 := h.leaves
      have := a.leaves_pos; have := b.leaves_pos
      simp only [ST.leaves] at h2; omega
  · exact (h.fill h1).root

end Go.Proofs.YtacoeohmdngnkaaDoor
