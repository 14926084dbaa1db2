/- Lemmas and contracts under the claims of this seat: Trees of bits in memory: nodes and rows of them, subtrees, the head of a tree. Contracts of package tree that read: Len, Ones, has, like. Contracts of package tree that go down: Get, Rank, Select. Contract of package tree: fix. General lemmas, of no program: makes, own rows told by a function of the place, quiet calls. Contract of package tree: fix, of a node with children. Contracts of package tree: a node counted anew, high, turnRight, turnLeft. -/
import Derived.Test.YtcppgpjodfeigaaDoorZw1
import Derived.Test.YtcppgpjodfeigaaDoorZw2
import Derived.Deep.QuietTactic
import Derived.BigQuiet
import Derived.Deep.LoopGhost
import Derived.IntWalk
import Derived.Deep.DeepCutAuto
import Derived.Deep.CutBlock
import Derived.Deep.CutRange
import Derived.Laws.MakeOwn

namespace Go.Proofs.YtcppgpjodfeigaaDoor
set_option linter.unusedVariables false
set_option linter.unusedSimpArgs false
open Go.RowKit

/-- A node. -/
structure Nd where
  left : Int
  right : Int
  height : Int
  n : Int
  ones : Int
  ln : Int
  lones : Int
  b : Option Nat
def ptrN (b : Option Nat) : Value := .pointer (b.map fun q => ⟨q, 0, none⟩)
def Nd.cells (x : Nd) : List Value := [.int .i64 x.left, .int .i64 x.right, .int .i64 x.height, .int .i64 x.n, .int .i64 x.ones, .int .i64 x.ln, .int .i64 x.lones, ptrN x.b]
def cellsN : List Nd → List Value
  | [] => []
  | x :: xs => x.cells ++ cellsN xs
theorem cellsN_len : ∀ xs : List Nd, (cellsN xs).length = xs.length * 8
  | [] => rfl
  | x :: xs => by simp only [cellsN, List.length_append, List.length_cons, cellsN_len xs]; simp [Nd.cells]; omega
theorem cellsN_get : ∀ (xs : List Nd) (k i : Nat) (x : Nd), xs[k]? = some x → i < 8 → (cellsN xs)[k * 8 + i]? = x.cells[i]?
  | [], k, i, x, h, _ => by simp at h
  | y :: xs, 0, i, x, h, hi => by
    simp at h; subst h
    simp only [cellsN, Nat.zero_mul, Nat.zero_add]
    rw [List.getElem?_append_left (by simpa [Nd.cells] using hi)]
  | y :: xs, k + 1, i, x, h, hi => by
    simp only [cellsN]
    rw [List.getElem?_append_right (by simp [Nd.cells]; omega), show (k + 1) * 8 + i - y.cells.length = k * 8 + i by simp [Nd.cells]; omega]
    exact cellsN_get xs k i x (by simpa using h) hi
theorem cellsN_set : ∀ (xs : List Nd) (k i : Nat) (x x' : Nd) (v : Value), xs[k]? = some x → i < 8 → x.cells.set i v = x'.cells → (cellsN xs).set (k * 8 + i) v = cellsN (xs.set k x')
  | [], k, i, x, x', v, h, _, _ => by simp at h
  | y :: xs, 0, i, x, x', v, h, hi, he => by
    simp at h; subst h
    simp only [cellsN, Nat.zero_mul, Nat.zero_add, List.set_cons_zero]
    rw [List.set_append_left _ _ (by simpa [Nd.cells] using hi), he]
  | y :: xs, k + 1, i, x, x', v, h, hi, he => by
    simp only [cellsN, List.set_cons_succ]
    rw [List.set_append_right _ _ (by simp [Nd.cells]; omega), show (k + 1) * 8 + i - y.cells.length = k * 8 + i by simp [Nd.cells]; omega]
    rw [cellsN_set xs k i x x' v (by simpa using h) hi he]
theorem cellsN_app (xs ys : List Nd) : cellsN (xs ++ ys) = cellsN xs ++ cellsN ys := by
  induction xs with
  | nil => rfl
  | cons x xs ih => simp [cellsN, ih]

/-- Block k holds cells of a type. -/
def TypeAt (w : World) (k : Nat) (T : TypeId) : Prop := ∃ cs, w.heap[k]? = some (.cells cs T (0, 0))
theorem TypeAt.ne {w : World} {k j : Nat} {T U : TypeId} (h : TypeAt w k T) (g : TypeAt w j U) (hn : T ≠ U) : k ≠ j := by
  rintro rfl
  obtain ⟨cs, h⟩ := h
  obtain ⟨ds, g⟩ := g
  rw [h] at g
  injection g with g
  injection g with _ g
  exact hn g
theorem TypeAt.lt {w : World} {k : Nat} {T : TypeId} (h : TypeAt w k T) : k < w.heap.size := by
  obtain ⟨cs, h⟩ := h
  exact (Array.getElem?_eq_some_iff.1 h).1
theorem TypeAt.chg {S : Nat → Prop} {w w' : World} {k : Nat} {T : TypeId} (h : TypeAt w k T) (hc : Chg S w w') (hn : ¬ S k) : TypeAt w' k T := by
  obtain ⟨cs, h⟩ := h
  exact ⟨cs, hc.heap h hn⟩
theorem own_type {w : World} {base : Nat} {e : TypeId} {sz n c g : Nat} {xs : List Value} (h : w.ownsRow base e sz (.slice (some ⟨g, 0, none⟩) n c) n xs) : TypeAt w g e := by
  rcases h.2 with ⟨h, _⟩ | ⟨g', cap, cur, hv, _, hg, _⟩
  · cases h
  · injection hv with e1 _ e3
    injection e1 with e1
    injection e1 with e1 _ _
    subst e1
    exact ⟨_, hg⟩
theorem IsArena.types {w : World} {p : Nat} {S : Nat → Prop} {a : Ar} (h : IsArena w p S a) {k : Nat} (hk : S k) : TypeAt w k 110 ∨ TypeAt w k 4 ∨ TypeAt w k 3 := by
  obtain ⟨ta, tc, fa, fc, _, _, _, _, hp, ht, hf, _, _, _, _, hS, _⟩ := h.see
  rcases (hS k).1 hk with rfl | rfl | rfl
  · exact Or.inl ⟨_, hp⟩
  · exact Or.inr (Or.inl (own_type ht))
  · exact Or.inr (Or.inr (own_type hf))
theorem IsBlock.type {w : World} {p : Nat} {l : List Bool} (h : IsBlock w p l) : TypeAt w p 114 := ⟨_, h.2⟩

/-- Block p holds the head of a tree: its arena, its row of nodes, the first one's number, how many the last call looked at; these blocks are C. -/
structure Head (w : World) (p : Nat) (C : Nat → Prop) (A : Ar) (xs : List Nd) (root vis : Int) : Prop where
  ex : ∃ ap SA ra rc, w.heap[p]? = some (.cells #[.pointer (some ⟨ap, 0, none⟩), .slice ra xs.length rc, .int .i64 root, .int .i64 vis] 83 (0, 0)) ∧
    IsArena w ap SA A ∧ w.ownsRow 0 88 8 (.slice ra xs.length rc) xs.length (cellsN xs) ∧ (∀ k, C k ↔ k = p ∨ SA k ∨ ra = some ⟨k, 0, none⟩)

/-- What a step on a tree's own blocks leaves. -/
structure HStep (w w' : World) (C C' : Nat → Prop) : Prop where
  chg : Chg C w w'
  new : ∀ k, C' k → C k ∨ w.heap.size ≤ k

section
variable {w w' w1 w2 : World} {p : Nat} {C C' C'' : Nat → Prop} {A : Ar} {xs : List Nd} {root vis : Int}
theorem HStep.refl : HStep w w C C := ⟨Chg.refl, fun _ h => Or.inl h⟩
theorem HStep.trans (h : HStep w w1 C C') (g : HStep w1 w2 C' C'') : HStep w w2 C C'' :=
  ⟨h.chg.trans g.chg h.new, fun k hk => (g.new k hk).elim (h.new k) (fun h' => Or.inr (Nat.le_trans h.chg.size h'))⟩

theorem own_addr {base : Nat} {e : TypeId} {sz n c : Nat} {a : Option Addr} {ys : List Value} (h : w.ownsRow base e sz (.slice a n c) n ys) : ∀ ad, a = some ad → ∃ g, ad = (⟨g, 0, none⟩ : Addr) := by
  obtain ⟨x, c', hv, _, hb⟩ := own_slice h
  injection hv with e1 _ _
  subst e1
  intro ad h; obtain ⟨g, e, _⟩ := hb ad h; exact ⟨g, e⟩
theorem ownBlock_addr {a : Option Addr} {n c k : Nat} (h : ∀ ad, a = some ad → ∃ g, ad = (⟨g, 0, none⟩ : Addr)) : (Value.slice a n c).ownBlock = some k ↔ a = some ⟨k, 0, none⟩ := by
  cases a with
  | none => simp [Value.ownBlock]
  | some ad => obtain ⟨g, rfl⟩ := h ad rfl; simp [Value.ownBlock]

theorem Head.types (h : Head w p C A xs root vis) {k : Nat} (hk : C k) : TypeAt w k 83 ∨ TypeAt w k 88 ∨ TypeAt w k 110 ∨ TypeAt w k 4 ∨ TypeAt w k 3 := by
  obtain ⟨ap, SA, ra, rc, hp, ha, ho, hC⟩ := h.ex
  rcases (hC k).1 hk with rfl | hk | rfl
  · exact Or.inl ⟨_, hp⟩
  · exact Or.inr (Or.inr (ha.types hk))
  · exact Or.inr (Or.inl (own_type ho))
theorem Head.lt (h : Head w p C A xs root vis) : ∀ k, C k → k < w.heap.size := by
  intro k hk
  rcases h.types hk with h | h | h | h | h <;> exact h.lt
theorem Head.self (h : Head w p C A xs root vis) : C p := by
  obtain ⟨ap, SA, ra, rc, hp, ha, ho, hC⟩ := h.ex
  exact (hC p).2 (Or.inl rfl)
theorem Head.notBlk (h : Head w p C A xs root vis) {q : Nat} (hq : TypeAt w q 114) : ¬ C q := by
  intro hc
  rcases h.types hc with g | g | g | g | g <;> exact g.ne hq (by decide) rfl
theorem Head.drewN (h : Head w p C A xs root vis) (n : Nat) : Head (w.drewN n) p C A xs root vis := by
  obtain ⟨ap, SA, ra, rc, hp, ha, ho, hC⟩ := h.ex
  exact ⟨ap, SA, ra, rc, hp, ha.chg (Chg.refl.drewN n) (S' := fun _ => False) (fun _ _ h => h), ho, hC⟩
theorem Head.chg {S : Nat → Prop} (h : Head w p C A xs root vis) (hc : Chg S w w') (hd : ∀ k, C k → ¬ S k) : Head w' p C A xs root vis := by
  obtain ⟨ap, SA, ra, rc, hp, ha, ho, hC⟩ := h.ex
  exact ⟨ap, SA, ra, rc, hc.heap hp (hd p ((hC p).2 (Or.inl rfl))), ha.chg hc (fun k hk => hd k ((hC k).2 (Or.inr (Or.inl hk)))),
    hc.own ho (fun k hk => hd k ((hC k).2 (Or.inr (Or.inr ((ownBlock_addr (own_addr ho)).1 hk))))), hC⟩
theorem Head.below (h : Head w p C A xs root vis) (hb : Below w.heap.size w w') : Head w' p C A xs root vis :=
  h.chg (S := fun _ => False) (Chg.of_below hb) (fun _ _ h => h)

/-- The head's cells. -/
theorem Head.cells (h : Head w p C A xs root vis) : (∃ ap, w.cell? ⟨p, 0, none⟩ = some (.pointer (some ⟨ap, 0, none⟩))) ∧ w.cell? ⟨p, 2, none⟩ = some (.int .i64 root) ∧ w.cell? ⟨p, 3, none⟩ = some (.int .i64 vis) ∧ (∀ j, w.frozen? ⟨p, j, none⟩ = false) := by
  obtain ⟨ap, SA, ra, rc, hp, ha, ho, hC⟩ := h.ex
  exact ⟨⟨ap, by rw [cell_of_row w p 0 _ _ _ hp]; rfl⟩, by rw [cell_of_row w p 2 _ _ _ hp]; rfl, by rw [cell_of_row w p 3 _ _ _ hp]; rfl, fun j => frozen_of_row w p j _ _ hp⟩

/-- The row of nodes, where it is not empty: its block, its cells. -/
theorem Head.row (h : Head w p C A xs root vis) (hx : 0 < xs.length) : ∃ g rc cur, w.cell? ⟨p, 1, none⟩ = some (.slice (some ⟨g, 0, none⟩) xs.length rc) ∧ g ≠ p ∧ C g ∧ xs.length ≤ rc ∧ rc ≤ maxLen ∧
    w.heap[g]? = some (.cells cur 88 (0, 0)) ∧ cur.size = rc * 8 ∧ cur.toList.take (xs.length * 8) = cellsN xs := by
  obtain ⟨ap, SA, ra, rc, hp, ha, ho, hC⟩ := h.ex
  rcases ho.2 with ⟨_, h0⟩ | ⟨g, cap, cur, hv, _, hg, h1, h2, h3, h4⟩
  · omega
  · injection hv with e1 _ e3
    subst e1; subst e3
    exact ⟨g, rc, cur, by rw [cell_of_row w p 1 _ _ _ hp]; rfl, TypeAt.ne ⟨_, hg⟩ ⟨_, hp⟩ (by decide), (hC g).2 (Or.inr (Or.inr rfl)), h1, h2, hg, h3, h4⟩

/-- A node's cells. -/
theorem Head.node (h : Head w p C A xs root vis) {g n rc : Nat} (hg : w.cell? ⟨p, 1, none⟩ = some (.slice (some ⟨g, 0, none⟩) n rc)) {k : Nat} {x : Nd} (hx : xs[k]? = some x) :
    (∀ i v, x.cells[i]? = some v → w.cell? ⟨g, k * 8 + i, none⟩ = some v) ∧ (∀ j, w.frozen? ⟨g, j, none⟩ = false) ∧ k < xs.length ∧ n = xs.length ∧ g ≠ p ∧ C g := by
  have hk : k < xs.length := (List.getElem?_eq_some_iff.1 hx).1
  obtain ⟨g', rc', cur, h1, h2, h3, h4, h5, h6, h7, h8⟩ := h.row (by omega)
  rw [hg] at h1
  injection h1 with h1
  injection h1 with e1 e2 e3
  injection e1 with e1
  injection e1 with e1 _ _
  subst e1; subst e2; subst e3
  refine ⟨fun i v hv => ?_, fun j => frozen_of_row w g j _ _ h6, hk, rfl, h2, h3⟩
  have hi : i < 8 := by have := (List.getElem?_eq_some_iff.1 hv).1; simpa [Nd.cells] using this
  rw [cell_of_row w g _ _ _ _ h6, ← Array.getElem?_toList]
  have : (cur.toList.take (xs.length * 8))[k * 8 + i]? = cur.toList[k * 8 + i]? := by rw [List.getElem?_take, if_pos (by omega)]
  rw [← this, h8, cellsN_get xs k i x hx hi, hv]

theorem Head.set3 (h : Head w p C A xs root vis) (v : Int) : Head (w.setCell ⟨p, 3, none⟩ (.int .i64 v)) p C A xs root v := by
  obtain ⟨ap, SA, ra, rc, hp, ha, ho, hC⟩ := h.ex
  have hc : Chg (fun k => k = p) w (w.setCell ⟨p, 3, none⟩ (.int .i64 v)) := Chg.refl.setCell (S := fun k => k = p) ⟨p, 3, none⟩ (Or.inl rfl) _
  have hT : TypeAt w p 83 := ⟨_, hp⟩
  refine ⟨ap, SA, ra, rc, heap_setCell_same w p 3 _ _ (.int .i64 v) hp, ha.chg hc (fun k hk e => ?_), hc.own ho (fun k hk e => ?_), hC⟩
  · subst e
    rcases ha.types hk with g | g | g <;> exact g.ne hT (by decide) rfl
  · subst e
    rw [(ownBlock_addr (own_addr ho)).1 hk] at ho
    exact (own_type ho).ne hT (by decide) rfl
theorem Head.set2 (h : Head w p C A xs root vis) (v : Int) : Head (w.setCell ⟨p, 2, none⟩ (.int .i64 v)) p C A xs v vis := by
  obtain ⟨ap, SA, ra, rc, hp, ha, ho, hC⟩ := h.ex
  have hc : Chg (fun k => k = p) w (w.setCell ⟨p, 2, none⟩ (.int .i64 v)) := Chg.refl.setCell (S := fun k => k = p) ⟨p, 2, none⟩ (Or.inl rfl) _
  have hT : TypeAt w p 83 := ⟨_, hp⟩
  refine ⟨ap, SA, ra, rc, heap_setCell_same w p 2 _ _ (.int .i64 v) hp, ha.chg hc (fun k hk e => ?_), hc.own ho (fun k hk e => ?_), hC⟩
  · subst e
    rcases ha.types hk with g | g | g <;> exact g.ne hT (by decide) rfl
  · subst e
    rw [(ownBlock_addr (own_addr ho)).1 hk] at ho
    exact (own_type ho).ne hT (by decide) rfl
theorem Head.chg3 (h : Head w p C A xs root vis) (v : Value) (j : Nat) : Chg C w (w.setCell ⟨p, j, none⟩ v) := Chg.refl.setCell _ (Or.inl h.self) _

/-- One cell of a node is written. -/
theorem Head.put (h : Head w p C A xs root vis) {g n rc : Nat} (hg : w.cell? ⟨p, 1, none⟩ = some (.slice (some ⟨g, 0, none⟩) n rc)) {k i : Nat} {x x' : Nd} {v : Value} (hx : xs[k]? = some x) (hi : i < 8) (he : x.cells.set i v = x'.cells) :
    Head (w.setCell ⟨g, k * 8 + i, none⟩ v) p C A (xs.set k x') root vis ∧ Chg (fun b => b = g) w (w.setCell ⟨g, k * 8 + i, none⟩ v) ∧ (w.setCell ⟨g, k * 8 + i, none⟩ v).cell? ⟨p, 1, none⟩ = some (.slice (some ⟨g, 0, none⟩) n rc) := by
  obtain ⟨_, _, hk, rfl, hgp, hCg⟩ := h.node hg hx
  obtain ⟨ap, SA, ra, rc', hp, ha, ho, hC⟩ := h.ex
  have e0 : ra = some ⟨g, 0, none⟩ ∧ rc' = rc := by
    rw [cell_of_row w p 1 _ _ _ hp] at hg
    have hg : some (Value.slice ra xs.length rc') = some (.slice (some ⟨g, 0, none⟩) xs.length rc) := hg
    injection hg with hg
    injection hg with e1 _ e3
    exact ⟨e1, e3⟩
  obtain ⟨rfl, rfl⟩ := e0
  have hc : Chg (fun k => k = g) w (w.setCell ⟨g, k * 8 + i, none⟩ v) := Chg.refl.setCell (S := fun k => k = g) ⟨g, k * 8 + i, none⟩ (Or.inl rfl) _
  have hp' := hc.heap hp (fun e => hgp e.symm)
  refine ⟨⟨ap, SA, some ⟨g, 0, none⟩, rc', ?_, ha.chg hc (fun j hj e => ?_), ?_, hC⟩, hc, ?_⟩
  · rw [List.length_set]; exact hp'
  · subst e
    have hT := own_type ho
    rcases ha.types hj with g | g | g <;> exact g.ne hT (by decide) rfl
  · rcases ho.2 with ⟨h0, _⟩ | ⟨g', cap, cur, hv, h0, hgg, h1, h2, h3, h4⟩
    · cases h0
    · injection hv with e1 _ e3
      injection e1 with e1
      injection e1 with e1 _ _
      subst e1; subst e3
      refine ⟨by rw [cellsN_len], .inr ⟨g, rc', _, by rw [List.length_set], Nat.zero_le _, heap_setCell_same w g (k * 8 + i) cur _ v hgg, by rw [List.length_set]; exact h1, h2, by simpa using h3, ?_⟩⟩
      rw [List.length_set, Array.toList_setIfInBounds, List.take_set, h4, cellsN_set xs k i x x' v hx hi he]
  · rw [cell_of_row _ p 1 _ _ _ hp']; rfl

/-- The row of nodes lies in block b. -/
def RowB (w : World) (p b : Nat) : Prop := ∃ n c, w.cell? ⟨p, 1, none⟩ = some (.slice (some ⟨b, 0, none⟩) n c)
theorem RowB.eq {p b g n c : Nat} (hg : w.cell? ⟨p, 1, none⟩ = some (.slice (some ⟨g, 0, none⟩) n c)) (h : RowB w p b) : b = g := by
  obtain ⟨n', c', h⟩ := h
  rw [hg] at h
  injection h with h
  injection h with h _ _
  injection h with h
  injection h with h _ _
  exact h.symm
theorem Head.rowC (h : Head w p C A xs root vis) {b : Nat} (hb : RowB w p b) : C b := by
  obtain ⟨n, c, hb⟩ := hb
  obtain ⟨ap, SA, ra, rc, hp, ha, ho, hC⟩ := h.ex
  rw [cell_of_row w p 1 _ _ _ hp] at hb
  have hb : some (Value.slice ra xs.length rc) = some (.slice (some ⟨b, 0, none⟩) n c) := hb
  injection hb with hb
  injection hb with e1 _ _
  exact (hC b).2 (Or.inr (Or.inr e1))
theorem Head.rowNe (h : Head w p C A xs root vis) : ¬ RowB w p p := by
  rintro ⟨n, c, hb⟩
  obtain ⟨ap, SA, ra, rc, hp, ha, ho, hC⟩ := h.ex
  rw [cell_of_row w p 1 _ _ _ hp] at hb
  have hb : some (Value.slice ra xs.length rc) = some (.slice (some ⟨p, 0, none⟩) n c) := hb
  injection hb with hb
  injection hb with e1 _ _
  subst e1
  exact (own_type ho).ne ⟨_, hp⟩ (by decide) rfl
/-- Behind a step that changes the row alone the head is as it was. -/
theorem Head.rowKeep (h : Head w p C A xs root vis) (hc : Chg (RowB w p) w w') (j : Nat) : w'.cell? ⟨p, j, none⟩ = w.cell? ⟨p, j, none⟩ :=
  World.cell?_of_block (hc.block p (h.lt p h.self) h.rowNe)
theorem Head.chgRow (h : Head w p C A xs root vis) (hc : Chg (RowB w p) w w') : Chg C w w' := hc.mono (fun b hb => h.rowC hb)

/-- A step of the arena. -/
theorem Head.arena (h : Head w p C A xs root vis) : ∃ ap SA, w.cell? ⟨p, 0, none⟩ = some (.pointer (some ⟨ap, 0, none⟩)) ∧ IsArena w ap SA A ∧ (∀ k, SA k → C k) ∧
    ∀ w' A', ArStep w w' ap SA A' → ∃ C', Head w' p C' A' xs root vis ∧ HStep w w' C C' := by
  obtain ⟨ap, SA, ra, rc, hp, ha, ho, hC⟩ := h.ex
  have hT : TypeAt w p 83 := ⟨_, hp⟩
  have hsub : ∀ k, SA k → C k := fun k hk => (hC k).2 (Or.inr (Or.inl hk))
  refine ⟨ap, SA, by rw [cell_of_row w p 0 _ _ _ hp]; rfl, ha, hsub, ?_⟩
  rintro w' A' ⟨SA', ha', hc, hn⟩
  refine ⟨fun k => k = p ∨ SA' k ∨ ra = some ⟨k, 0, none⟩, ⟨ap, SA', ra, rc, hc.heap hp (fun hk => ?_), ha', hc.own ho (fun k hk hs => ?_), fun k => Iff.rfl⟩, hc.mono hsub, ?_⟩
  · rcases ha.types hk with g | g | g <;> exact g.ne hT (by decide) rfl
  · rw [(ownBlock_addr (own_addr ho)).1 hk] at ho
    have hT := own_type ho
    rcases ha.types hs with g | g | g <;> exact g.ne hT (by decide) rfl
  · intro k hk
    rcases hk with rfl | hk | hk
    · exact Or.inl ((hC _).2 (Or.inl rfl))
    · exact (hn k hk).imp (hsub k) id
    · exact Or.inl ((hC k).2 (Or.inr (Or.inr hk)))
end

/-- A tree of bits, with the nodes' numbers and the leaves' blocks. -/
inductive TT where
  | leaf (k q : Nat) (l : List Bool)
  | pair (k : Nat) (a b : TT)
def TT.num : TT → Nat
  | .leaf k _ _ => k
  | .pair k _ _ => k
def TT.st : TT → ST
  | .leaf _ _ l => .leaf l
  | .pair _ a b => .pair a.st b.st
def TT.nums : TT → List Nat
  | .leaf k _ _ => [k]
  | .pair k a b => k :: (a.nums ++ b.nums)
def TT.bl : TT → List Nat
  | .leaf _ q _ => [q]
  | .pair _ a b => a.bl ++ b.bl
/-- The node that is the first of a tree. -/
def TT.nd : TT → Nd
  | .leaf _ q l => ⟨-1, -1, 0, l.length, l.count true, 0, 0, some q⟩
  | .pair _ a b => ⟨a.num, b.num, (ST.pair a.st b.st).high, a.st.bits.length + b.st.bits.length, a.st.bits.count true + b.st.bits.count true, a.st.bits.length, a.st.bits.count true, none⟩
def Sub (w : World) (xs : List Nd) : TT → Prop
  | .leaf k q l => xs[k]? = some (TT.leaf k q l).nd ∧ IsBlock w q l
  | .pair k a b => xs[k]? = some (TT.pair k a b).nd ∧ Sub w xs a ∧ Sub w xs b
theorem TT.num_mem (T : TT) : T.num ∈ T.nums := by cases T <;> simp [TT.num, TT.nums]
theorem TT.nums_size (T : TT) : T.nums.length = T.st.size := by
  induction T with
  | leaf k q l => rfl
  | pair k a b iha ihb => simp [TT.nums, TT.st, ST.size, iha, ihb]
theorem TT.nd_n (T : TT) : T.nd.n = T.st.bits.length := by cases T <;> simp [TT.nd, TT.st, ST.bits]
theorem TT.nd_ones (T : TT) : T.nd.ones = T.st.bits.count true := by cases T <;> simp [TT.nd, TT.st, ST.bits]
theorem TT.nd_high (T : TT) : T.nd.height = T.st.high := by cases T <;> simp [TT.nd, TT.st, ST.high]
section
variable {w w' : World} {xs xs' : List Nd} {T : TT}
theorem Sub.root (h : Sub w xs T) : xs[T.num]? = some T.nd := by
  cases T with
  | leaf k q l => exact h.1
  | pair k a b => exact h.1
theorem Sub.keep (h : Sub w xs T) (hx : ∀ k ∈ T.nums, xs'[k]? = xs[k]?) (hw : ∀ q ∈ T.bl, w'.heap[q]? = w.heap[q]?) : Sub w' xs' T := by
  induction T with
  | leaf k q l => exact ⟨(hx k (by simp [TT.nums])).trans h.1, h.2.1, (hw q (by simp [TT.bl])).trans h.2.2⟩
  | pair k a b iha ihb =>
    refine ⟨(hx k (by simp [TT.nums])).trans h.1, iha h.2.1 (fun j hj => hx j (by simp [TT.nums, hj])) (fun q hq => hw q (by simp [TT.bl, hq])), ihb h.2.2 (fun j hj => hx j (by simp [TT.nums, hj])) (fun q hq => hw q (by simp [TT.bl, hq]))⟩
theorem Sub.type (h : Sub w xs T) {q : Nat} (hq : q ∈ T.bl) : TypeAt w q 114 := by
  induction T with
  | leaf k q' l => simp [TT.bl] at hq; subst hq; exact h.2.type
  | pair k a b iha ihb =>
    simp only [TT.bl, List.mem_append] at hq
    exact hq.elim (iha h.2.1) (ihb h.2.2)
theorem Sub.lt (h : Sub w xs T) {k : Nat} (hk : k ∈ T.nums) : k < xs.length := by
  induction T with
  | leaf k' q l => simp [TT.nums] at hk; subst hk; exact (List.getElem?_eq_some_iff.1 h.1).1
  | pair k' a b iha ihb =>
    simp only [TT.nums, List.mem_cons, List.mem_append] at hk
    rcases hk with rfl | hk | hk
    · exact (List.getElem?_eq_some_iff.1 h.1).1
    · exact iha h.2.1 hk
    · exact ihb h.2.2 hk
theorem Sub.le (h : Sub w xs T) : T.st.Le := by
  induction T with
  | leaf k q l => exact h.2.1
  | pair k a b iha ihb => exact ⟨iha h.2.1, ihb h.2.2⟩
/-- Behind a step that changes only blocks that are no leaves' blocks. -/
theorem Sub.chg {S : Nat → Prop} (h : Sub w xs T) (hc : Chg S w w') (hd : ∀ q ∈ T.bl, ¬ S q) (hx : ∀ k ∈ T.nums, xs'[k]? = xs[k]?) : Sub w' xs' T :=
  h.keep hx (fun q hq => hc.block q (h.type hq).lt (hd q hq))
theorem Sub.chgC {p : Nat} {C : Nat → Prop} {A : Ar} {root vis : Int} {ys : List Nd} (h : Sub w xs T) (hH : Head w p C A ys root vis) (hc : Chg C w w') (hx : ∀ k ∈ T.nums, xs'[k]? = xs[k]?) : Sub w' xs' T :=
  h.chg hc (fun q hq => hH.notBlk (h.type hq)) hx
theorem Sub.same {S : Nat → Prop} (h : Sub w xs T) (hc : Chg S w w') (hd : ∀ q ∈ T.bl, ¬ S q) : Sub w' xs T := h.chg hc hd (fun _ _ => rfl)
end
/-- How large a tree may be here: all sums stay small. -/
structure TT.Sm (T : TT) : Prop where
  len : T.st.bits.length ≤ 8589934592
  high : T.st.high ≤ 1000000000

end Go.Proofs.YtcppgpjodfeigaaDoor

namespace Go.Proofs.YtcppgpjodfeigaaDoor
set_option linter.unusedVariables false
set_option linter.unusedSimpArgs false
open Go.RowKit

theorem tLen_nil (w : World) : Calls Tryd.prog 24 #[.pointer none] w fun e w' => e = .returned (.int .i64 0) ∧ w = w' := by
  go_enter Tryd.func24, Tryd.ntmps24
  go_wp2_with fail
  go_ret
  exact ⟨rfl, rfl⟩
theorem tLen_none {w : World} {p : Nat} {C : Nat → Prop} {A : Ar} {xs : List Nd} {vis : Int} (h : Head w p C A xs (-1) vis) :
    Calls Tryd.prog 24 #[.pointer (some ⟨p, 0, none⟩)] w fun e w' => e = .returned (.int .i64 0) ∧ ∃ n, w' = w.drewN n := by
  obtain ⟨_, c2, _⟩ := h.cells
  clear h
  go_enter Tryd.func24, Tryd.ntmps24
  go_wp2_with fail
  go_ret
  exact ⟨rfl, 0, rfl⟩
theorem tLen_some {w : World} {p : Nat} {C : Nat → Prop} {A : Ar} {xs : List Nd} {vis : Int} {T : TT} (h : Head w p C A xs T.num vis) (hS : Sub w xs T) :
    Calls Tryd.prog 24 #[.pointer (some ⟨p, 0, none⟩)] w fun e w' => e = .returned (.int .i64 T.st.bits.length) ∧ ∃ n, w' = w.drewN n := by
  obtain ⟨_, c2, _⟩ := h.cells
  have hr := hS.root
  obtain ⟨g, rc, cur, c1, _⟩ := h.row (by have := (List.getElem?_eq_some_iff.1 hr).1; omega)
  obtain ⟨hn, _, hk, _⟩ := h.node c1 hr
  have c3 := hn 3 (.int .i64 T.st.bits.length) (by rw [← T.nd_n]; rfl)
  have d1 : ((T.num : Int) == -1) = false := by rw [beq_eq_false_iff_ne]; omega
  generalize T.num = k at *
  generalize T.st.bits.length = n at *
  clear h hn hr hS
  go_enter Tryd.func24, Tryd.ntmps24
  go_wp2_with fail
  go_quiet (fail)
  go_wp2_with fail
  go_ret
  exact ⟨rfl, _, rfl⟩

theorem tOnes_nil (w : World) : Calls Tryd.prog 23 #[.pointer none] w fun e w' => e = .returned (.int .i64 0) ∧ w = w' := by
  go_enter Tryd.func23, Tryd.ntmps23
  go_wp2_with fail
  go_ret
  exact ⟨rfl, rfl⟩
theorem tOnes_none {w : World} {p : Nat} {C : Nat → Prop} {A : Ar} {xs : List Nd} {vis : Int} (h : Head w p C A xs (-1) vis) :
    Calls Tryd.prog 23 #[.pointer (some ⟨p, 0, none⟩)] w fun e w' => e = .returned (.int .i64 0) ∧ ∃ n, w' = w.drewN n := by
  obtain ⟨_, c2, _⟩ := h.cells
  clear h
  go_enter Tryd.func23, Tryd.ntmps23
  go_wp2_with fail
  go_ret
  exact ⟨rfl, 0, rfl⟩
theorem tOnes_some {w : World} {p : Nat} {C : Nat → Prop} {A : Ar} {xs : List Nd} {vis : Int} {T : TT} (h : Head w p C A xs T.num vis) (hS : Sub w xs T) :
    Calls Tryd.prog 23 #[.pointer (some ⟨p, 0, none⟩)] w fun e w' => e = .returned (.int .i64 (T.st.bits.count true)) ∧ ∃ n, w' = w.drewN n := by
  obtain ⟨_, c2, _⟩ := h.cells
  have hr := hS.root
  obtain ⟨g, rc, cur, c1, _⟩ := h.row (by have := (List.getElem?_eq_some_iff.1 hr).1; omega)
  obtain ⟨hn, _, hk, _⟩ := h.node c1 hr
  have c3 := hn 4 (.int .i64 (T.st.bits.count true)) (by rw [← T.nd_ones]; rfl)
  have d1 : ((T.num : Int) == -1) = false := by rw [beq_eq_false_iff_ne]; omega
  generalize T.num = k at *
  generalize T.st.bits.count true = n at *
  clear h hn hr hS
  go_enter Tryd.func23, Tryd.ntmps23
  go_wp2_with fail
  go_quiet (fail)
  go_wp2_with fail
  go_ret
  exact ⟨rfl, _, rfl⟩

theorem tLike_any (n ones : Int) (x : Bool) (w : World) (h : ones ≤ n) (h0 : 0 ≤ ones) (h1 : n ≤ 1000000000000) :
    Calls Tryd.prog 64 #[.int .i64 n, .int .i64 ones, .bool x] w fun e w' => e = .returned (.int .i64 (likeN n ones x)) ∧ w = w' := by
  cases x
  · go_enter Tryd.func64, Tryd.ntmps64
    go_wp2_with fail
    go_ret
    exact ⟨rfl, rfl⟩
  · go_enter Tryd.func64, Tryd.ntmps64
    go_wp2_with fail
    go_ret
    exact ⟨rfl, rfl⟩

/-- The bits of a tree that may have no node. -/
def obits : Option TT → List Bool
  | none => []
  | some T => T.st.bits
def onum : Option TT → Int
  | none => -1
  | some T => T.num
def OSub (w : World) (xs : List Nd) : Option TT → Prop
  | none => True
  | some T => Sub w xs T
section
variable {w w' : World} {p : Nat} {C : Nat → Prop} {A : Ar} {xs : List Nd} {vis : Int} {o : Option TT}
theorem tLen_any (h : Head w p C A xs (onum o) vis) (hS : OSub w xs o) : Calls Tryd.prog 24 #[.pointer (some ⟨p, 0, none⟩)] w fun e w' => e = .returned (.int .i64 (obits o).length) ∧ ∃ n, w' = w.drewN n := by
  cases o with
  | none => exact tLen_none h
  | some T => exact tLen_some h hS
theorem tOnes_any (h : Head w p C A xs (onum o) vis) (hS : OSub w xs o) : Calls Tryd.prog 23 #[.pointer (some ⟨p, 0, none⟩)] w fun e w' => e = .returned (.int .i64 ((obits o).count true)) ∧ ∃ n, w' = w.drewN n := by
  cases o with
  | none => exact tOnes_none h
  | some T => exact tOnes_some h hS
theorem OSub.chgC {ys : List Nd} {root : Int} (hS : OSub w xs o) (hH : Head w p C A ys root vis) (hc : Chg C w w') : OSub w' xs o := by
  cases o with
  | none => trivial
  | some T => exact Sub.chgC hS hH hc (fun _ _ => rfl)
end

/-- Is there such a bit? How many nodes were looked at is forgotten. -/
theorem tHas_any {w : World} {p : Nat} {C : Nat → Prop} {A : Ar} {xs : List Nd} {vis : Int} {o : Option TT} (h : Head w p C A xs (onum o) vis) (hS : OSub w xs o) (k : Int) :
    Calls Tryd.prog 62 #[.pointer (some ⟨p, 0, none⟩), .int .i64 k] w fun e w' => e = .returned (.int .i64 (hasL (obits o) k)) ∧ Head w' p C A xs (onum o) 0 ∧ Chg C w w' := by
  obtain ⟨_, _, _, fz⟩ := h.cells
  have f3 := fz 3
  have c3 := h.cells.2.2.1
  have h0 := h.set3 0
  have hc0 := h.chg3 (.int .i64 0) 3
  have hs0 := hS.chgC h hc0
  by_cases h1 : k < 0
  · have hR := Lib.hid (show (2 : Int) = hasL (obits o) k by unfold hasL; rw [if_neg (by omega)])
    have H0 := Lib.hid h0
    have HC := Lib.hid hc0
    clear h hS fz h0 hc0 hs0
    go_enter Tryd.func62, Tryd.ntmps62
    go_wp2_with fail
    go_ret
    exact ⟨ret_int hR.out, H0.out, HC.out⟩
  · have hl := tLen_any h0 hs0
    have HL := Lib.hid hl
    have H0 := Lib.hid h0
    have HC := Lib.hid hc0
    have d0 : decide (k < 0) = false := by simp; omega
    by_cases h2 : k < (obits o).length
    · have hR := Lib.hid (show (0 : Int) = hasL (obits o) k by unfold hasL; rw [if_pos (by omega)])
      have d : decide (((obits o).length : Int) ≤ k) = false := by simp; omega
      clear h hS fz h0 hc0 hs0 hl
      generalize (obits o).length = n at *
      go_enter Tryd.func62, Tryd.ntmps62
      go_wp2_with fail
      refine HL.out.mono ?_
      rintro e w' ⟨rfl, m, rfl⟩
      go_wp2_with fail
      go_ret
      exact ⟨ret_int hR.out, H0.out.drewN _, HC.out.drewN _⟩
    · have hR := Lib.hid (show (2 : Int) = hasL (obits o) k by unfold hasL; rw [if_neg (by omega)])
      have d : decide (((obits o).length : Int) ≤ k) = true := by simp; omega
      clear h hS fz h0 hc0 hs0 hl
      generalize (obits o).length = n at *
      go_enter Tryd.func62, Tryd.ntmps62
      go_wp2_with fail
      refine HL.out.mono ?_
      rintro e w' ⟨rfl, m, rfl⟩
      go_wp2_with fail
      go_ret
      exact ⟨ret_int hR.out, H0.out.drewN _, HC.out.drewN _⟩
theorem tHas_nil (w : World) (k : Int) : Calls Tryd.prog 62 #[.pointer none, .int .i64 k] w fun e w' => e = .returned (.int .i64 6) ∧ w = w' := by
  go_enter Tryd.func62, Tryd.ntmps62
  go_wp2_with fail
  go_ret
  exact ⟨rfl, rfl⟩

end Go.Proofs.YtcppgpjodfeigaaDoor

namespace Go.Proofs.YtcppgpjodfeigaaDoor
set_option linter.unusedVariables false
set_option linter.unusedSimpArgs false
open Go.RowKit

/-- A node's eight cells. -/
theorem Head.eight {w : World} {p : Nat} {C : Nat → Prop} {A : Ar} {xs : List Nd} {root vis : Int} (h : Head w p C A xs root vis) {g n rc : Nat} (hg : w.cell? ⟨p, 1, none⟩ = some (.slice (some ⟨g, 0, none⟩) n rc)) {k : Nat} {x : Nd} (hx : xs[k]? = some x) :
    w.cell? ⟨g, k * 8, none⟩ = some (.int .i64 x.left) ∧ w.cell? ⟨g, k * 8 + 1, none⟩ = some (.int .i64 x.right) ∧ w.cell? ⟨g, k * 8 + 2, none⟩ = some (.int .i64 x.height) ∧ w.cell? ⟨g, k * 8 + 3, none⟩ = some (.int .i64 x.n) ∧
    w.cell? ⟨g, k * 8 + 4, none⟩ = some (.int .i64 x.ones) ∧ w.cell? ⟨g, k * 8 + 5, none⟩ = some (.int .i64 x.ln) ∧ w.cell? ⟨g, k * 8 + 6, none⟩ = some (.int .i64 x.lones) ∧ w.cell? ⟨g, k * 8 + 7, none⟩ = some (ptrN x.b) := by
  obtain ⟨hn, _⟩ := h.node hg hx
  exact ⟨hn 0 _ rfl, hn 1 _ rfl, hn 2 _ rfl, hn 3 _ rfl, hn 4 _ rfl, hn 5 _ rfl, hn 6 _ rfl, hn 7 _ rfl⟩

/-- What stands at a node: a leaf, or a pair. -/
theorem Sub.view {w : World} {xs : List Nd} {T : TT} {k : Nat} (h : Sub w xs T) (hk : T.num = k) :
    (∃ q l, T.st = .leaf l ∧ IsBlock w q l ∧ xs[k]? = some ⟨-1, -1, 0, l.length, l.count true, 0, 0, some q⟩) ∨
    (∃ a b : TT, T.st = .pair a.st b.st ∧ Sub w xs a ∧ Sub w xs b ∧ xs[k]? = some ⟨a.num, b.num, (ST.pair a.st b.st).high, a.st.bits.length + b.st.bits.length, a.st.bits.count true + b.st.bits.count true, a.st.bits.length, a.st.bits.count true, none⟩) := by
  cases T with
  | leaf kn q l => cases hk; exact Or.inl ⟨q, l, rfl, h.2, h.1⟩
  | pair kn a b => cases hk; exact Or.inr ⟨a, b, rfl, h.2.1, h.2.2, h.1⟩

/-- What a look at a tree leaves: all is as it was, but how many nodes were looked at. -/
structure Look (w w' : World) (p : Nat) (C : Nat → Prop) (A : Ar) (xs : List Nd) (root : Int) (m : Nat) : Prop where
  head : ∃ v : Nat, v ≤ m ∧ Head w' p C A xs root v
  chg : Chg C w w'

set_option maxHeartbeats 1600000 in
theorem tGet_some {w : World} {p : Nat} {C : Nat → Prop} {A : Ar} {xs : List Nd} {vis : Int} {T0 : TT} (h : Head w p C A xs T0.num vis) (hS : Sub w xs T0) (hm : T0.Sm) (k0 : Nat) (hk0 : k0 < T0.st.bits.length) :
    Calls Tryd.prog 19 #[.pointer (some ⟨p, 0, none⟩), .int .i64 k0] w fun e w' => e = .returned (.tuple #[.bool (bitAt T0.st.bits k0), .int .i64 0]) ∧ Look w w' p C A xs T0.num (T0.st.high + 1) := by
  have hh := tHas_any (o := some T0) h hS k0
  have e0 : hasL (obits (some T0)) k0 = 0 := by
    have : ((k0 : Int) < ((obits (some T0)).length : Int)) := by show (k0 : Int) < (T0.st.bits.length : Int); omega
    unfold hasL; rw [if_pos (by omega)]
  rw [e0] at hh
  have HH := Lib.hid hh
  have HS : Hid (∀ w', Chg C w w' → Sub w' xs T0) := fun w' hc => hS.chgC h hc (fun _ _ => rfl)
  have hhm := hm.high
  clear hh h hS e0
  go_enter Tryd.func19, Tryd.ntmps19
  go_wp2_with fail
  refine HH.out.mono ?_
  rintro e w1 ⟨rfl, hH1, hC1⟩
  have c2 := hH1.cells.2.1
  have hS1 := HS.out w1 hC1
  have e1 : onum (some T0) = (T0.num : Int) := rfl
  rw [e1] at c2 hH1
  have HH1 := Lib.hid hH1
  have HC1 := Lib.hid hC1
  have HS1 := Lib.hid hS1
  clear hH1 hC1 hS1 e1
  go_wp2_with fail
  go_loopg [7, 1] (T0.st.high + 1) (fun n a b wr => ∃ (T : TT) (kn k v : Nat), T.num = kn ∧ a = .int .i64 kn ∧ b = .int .i64 k ∧ k < T.st.bits.length ∧ Sub wr xs T ∧ Head wr p C A xs T0.num v ∧ Chg C w wr ∧
    bitAt T.st.bits k = bitAt T0.st.bits k0 ∧ v + T.st.high ≤ T0.st.high ∧ T.st.high < n ∧ T.st.bits.length ≤ 8589934592)
  case atStart => exact ⟨T0, _, k0, 0, rfl, rfl, rfl, hk0, HS1.out, HH1.out, HC1.out, rfl, by omega, by omega, hm.len⟩
  case round =>
    obtain ⟨T, kn, k, v, hkn, rfl, rfl, hk, hS, hH, hC, hb, hv, hT, hlen⟩ := hrel
    have hvw := hS.view hkn
    have hx : ∃ x, xs[kn]? = some x := ⟨_, by rw [← hkn]; exact hS.root⟩
    obtain ⟨g, rc, cur, c1, hgp, _⟩ := hH.row (by obtain ⟨x, hx⟩ := hx; have := (List.getElem?_eq_some_iff.1 hx).1; omega)
    obtain ⟨_, _, cv, fz⟩ := hH.cells
    have f3 := fz 3
    have hp := hH.lt p hH.self
    have HH3 : Hid (∀ v : Int, Head (wr.setCell ⟨p, 3, none⟩ (.int .i64 v)) p C A xs T0.num v) := fun v => hH.set3 v
    have HCC := Lib.hid hC
    have HB := Lib.hid hb
    have HCp := Lib.hid hH.self
    have HNC : Hid (∀ q l, IsBlock wr q l → ¬ C q) := fun q l h => hH.notBlk h.type
    clear hC hb hx fz HH HS HH1 HC1 HS1 c2 hgp
    rcases hvw with ⟨q, l, hst, hblk, hx⟩ | ⟨Ta, Tb, hst, hSa, hSb, hx⟩
    · obtain ⟨_, _, hkx, _⟩ := hH.node c1 hx
      obtain ⟨a0, a1, a2, a3, a4, a5, a6, a7⟩ := hH.eight c1 hx
      have hg := World.block_lt_of_cell? wr _ a0
      simp only [ptrN, Option.map_some] at a0 a1 a2 a3 a4 a5 a6 a7
      rw [hst] at hk hv hT
      have HW : Hid (∀ v o, IsBlock ((wr.setCell ⟨p, 3, none⟩ v).alloc o) q l) := fun v o => hblk.chg ((Chg.refl.setCell ⟨p, 3, none⟩ (Or.inl HCp.out) v).alloc o) (HNC.out q l hblk)
      have HST := Lib.hid hst
      simp only [ST.high, ST.bits] at hk hv hT
      clear hH hS hkn hx hst hblk
      go_wp2_with fail
      refine (blkGet (HW.out _ _) k hk).mono ?_
      rintro e w' ⟨rfl, rfl⟩
      go_wp2_with fail
      go_ret2
      refine ⟨ret_bi ?_ rfl, ⟨v + 1, by omega, ?_⟩, ?_⟩
      · have := HB.out; rw [HST.out] at this; exact this
      · exact_mod_cast (HH3.out (v + 1)).below (below_alloc _ _)
      · exact (HCC.out.setCell _ (Or.inl HCp.out) _).alloc _
    · obtain ⟨_, _, hkx, _⟩ := hH.node c1 hx
      obtain ⟨a0, a1, a2, a3, a4, a5, a6, a7⟩ := hH.eight c1 hx
      have hg := World.block_lt_of_cell? wr _ a0
      simp only [ptrN, Option.map_none] at a0 a1 a2 a3 a4 a5 a6 a7
      rw [hst] at hk hv hT
      simp only [ST.bits, ST.high, List.length_append] at hk hv hT
      have HSa : Hid (∀ W, Chg C wr W → Sub W xs Ta) := fun W hc => hSa.chgC hH hc (fun _ _ => rfl)
      have HSb : Hid (∀ W, Chg C wr W → Sub W xs Tb) := fun W hc => hSb.chgC hH hc (fun _ _ => rfl)
      have hb := HB.out
      rw [hst] at hb
      simp only [ST.bits] at hb
      have HB2 := Lib.hid hb
      obtain ⟨na, hna⟩ : ∃ na, Ta.num = na := ⟨_, rfl⟩
      obtain ⟨nb, hnb⟩ : ∃ nb, Tb.num = nb := ⟨_, rfl⟩
      obtain ⟨la, hla⟩ : ∃ la, Ta.st.bits.length = la := ⟨_, rfl⟩
      rw [hla] at hk
      simp only [hna, hnb, hla] at a0 a1 a2 a3 a4 a5 a6
      have HNA := Lib.hid hna
      have HNB := Lib.hid hnb
      have HLA := Lib.hid hla
      have hlm : la + Tb.st.bits.length ≤ 8589934592 := by rw [hst] at hlen; simp only [ST.bits, List.length_append] at hlen; omega
      by_cases hlt : k < la
      · have d1 : decide (k < la) = true := decide_eq_true hlt
        clear hH hS hkn hx hst hSa hSb hb hna hnb hla HB
        go_wp2_with fail
        go_roundg (max Ta.st.high Tb.st.high + 1)
        case measure => omega
        case rel =>
          refine ⟨Ta, na, k, v + 1, HNA.out, rfl, rfl, by rw [HLA.out]; exact hlt, HSa.out _ ((Chg.refl.setCell ⟨p, 3, none⟩ (Or.inl HCp.out) _).alloc _), ?_, HCC.out.trans ((Chg.refl.setCell ⟨p, 3, none⟩ (Or.inl HCp.out) _).alloc _) (fun _ h => Or.inl h), ?_, by omega, by omega, by have := HLA.out; omega⟩
          · exact_mod_cast (HH3.out (v + 1)).below (below_alloc _ _)
          · rw [← HB2.out, bitAt_app_l (by rw [HLA.out]; exact hlt)]
      · have d1 : decide (k < la) = false := decide_eq_false hlt
        clear hH hS hkn hx hst hSa hSb hb hna hnb hla HB
        go_wp2_with fail
        go_quiet (fail)
        go_wp2_with fail
        go_roundg (max Ta.st.high Tb.st.high + 1)
        case measure => omega
        case rel =>
          refine ⟨Tb, nb, k - la, v + 1, HNB.out, rfl, ?_, by omega, HSb.out _ (((Chg.refl.setCell ⟨p, 3, none⟩ (Or.inl HCp.out) _).alloc _).drewN _), ?_, HCC.out.trans (((Chg.refl.setCell ⟨p, 3, none⟩ (Or.inl HCp.out) _).alloc _).drewN _) (fun _ h => Or.inl h), ?_, by omega, by omega, by omega⟩
          · congr 1; omega
          · exact_mod_cast ((HH3.out (v + 1)).below (below_alloc _ _)).drewN _
          · rw [← HB2.out, bitAt_app_r (by rw [HLA.out]; omega), HLA.out]

end Go.Proofs.YtcppgpjodfeigaaDoor

namespace Go.Proofs.YtcppgpjodfeigaaDoor
set_option linter.unusedVariables false
set_option linter.unusedSimpArgs false
open Go.RowKit

set_option maxHeartbeats 3200000 in
set_option maxRecDepth 100000 in
theorem tFix_leaf {w : World} {p : Nat} {C : Nat → Prop} {A : Ar} {xs : List Nd} {root vis : Int} (h : Head w p C A xs root vis) {k q : Nat} {x : Nd} {l : List Bool} (hx : xs[k]? = some x) (hb : x.b = some q) (hq : IsBlock w q l) :
    Calls Tryd.prog 102 #[.pointer (some ⟨p, 0, none⟩), .int .i64 k] w fun e w' => e = .returned (.tuple #[]) ∧
      Head w' p C A (xs.set k ⟨x.left, x.right, x.height, l.length, l.count true, x.ln, x.lones, some q⟩) root vis ∧ Chg (RowB w p) w w' := by
  obtain ⟨g, rc, cur, c1, hgp, _⟩ := h.row (by have := (List.getElem?_eq_some_iff.1 hx).1; omega)
  obtain ⟨_, fz, hkx, _⟩ := h.node c1 hx
  obtain ⟨a0, a1, a2, a3, a4, a5, a6, a7⟩ := h.eight c1 hx
  have f3 := fz (k * 8 + 3)
  have f4 := fz (k * 8 + 4)
  rw [hb] at a7
  simp only [ptrN, Option.map_some] at a7
  obtain ⟨g1, g2, g3⟩ := h.put (x' := ⟨x.left, x.right, x.height, l.length, x.ones, x.ln, x.lones, some q⟩) (v := .int .i64 l.length) c1 hx (show 3 < 8 by omega) (by cases x; cases hb; rfl)
  have e1 : (xs.set k ⟨x.left, x.right, x.height, l.length, x.ones, x.ln, x.lones, some q⟩)[k]? = some ⟨x.left, x.right, x.height, l.length, x.ones, x.ln, x.lones, some q⟩ := by rw [List.getElem?_set, if_pos rfl, if_pos hkx]
  have hS1 := (g1.eight g3 e1).2.2.2.2.2.2.2
  obtain ⟨g4, g5, g6⟩ := g1.put (k := k) (i := 4) (x := ⟨x.left, x.right, x.height, l.length, x.ones, x.ln, x.lones, some q⟩) (x' := ⟨x.left, x.right, x.height, l.length, l.count true, x.ln, x.lones, some q⟩) (v := .int .i64 (l.count true)) g3 e1 (by omega) rfl
  have hS2 := (g4.eight g6 (k := k) (x := ⟨x.left, x.right, x.height, l.length, l.count true, x.ln, x.lones, some q⟩) (by rw [List.getElem?_set, if_pos rfl, if_pos (by simpa using hkx)])).2.2.2.2.2.2.2
  have HS1 := Lib.hid hS1
  have HS2 := Lib.hid hS2
  rw [List.set_set] at g4
  have G4 := Lib.hid g4
  have G5 : Hid (Chg (RowB w p) w _) := (g2.trans g5 (fun _ h => Or.inl h)).mono (fun b e => by subst e; exact ⟨_, _, c1⟩)
  have HB : Hid (IsBlock w.drew q l) := hq
  clear h fz g1 g2 g3 g4 g5 g6 hq hb hx hS1 hS2 e1
  go_enter Tryd.func102, Tryd.ntmps102
  go_wp2_with fail
  -- REGION leaf
  refine reg_start (fun w' => w'.cell? ⟨g, k * 8 + 7, none⟩ = some (.pointer (some ⟨q, 0, none⟩))) (by kernel_rfl) (a7) (fun hHeld => ?_)
  refine reg_take (i := 0) (v := ?v0) rfl (by kernel_rfl) rfl hHeld ?y0 ?r0
  case y0 => (intro w hSw; (try dsimp only at hSw); go_simp; all_goals with_reducible rfl)
  try simp only [Act.put, List.setIfInBounds_toArray, List.set_cons_zero, List.set_cons_succ]
  refine reg_take (i := 1) (v := ?v1) rfl (by kernel_rfl) rfl hHeld ?y1 ?r1
  case y1 => (intro w hSw; (try dsimp only at hSw); go_simp; all_goals with_reducible rfl)
  try simp only [Act.put, List.setIfInBounds_toArray, List.set_cons_zero, List.set_cons_succ]
  refine reg_take (i := 2) (v := ?v2) rfl (by kernel_rfl) rfl hHeld ?y2 ?r2
  case y2 => (intro w hSw; (try dsimp only at hSw); go_simp; all_goals with_reducible rfl)
  try simp only [Act.put, List.setIfInBounds_toArray, List.set_cons_zero, List.set_cons_succ]
  refine reg_take (i := 3) (v := ?v3) rfl (by kernel_rfl) rfl hHeld ?y3 ?r3
  case y3 => (intro w hSw; (try dsimp only at hSw); go_simp; all_goals with_reducible rfl)
  try simp only [Act.put, List.setIfInBounds_toArray, List.set_cons_zero, List.set_cons_succ]
  refine reg_take (i := 4) (v := ?v4) rfl (by kernel_rfl) rfl hHeld ?y4 ?r4
  case y4 => (intro w hSw; (try dsimp only at hSw); go_simp; all_goals with_reducible rfl)
  try simp only [Act.put, List.setIfInBounds_toArray, List.set_cons_zero, List.set_cons_succ]
  refine reg_take (i := 5) (v := ?v5) rfl (by kernel_rfl) rfl hHeld ?y5 ?r5
  case y5 => (intro w hSw; (try dsimp only at hSw); go_simp; all_goals with_reducible rfl)
  try simp only [Act.put, List.setIfInBounds_toArray, List.set_cons_zero, List.set_cons_succ]
  refine reg_take (i := 7) (v := ?v7) rfl (by kernel_rfl) rfl hHeld ?y7 ?r7
  case y7 => (intro w hSw; (try dsimp only at hSw); go_simp; all_goals with_reducible rfl)
  try simp only [Act.put, List.setIfInBounds_toArray, List.set_cons_zero, List.set_cons_succ]
  refine reg_take (i := 8) (v := ?v8) rfl (by kernel_rfl) rfl hHeld ?y8 ?r8
  case y8 => (intro w hSw; (try dsimp only at hSw); go_simp; all_goals with_reducible rfl)
  try simp only [Act.put, List.setIfInBounds_toArray, List.set_cons_zero, List.set_cons_succ]
  refine reg_take (i := 9) (v := ?v9) rfl (by kernel_rfl) rfl hHeld ?y9 ?r9
  case y9 => (intro w hSw; (try dsimp only at hSw); go_simp; all_goals with_reducible rfl)
  try simp only [Act.put, List.setIfInBounds_toArray, List.set_cons_zero, List.set_cons_succ]
  refine reg_take (i := 10) (v := ?v10) rfl (by kernel_rfl) rfl hHeld ?y10 ?r10
  case y10 => (intro w hSw; (try dsimp only at hSw); go_simp; all_goals with_reducible rfl)
  try simp only [Act.put, List.setIfInBounds_toArray, List.set_cons_zero, List.set_cons_succ]
  refine reg_loud (i := 6) rfl (by kernel_rfl) rfl (fun K hK => ?_)
  go_simp
  ((with_reducible refine (blkLen (w := w.drew) HB.out).mono ?_))
  rintro e w2 ⟨rfl, rfl⟩
  refine hK.out _ _ (a7) (fun hNew => ?_)
  clear hK K hHeld
  have hHeld := hNew
  clear hNew
  try simp only [Act.put, List.setIfInBounds_toArray, List.set_cons_zero, List.set_cons_succ]
  refine reg_loud (i := 11) rfl (by kernel_rfl) rfl (fun K hK => ?_)
  go_simp
  ((with_reducible refine (blkOnes (w := w.drew) HB.out).mono ?_))
  rintro e w2 ⟨rfl, rfl⟩
  refine hK.out _ _ (a7) (fun hNew => ?_)
  clear hK K hHeld
  have hHeld := hNew
  clear hNew
  try simp only [Act.put, List.setIfInBounds_toArray, List.set_cons_zero, List.set_cons_succ]
  refine reg_take (i := 12) (v := ?v12) rfl (by kernel_rfl) rfl hHeld ?y12 ?r12
  case y12 => (intro w hSw; (try dsimp only at hSw); go_simp; all_goals with_reducible rfl)
  try simp only [Act.put, List.setIfInBounds_toArray, List.set_cons_zero, List.set_cons_succ]
  refine reg_take (i := 13) (v := ?v13) rfl (by kernel_rfl) rfl hHeld ?y13 ?r13
  case y13 => (intro w hSw; (try dsimp only at hSw); go_simp; all_goals with_reducible rfl)
  try simp only [Act.put, List.setIfInBounds_toArray, List.set_cons_zero, List.set_cons_succ]
  refine reg_loud (i := 14) rfl (by kernel_rfl) rfl (fun K hK => ?_)
  go_simp
  refine hK.out _ _ (HS1.out) (fun hNew => ?_)
  clear hK K hHeld
  have hHeld := hNew
  clear hNew
  try simp only [Act.put, List.setIfInBounds_toArray, List.set_cons_zero, List.set_cons_succ]
  refine reg_take (i := 15) (v := ?v15) rfl (by kernel_rfl) rfl hHeld ?y15 ?r15
  case y15 => (intro w hSw; (try dsimp only at hSw); go_simp; all_goals with_reducible rfl)
  try simp only [Act.put, List.setIfInBounds_toArray, List.set_cons_zero, List.set_cons_succ]
  refine reg_take (i := 16) (v := ?v16) rfl (by kernel_rfl) rfl hHeld ?y16 ?r16
  case y16 => (intro w hSw; (try dsimp only at hSw); go_simp; all_goals with_reducible rfl)
  try simp only [Act.put, List.setIfInBounds_toArray, List.set_cons_zero, List.set_cons_succ]
  refine reg_loud (i := 17) rfl (by kernel_rfl) rfl (fun K hK => ?_)
  go_simp
  refine hK.out _ _ (HS2.out) (fun hNew => ?_)
  clear hK K hHeld
  have hHeld := hNew
  clear hNew
  try simp only [Act.put, List.setIfInBounds_toArray, List.set_cons_zero, List.set_cons_succ]
  refine reg_done (by kernel_rfl) ?_ _
  -- END OF REGION leaf
  go_wp2_with fail
  refine bodyPost_ret (results_none rfl _ _ _) rfl ?_
  exact ⟨rfl, G4.out.drewN 1, G5.out.drew⟩

end Go.Proofs.YtcppgpjodfeigaaDoor

namespace Go.Proofs.YtcppgpjodfeigaaDoor
set_option linter.unusedVariables false
set_option linter.unusedSimpArgs false
open Go.RowKit

theorem below_al (w : World) (o : Obj) : Below w.heap.size w (w.alloc o) := (Below.refl _ _).alloc (Nat.le_refl _) _
theorem madeCells_oneG (z : Value) (n : Nat) : madeCells #[z] n = (vecL (fun _ => z) n).toArray := by
  apply Array.ext
  · simp [madeCells, vecL]
  · intro i h1 h2
    have h0 : ∀ m, m % 1 = 0 := fun m => by omega
    simp [madeCells, vecL, h0]
/-- 'make([]E, n)', an element of one cell. -/
theorem run_makeG {P : Program} {t e : TypeId} {z : Value} {bytes : Nat} (hinfo : (P.info? e).map (fun i => (i.zero, i.size, i.bytes)) = some (some z, 1, bytes)) (ht : P.underlying t = some (.slice e)) (hz : z.cells = #[z]) (n : Nat) (h : (bytes : Int) * (n : Int) ≤ 281474976710656) (hn : n ≤ maxLen) (w : World) :
    (Instr.makeSlice t (.int .i64 (n : Int)) (.int .i64 (n : Int))).run P w = .ok (.slice (some ⟨w.heap.size, 0, none⟩) n n) (w.alloc (.cells (vecL (fun _ => z) n).toArray e)) := by
  obtain ⟨i, hi, hiz, hsz, hby⟩ := info_parts hinfo
  have h2 := run_make (P := P) w t e i z ht hi hiz .i64 .i64 (n : Int) (n : Int) (by omega) (by omega) (by rw [hby]; exact h) (by unfold maxLen at hn; omega)
  rw [h2, hz, hsz, Int.toNat_natCast, Nat.mul_one, madeCells_oneG]
theorem own_vecG {w : World} {q n base : Nat} {f : Nat → Value} {e : TypeId} (h : w.heap[q]? = some (.cells (vecL f n).toArray e (0, 0))) (hb : base ≤ q) (hn : n ≤ maxLen) : w.ownsRow base e 1 (.slice (some ⟨q, 0, none⟩) n n) n (vecL f n) :=
  ⟨by rw [vecL_len]; omega, .inr ⟨q, n, (vecL f n).toArray, rfl, hb, h, Nat.le_refl _, hn, by simp [vecL_len], by rw [Nat.mul_one]; exact List.take_of_length_le (by rw [vecL_len]; exact Nat.le_refl _)⟩⟩
theorem Tryd.infoIntG : (Tryd.prog.info? 3).map (fun i => (i.zero, i.size, i.bytes)) = some (some (.int .i64 0), 1, 8) := by kernel_rfl
theorem make_ints (n : Nat) (h : n ≤ 1000000000) (w : World) : (Instr.makeSlice 22 (.int .i64 (n : Int)) (.int .i64 (n : Int))).run Tryd.prog w = .ok (.slice (some ⟨w.heap.size, 0, none⟩) n n) (w.alloc (.cells (vecL (fun _ => .int .i64 0) n).toArray 3)) :=
  run_makeG Tryd.infoIntG Tryd.underlying22 rfl n (by omega) (by unfold maxLen; omega) w
/-- A cell of an own row that is told by a function; a store into it. -/
theorem own_vcell {w : World} {base : Nat} {e : TypeId} {g cap n : Nat} {f : Nat → Value} (h : w.ownsRow base e 1 (.slice (some ⟨g, 0, none⟩) n cap) n (vecL f n)) {j : Nat} (hj : j < n) : w.cell? ⟨g, j, none⟩ = some (f j) := by
  obtain ⟨g', cap', hv, _, _, _, _, hc, _⟩ := own_some h (by omega)
  injection hv with e1 _ _; injection e1 with e1; injection e1 with e1 _ _
  subst e1
  rw [hc j hj, vecL_get hj]
theorem own_vfree {w : World} {base : Nat} {e : TypeId} {g cap n : Nat} {xs : List Value} (h : w.ownsRow base e 1 (.slice (some ⟨g, 0, none⟩) n cap) n xs) (j : Nat) : w.frozen? ⟨g, j, none⟩ = false := by
  rcases h.2 with ⟨h, _⟩ | ⟨g', cap', cur, hv, _, hg, _⟩
  · cases h
  · injection hv with e1 _ _; injection e1 with e1; injection e1 with e1 _ _
    subst e1
    exact frozen_of_row w g j cur e hg
theorem own_vset {w : World} {base : Nat} {e : TypeId} {g cap n : Nat} {f : Nat → Value} (h : w.ownsRow base e 1 (.slice (some ⟨g, 0, none⟩) n cap) n (vecL f n)) (j : Nat) (u : Value) :
    (w.setCell ⟨g, j, none⟩ u).ownsRow base e 1 (.slice (some ⟨g, 0, none⟩) n cap) n (vecL (fun i => if i = j then u else f i) n) := by
  have := own_set h j u
  rwa [vecL_set] at this
theorem below_dN {B : Nat} {w w' : World} (h : Below B w w') (n : Nat) : Below B w (w'.drewN n) := ⟨h.os, h.tape, h.output, h.size, h.block⟩

section
variable {P : Program} {md : Region.Mode} {l : List Oper} {Q : Exit → Act → World → Prop} {S : World → Prop} {i : Nat} {oi : Oper} {fuel : Nat} {listed : Array Bool} {a : Act} {w : World} {rs : List Nat}
/-- One of several operations that may come up. -/
theorem all_cons (hi : (l.drop i).head? = some oi) (hw : Region.wanted oi (yielded l.toArray a.tmps) = true)
    (h : ∀ K : Act → World → Prop, Shut (∀ a w, S w → (S w → wpAnyH P md l.toArray (NoPanic Q) S fuel (listed.setIfInBounds i true) a w) → K a w) → Oper.wp P oi a w K (NoPanic Q))
    (hs : AllReadyH P md l.toArray (NoPanic Q) S fuel listed a w rs) : AllReadyH P md l.toArray (NoPanic Q) S fuel listed a w (i :: rs) :=
  AllReadyH.cons (reg_get hi) (fun K hK => by rw [if_pos hw]; exact h K hK) hs
end

end Go.Proofs.YtcppgpjodfeigaaDoor

namespace Go.Proofs.YtcppgpjodfeigaaDoor
set_option linter.unusedVariables false
set_option linter.unusedSimpArgs false
open Go.RowKit

theorem below_alloc2_drew (w : World) (A B : Obj) : Below w.heap.size w ((w.alloc A).alloc B).drew :=
  let h := ((Below.refl w.heap.size w).alloc (Nat.le_refl _) A).alloc (by simp) B
  ⟨h.os, h.tape, h.output, h.size, h.block⟩
theorem Head.drew {w : World} {p : Nat} {C : Nat → Prop} {A : Ar} {xs : List Nd} {root vis : Int} (h : Head w p C A xs root vis) : Head w.drew p C A xs root vis := h.drewN 1
theorem below_alloc1_drew (w : World) (A : Obj) : Below w.heap.size w (w.alloc A).drew :=
  let h := (Below.refl w.heap.size w).alloc (Nat.le_refl _) A
  ⟨h.os, h.tape, h.output, h.size, h.block⟩
theorem below_drew1 (w : World) : Below w.heap.size w w.drew := ⟨rfl, rfl, rfl, Nat.le_refl _, fun _ _ => rfl⟩
/-- Five cells of a node are written. -/
theorem Head.puts {w : World} {p : Nat} {C : Nat → Prop} {A : Ar} {xs : List Nd} {root vis : Int} (h : Head w p C A xs root vis) {g n rc : Nat} (hg : w.cell? ⟨p, 1, none⟩ = some (.slice (some ⟨g, 0, none⟩) n rc)) {k : Nat} {x : Nd} {i j : Int} (hx : xs[k]? = some x) (hb : x.b = none ∧ x.left = i ∧ x.right = j) (ht m o lm lo : Int) :
    Head (((((w.setCell ⟨g, k * 8 + 2, none⟩ (.int .i64 ht)).setCell ⟨g, k * 8 + 3, none⟩ (.int .i64 m)).setCell ⟨g, k * 8 + 4, none⟩ (.int .i64 o)).setCell ⟨g, k * 8 + 5, none⟩ (.int .i64 lm)).setCell ⟨g, k * 8 + 6, none⟩ (.int .i64 lo)) p C A (xs.set k ⟨i, j, ht, m, o, lm, lo, none⟩) root vis ∧
    Chg (fun b => b = g) w (((((w.setCell ⟨g, k * 8 + 2, none⟩ (.int .i64 ht)).setCell ⟨g, k * 8 + 3, none⟩ (.int .i64 m)).setCell ⟨g, k * 8 + 4, none⟩ (.int .i64 o)).setCell ⟨g, k * 8 + 5, none⟩ (.int .i64 lm)).setCell ⟨g, k * 8 + 6, none⟩ (.int .i64 lo)) := by
  obtain ⟨_, _, hk, _⟩ := h.node hg hx
  have key : ∀ y : Nd, (xs.set k y)[k]? = some y := fun y => by rw [List.getElem?_set, if_pos rfl, if_pos hk]
  obtain ⟨hb, rfl, rfl⟩ := hb
  obtain ⟨h1, c1, g1⟩ := h.put hg hx (i := 2) (v := .int .i64 ht) (x' := ⟨x.left, x.right, ht, x.n, x.ones, x.ln, x.lones, none⟩) (by omega) (by cases x; cases hb; rfl)
  obtain ⟨h2, c2, g2⟩ := h1.put g1 (key _) (i := 3) (v := .int .i64 m) (x' := ⟨x.left, x.right, ht, m, x.ones, x.ln, x.lones, none⟩) (by omega) rfl
  rw [List.set_set] at h2
  obtain ⟨h3, c3, g3⟩ := h2.put g2 (key _) (i := 4) (v := .int .i64 o) (x' := ⟨x.left, x.right, ht, m, o, x.ln, x.lones, none⟩) (by omega) rfl
  rw [List.set_set] at h3
  obtain ⟨h4, c4, g4⟩ := h3.put g3 (key _) (i := 5) (v := .int .i64 lm) (x' := ⟨x.left, x.right, ht, m, o, lm, x.lones, none⟩) (by omega) rfl
  rw [List.set_set] at h4
  obtain ⟨h5, c5, _⟩ := h4.put g4 (key _) (i := 6) (v := .int .i64 lo) (x' := ⟨x.left, x.right, ht, m, o, lm, lo, none⟩) (by omega) rfl
  rw [List.set_set] at h5
  exact ⟨h5, (((c1.trans c2 (fun _ h => Or.inl h)).trans c3 (fun _ h => Or.inl h)).trans c4 (fun _ h => Or.inl h)).trans c5 (fun _ h => Or.inl h)⟩

set_option maxHeartbeats 3200000 in
set_option maxRecDepth 100000 in
theorem tFix_pair {w : World} {p : Nat} {C : Nat → Prop} {A : Ar} {xs : List Nd} {root vis : Int} (h : Head w p C A xs root vis) {k i j : Nat} {x a b : Nd} (hx : xs[k]? = some x) (hb : x.b = none) (hl : x.left = i) (hr : x.right = j)
    (ha : xs[i]? = some a) (hbn : xs[j]? = some b) (s1 : 0 ≤ a.height ∧ a.height ≤ 1000000000) (s2 : 0 ≤ b.height ∧ b.height ≤ 1000000000) (s3 : 0 ≤ a.n ∧ a.n ≤ 8589934592) (s4 : 0 ≤ b.n ∧ b.n ≤ 8589934592) (s5 : 0 ≤ a.ones ∧ a.ones ≤ 8589934592) (s6 : 0 ≤ b.ones ∧ b.ones ≤ 8589934592) :
    Calls Tryd.prog 102 #[.pointer (some ⟨p, 0, none⟩), .int .i64 k] w fun e w' => e = .returned (.tuple #[]) ∧
      Head w' p C A (xs.set k ⟨i, j, max a.height b.height + 1, a.n + b.n, a.ones + b.ones, a.n, a.ones, none⟩) root vis ∧ Chg (RowB w p) w w' := by
  obtain ⟨g, rc, cur, c1, hgp, _⟩ := h.row (by have := (List.getElem?_eq_some_iff.1 hx).1; omega)
  obtain ⟨_, fz, hkx, _⟩ := h.node c1 hx
  obtain ⟨_, _, hix, _⟩ := h.node c1 ha
  obtain ⟨_, _, hjx, _⟩ := h.node c1 hbn
  obtain ⟨a0, a1, a2, a3, a4, a5, a6, a7⟩ := h.eight c1 hx
  obtain ⟨b0, b1, b2, b3, b4, b5, b6, b7⟩ := h.eight c1 ha
  obtain ⟨d0, d1, d2, d3, d4, d5, d6, d7⟩ := h.eight c1 hbn
  have hg := World.block_lt_of_cell? w _ a0
  have hp := h.lt p h.self
  rw [hl] at a0
  rw [hr] at a1
  rw [hb] at a7
  simp only [ptrN, Option.map_none] at a7
  have f0 := fz (k * 8 + 0)
  have f2 := fz (k * 8 + 2)
  have f3 := fz (k * 8 + 3)
  have f4 := fz (k * 8 + 4)
  have f5 := fz (k * 8 + 5)
  have f6 := fz (k * 8 + 6)
  have H := Lib.hid h
  have HRB : Hid (RowB w p g) := ⟨_, _, c1⟩
  have HX := Lib.hid hx
  have HXB : Hid (x.b = none ∧ x.left = i ∧ x.right = j) := ⟨hb, hl, hr⟩
  obtain ⟨pa, hpa⟩ : ∃ pa, ptrN a.b = .pointer pa := ⟨_, rfl⟩
  obtain ⟨pb, hpb⟩ : ∃ pb, ptrN b.b = .pointer pb := ⟨_, rfl⟩
  rw [hpa] at b7
  rw [hpb] at d7
  clear hpa hpb
  clear h fz hb hx ha hbn hl hr
  go_enter Tryd.func102, Tryd.ntmps102
  go_wp2_with fail
  go_upto_region 4 with fail
  go_cut [5, 6] (fun va vb wx => ∃ qa qb : Nat, va = .pointer (some ⟨qa, 0, none⟩) ∧ vb = .pointer (some ⟨qb, 0, none⟩) ∧ w.heap.size ≤ qa ∧ w.heap.size ≤ qb ∧ Below w.heap.size w wx ∧
    wx.heap[qa]? = some (.cells #[.int .i64 a.left, .int .i64 a.right, .int .i64 a.height, .int .i64 a.n, .int .i64 a.ones, .int .i64 a.ln, .int .i64 a.lones, .pointer pa] 88 (0, 0)) ∧
    wx.heap[qb]? = some (.cells #[.int .i64 b.left, .int .i64 b.right, .int .i64 b.height, .int .i64 b.n, .int .i64 b.ones, .int .i64 b.ln, .int .i64 b.lones, .pointer pb] 88 (0, 0)))
  case first =>
    -- REGION three
    refine reg_start (fun w' => Below w.heap.size w w') (by kernel_rfl) (below_drew1 _) (fun hHeld => ?_)
    refine reg_take (i := 0) (v := ?vt0) rfl (by kernel_rfl) rfl hHeld ?yt0 ?rt0
    case yt0 => (intro w' hSw; go_simp; all_goals with_reducible rfl)
    try simp only [Act.put, List.setIfInBounds_toArray, List.set_cons_zero, List.set_cons_succ]
    refine reg_take (i := 1) (v := ?vt1) rfl (by kernel_rfl) rfl hHeld ?yt1 ?rt1
    case yt1 => (intro w' hSw; go_simp; all_goals with_reducible rfl)
    try simp only [Act.put, List.setIfInBounds_toArray, List.set_cons_zero, List.set_cons_succ]
    refine reg_take (i := 2) (v := ?vt2) rfl (by kernel_rfl) rfl hHeld ?yt2 ?rt2
    case yt2 => (intro w' hSw; go_simp; all_goals with_reducible rfl)
    try simp only [Act.put, List.setIfInBounds_toArray, List.set_cons_zero, List.set_cons_succ]
    refine reg_take (i := 3) (v := ?vt3) rfl (by kernel_rfl) rfl hHeld ?yt3 ?rt3
    case yt3 => (intro w' hSw; have q1 := (hSw.cell (p := ⟨p, 1, none⟩) hp).trans c1; go_simp; all_goals with_reducible rfl)
    try simp only [Act.put, List.setIfInBounds_toArray, List.set_cons_zero, List.set_cons_succ]
    refine reg_take (i := 4) (v := ?vt4) rfl (by kernel_rfl) rfl hHeld ?yt4 ?rt4
    case yt4 => (intro w' hSw; go_simp; all_goals with_reducible rfl)
    try simp only [Act.put, List.setIfInBounds_toArray, List.set_cons_zero, List.set_cons_succ]
    refine reg_take (i := 5) (v := ?vt5) rfl (by kernel_rfl) rfl hHeld ?yt5 ?rt5
    case yt5 => (intro w' hSw; go_simp; all_goals with_reducible rfl)
    try simp only [Act.put, List.setIfInBounds_toArray, List.set_cons_zero, List.set_cons_succ]
    refine reg_take (i := 6) (v := ?vt6) rfl (by kernel_rfl) rfl hHeld ?yt6 ?rt6
    case yt6 => (intro w' hSw; go_simp; all_goals with_reducible rfl)
    try simp only [Act.put, List.setIfInBounds_toArray, List.set_cons_zero, List.set_cons_succ]
    refine reg_take (i := 7) (v := ?vt7) rfl (by kernel_rfl) rfl hHeld ?yt7 ?rt7
    case yt7 => (intro w' hSw; have q2 := (hSw.cell (p := ⟨g, k * 8, none⟩) hg).trans a0; go_simp; all_goals with_reducible rfl)
    try simp only [Act.put, List.setIfInBounds_toArray, List.set_cons_zero, List.set_cons_succ]
    refine reg_take (i := 8) (v := ?vt8) rfl (by kernel_rfl) rfl hHeld ?yt8 ?rt8
    case yt8 => (intro w' hSw; go_simp; all_goals with_reducible rfl)
    try simp only [Act.put, List.setIfInBounds_toArray, List.set_cons_zero, List.set_cons_succ]
    refine reg_take (i := 9) (v := ?vt9) rfl (by kernel_rfl) rfl hHeld ?yt9 ?rt9
    case yt9 => (intro w' hSw; have r0 := (hSw.cell (p := ⟨g, i * 8, none⟩) hg).trans b0; have r1 := (hSw.cell (p := ⟨g, i * 8 + 1, none⟩) hg).trans b1; have r2 := (hSw.cell (p := ⟨g, i * 8 + 2, none⟩) hg).trans b2; have r3 := (hSw.cell (p := ⟨g, i * 8 + 3, none⟩) hg).trans b3; have r4 := (hSw.cell (p := ⟨g, i * 8 + 4, none⟩) hg).trans b4; have r5 := (hSw.cell (p := ⟨g, i * 8 + 5, none⟩) hg).trans b5; have r6 := (hSw.cell (p := ⟨g, i * 8 + 6, none⟩) hg).trans b6; have r7 := (hSw.cell (p := ⟨g, i * 8 + 7, none⟩) hg).trans b7; go_simp; all_goals with_reducible rfl)
    try simp only [Act.put, List.setIfInBounds_toArray, List.set_cons_zero, List.set_cons_succ]
    refine reg_take (i := 10) (v := ?vt10) rfl (by kernel_rfl) rfl hHeld ?yt10 ?rt10
    case yt10 => (intro w' hSw; go_simp; all_goals with_reducible rfl)
    try simp only [Act.put, List.setIfInBounds_toArray, List.set_cons_zero, List.set_cons_succ]
    refine reg_take (i := 11) (v := ?vt11) rfl (by kernel_rfl) rfl hHeld ?yt11 ?rt11
    case yt11 => (intro w' hSw; go_simp; all_goals with_reducible rfl)
    try simp only [Act.put, List.setIfInBounds_toArray, List.set_cons_zero, List.set_cons_succ]
    refine reg_take (i := 12) (v := ?vt12) rfl (by kernel_rfl) rfl hHeld ?yt12 ?rt12
    case yt12 => (intro w' hSw; go_simp; all_goals with_reducible rfl)
    try simp only [Act.put, List.setIfInBounds_toArray, List.set_cons_zero, List.set_cons_succ]
    refine reg_take (i := 13) (v := ?vt13) rfl (by kernel_rfl) rfl hHeld ?yt13 ?rt13
    case yt13 => (intro w' hSw; have q1 := (hSw.cell (p := ⟨p, 1, none⟩) hp).trans c1; go_simp; all_goals with_reducible rfl)
    try simp only [Act.put, List.setIfInBounds_toArray, List.set_cons_zero, List.set_cons_succ]
    refine reg_take (i := 14) (v := ?vt14) rfl (by kernel_rfl) rfl hHeld ?yt14 ?rt14
    case yt14 => (intro w' hSw; go_simp; all_goals with_reducible rfl)
    try simp only [Act.put, List.setIfInBounds_toArray, List.set_cons_zero, List.set_cons_succ]
    refine reg_take (i := 15) (v := ?vt15) rfl (by kernel_rfl) rfl hHeld ?yt15 ?rt15
    case yt15 => (intro w' hSw; go_simp; all_goals with_reducible rfl)
    try simp only [Act.put, List.setIfInBounds_toArray, List.set_cons_zero, List.set_cons_succ]
    refine reg_take (i := 16) (v := ?vt16) rfl (by kernel_rfl) rfl hHeld ?yt16 ?rt16
    case yt16 => (intro w' hSw; go_simp; all_goals with_reducible rfl)
    try simp only [Act.put, List.setIfInBounds_toArray, List.set_cons_zero, List.set_cons_succ]
    refine reg_take (i := 17) (v := ?vt17) rfl (by kernel_rfl) rfl hHeld ?yt17 ?rt17
    case yt17 => (intro w' hSw; have q3 := (hSw.cell (p := ⟨g, k * 8 + 1, none⟩) hg).trans a1; go_simp; all_goals with_reducible rfl)
    try simp only [Act.put, List.setIfInBounds_toArray, List.set_cons_zero, List.set_cons_succ]
    refine reg_take (i := 18) (v := ?vt18) rfl (by kernel_rfl) rfl hHeld ?yt18 ?rt18
    case yt18 => (intro w' hSw; go_simp; all_goals with_reducible rfl)
    try simp only [Act.put, List.setIfInBounds_toArray, List.set_cons_zero, List.set_cons_succ]
    refine reg_take (i := 19) (v := ?vt19) rfl (by kernel_rfl) rfl hHeld ?yt19 ?rt19
    case yt19 => (intro w' hSw; have r0 := (hSw.cell (p := ⟨g, j * 8, none⟩) hg).trans d0; have r1 := (hSw.cell (p := ⟨g, j * 8 + 1, none⟩) hg).trans d1; have r2 := (hSw.cell (p := ⟨g, j * 8 + 2, none⟩) hg).trans d2; have r3 := (hSw.cell (p := ⟨g, j * 8 + 3, none⟩) hg).trans d3; have r4 := (hSw.cell (p := ⟨g, j * 8 + 4, none⟩) hg).trans d4; have r5 := (hSw.cell (p := ⟨g, j * 8 + 5, none⟩) hg).trans d5; have r6 := (hSw.cell (p := ⟨g, j * 8 + 6, none⟩) hg).trans d6; have r7 := (hSw.cell (p := ⟨g, j * 8 + 7, none⟩) hg).trans d7; go_simp; all_goals with_reducible rfl)
    try simp only [Act.put, List.setIfInBounds_toArray, List.set_cons_zero, List.set_cons_succ]
    refine wpAnyH_ready (rs := [20, 21]) (by kernel_rfl) (by simp) (all_cons rfl rfl (fun K hK => ?_) (all_cons rfl rfl (fun K hK => ?_) AllReadyH.nil))
    · go_simp
      refine hK.out _ _ (below_alloc1_drew _ _) (fun hNew => ?_)
      clear hK K hHeld
      have hHeld := hNew
      clear hNew
      try simp only [Act.put, List.setIfInBounds_toArray, List.set_cons_zero, List.set_cons_succ]
      refine reg_loud (i := 21) rfl (by kernel_rfl) rfl (fun K hK => ?_)
      go_simp
      refine hK.out _ _ (below_alloc2_drew _ _ _) (fun hNew => ?_)
      clear hK K hHeld
      have hHeld := hNew
      clear hNew
      try simp only [Act.put, List.setIfInBounds_toArray, List.set_cons_zero, List.set_cons_succ]
      refine reg_loud (i := 22) rfl (by kernel_rfl) rfl (fun K hK => ?_)
      go_simp
      refine hK.out _ _ (below_alloc2_drew _ _ _) (fun hNew => ?_)
      clear hK K hHeld
      have hHeld := hNew
      clear hNew
      try simp only [Act.put, List.setIfInBounds_toArray, List.set_cons_zero, List.set_cons_succ]
      refine reg_loud (i := 23) rfl (by kernel_rfl) rfl (fun K hK => ?_)
      go_simp
      refine hK.out _ _ (below_alloc2_drew _ _ _) (fun hNew => ?_)
      clear hK K hHeld
      have hHeld := hNew
      clear hNew
      try simp only [Act.put, List.setIfInBounds_toArray, List.set_cons_zero, List.set_cons_succ]
      refine reg_done (by kernel_rfl) ?_ _
      go_wp2_with fail
      go_meet
      case rel => exact ⟨_, _, rfl, rfl, Nat.le_refl _, Nat.le_succ _, hHeld, heap_alloc2_old _ _ _, heap_alloc2_new _ _ _⟩
    · go_simp
      refine hK.out _ _ (below_alloc1_drew _ _) (fun hNew => ?_)
      clear hK K hHeld
      have hHeld := hNew
      clear hNew
      try simp only [Act.put, List.setIfInBounds_toArray, List.set_cons_zero, List.set_cons_succ]
      refine reg_loud (i := 20) rfl (by kernel_rfl) rfl (fun K hK => ?_)
      go_simp
      refine hK.out _ _ (below_alloc2_drew _ _ _) (fun hNew => ?_)
      clear hK K hHeld
      have hHeld := hNew
      clear hNew
      try simp only [Act.put, List.setIfInBounds_toArray, List.set_cons_zero, List.set_cons_succ]
      refine reg_loud (i := 22) rfl (by kernel_rfl) rfl (fun K hK => ?_)
      go_simp
      refine hK.out _ _ (below_alloc2_drew _ _ _) (fun hNew => ?_)
      clear hK K hHeld
      have hHeld := hNew
      clear hNew
      try simp only [Act.put, List.setIfInBounds_toArray, List.set_cons_zero, List.set_cons_succ]
      refine reg_loud (i := 23) rfl (by kernel_rfl) rfl (fun K hK => ?_)
      go_simp
      refine hK.out _ _ (below_alloc2_drew _ _ _) (fun hNew => ?_)
      clear hK K hHeld
      have hHeld := hNew
      clear hNew
      try simp only [Act.put, List.setIfInBounds_toArray, List.set_cons_zero, List.set_cons_succ]
      refine reg_done (by kernel_rfl) ?_ _
      go_wp2_with fail
      go_meet
      case rel => exact ⟨_, _, rfl, rfl, Nat.le_succ _, Nat.le_refl _, hHeld, heap_alloc2_new _ _ _, heap_alloc2_old _ _ _⟩
    -- END OF REGION three
  case rest =>
    obtain ⟨qa, qb, rfl, rfl, l1, l2, hb, hqa, hqb⟩ := hcut
    have Hc := H.out.below hb
    obtain ⟨P1, P2⟩ := Hc.puts ((hb.cell (p := ⟨p, 1, none⟩) hp).trans c1) HX.out HXB.out (max a.height b.height + 1) (a.n + b.n) (a.ones + b.ones) a.n a.ones
    have HP1 := Lib.hid P1
    have HP2 : Hid (Chg (RowB w p) wc _) := P2.mono (fun b e => by subst e; exact HRB.out)
    have HC := Lib.hid hb
    have ea2 : wc.cell? ⟨qa, 2, none⟩ = some (.int .i64 a.height) := by rw [cell_of_row wc qa 2 _ _ _ hqa]; rfl
    have ea3 : wc.cell? ⟨qa, 3, none⟩ = some (.int .i64 a.n) := by rw [cell_of_row wc qa 3 _ _ _ hqa]; rfl
    have ea4 : wc.cell? ⟨qa, 4, none⟩ = some (.int .i64 a.ones) := by rw [cell_of_row wc qa 4 _ _ _ hqa]; rfl
    have eb2 : wc.cell? ⟨qb, 2, none⟩ = some (.int .i64 b.height) := by rw [cell_of_row wc qb 2 _ _ _ hqb]; rfl
    have eb3 : wc.cell? ⟨qb, 3, none⟩ = some (.int .i64 b.n) := by rw [cell_of_row wc qb 3 _ _ _ hqb]; rfl
    have eb4 : wc.cell? ⟨qb, 4, none⟩ = some (.int .i64 b.ones) := by rw [cell_of_row wc qb 4 _ _ _ hqb]; rfl
    have e2 := (hb.cell (p := ⟨g, k * 8 + 2, none⟩) hg).trans a2
    have e3 := (hb.cell (p := ⟨g, k * 8 + 3, none⟩) hg).trans a3
    have e4 := (hb.cell (p := ⟨g, k * 8 + 4, none⟩) hg).trans a4
    have e5 := (hb.cell (p := ⟨g, k * 8 + 5, none⟩) hg).trans a5
    have e6 := (hb.cell (p := ⟨g, k * 8 + 6, none⟩) hg).trans a6
    have k2 := (hb.frozen (p := ⟨g, k * 8 + 2, none⟩) hg).trans f2
    have k3 := (hb.frozen (p := ⟨g, k * 8 + 3, none⟩) hg).trans f3
    have k4 := (hb.frozen (p := ⟨g, k * 8 + 4, none⟩) hg).trans f4
    have k5 := (hb.frozen (p := ⟨g, k * 8 + 5, none⟩) hg).trans f5
    have k6 := (hb.frozen (p := ⟨g, k * 8 + 6, none⟩) hg).trans f6
    have hg' : g < w.heap.size := hg
    have n1 : ¬ qa = g := by omega
    have n2 : ¬ qb = g := by omega
    have n3 : ¬ g = qa := by omega
    have n4 : ¬ g = qb := by omega
    clear P1 P2 hb hqa hqb Hc a0 a1 a2 a3 a4 a5 a6 a7 b0 b1 b2 b3 b4 b5 b6 b7 d0 d1 d2 d3 d4 d5 d6 d7 f0 f2 f3 f4 f5 f6 c1
    have HWN : Hid (IntKind.i64.wrap (a.n + b.n) = a.n + b.n) := IntWalk.i64_in _ (by omega)
    have HWO : Hid (IntKind.i64.wrap (a.ones + b.ones) = a.ones + b.ones) := IntWalk.i64_in _ (by omega)
    obtain ⟨hm, hhm⟩ : ∃ hm, hm = max a.height b.height := ⟨_, rfl⟩
    rw [← hhm] at HP1 HP2
    have HHM := Lib.hid hhm
    clear hhm
    go_upto_region 4 with fail
    go_cut [5] (fun va wx => va = .pointer (some ⟨qa, 0, none⟩) ∧ wx = wc.setCell ⟨g, k * 8 + 2, none⟩ (.int .i64 (hm + 1)))
    case first =>
      by_cases hlt : a.height < b.height
      · have e0 := HHM.out
        rw [Int.max_eq_right (by omega)] at e0
        subst e0
        go_wp2_with fail
        go_meet
        case rel => exact ⟨rfl, rfl⟩
      · have e0 := HHM.out
        rw [Int.max_eq_left (by omega)] at e0
        subst e0
        go_wp2_with fail
        go_meet
        case rel => exact ⟨rfl, rfl⟩
    case rest =>
      obtain ⟨rfl, rfl⟩ := hcut
      go_wp2_with fail
      -- REGION five
      refine reg_start (fun w' => w'.cell? ⟨qa, 3, none⟩ = some (.int .i64 a.n) ∧ w'.cell? ⟨qa, 4, none⟩ = some (.int .i64 a.ones) ∧ w'.cell? ⟨qb, 3, none⟩ = some (.int .i64 b.n) ∧ w'.cell? ⟨qb, 4, none⟩ = some (.int .i64 b.ones)) (by kernel_rfl) ?hif (fun hHeld => ?_)
      case hif => (refine ⟨?_, ?_, ?_, ?_⟩ <;> go_simp)
      refine reg_take (i := 0) (v := ?vf0) rfl (by kernel_rfl) rfl hHeld ?yf0 ?rf0
      case yf0 => (intro w hSw; (try dsimp only at hSw); go_simp; all_goals with_reducible rfl)
      try simp only [Act.put, List.setIfInBounds_toArray, List.set_cons_zero, List.set_cons_succ]
      refine reg_take (i := 1) (v := ?vf1) rfl (by kernel_rfl) rfl hHeld ?yf1 ?rf1
      case yf1 => (intro w hSw; (try dsimp only at hSw); go_simp; all_goals with_reducible rfl)
      try simp only [Act.put, List.setIfInBounds_toArray, List.set_cons_zero, List.set_cons_succ]
      refine reg_take (i := 2) (v := ?vf2) rfl (by kernel_rfl) rfl hHeld ?yf2 ?rf2
      case yf2 => (intro w hSw; (try dsimp only at hSw); go_simp; all_goals with_reducible rfl)
      try simp only [Act.put, List.setIfInBounds_toArray, List.set_cons_zero, List.set_cons_succ]
      refine reg_take (i := 3) (v := ?vf3) rfl (by kernel_rfl) rfl hHeld ?yf3 ?rf3
      case yf3 => (intro w hSw; (try dsimp only at hSw); go_simp; all_goals with_reducible rfl)
      try simp only [Act.put, List.setIfInBounds_toArray, List.set_cons_zero, List.set_cons_succ]
      refine reg_take (i := 4) (v := ?vf4) rfl (by kernel_rfl) rfl hHeld ?yf4 ?rf4
      case yf4 => (intro w hSw; (try dsimp only at hSw); go_simp; all_goals with_reducible rfl)
      try simp only [Act.put, List.setIfInBounds_toArray, List.set_cons_zero, List.set_cons_succ]
      refine reg_take (i := 5) (v := ?vf5) rfl (by kernel_rfl) rfl hHeld ?yf5 ?rf5
      case yf5 => (intro w hSw; (try dsimp only at hSw); go_simp; all_goals with_reducible rfl)
      try simp only [Act.put, List.setIfInBounds_toArray, List.set_cons_zero, List.set_cons_succ]
      refine reg_take (i := 6) (v := ?vf6) rfl (by kernel_rfl) rfl hHeld ?yf6 ?rf6
      case yf6 => (intro w hSw; (try dsimp only at hSw); go_simp; all_goals with_reducible rfl)
      try simp only [Act.put, List.setIfInBounds_toArray, List.set_cons_zero, List.set_cons_succ]
      refine reg_take (i := 7) (v := ?vf7) rfl (by kernel_rfl) rfl hHeld ?yf7 ?rf7
      case yf7 => (intro w hSw; (try dsimp only at hSw); go_simp; all_goals with_reducible rfl)
      try simp only [Act.put, List.setIfInBounds_toArray, List.set_cons_zero, List.set_cons_succ]
      refine reg_take (i := 8) (v := ?vf8) rfl (by kernel_rfl) rfl hHeld ?yf8 ?rf8
      case yf8 => (intro w hSw; (try dsimp only at hSw); go_simp; all_goals with_reducible rfl)
      try simp only [Act.put, List.setIfInBounds_toArray, List.set_cons_zero, List.set_cons_succ]
      refine reg_take (i := 9) (v := ?vf9) rfl (by kernel_rfl) rfl hHeld ?yf9 ?rf9
      case yf9 => (intro w hSw; (try dsimp only at hSw); go_simp; all_goals with_reducible rfl)
      try simp only [Act.put, List.setIfInBounds_toArray, List.set_cons_zero, List.set_cons_succ]
      refine reg_take (i := 10) (v := ?vf10) rfl (by kernel_rfl) rfl hHeld ?yf10 ?rf10
      case yf10 => (intro w hSw; (try dsimp only at hSw); go_simp; all_goals with_reducible rfl)
      try simp only [Act.put, List.setIfInBounds_toArray, List.set_cons_zero, List.set_cons_succ]
      refine reg_take (i := 11) (v := ?vf11) rfl (by kernel_rfl) rfl hHeld ?yf11 ?rf11
      case yf11 => (intro w hSw; (try dsimp only at hSw); go_simp; all_goals with_reducible rfl)
      try simp only [Act.put, List.setIfInBounds_toArray, List.set_cons_zero, List.set_cons_succ]
      refine reg_take (i := 12) (v := ?vf12) rfl (by kernel_rfl) rfl hHeld ?yf12 ?rf12
      case yf12 => (intro w hSw; (try dsimp only at hSw); go_simp; all_goals with_reducible rfl)
      try simp only [Act.put, List.setIfInBounds_toArray, List.set_cons_zero, List.set_cons_succ]
      refine reg_take (i := 13) (v := ?vf13) rfl (by kernel_rfl) rfl hHeld ?yf13 ?rf13
      case yf13 => (intro w hSw; (try dsimp only at hSw); go_simp; all_goals with_reducible rfl)
      try simp only [Act.put, List.setIfInBounds_toArray, List.set_cons_zero, List.set_cons_succ]
      refine reg_loud (i := 14) rfl (by kernel_rfl) rfl (fun K hK => ?_)
      go_simp
      refine hK.out _ _ ?kpf14 (fun hNew => ?_)
      case kpf14 => (refine ⟨?_, ?_, ?_, ?_⟩ <;> go_simp)
      clear hK K hHeld
      have hHeld := hNew
      clear hNew
      try simp only [Act.put, List.setIfInBounds_toArray, List.set_cons_zero, List.set_cons_succ]
      refine reg_take (i := 15) (v := ?vf15) rfl (by kernel_rfl) rfl hHeld ?yf15 ?rf15
      case yf15 => (intro w hSw; (try dsimp only at hSw); go_simp; all_goals with_reducible rfl)
      try simp only [Act.put, List.setIfInBounds_toArray, List.set_cons_zero, List.set_cons_succ]
      refine reg_take (i := 16) (v := ?vf16) rfl (by kernel_rfl) rfl hHeld ?yf16 ?rf16
      case yf16 => (intro w hSw; (try dsimp only at hSw); go_simp; all_goals with_reducible rfl)
      try simp only [Act.put, List.setIfInBounds_toArray, List.set_cons_zero, List.set_cons_succ]
      refine reg_loud (i := 17) rfl (by kernel_rfl) rfl (fun K hK => ?_)
      go_simp
      refine hK.out _ _ ?kpf17 (fun hNew => ?_)
      case kpf17 => (refine ⟨?_, ?_, ?_, ?_⟩ <;> go_simp)
      clear hK K hHeld
      have hHeld := hNew
      clear hNew
      try simp only [Act.put, List.setIfInBounds_toArray, List.set_cons_zero, List.set_cons_succ]
      refine reg_done (by kernel_rfl) ?_ _
      -- END OF REGION five
      go_wp2_with fail
      -- REGION six
      refine reg_start (fun w' => w'.cell? ⟨qa, 3, none⟩ = some (.int .i64 a.n) ∧ w'.cell? ⟨qa, 4, none⟩ = some (.int .i64 a.ones) ∧ w'.cell? ⟨qb, 3, none⟩ = some (.int .i64 b.n) ∧ w'.cell? ⟨qb, 4, none⟩ = some (.int .i64 b.ones)) (by kernel_rfl) ?his (fun hHeld => ?_)
      case his => (refine ⟨?_, ?_, ?_, ?_⟩ <;> go_simp)
      refine reg_take (i := 0) (v := ?vs0) rfl (by kernel_rfl) rfl hHeld ?ys0 ?rs0
      case ys0 => (intro w hSw; (try dsimp only at hSw); go_simp; all_goals with_reducible rfl)
      try simp only [Act.put, List.setIfInBounds_toArray, List.set_cons_zero, List.set_cons_succ]
      refine reg_take (i := 1) (v := ?vs1) rfl (by kernel_rfl) rfl hHeld ?ys1 ?rs1
      case ys1 => (intro w hSw; (try dsimp only at hSw); go_simp; all_goals with_reducible rfl)
      try simp only [Act.put, List.setIfInBounds_toArray, List.set_cons_zero, List.set_cons_succ]
      refine reg_take (i := 2) (v := ?vs2) rfl (by kernel_rfl) rfl hHeld ?ys2 ?rs2
      case ys2 => (intro w hSw; (try dsimp only at hSw); go_simp; all_goals with_reducible rfl)
      try simp only [Act.put, List.setIfInBounds_toArray, List.set_cons_zero, List.set_cons_succ]
      refine reg_take (i := 3) (v := ?vs3) rfl (by kernel_rfl) rfl hHeld ?ys3 ?rs3
      case ys3 => (intro w hSw; (try dsimp only at hSw); go_simp; all_goals with_reducible rfl)
      try simp only [Act.put, List.setIfInBounds_toArray, List.set_cons_zero, List.set_cons_succ]
      refine reg_take (i := 4) (v := ?vs4) rfl (by kernel_rfl) rfl hHeld ?ys4 ?rs4
      case ys4 => (intro w hSw; (try dsimp only at hSw); go_simp; all_goals with_reducible rfl)
      try simp only [Act.put, List.setIfInBounds_toArray, List.set_cons_zero, List.set_cons_succ]
      refine reg_take (i := 5) (v := ?vs5) rfl (by kernel_rfl) rfl hHeld ?ys5 ?rs5
      case ys5 => (intro w hSw; (try dsimp only at hSw); go_simp; all_goals with_reducible rfl)
      try simp only [Act.put, List.setIfInBounds_toArray, List.set_cons_zero, List.set_cons_succ]
      refine reg_take (i := 6) (v := ?vs6) rfl (by kernel_rfl) rfl hHeld ?ys6 ?rs6
      case ys6 => (intro w hSw; (try dsimp only at hSw); go_simp; all_goals with_reducible rfl)
      try simp only [Act.put, List.setIfInBounds_toArray, List.set_cons_zero, List.set_cons_succ]
      refine reg_take (i := 7) (v := ?vs7) rfl (by kernel_rfl) rfl hHeld ?ys7 ?rs7
      case ys7 => (intro w hSw; (try dsimp only at hSw); go_simp; all_goals with_reducible rfl)
      try simp only [Act.put, List.setIfInBounds_toArray, List.set_cons_zero, List.set_cons_succ]
      refine reg_loud (i := 8) rfl (by kernel_rfl) rfl (fun K hK => ?_)
      go_simp
      refine hK.out _ _ ?kps8 (fun hNew => ?_)
      case kps8 => (refine ⟨?_, ?_, ?_, ?_⟩ <;> go_simp)
      clear hK K hHeld
      have hHeld := hNew
      clear hNew
      try simp only [Act.put, List.setIfInBounds_toArray, List.set_cons_zero, List.set_cons_succ]
      refine reg_take (i := 9) (v := ?vs9) rfl (by kernel_rfl) rfl hHeld ?ys9 ?rs9
      case ys9 => (intro w hSw; (try dsimp only at hSw); go_simp; all_goals with_reducible rfl)
      try simp only [Act.put, List.setIfInBounds_toArray, List.set_cons_zero, List.set_cons_succ]
      refine reg_take (i := 10) (v := ?vs10) rfl (by kernel_rfl) rfl hHeld ?ys10 ?rs10
      case ys10 => (intro w hSw; (try dsimp only at hSw); go_simp; all_goals with_reducible rfl)
      try simp only [Act.put, List.setIfInBounds_toArray, List.set_cons_zero, List.set_cons_succ]
      refine reg_loud (i := 11) rfl (by kernel_rfl) rfl (fun K hK => ?_)
      go_simp
      refine hK.out _ _ ?kps11 (fun hNew => ?_)
      case kps11 => (refine ⟨?_, ?_, ?_, ?_⟩ <;> go_simp)
      clear hK K hHeld
      have hHeld := hNew
      clear hNew
      try simp only [Act.put, List.setIfInBounds_toArray, List.set_cons_zero, List.set_cons_succ]
      refine reg_done (by kernel_rfl) ?_ _
      -- END OF REGION six
      go_wp2_with fail
      go_end0
      rw [← HHM.out]
      rw [HWN.out, HWO.out]
      exact ⟨rfl, HP1.out.drew.drew, ((Chg.of_below HC.out).trans HP2.out (fun _ h => Or.inl h)).drew.drew⟩

end Go.Proofs.YtcppgpjodfeigaaDoor

namespace Go.Proofs.YtcppgpjodfeigaaDoor
set_option linter.unusedVariables false
set_option linter.unusedSimpArgs false
open Go.RowKit

theorem set_get {α : Type} {xs : List α} {k : Nat} {x y : α} (h : xs[k]? = some x) : (xs.set k y)[k]? = some y := by
  rw [List.getElem?_set, if_pos rfl, if_pos (List.getElem?_eq_some_iff.1 h).1]
theorem set_ne {α : Type} {xs : List α} {k j : Nat} {y : α} (h : j ≠ k) : (xs.set k y)[j]? = xs[j]? := by
  rw [List.getElem?_set, if_neg (fun e => h e.symm)]

theorem set_out {xs : List Nd} {k : Nat} {y : Nd} {T : TT} (hk : k ∉ T.nums) : ∀ j ∈ T.nums, (xs.set k y)[j]? = xs[j]? := fun j hj => set_ne (by rintro rfl; exact hk hj)
theorem Sub.set {w : World} {xs : List Nd} {T : TT} (h : Sub w xs T) {k : Nat} (hk : k ∉ T.nums) (y : Nd) : Sub w (xs.set k y) T := h.keep (set_out hk) (fun _ _ => rfl)

/-- How many bits there are in all, and how high it is. -/
def Small (t : ST) : Prop := t.bits.length ≤ 8589934592 ∧ t.high ≤ 1000000000
theorem Small.l {a b : ST} (h : Small (.pair a b)) : Small a := by
  obtain ⟨h1, h2⟩ := h
  simp only [ST.bits, ST.high, List.length_append] at h1 h2
  exact ⟨by omega, by omega⟩
theorem Small.r {a b : ST} (h : Small (.pair a b)) : Small b := by
  obtain ⟨h1, h2⟩ := h
  simp only [ST.bits, ST.high, List.length_append] at h1 h2
  exact ⟨by omega, by omega⟩

/-- A node whose children are known is counted anew. -/
theorem tFix_tt {w : World} {p : Nat} {C : Nat → Prop} {A : Ar} {xs : List Nd} {root vis : Int} (h : Head w p C A xs root vis) {k : Nat} {x : Nd} {a b : TT} (hx : xs[k]? = some x) (hb : x.b = none) (hl : x.left = a.num) (hr : x.right = b.num)
    (ha : Sub w xs a) (hbn : Sub w xs b) (s1 : Small a.st) (s2 : Small b.st) :
    Calls Tryd.prog 102 #[.pointer (some ⟨p, 0, none⟩), .int .i64 k] w fun e w' => e = .returned (.tuple #[]) ∧ Head w' p C A (xs.set k (TT.pair k a b).nd) root vis ∧ Chg (RowB w p) w w' := by
  have c1 := count_le a.st.bits true
  have c2 := count_le b.st.bits true
  obtain ⟨l1, g1⟩ := s1
  obtain ⟨l2, g2⟩ := s2
  refine (tFix_pair h hx hb hl hr ha.root hbn.root ?_ ?_ ?_ ?_ ?_ ?_).mono ?_
  · rw [a.nd_high]; omega
  · rw [b.nd_high]; omega
  · rw [a.nd_n]; omega
  · rw [b.nd_n]; omega
  · rw [a.nd_ones]; omega
  · rw [b.nd_ones]; omega
  · rintro e w' ⟨rfl, h1, h2⟩
    refine ⟨rfl, ?_, h2⟩
    rw [a.nd_high, b.nd_high, a.nd_n, b.nd_n, a.nd_ones, b.nd_ones] at h1
    have e : (TT.pair k a b).nd = ⟨a.num, b.num, max (a.st.high : Int) b.st.high + 1, a.st.bits.length + b.st.bits.length, a.st.bits.count true + b.st.bits.count true, a.st.bits.length, a.st.bits.count true, none⟩ := by
      simp only [TT.nd, ST.high]
      congr 1
      omega
    rw [e]; exact h1

theorem tHigh_any {w : World} {p : Nat} {C : Nat → Prop} {A : Ar} {xs : List Nd} {root v : Int} (h : Head w p C A xs root v) (hv0 : 0 ≤ v) (hv : v ≤ 1000000000000) {k : Nat} {x : Nd} (hx : xs[k]? = some x) :
    Calls Tryd.prog 116 #[.pointer (some ⟨p, 0, none⟩), .int .i64 k] w fun e w' => e = .returned (.int .i64 x.height) ∧ w.setCell ⟨p, 3, none⟩ (.int .i64 (v + 1)) = w' := by
  obtain ⟨g, rc, cur, c1, hgp, _⟩ := h.row (by have := (List.getElem?_eq_some_iff.1 hx).1; omega)
  obtain ⟨_, _, hkx, _⟩ := h.node c1 hx
  obtain ⟨_, _, a2, _⟩ := h.eight c1 hx
  obtain ⟨_, _, cv, fz⟩ := h.cells
  have f3 := fz 3
  clear h fz hx
  go_enter Tryd.func116, Tryd.ntmps116
  go_wp2_with fail
  go_ret
  exact ⟨rfl, rfl⟩

set_option maxHeartbeats 3200000 in
set_option maxRecDepth 100000 in
theorem tTurnRight {w : World} {p : Nat} {C : Nat → Prop} {A : Ar} {xs : List Nd} {root vis : Int} (h : Head w p C A xs root vis) {k l : Nat} {x y : Nd} {a b c : TT} (hx : xs[k]? = some x) (hxb : x.b = none) (hxl : x.left = l) (hxr : x.right = c.num)
    (hy : xs[l]? = some y) (hyb : y.b = none) (hyl : y.left = a.num) (hyr : y.right = b.num) (ha : Sub w xs a) (hb : Sub w xs b) (hc : Sub w xs c) (hkl : k ≠ l)
    (ka : k ∉ a.nums) (kb : k ∉ b.nums) (kc : k ∉ c.nums) (la : l ∉ a.nums) (lb : l ∉ b.nums) (lc : l ∉ c.nums) (s1 : Small a.st) (s2 : Small (.pair b.st c.st)) :
    Calls Tryd.prog 118 #[.pointer (some ⟨p, 0, none⟩), .int .i64 k] w fun e w' => e = .returned (.int .i64 l) ∧ ∃ xs', Head w' p C A xs' root vis ∧ Chg (RowB w p) w w' ∧ Sub w' xs' (.pair l a (.pair k b c)) ∧
      (∀ j, j ≠ k → j ≠ l → xs'[j]? = xs[j]?) ∧ xs'.length = xs.length := by
  obtain ⟨m, hm⟩ : ∃ m, b.num = m := ⟨_, rfl⟩
  rw [hm] at hyr
  obtain ⟨g, rc, cur, c1, hgp, _⟩ := h.row (by have := (List.getElem?_eq_some_iff.1 hx).1; omega)
  obtain ⟨_, fz, hkx, _⟩ := h.node c1 hx
  obtain ⟨_, _, hlx, _⟩ := h.node c1 hy
  obtain ⟨a0, _⟩ := h.eight c1 hx
  obtain ⟨_, b1, _⟩ := h.eight c1 hy
  have f0 := fz (k * 8)
  have f1 := fz (l * 8 + 1)
  rw [hxl] at a0
  rw [hyr] at b1
  obtain ⟨h1, g1, r1⟩ := h.put c1 hx (i := 0) (v := .int .i64 m) (x' := ⟨m, x.right, x.height, x.n, x.ones, x.ln, x.lones, x.b⟩) (by omega) rfl
  have hy1 : (xs.set k ⟨m, x.right, x.height, x.n, x.ones, x.ln, x.lones, x.b⟩)[l]? = some y := by rw [set_ne hkl.symm]; exact hy
  obtain ⟨h2, g2, r2⟩ := h1.put r1 hy1 (i := 1) (v := .int .i64 k) (x' := ⟨y.left, k, y.height, y.n, y.ones, y.ln, y.lones, y.b⟩) (by omega) rfl
  generalize hX1 : (xs.set k ⟨m, x.right, x.height, x.n, x.ones, x.ln, x.lones, x.b⟩).set l ⟨y.left, k, y.height, y.n, y.ones, y.ln, y.lones, y.b⟩ = xs1 at h2
  have hx2 : xs1[k]? = some ⟨m, x.right, x.height, x.n, x.ones, x.ln, x.lones, x.b⟩ := by rw [← hX1, set_ne hkl]; exact set_get hx
  have hy2 : xs1[l]? = some ⟨y.left, k, y.height, y.n, y.ones, y.ln, y.lones, y.b⟩ := by rw [← hX1]; exact set_get hy1
  have keep1 : ∀ j, j ≠ k → j ≠ l → xs1[j]? = xs[j]? := fun j h1 h2 => by rw [← hX1, set_ne h2, set_ne h1]
  have len1 : xs1.length = xs.length := by rw [← hX1]; simp
  obtain ⟨W1, hW1⟩ : ∃ W1, W1 = ((w.setCell ⟨g, k * 8, none⟩ (.int .i64 m)).setCell ⟨g, l * 8 + 1, none⟩ (.int .i64 k)).drew := ⟨_, rfl⟩
  have h2' : Head W1 p C A xs1 root vis := by rw [hW1]; exact h2.drew
  have hcg : Chg (fun b => b = g) w W1 := by rw [hW1]; exact (g1.trans g2 (fun _ h => Or.inl h)).drew
  have hcr : Chg (RowB w p) w W1 := hcg.mono (fun b e => by subst e; exact ⟨_, _, c1⟩)
  have hcc := h.chgRow hcr
  have hback : ∀ w2, Chg (RowB W1 p) W1 w2 → Chg (RowB w p) w w2 := fun w2 hc => hcr.trans hc (fun b hb => Or.inl (by obtain ⟨n, c, hb⟩ := hb; exact ⟨n, c, (h.rowKeep hcr 1).symm.trans hb⟩))
  have HBK := Lib.hid hback
  have HKW : Hid (∀ b, RowB W1 p b → RowB w p b) := fun b hb => by obtain ⟨n, c, hb⟩ := hb; exact ⟨n, c, (h.rowKeep hcr 1).symm.trans hb⟩
  have mk : ∀ (T : TT), Sub w xs T → k ∉ T.nums → l ∉ T.nums → Sub W1 xs1 T :=
    fun T hT e1 e2 => hT.chgC h hcc (fun j hj => keep1 j (by rintro rfl; exact e1 hj) (by rintro rfl; exact e2 hj))
  have ha2 := mk a ha ka la
  have hb2 := mk b hb kb lb
  have hc2 := mk c hc kc lc
  have HF1 := Lib.hid (tFix_tt h2' hx2 hxb (by rw [hm]) hxr hb2 hc2 s2.l s2.r)
  have HH2 := Lib.hid h2'
  have HCC := Lib.hid hcc
  have HA := Lib.hid ha2
  have HB := Lib.hid hb2
  have HC := Lib.hid hc2
  have HX2 := Lib.hid hx2
  have HY2 := Lib.hid hy2
  have HK1 := Lib.hid keep1
  have HL1 := Lib.hid len1
  have HW1 := Lib.hid hW1
  have HYY : Hid (y.b = none ∧ y.left = a.num) := ⟨hyb, hyl⟩
  have HN : Hid (k ≠ l ∧ k ∉ a.nums ∧ k ∉ b.nums ∧ k ∉ c.nums ∧ l ∉ a.nums ∧ l ∉ b.nums ∧ l ∉ c.nums) := ⟨hkl, ka, kb, kc, la, lb, lc⟩
  clear h fz hx hy hxb hxl hxr hyb hyl hyr ha hb hc hkl ka kb kc la lb lc h1 g1 r1 hy1 h2 h2' g2 r2 hX1 hx2 hy2 hcc hcg hcr hback keep1 len1 mk ha2 hb2 hc2 hm hW1
  go_enter Tryd.func118, Tryd.ntmps118
  go_wp2_with fail
  -- REGION right
  refine reg_start (fun w' => w'.cell? ⟨p, 1, none⟩ = some (.slice (some ⟨g, 0, none⟩) xs.length rc)) (by kernel_rfl) (c1) (fun hHeld => ?_)
  refine reg_take (i := 0) (v := ?v0) rfl (by kernel_rfl) rfl hHeld ?y0 ?r0
  case y0 => (intro w hSw; (try dsimp only at hSw); go_simp; all_goals with_reducible rfl)
  try simp only [Act.put, List.setIfInBounds_toArray, List.set_cons_zero, List.set_cons_succ]
  refine reg_take (i := 1) (v := ?v1) rfl (by kernel_rfl) rfl hHeld ?y1 ?r1
  case y1 => (intro w hSw; (try dsimp only at hSw); go_simp; all_goals with_reducible rfl)
  try simp only [Act.put, List.setIfInBounds_toArray, List.set_cons_zero, List.set_cons_succ]
  refine reg_take (i := 2) (v := ?v2) rfl (by kernel_rfl) rfl hHeld ?y2 ?r2
  case y2 => (intro w hSw; (try dsimp only at hSw); go_simp; all_goals with_reducible rfl)
  try simp only [Act.put, List.setIfInBounds_toArray, List.set_cons_zero, List.set_cons_succ]
  refine reg_take (i := 3) (v := ?v3) rfl (by kernel_rfl) rfl hHeld ?y3 ?r3
  case y3 => (intro w hSw; (try dsimp only at hSw); go_simp; all_goals with_reducible rfl)
  try simp only [Act.put, List.setIfInBounds_toArray, List.set_cons_zero, List.set_cons_succ]
  refine reg_take (i := 4) (v := ?v4) rfl (by kernel_rfl) rfl hHeld ?y4 ?r4
  case y4 => (intro w hSw; (try dsimp only at hSw); go_simp; all_goals with_reducible rfl)
  try simp only [Act.put, List.setIfInBounds_toArray, List.set_cons_zero, List.set_cons_succ]
  refine reg_take (i := 5) (v := ?v5) rfl (by kernel_rfl) rfl hHeld ?y5 ?r5
  case y5 => (intro w hSw; (try dsimp only at hSw); go_simp; all_goals with_reducible rfl)
  try simp only [Act.put, List.setIfInBounds_toArray, List.set_cons_zero, List.set_cons_succ]
  refine reg_take (i := 6) (v := ?v6) rfl (by kernel_rfl) rfl hHeld ?y6 ?r6
  case y6 => (intro w hSw; (try dsimp only at hSw); go_simp; all_goals with_reducible rfl)
  try simp only [Act.put, List.setIfInBounds_toArray, List.set_cons_zero, List.set_cons_succ]
  refine reg_take (i := 7) (v := ?v7) rfl (by kernel_rfl) rfl hHeld ?y7 ?r7
  case y7 => (intro w hSw; (try dsimp only at hSw); go_simp; all_goals with_reducible rfl)
  try simp only [Act.put, List.setIfInBounds_toArray, List.set_cons_zero, List.set_cons_succ]
  refine reg_take (i := 8) (v := ?v8) rfl (by kernel_rfl) rfl hHeld ?y8 ?r8
  case y8 => (intro w hSw; (try dsimp only at hSw); go_simp; all_goals with_reducible rfl)
  try simp only [Act.put, List.setIfInBounds_toArray, List.set_cons_zero, List.set_cons_succ]
  refine reg_take (i := 9) (v := ?v9) rfl (by kernel_rfl) rfl hHeld ?y9 ?r9
  case y9 => (intro w hSw; (try dsimp only at hSw); go_simp; all_goals with_reducible rfl)
  try simp only [Act.put, List.setIfInBounds_toArray, List.set_cons_zero, List.set_cons_succ]
  refine reg_take (i := 10) (v := ?v10) rfl (by kernel_rfl) rfl hHeld ?y10 ?r10
  case y10 => (intro w hSw; (try dsimp only at hSw); go_simp; all_goals with_reducible rfl)
  try simp only [Act.put, List.setIfInBounds_toArray, List.set_cons_zero, List.set_cons_succ]
  refine reg_take (i := 11) (v := ?v11) rfl (by kernel_rfl) rfl hHeld ?y11 ?r11
  case y11 => (intro w hSw; (try dsimp only at hSw); go_simp; all_goals with_reducible rfl)
  try simp only [Act.put, List.setIfInBounds_toArray, List.set_cons_zero, List.set_cons_succ]
  refine reg_take (i := 12) (v := ?v12) rfl (by kernel_rfl) rfl hHeld ?y12 ?r12
  case y12 => (intro w hSw; (try dsimp only at hSw); go_simp; all_goals with_reducible rfl)
  try simp only [Act.put, List.setIfInBounds_toArray, List.set_cons_zero, List.set_cons_succ]
  refine reg_take (i := 13) (v := ?v13) rfl (by kernel_rfl) rfl hHeld ?y13 ?r13
  case y13 => (intro w hSw; (try dsimp only at hSw); go_simp; all_goals with_reducible rfl)
  try simp only [Act.put, List.setIfInBounds_toArray, List.set_cons_zero, List.set_cons_succ]
  refine reg_take (i := 14) (v := ?v14) rfl (by kernel_rfl) rfl hHeld ?y14 ?r14
  case y14 => (intro w hSw; (try dsimp only at hSw); go_simp; all_goals with_reducible rfl)
  try simp only [Act.put, List.setIfInBounds_toArray, List.set_cons_zero, List.set_cons_succ]
  refine reg_take (i := 15) (v := ?v15) rfl (by kernel_rfl) rfl hHeld ?y15 ?r15
  case y15 => (intro w hSw; (try dsimp only at hSw); go_simp; all_goals with_reducible rfl)
  try simp only [Act.put, List.setIfInBounds_toArray, List.set_cons_zero, List.set_cons_succ]
  refine reg_take (i := 16) (v := ?v16) rfl (by kernel_rfl) rfl hHeld ?y16 ?r16
  case y16 => (intro w hSw; (try dsimp only at hSw); go_simp; all_goals with_reducible rfl)
  try simp only [Act.put, List.setIfInBounds_toArray, List.set_cons_zero, List.set_cons_succ]
  refine reg_take (i := 18) (v := ?v18) rfl (by kernel_rfl) rfl hHeld ?y18 ?r18
  case y18 => (intro w hSw; (try dsimp only at hSw); go_simp; all_goals with_reducible rfl)
  try simp only [Act.put, List.setIfInBounds_toArray, List.set_cons_zero, List.set_cons_succ]
  refine reg_loud (i := 17) rfl (by kernel_rfl) rfl (fun K hK => ?_)
  go_simp
  refine hK.out _ _ (c1) (fun hNew => ?_)
  clear hK K hHeld
  have hHeld := hNew
  clear hNew
  try simp only [Act.put, List.setIfInBounds_toArray, List.set_cons_zero, List.set_cons_succ]
  refine reg_take (i := 19) (v := ?v19) rfl (by kernel_rfl) rfl hHeld ?y19 ?r19
  case y19 => (intro w hSw; (try dsimp only at hSw); go_simp; all_goals with_reducible rfl)
  try simp only [Act.put, List.setIfInBounds_toArray, List.set_cons_zero, List.set_cons_succ]
  refine reg_take (i := 20) (v := ?v20) rfl (by kernel_rfl) rfl hHeld ?y20 ?r20
  case y20 => (intro w hSw; (try dsimp only at hSw); go_simp; all_goals with_reducible rfl)
  try simp only [Act.put, List.setIfInBounds_toArray, List.set_cons_zero, List.set_cons_succ]
  refine reg_loud (i := 21) rfl (by kernel_rfl) rfl (fun K hK => ?_)
  go_simp
  refine hK.out _ _ (by go_simp) (fun hNew => ?_)
  clear hK K hHeld
  have hHeld := hNew
  clear hNew
  try simp only [Act.put, List.setIfInBounds_toArray, List.set_cons_zero, List.set_cons_succ]
  refine reg_take (i := 22) (v := ?v22) rfl (by kernel_rfl) rfl hHeld ?y22 ?r22
  case y22 => (intro w hSw; (try dsimp only at hSw); go_simp; all_goals with_reducible rfl)
  try simp only [Act.put, List.setIfInBounds_toArray, List.set_cons_zero, List.set_cons_succ]
  refine reg_take (i := 23) (v := ?v23) rfl (by kernel_rfl) rfl hHeld ?y23 ?r23
  case y23 => (intro w hSw; (try dsimp only at hSw); go_simp; all_goals with_reducible rfl)
  try simp only [Act.put, List.setIfInBounds_toArray, List.set_cons_zero, List.set_cons_succ]
  refine reg_loud (i := 24) rfl (by kernel_rfl) rfl (fun K hK => ?_)
  go_simp
  refine hK.out _ _ (by go_simp) (fun hNew => ?_)
  clear hK K hHeld
  have hHeld := hNew
  clear hNew
  try simp only [Act.put, List.setIfInBounds_toArray, List.set_cons_zero, List.set_cons_succ]
  refine reg_done (by kernel_rfl) ?_ _
  -- END OF REGION right
  go_wp2_with fail
  rw [← HW1.out]
  refine HF1.out.mono ?_
  rintro e w2 ⟨rfl, h3, g3'⟩
  have g3 := HH2.out.chgRow g3'
  obtain ⟨n1, n2, n3, n4, n5, n6, n7⟩ := HN.out
  have hy3 : (xs1.set k (TT.pair k b c).nd)[l]? = some ⟨y.left, k, y.height, y.n, y.ones, y.ln, y.lones, y.b⟩ := by rw [set_ne n1.symm]; exact HY2.out
  have a3 : Sub w2 (xs1.set k (TT.pair k b c).nd) a := HA.out.chgC HH2.out g3 (set_out n2)
  have b3 : Sub w2 (xs1.set k (TT.pair k b c).nd) b := HB.out.chgC HH2.out g3 (set_out n3)
  have c3 : Sub w2 (xs1.set k (TT.pair k b c).nd) c := HC.out.chgC HH2.out g3 (set_out n4)
  have d3 : Sub w2 (xs1.set k (TT.pair k b c).nd) (.pair k b c) := ⟨set_get HX2.out, b3, c3⟩
  have HF2 := Lib.hid (tFix_tt (b := .pair k b c) h3 hy3 HYY.out.1 HYY.out.2 rfl a3 d3 s1 s2)
  have HA3 := Lib.hid a3
  have HD3 := Lib.hid d3
  have HH3 := Lib.hid h3
  have HG3 := Lib.hid (HBK.out _ g3')
  have HK3 : Hid (∀ b, RowB w2 p b → RowB w p b) := fun b hb => by obtain ⟨n, c, hb⟩ := hb; exact (HKW.out b ⟨n, c, (HH2.out.rowKeep g3' 1).symm.trans hb⟩)
  have HY3 := Lib.hid hy3
  clear hy3 a3 b3 c3 d3 h3 g3 g3' n1 n2 n3 n4 n5 n6 n7 hHeld
  go_wp2_with fail
  refine HF2.out.mono ?_
  rintro e w3 ⟨rfl, h4, g4'⟩
  have g4 := HH3.out.chgRow g4'
  have HH4 := Lib.hid h4
  have HG4 := Lib.hid g4
  have HG5 := Lib.hid (HG3.out.trans g4' (fun b hb => Or.inl (HK3.out b hb)))
  clear h4 g4 g4'
  go_wp2_with fail
  go_ret
  obtain ⟨n1, n2, n3, n4, n5, n6, n7⟩ := HN.out
  refine ⟨rfl, _, HH4.out, HG5.out, ⟨set_get HY3.out, ?_, ?_⟩, fun j h1 h2 => ?_, ?_⟩
  · exact HA3.out.chgC HH3.out HG4.out (set_out n5)
  · refine HD3.out.chgC HH3.out HG4.out (set_out ?_)
    simp only [TT.nums, List.mem_cons, List.mem_append]
    rintro (hj | hj | hj)
    · exact n1 hj.symm
    · exact n6 hj
    · exact n7 hj
  · rw [set_ne h2, set_ne h1]; exact HK1.out j h1 h2
  · simpa using HL1.out

set_option maxHeartbeats 3200000 in
set_option maxRecDepth 100000 in
theorem tTurnLeft {w : World} {p : Nat} {C : Nat → Prop} {A : Ar} {xs : List Nd} {root vis : Int} (h : Head w p C A xs root vis) {k l : Nat} {x y : Nd} {a b c : TT} (hx : xs[k]? = some x) (hxb : x.b = none) (hxl : x.left = a.num) (hxr : x.right = l)
    (hy : xs[l]? = some y) (hyb : y.b = none) (hyl : y.left = b.num) (hyr : y.right = c.num) (ha : Sub w xs a) (hb : Sub w xs b) (hc : Sub w xs c) (hkl : k ≠ l)
    (ka : k ∉ a.nums) (kb : k ∉ b.nums) (kc : k ∉ c.nums) (la : l ∉ a.nums) (lb : l ∉ b.nums) (lc : l ∉ c.nums) (s1 : Small (.pair a.st b.st)) (s2 : Small c.st) :
    Calls Tryd.prog 117 #[.pointer (some ⟨p, 0, none⟩), .int .i64 k] w fun e w' => e = .returned (.int .i64 l) ∧ ∃ xs', Head w' p C A xs' root vis ∧ Chg (RowB w p) w w' ∧ Sub w' xs' (.pair l (.pair k a b) c) ∧
      (∀ j, j ≠ k → j ≠ l → xs'[j]? = xs[j]?) ∧ xs'.length = xs.length := by
  obtain ⟨m, hm⟩ : ∃ m, b.num = m := ⟨_, rfl⟩
  rw [hm] at hyl
  obtain ⟨g, rc, cur, c1, hgp, _⟩ := h.row (by have := (List.getElem?_eq_some_iff.1 hx).1; omega)
  obtain ⟨_, fz, hkx, _⟩ := h.node c1 hx
  obtain ⟨_, _, hlx, _⟩ := h.node c1 hy
  obtain ⟨_, a0, _⟩ := h.eight c1 hx
  obtain ⟨b1, _⟩ := h.eight c1 hy
  have f0 := fz (k * 8 + 1)
  have f1 := fz (l * 8)
  rw [hxr] at a0
  rw [hyl] at b1
  obtain ⟨h1, g1, r1⟩ := h.put c1 hx (i := 1) (v := .int .i64 m) (x' := ⟨x.left, m, x.height, x.n, x.ones, x.ln, x.lones, x.b⟩) (by omega) rfl
  have hy1 : (xs.set k ⟨x.left, m, x.height, x.n, x.ones, x.ln, x.lones, x.b⟩)[l]? = some y := by rw [set_ne hkl.symm]; exact hy
  obtain ⟨h2, g2, r2⟩ := h1.put r1 hy1 (i := 0) (v := .int .i64 k) (x' := ⟨k, y.right, y.height, y.n, y.ones, y.ln, y.lones, y.b⟩) (by omega) rfl
  generalize hX1 : (xs.set k ⟨x.left, m, x.height, x.n, x.ones, x.ln, x.lones, x.b⟩).set l ⟨k, y.right, y.height, y.n, y.ones, y.ln, y.lones, y.b⟩ = xs1 at h2
  have hx2 : xs1[k]? = some ⟨x.left, m, x.height, x.n, x.ones, x.ln, x.lones, x.b⟩ := by rw [← hX1, set_ne hkl]; exact set_get hx
  have hy2 : xs1[l]? = some ⟨k, y.right, y.height, y.n, y.ones, y.ln, y.lones, y.b⟩ := by rw [← hX1]; exact set_get hy1
  have keep1 : ∀ j, j ≠ k → j ≠ l → xs1[j]? = xs[j]? := fun j h1 h2 => by rw [← hX1, set_ne h2, set_ne h1]
  have len1 : xs1.length = xs.length := by rw [← hX1]; simp
  obtain ⟨W1, hW1⟩ : ∃ W1, W1 = ((w.setCell ⟨g, k * 8 + 1, none⟩ (.int .i64 m)).setCell ⟨g, l * 8, none⟩ (.int .i64 k)).drew := ⟨_, rfl⟩
  have h2' : Head W1 p C A xs1 root vis := by rw [hW1]; exact h2.drew
  have hcg : Chg (fun b => b = g) w W1 := by rw [hW1]; exact (g1.trans g2 (fun _ h => Or.inl h)).drew
  have hcr : Chg (RowB w p) w W1 := hcg.mono (fun b e => by subst e; exact ⟨_, _, c1⟩)
  have hcc := h.chgRow hcr
  have hback : ∀ w2, Chg (RowB W1 p) W1 w2 → Chg (RowB w p) w w2 := fun w2 hc => hcr.trans hc (fun b hb => Or.inl (by obtain ⟨n, c, hb⟩ := hb; exact ⟨n, c, (h.rowKeep hcr 1).symm.trans hb⟩))
  have HBK := Lib.hid hback
  have HKW : Hid (∀ b, RowB W1 p b → RowB w p b) := fun b hb => by obtain ⟨n, c, hb⟩ := hb; exact ⟨n, c, (h.rowKeep hcr 1).symm.trans hb⟩
  have mk : ∀ (T : TT), Sub w xs T → k ∉ T.nums → l ∉ T.nums → Sub W1 xs1 T :=
    fun T hT e1 e2 => hT.chgC h hcc (fun j hj => keep1 j (by rintro rfl; exact e1 hj) (by rintro rfl; exact e2 hj))
  have ha2 := mk a ha ka la
  have hb2 := mk b hb kb lb
  have hc2 := mk c hc kc lc
  have HF1 := Lib.hid (tFix_tt h2' hx2 hxb hxl (by rw [hm]) ha2 hb2 s1.l s1.r)
  have HH2 := Lib.hid h2'
  have HCC := Lib.hid hcc
  have HA := Lib.hid ha2
  have HB := Lib.hid hb2
  have HC := Lib.hid hc2
  have HX2 := Lib.hid hx2
  have HY2 := Lib.hid hy2
  have HK1 := Lib.hid keep1
  have HL1 := Lib.hid len1
  have HW1 := Lib.hid hW1
  have HYY : Hid (y.b = none ∧ y.right = c.num) := ⟨hyb, hyr⟩
  have HN : Hid (k ≠ l ∧ k ∉ a.nums ∧ k ∉ b.nums ∧ k ∉ c.nums ∧ l ∉ a.nums ∧ l ∉ b.nums ∧ l ∉ c.nums) := ⟨hkl, ka, kb, kc, la, lb, lc⟩
  clear h fz hx hy hxb hxl hxr hyb hyl hyr ha hb hc hkl ka kb kc la lb lc h1 g1 r1 hy1 h2 h2' g2 r2 hX1 hx2 hy2 hcc hcg hcr hback keep1 len1 mk ha2 hb2 hc2 hm hW1
  go_enter Tryd.func117, Tryd.ntmps117
  go_wp2_with fail
  -- REGION left
  refine reg_start (fun w' => w'.cell? ⟨p, 1, none⟩ = some (.slice (some ⟨g, 0, none⟩) xs.length rc)) (by kernel_rfl) (c1) (fun hHeld => ?_)
  refine reg_take (i := 0) (v := ?v0) rfl (by kernel_rfl) rfl hHeld ?y0 ?r0
  case y0 => (intro w hSw; (try dsimp only at hSw); go_simp; all_goals with_reducible rfl)
  try simp only [Act.put, List.setIfInBounds_toArray, List.set_cons_zero, List.set_cons_succ]
  refine reg_take (i := 1) (v := ?v1) rfl (by kernel_rfl) rfl hHeld ?y1 ?r1
  case y1 => (intro w hSw; (try dsimp only at hSw); go_simp; all_goals with_reducible rfl)
  try simp only [Act.put, List.setIfInBounds_toArray, List.set_cons_zero, List.set_cons_succ]
  refine reg_take (i := 2) (v := ?v2) rfl (by kernel_rfl) rfl hHeld ?y2 ?r2
  case y2 => (intro w hSw; (try dsimp only at hSw); go_simp; all_goals with_reducible rfl)
  try simp only [Act.put, List.setIfInBounds_toArray, List.set_cons_zero, List.set_cons_succ]
  refine reg_take (i := 3) (v := ?v3) rfl (by kernel_rfl) rfl hHeld ?y3 ?r3
  case y3 => (intro w hSw; (try dsimp only at hSw); go_simp; all_goals with_reducible rfl)
  try simp only [Act.put, List.setIfInBounds_toArray, List.set_cons_zero, List.set_cons_succ]
  refine reg_take (i := 4) (v := ?v4) rfl (by kernel_rfl) rfl hHeld ?y4 ?r4
  case y4 => (intro w hSw; (try dsimp only at hSw); go_simp; all_goals with_reducible rfl)
  try simp only [Act.put, List.setIfInBounds_toArray, List.set_cons_zero, List.set_cons_succ]
  refine reg_take (i := 5) (v := ?v5) rfl (by kernel_rfl) rfl hHeld ?y5 ?r5
  case y5 => (intro w hSw; (try dsimp only at hSw); go_simp; all_goals with_reducible rfl)
  try simp only [Act.put, List.setIfInBounds_toArray, List.set_cons_zero, List.set_cons_succ]
  refine reg_take (i := 6) (v := ?v6) rfl (by kernel_rfl) rfl hHeld ?y6 ?r6
  case y6 => (intro w hSw; (try dsimp only at hSw); go_simp; all_goals with_reducible rfl)
  try simp only [Act.put, List.setIfInBounds_toArray, List.set_cons_zero, List.set_cons_succ]
  refine reg_take (i := 7) (v := ?v7) rfl (by kernel_rfl) rfl hHeld ?y7 ?r7
  case y7 => (intro w hSw; (try dsimp only at hSw); go_simp; all_goals with_reducible rfl)
  try simp only [Act.put, List.setIfInBounds_toArray, List.set_cons_zero, List.set_cons_succ]
  refine reg_take (i := 8) (v := ?v8) rfl (by kernel_rfl) rfl hHeld ?y8 ?r8
  case y8 => (intro w hSw; (try dsimp only at hSw); go_simp; all_goals with_reducible rfl)
  try simp only [Act.put, List.setIfInBounds_toArray, List.set_cons_zero, List.set_cons_succ]
  refine reg_take (i := 9) (v := ?v9) rfl (by kernel_rfl) rfl hHeld ?y9 ?r9
  case y9 => (intro w hSw; (try dsimp only at hSw); go_simp; all_goals with_reducible rfl)
  try simp only [Act.put, List.setIfInBounds_toArray, List.set_cons_zero, List.set_cons_succ]
  refine reg_take (i := 10) (v := ?v10) rfl (by kernel_rfl) rfl hHeld ?y10 ?r10
  case y10 => (intro w hSw; (try dsimp only at hSw); go_simp; all_goals with_reducible rfl)
  try simp only [Act.put, List.setIfInBounds_toArray, List.set_cons_zero, List.set_cons_succ]
  refine reg_take (i := 11) (v := ?v11) rfl (by kernel_rfl) rfl hHeld ?y11 ?r11
  case y11 => (intro w hSw; (try dsimp only at hSw); go_simp; all_goals with_reducible rfl)
  try simp only [Act.put, List.setIfInBounds_toArray, List.set_cons_zero, List.set_cons_succ]
  refine reg_take (i := 12) (v := ?v12) rfl (by kernel_rfl) rfl hHeld ?y12 ?r12
  case y12 => (intro w hSw; (try dsimp only at hSw); go_simp; all_goals with_reducible rfl)
  try simp only [Act.put, List.setIfInBounds_toArray, List.set_cons_zero, List.set_cons_succ]
  refine reg_take (i := 13) (v := ?v13) rfl (by kernel_rfl) rfl hHeld ?y13 ?r13
  case y13 => (intro w hSw; (try dsimp only at hSw); go_simp; all_goals with_reducible rfl)
  try simp only [Act.put, List.setIfInBounds_toArray, List.set_cons_zero, List.set_cons_succ]
  refine reg_take (i := 14) (v := ?v14) rfl (by kernel_rfl) rfl hHeld ?y14 ?r14
  case y14 => (intro w hSw; (try dsimp only at hSw); go_simp; all_goals with_reducible rfl)
  try simp only [Act.put, List.setIfInBounds_toArray, List.set_cons_zero, List.set_cons_succ]
  refine reg_take (i := 15) (v := ?v15) rfl (by kernel_rfl) rfl hHeld ?y15 ?r15
  case y15 => (intro w hSw; (try dsimp only at hSw); go_simp; all_goals with_reducible rfl)
  try simp only [Act.put, List.setIfInBounds_toArray, List.set_cons_zero, List.set_cons_succ]
  refine reg_take (i := 16) (v := ?v16) rfl (by kernel_rfl) rfl hHeld ?y16 ?r16
  case y16 => (intro w hSw; (try dsimp only at hSw); go_simp; all_goals with_reducible rfl)
  try simp only [Act.put, List.setIfInBounds_toArray, List.set_cons_zero, List.set_cons_succ]
  refine reg_take (i := 18) (v := ?v18) rfl (by kernel_rfl) rfl hHeld ?y18 ?r18
  case y18 => (intro w hSw; (try dsimp only at hSw); go_simp; all_goals with_reducible rfl)
  try simp only [Act.put, List.setIfInBounds_toArray, List.set_cons_zero, List.set_cons_succ]
  refine reg_loud (i := 17) rfl (by kernel_rfl) rfl (fun K hK => ?_)
  go_simp
  refine hK.out _ _ (c1) (fun hNew => ?_)
  clear hK K hHeld
  have hHeld := hNew
  clear hNew
  try simp only [Act.put, List.setIfInBounds_toArray, List.set_cons_zero, List.set_cons_succ]
  refine reg_take (i := 19) (v := ?v19) rfl (by kernel_rfl) rfl hHeld ?y19 ?r19
  case y19 => (intro w hSw; (try dsimp only at hSw); go_simp; all_goals with_reducible rfl)
  try simp only [Act.put, List.setIfInBounds_toArray, List.set_cons_zero, List.set_cons_succ]
  refine reg_take (i := 20) (v := ?v20) rfl (by kernel_rfl) rfl hHeld ?y20 ?r20
  case y20 => (intro w hSw; (try dsimp only at hSw); go_simp; all_goals with_reducible rfl)
  try simp only [Act.put, List.setIfInBounds_toArray, List.set_cons_zero, List.set_cons_succ]
  refine reg_loud (i := 21) rfl (by kernel_rfl) rfl (fun K hK => ?_)
  go_simp
  refine hK.out _ _ (by go_simp) (fun hNew => ?_)
  clear hK K hHeld
  have hHeld := hNew
  clear hNew
  try simp only [Act.put, List.setIfInBounds_toArray, List.set_cons_zero, List.set_cons_succ]
  refine reg_take (i := 22) (v := ?v22) rfl (by kernel_rfl) rfl hHeld ?y22 ?r22
  case y22 => (intro w hSw; (try dsimp only at hSw); go_simp; all_goals with_reducible rfl)
  try simp only [Act.put, List.setIfInBounds_toArray, List.set_cons_zero, List.set_cons_succ]
  refine reg_take (i := 23) (v := ?v23) rfl (by kernel_rfl) rfl hHeld ?y23 ?r23
  case y23 => (intro w hSw; (try dsimp only at hSw); go_simp; all_goals with_reducible rfl)
  try simp only [Act.put, List.setIfInBounds_toArray, List.set_cons_zero, List.set_cons_succ]
  refine reg_loud (i := 24) rfl (by kernel_rfl) rfl (fun K hK => ?_)
  go_simp
  refine hK.out _ _ (by go_simp) (fun hNew => ?_)
  clear hK K hHeld
  have hHeld := hNew
  clear hNew
  try simp only [Act.put, List.setIfInBounds_toArray, List.set_cons_zero, List.set_cons_succ]
  refine reg_done (by kernel_rfl) ?_ _
  -- END OF REGION left
  go_wp2_with fail
  rw [← HW1.out]
  refine HF1.out.mono ?_
  rintro e w2 ⟨rfl, h3, g3'⟩
  have g3 := HH2.out.chgRow g3'
  obtain ⟨n1, n2, n3, n4, n5, n6, n7⟩ := HN.out
  have hy3 : (xs1.set k (TT.pair k a b).nd)[l]? = some ⟨k, y.right, y.height, y.n, y.ones, y.ln, y.lones, y.b⟩ := by rw [set_ne n1.symm]; exact HY2.out
  have a3 : Sub w2 (xs1.set k (TT.pair k a b).nd) a := HA.out.chgC HH2.out g3 (set_out n2)
  have b3 : Sub w2 (xs1.set k (TT.pair k a b).nd) b := HB.out.chgC HH2.out g3 (set_out n3)
  have c3 : Sub w2 (xs1.set k (TT.pair k a b).nd) c := HC.out.chgC HH2.out g3 (set_out n4)
  have d3 : Sub w2 (xs1.set k (TT.pair k a b).nd) (.pair k a b) := ⟨set_get HX2.out, a3, b3⟩
  have HF2 := Lib.hid (tFix_tt (a := .pair k a b) h3 hy3 HYY.out.1 rfl HYY.out.2 d3 c3 s1 s2)
  have HA3 := Lib.hid c3
  have HD3 := Lib.hid d3
  have HH3 := Lib.hid h3
  have HG3 := Lib.hid (HBK.out _ g3')
  have HK3 : Hid (∀ b, RowB w2 p b → RowB w p b) := fun b hb => by obtain ⟨n, c, hb⟩ := hb; exact (HKW.out b ⟨n, c, (HH2.out.rowKeep g3' 1).symm.trans hb⟩)
  have HY3 := Lib.hid hy3
  clear hy3 a3 b3 c3 d3 h3 g3 g3' n1 n2 n3 n4 n5 n6 n7 hHeld
  go_wp2_with fail
  refine HF2.out.mono ?_
  rintro e w3 ⟨rfl, h4, g4'⟩
  have g4 := HH3.out.chgRow g4'
  have HH4 := Lib.hid h4
  have HG4 := Lib.hid g4
  have HG5 := Lib.hid (HG3.out.trans g4' (fun b hb => Or.inl (HK3.out b hb)))
  clear h4 g4 g4'
  go_wp2_with fail
  go_ret
  obtain ⟨n1, n2, n3, n4, n5, n6, n7⟩ := HN.out
  refine ⟨rfl, _, HH4.out, HG5.out, ⟨set_get HY3.out, ?_, ?_⟩, fun j h1 h2 => ?_, ?_⟩
  · refine HD3.out.chgC HH3.out HG4.out (set_out ?_)
    simp only [TT.nums, List.mem_cons, List.mem_append]
    rintro (hj | hj | hj)
    · exact n1 hj.symm
    · exact n5 hj
    · exact n6 hj
  · exact HA3.out.chgC HH3.out HG4.out (set_out n7)
  · rw [set_ne h2, set_ne h1]; exact HK1.out j h1 h2
  · simpa using HL1.out

end Go.Proofs.YtcppgpjodfeigaaDoor
