/- Lemmas and contracts under the claims of this seat: Trees of the call's own beside other rows. Waves of symbols in memory: the head, the rows of shelves, the trees. A tree's operations, of a tree of a wave. A wave that is being built; of no walk. The rows of bits that New of package wave gathers; of no walk. append of one element of some cells, one operation; of no program. Contracts of the reference's rows of bits: Ranks, Selects, Gets, Same. What a walk is told of the arguments that came in: rows of integers and of bools. The laws' helpers of layer 2: Bits, told; frames of blocks for a law's walk. Contracts of the reference's words and rows of bits. Contracts of the reference's In and Out, Put and Cut. The laws' helpers of layer 5: near, Least, fours. The laws' helpers of layer 5: May, Fine, same. The laws' helper of layer 5: told; plain lemmas for the laws. Contracts of package sorted: the closures of Rows. slices.SortFunc with the closures of sorted.Rows. Contract of slices.Reverse at bytes. Plain lemmas for the document's answer of layers 6 to 11: a string's numbers, suffixes behind equal parts, a place among sorted rows. The listed table, as a walk reads it. -/
import Derived.Test.YtacoeohmdngnkaaGreatDoorZl3
import Derived.Test.YtacoeohmdngnkaaGreatDoorZl1
import Derived.Test.YtacoeohmdngnkaaGreatDoorZl2
import Derived.Deep.QuietTactic
import Derived.BigQuiet
import Derived.ProofKit
import Derived.OpenShut
import Derived.ShutString
import Derived.ChangeOld
import Derived.Below
import Derived.IntWalk
import Derived.Test.YtacoeohmdngnkaaGreatDoorShelf
import Derived.Shelf.SlSortCmp.Whole1
import Derived.Deep.DeepCutAuto
import Derived.Deep.CutBlock
import Derived.Deep.CutRange
import Derived.Laws.BytesArg
import Derived.Test.YtacoeohmdngnkaaGreatDoorRows
import Derived.Lib.LaidTab
import Derived.Lay
import Derived.LaidSub
import Derived.MakeChecks
import Derived.SevenTiedAt
import Derived.JoinedOf
import Derived.ChangeVars

namespace Go.Proofs.YtacoeohmdngnkaaGreatDoor
set_option linter.unusedVariables false
set_option linter.unusedSimpArgs false
open Go.RowKit

/-- The blocks from B on, but for some. -/
def exT (B : Nat) (X : Nat → Prop) (k : Nat) : Prop := B ≤ k ∧ ¬ X k
/-- The block of a row. -/
def obk (v : Value) (k : Nat) : Prop := v.ownBlock = some k
/-- A tree whose blocks lie from B on and are none of X. -/
structure TreeE (B : Nat) (X : Nat → Prop) (w : World) (p : Nat) (o : Option ST) (made : Nat) (vis : Int) : Prop where
  t : ∃ S, TreeIs S w p o made vis ∧ ∀ k, S k → exT B X k
  le : B ≤ w.heap.size
  x : ∀ k, X k → k < w.heap.size

section
variable {B : Nat} {X : Nat → Prop} {w w' : World} {p made : Nat} {o : Option ST} {vis : Int}
theorem TreeE.good (h : TreeE B X w p o made vis) : Good o := by obtain ⟨S, h, _⟩ := h.t; exact h.good
theorem TreeE.len (h : TreeE B X w p o made vis) : (sbits o).length ≤ 2147483648 := by obtain ⟨S, h, _⟩ := h.t; exact h.len
/-- Blocks that came later are none of the tree's. -/
theorem TreeE.less (h : TreeE B X w p o made vis) (hb : Below w.heap.size w w') {Y : Nat → Prop} (hy : ∀ k, Y k → X k ∨ w.heap.size ≤ k) (hl : ∀ k, Y k → k < w'.heap.size) : TreeE B Y w' p o made vis := by
  obtain ⟨S, h1, h2⟩ := h.t
  exact ⟨⟨S, h1.below hb, fun k hk => ⟨(h2 k hk).1, fun hY => (hy k hY).elim (h2 k hk).2 (fun g => by have := h1.lt k hk; omega)⟩⟩, Nat.le_trans h.le hb.size, hl⟩
theorem TreeE.below (h : TreeE B X w p o made vis) (hb : Below w.heap.size w w') : TreeE B X w' p o made vis := h.less hb (fun k hk => Or.inl hk) (fun k hk => Nat.lt_of_lt_of_le (h.x k hk) hb.size)
theorem TreeE.drewN (h : TreeE B X w p o made vis) (n : Nat) : TreeE B X (w.drewN n) p o made vis := h.below ⟨rfl, rfl, rfl, Nat.le_refl _, fun _ _ => rfl⟩
theorem TreeE.chg {S : Nat → Prop} (h : TreeE B X w p o made vis) (hc : Chg S w w') (hd : ∀ k, exT B X k → k < w.heap.size → ¬ S k) : TreeE B X w' p o made vis := by
  obtain ⟨S', h1, h2⟩ := h.t
  exact ⟨⟨S', h1.chg hc (fun k hk => hd k (h2 k hk) (h1.lt k hk)), h2⟩, Nat.le_trans h.le hc.size, fun k hk => Nat.lt_of_lt_of_le (h.x k hk) hc.size⟩
theorem exT_below (hc : Chg (exT B X) w w') (hB : B ≤ w.heap.size) : Below B w w' := hc.below (fun b hb => hb.1) hB

/-- A look, at a tree beside other rows. -/
def ELook (B : Nat) (X : Nat → Prop) (w w' : World) (p : Nat) (o : Option ST) (made m : Nat) : Prop := (∃ v : Nat, v ≤ m ∧ TreeE B X w' p o made v) ∧ Chg (exT B X) w w'
theorem eLook {S : Nat → Prop} {m : Nat} (h : TreeE B X w p o made vis) (hS : ∀ k, S k → exT B X k) (hL : TLook S w w' p o made m) : ELook B X w w' p o made m := by
  obtain ⟨⟨v, hv, h1⟩, hc⟩ := hL
  exact ⟨⟨v, hv, ⟨⟨S, h1, hS⟩, Nat.le_trans h.le hc.size, fun k hk => Nat.lt_of_lt_of_le (h.x k hk) hc.size⟩⟩, hc.mono hS⟩
theorem rank_t (h : TreeE B X w p o made vis) {L : List Bool} (hL : sbits o = L) (k : Int) (x : Bool) {r : Nat} (hr : rankL L k.toNat x = r) :
    Calls Tryz.prog 73 #[.pointer (some ⟨p, 0, none⟩), .int .i64 k, .bool x] w fun e w' => e = .returned (.int .i64 r) ∧ ELook B X w w' p o made (shigh o + 1) := by
  subst hL hr; obtain ⟨S, h1, h2⟩ := h.t
  refine (tRank_is h1 k x).mono ?_
  rintro e w' ⟨rfl, hl⟩
  exact ⟨rfl, eLook h h2 hl⟩
end

end Go.Proofs.YtacoeohmdngnkaaGreatDoor

namespace Go.Proofs.YtacoeohmdngnkaaGreatDoor
set_option linter.unusedVariables false
set_option linter.unusedSimpArgs false
open Go.RowKit

/-- How many shelves a level has. -/
def pw (l : Nat) : Nat := 2 ^ l
theorem pw_pos (l : Nat) : 0 < pw l := Nat.two_pow_pos l
theorem pw_le {l : Nat} (h : l < 9) : pw l ≤ 256 := by
  unfold pw; exact Nat.le_trans (Nat.pow_le_pow_right (by omega) (by omega : l ≤ 8)) (by decide)

theorem TreeIs.types {S : Nat → Prop} {w : World} {p made : Nat} {o : Option ST} {vis : Int} (h : TreeIs S w p o made vis) {k : Nat} (hk : S k) :
    TypeAt w k 100 ∨ TypeAt w k 103 ∨ TypeAt w k 116 ∨ TypeAt w k 4 ∨ TypeAt w k 3 ∨ TypeAt w k 112 := by
  obtain ⟨C, A, xs, O, h1, h2, _, _, _, _, _, _, h9⟩ := h.ex
  rcases (h9 k).1 hk with hk | hk
  · rcases h1.types hk with g | g | g | g | g
    · exact Or.inl g
    · exact Or.inr (Or.inl g)
    · exact Or.inr (Or.inr (Or.inl g))
    · exact Or.inr (Or.inr (Or.inr (Or.inl g)))
    · exact Or.inr (Or.inr (Or.inr (Or.inr (Or.inl g))))
  · cases O with
    | none => simp [obl] at hk
    | some T => exact Or.inr (Or.inr (Or.inr (Or.inr (Or.inr (Sub.type h2 hk)))))
theorem TreeIs.notT {S : Nat → Prop} {w : World} {p made : Nat} {o : Option ST} {vis : Int} (h : TreeIs S w p o made vis) {k : Nat} {T : TypeId} (hk : TypeAt w k T)
    (hT : T ≠ 100 ∧ T ≠ 103 ∧ T ≠ 116 ∧ T ≠ 4 ∧ T ≠ 3 ∧ T ≠ 112) : ¬ S k := by
  intro hs
  rcases h.types hs with g | g | g | g | g | g
  · exact hk.ne g hT.1 rfl
  · exact hk.ne g hT.2.1 rfl
  · exact hk.ne g hT.2.2.1 rfl
  · exact hk.ne g hT.2.2.2.1 rfl
  · exact hk.ne g hT.2.2.2.2.1 rfl
  · exact hk.ne g hT.2.2.2.2.2 rfl

/-- Where a wave's rows and trees lie. -/
structure WD where
  G : Nat → Nat
  C : Nat → Nat
  Q : Nat → Nat → Nat
def WD.row (D : WD) (l : Nat) : Value := .slice (some ⟨D.G l, 0, none⟩) (pw l) (D.C l)
def headV (D : WD) (n : Nat) (vis : Int) : Array Value :=
  #[D.row 0, D.row 1, D.row 2, D.row 3, D.row 4, D.row 5, D.row 6, D.row 7, D.row 8, .int .i64 n, .int .i64 vis]
def rowsV (D : WD) : Value := .agg #[D.row 0, D.row 1, D.row 2, D.row 3, D.row 4, D.row 5, D.row 6, D.row 7, D.row 8]
def shelfV (D : WD) (l k : Nat) : Value := .agg #[.pointer (some ⟨D.Q l k, 0, none⟩), .int .i64 l, .int .i64 k]

/-- A wave: its head at p, its rows, its trees O with their blocks S. -/
structure WaveIn (w : World) (p : Nat) (D : WD) (O : Nat → Nat → Option ST) (S : Nat → Nat → Nat → Prop) (n : Nat) (vis : Int) (Vb : Nat → Nat → Int → Prop) : Prop where
  head : w.heap[p]? = some (.cells (headV D n vis) 75 (0, 0))
  rty : ∀ l, l < 9 → ∃ cs, w.heap[D.G l]? = some (.cells cs 79 (0, 0))
  rows : ∀ l k, l < 9 → k < pw l → w.cell? ⟨D.G l, k * 3, none⟩ = some (.pointer (some ⟨D.Q l k, 0, none⟩)) ∧ w.cell? ⟨D.G l, k * 3 + 1, none⟩ = some (.int .i64 l) ∧ w.cell? ⟨D.G l, k * 3 + 2, none⟩ = some (.int .i64 k)
  tree : ∀ l k, l < 9 → k < pw l → ∃ (made : Nat) (v : Int), Vb l k v ∧ TreeIs (S l k) w (D.Q l k) (O l k) made v
  dis : ∀ l k l' k', l < 9 → k < pw l → l' < 9 → k' < pw l' → (l ≠ l' ∨ k ≠ k') → ∀ j, S l k j → ¬ S l' k' j
/-- All its blocks. -/
def WvB (p : Nat) (D : WD) (S : Nat → Nat → Nat → Prop) (j : Nat) : Prop := j = p ∨ (∃ l, l < 9 ∧ j = D.G l) ∨ ∃ l k, l < 9 ∧ k < pw l ∧ S l k j
/-- A wave whose blocks lie from B on and are none of X. -/
structure WaveE (B : Nat) (X : Nat → Prop) (w : World) (p : Nat) (D : WD) (O : Nat → Nat → Option ST) (n : Nat) (vis : Int) (Vb : Nat → Nat → Int → Prop) : Prop where
  i : ∃ S, WaveIn w p D O S n vis Vb ∧ ∀ j, WvB p D S j → exT B X j
  le : B ≤ w.heap.size
  x : ∀ k, X k → k < w.heap.size
def anyV : Nat → Nat → Int → Prop := fun _ _ _ => True
/-- One tree is another one. -/
def updO {α : Type} (O : Nat → Nat → α) (l k : Nat) (o : α) : Nat → Nat → α := fun l' k' => if l' = l ∧ k' = k then o else O l' k'
theorem updO_same {α : Type} (O : Nat → Nat → α) (l k : Nat) (o : α) : updO O l k o l k = o := by simp [updO]
theorem updO_ne {α : Type} (O : Nat → Nat → α) {l k l' k' : Nat} (o : α) (h : l' ≠ l ∨ k' ≠ k) : updO O l k o l' k' = O l' k' := by
  unfold updO; rw [if_neg (by omega)]
theorem updO_self {α : Type} (O : Nat → Nat → α) (l k : Nat) : updO O l k (O l k) = O := by
  funext l' k'; unfold updO; split
  · next h => rw [h.1, h.2]
  · rfl

section
variable {B : Nat} {X Y : Nat → Prop} {w w' : World} {p n : Nat} {D : WD} {O : Nat → Nat → Option ST} {S : Nat → Nat → Nat → Prop} {vis vis' : Int} {Vb Vc : Nat → Nat → Int → Prop}
theorem WaveIn.tyP (h : WaveIn w p D O S n vis Vb) : TypeAt w p 75 := ⟨_, h.head⟩
theorem WaveIn.tyG (h : WaveIn w p D O S n vis Vb) {l : Nat} (hl : l < 9) : TypeAt w (D.G l) 79 := by
  obtain ⟨cs, h⟩ := h.rty l hl; exact ⟨cs, h⟩
theorem WaveIn.nP (h : WaveIn w p D O S n vis Vb) {l k : Nat} (hl : l < 9) (hk : k < pw l) : ¬ S l k p := by
  obtain ⟨m, v, _, ht⟩ := h.tree l k hl hk
  exact ht.notT h.tyP (by decide)
theorem WaveIn.nG (h : WaveIn w p D O S n vis Vb) {l k l' : Nat} (hl : l < 9) (hk : k < pw l) (hl' : l' < 9) : ¬ S l k (D.G l') := by
  obtain ⟨m, v, _, ht⟩ := h.tree l k hl hk
  exact ht.notT (h.tyG hl') (by decide)
theorem WaveIn.pG (h : WaveIn w p D O S n vis Vb) {l : Nat} (hl : l < 9) : D.G l ≠ p := TypeAt.ne (h.tyG hl) h.tyP (by decide)
theorem WaveIn.lt (h : WaveIn w p D O S n vis Vb) : ∀ j, WvB p D S j → j < w.heap.size := by
  rintro j (rfl | ⟨l, hl, rfl⟩ | ⟨l, k, hl, hk, hj⟩)
  · exact h.tyP.lt
  · exact (h.tyG hl).lt
  · obtain ⟨m, v, _, ht⟩ := h.tree l k hl hk; exact ht.lt j hj
/-- What changes none of its blocks. -/
theorem WaveIn.chg {Z : Nat → Prop} (h : WaveIn w p D O S n vis Vb) (hc : Chg Z w w') (hd : ∀ j, WvB p D S j → ¬ Z j) : WaveIn w' p D O S n vis Vb := by
  refine ⟨hc.heap h.head (hd p (Or.inl rfl)), fun l hl => ?_, fun l k hl hk => ?_, fun l k hl hk => ?_, h.dis⟩
  · obtain ⟨cs, h1⟩ := h.rty l hl
    exact ⟨cs, hc.heap h1 (hd _ (Or.inr (Or.inl ⟨l, hl, rfl⟩)))⟩
  · obtain ⟨a, b, c⟩ := h.rows l k hl hk
    have hn := hd _ (Or.inr (Or.inl ⟨l, hl, rfl⟩))
    exact ⟨hc.cell (p := ⟨D.G l, k * 3, none⟩) a hn, hc.cell (p := ⟨D.G l, k * 3 + 1, none⟩) b hn, hc.cell (p := ⟨D.G l, k * 3 + 2, none⟩) c hn⟩
  · obtain ⟨m, v, hv, ht⟩ := h.tree l k hl hk
    exact ⟨m, v, hv, ht.chg hc (fun j hj => hd j (Or.inr (Or.inr ⟨l, k, hl, hk, hj⟩)))⟩
/-- The head's last cells are written. -/
theorem WaveIn.put (h : WaveIn w p D O S n vis Vb) {n' : Nat} (hc : Chg (fun j => j = p) w w') (hp : w'.heap[p]? = some (.cells (headV D n' vis') 75 (0, 0))) : WaveIn w' p D O S n' vis' Vb := by
  refine ⟨hp, fun l hl => ?_, fun l k hl hk => ?_, fun l k hl hk => ?_, h.dis⟩
  · obtain ⟨cs, h1⟩ := h.rty l hl
    exact ⟨cs, hc.heap h1 (h.pG hl)⟩
  · obtain ⟨a, b, c⟩ := h.rows l k hl hk
    have hn := h.pG hl
    exact ⟨hc.cell (p := ⟨D.G l, k * 3, none⟩) a hn, hc.cell (p := ⟨D.G l, k * 3 + 1, none⟩) b hn, hc.cell (p := ⟨D.G l, k * 3 + 2, none⟩) c hn⟩
  · obtain ⟨m, v, hv, ht⟩ := h.tree l k hl hk
    exact ⟨m, v, hv, ht.chg hc (fun j hj e => h.nP hl hk (by rw [← e]; exact hj))⟩
/-- A step of one tree. -/
theorem WaveIn.step (h : WaveIn w p D O S n vis Vb) {l k : Nat} (hl : l < 9) (hk : k < pw l) {S' : Nat → Prop} {o' : Option ST} {made' : Nat} {v' : Int} (ht : TreeIs S' w' (D.Q l k) o' made' v') (hS : ∀ j, S' j → S l k j ∨ w.heap.size ≤ j) (hc : Chg (S l k) w w')
    (hv : Vc l k v') (hvv : ∀ l' k' v, Vb l' k' v → (l' ≠ l ∨ k' ≠ k) → Vc l' k' v) : WaveIn w' p D (updO O l k o') (updO S l k S') n vis Vc := by
  refine ⟨hc.heap h.head (h.nP hl hk), fun l' hl' => ?_, fun l' k' hl' hk' => ?_, fun l' k' hl' hk' => ?_, fun l1 k1 l2 k2 h1 h2 h3 h4 hne j hj hj2 => ?_⟩
  · obtain ⟨cs, h1⟩ := h.rty l' hl'
    exact ⟨cs, hc.heap h1 (h.nG hl hk hl')⟩
  · obtain ⟨a, b, c⟩ := h.rows l' k' hl' hk'
    have hn := h.nG hl hk hl'
    exact ⟨hc.cell (p := ⟨D.G l', k' * 3, none⟩) a hn, hc.cell (p := ⟨D.G l', k' * 3 + 1, none⟩) b hn, hc.cell (p := ⟨D.G l', k' * 3 + 2, none⟩) c hn⟩
  · by_cases e : l' = l ∧ k' = k
    · obtain ⟨rfl, rfl⟩ := e
      rw [updO_same, updO_same]; exact ⟨made', v', hv, ht⟩
    · have hne : l' ≠ l ∨ k' ≠ k := by omega
      rw [updO_ne _ _ hne, updO_ne _ _ hne]
      obtain ⟨m, v, hvb, ht2⟩ := h.tree l' k' hl' hk'
      exact ⟨m, v, hvv l' k' v hvb hne, ht2.chg hc (fun j hj => h.dis l' k' l k hl' hk' hl hk (by omega) j hj)⟩
  · have key : ∀ l1 k1, l1 < 9 → k1 < pw l1 → updO S l k S' l1 k1 j → (l1 = l ∧ k1 = k ∧ (S l k j ∨ w.heap.size ≤ j)) ∨ ((l1 ≠ l ∨ k1 ≠ k) ∧ S l1 k1 j) := by
      intro l1 k1 h1 h2 hj
      by_cases e : l1 = l ∧ k1 = k
      · obtain ⟨rfl, rfl⟩ := e
        rw [updO_same] at hj
        exact Or.inl ⟨rfl, rfl, hS j hj⟩
      · have hne : l1 ≠ l ∨ k1 ≠ k := by omega
        rw [updO_ne _ _ hne] at hj
        exact Or.inr ⟨hne, hj⟩
    have ltS : ∀ l1 k1, l1 < 9 → k1 < pw l1 → S l1 k1 j → j < w.heap.size := fun l1 k1 h1 h2 hj => h.lt j (Or.inr (Or.inr ⟨l1, k1, h1, h2, hj⟩))
    rcases key l1 k1 h1 h2 hj with ⟨e1, e2, e3⟩ | ⟨e1, e2⟩ <;> rcases key l2 k2 h3 h4 hj2 with ⟨f1, f2, f3⟩ | ⟨f1, f2⟩
    · omega
    · rcases e3 with e3 | e3
      · exact h.dis l k l2 k2 hl hk h3 h4 (by omega) j e3 f2
      · have := ltS l2 k2 h3 h4 f2; omega
    · rcases f3 with f3 | f3
      · exact h.dis l k l1 k1 hl hk h1 h2 (by omega) j f3 e2
      · have := ltS l1 k1 h1 h2 e2; omega
    · exact h.dis l1 k1 l2 k2 h1 h2 h3 h4 hne j e2 f2

theorem WaveE.vb (h : WaveE B X w p D O n vis Vb) (hv : ∀ l k v, Vb l k v → Vc l k v) : WaveE B X w p D O n vis Vc := by
  obtain ⟨S, h1, h2⟩ := h.i
  exact ⟨⟨S, ⟨h1.head, h1.rty, h1.rows, fun l k hl hk => by obtain ⟨m, v, hvb, ht⟩ := h1.tree l k hl hk; exact ⟨m, v, hv l k v hvb, ht⟩, h1.dis⟩, h2⟩, h.le, h.x⟩
theorem WaveE.any (h : WaveE B X w p D O n vis Vb) : WaveE B X w p D O n vis anyV := h.vb (fun _ _ _ _ => trivial)
/-- Blocks that came later are none of the wave's. -/
theorem WaveE.less (h : WaveE B X w p D O n vis Vb) (hb : Below w.heap.size w w') (hy : ∀ k, Y k → X k ∨ w.heap.size ≤ k) (hl : ∀ k, Y k → k < w'.heap.size) : WaveE B Y w' p D O n vis Vb := by
  obtain ⟨S, h1, h2⟩ := h.i
  refine ⟨⟨S, h1.chg (Z := fun _ => False) (Chg.of_below hb) (fun _ _ hf => hf), fun j hj => ⟨(h2 j hj).1, fun hY => (hy j hY).elim (h2 j hj).2 (fun g => by have := h1.lt j hj; omega)⟩⟩, Nat.le_trans h.le hb.size, hl⟩
theorem WaveE.below (h : WaveE B X w p D O n vis Vb) (hb : Below w.heap.size w w') : WaveE B X w' p D O n vis Vb := h.less hb (fun k hk => Or.inl hk) (fun k hk => Nat.lt_of_lt_of_le (h.x k hk) hb.size)
theorem WaveE.drewN (h : WaveE B X w p D O n vis Vb) (m : Nat) : WaveE B X (w.drewN m) p D O n vis Vb := h.below ⟨rfl, rfl, rfl, Nat.le_refl _, fun _ _ => rfl⟩
theorem WaveE.chg {Z : Nat → Prop} (h : WaveE B X w p D O n vis Vb) (hc : Chg Z w w') (hd : ∀ k, exT B X k → k < w.heap.size → ¬ Z k) : WaveE B X w' p D O n vis Vb := by
  obtain ⟨S, h1, h2⟩ := h.i
  exact ⟨⟨S, h1.chg hc (fun k hk => hd k (h2 k hk) (h1.lt k hk)), h2⟩, Nat.le_trans h.le hc.size, fun k hk => Nat.lt_of_lt_of_le (h.x k hk) hc.size⟩
theorem WaveE.mono (h : WaveE B X w p D O n vis Vb) (hy : ∀ k, Y k → X k) : WaveE B Y w p D O n vis Vb := by
  obtain ⟨S, h1, h2⟩ := h.i
  exact ⟨⟨S, h1, fun j hj => ⟨(h2 j hj).1, fun hY => (h2 j hj).2 (hy j hY)⟩⟩, h.le, fun k hk => h.x k (hy k hk)⟩
/-- A step of one tree. -/
theorem WaveE.step (h : WaveE B X w p D O n vis Vb) {l k : Nat} (hl : l < 9) (hk : k < pw l) :
    ∃ (S : Nat → Prop) (made : Nat) (v : Int), Vb l k v ∧ TreeIs S w (D.Q l k) (O l k) made v ∧ (∀ j, S j → exT B X j) ∧
      ∀ w' S' o' made' v' Vc, TreeIs S' w' (D.Q l k) o' made' v' → (∀ j, S' j → S j ∨ w.heap.size ≤ j) → Chg S w w' → Vc l k v' → (∀ l' k' v, Vb l' k' v → (l' ≠ l ∨ k' ≠ k) → Vc l' k' v) →
        WaveE B X w' p D (updO O l k o') n vis Vc ∧ Chg (exT B X) w w' := by
  obtain ⟨S, h1, h2⟩ := h.i
  obtain ⟨m, v, hv, ht⟩ := h1.tree l k hl hk
  have hSx : ∀ j, S l k j → exT B X j := fun j hj => h2 j (Or.inr (Or.inr ⟨l, k, hl, hk, hj⟩))
  refine ⟨S l k, m, v, hv, ht, hSx, fun w' S' o' made' v' Vc ht' hS hc hvc hvv => ⟨⟨⟨updO S l k S', h1.step hl hk ht' hS hc hvc hvv, ?_⟩, Nat.le_trans h.le hc.size, fun j hj => Nat.lt_of_lt_of_le (h.x j hj) hc.size⟩, hc.mono hSx⟩⟩
  rintro j (rfl | ⟨l1, hl1, rfl⟩ | ⟨l1, k1, hl1, hk1, hj⟩)
  · exact h2 _ (Or.inl rfl)
  · exact h2 _ (Or.inr (Or.inl ⟨l1, hl1, rfl⟩))
  · by_cases e : l1 = l ∧ k1 = k
    · obtain ⟨rfl, rfl⟩ := e
      rw [updO_same] at hj
      rcases hS j hj with hj | hj
      · exact hSx j hj
      · exact ⟨Nat.le_trans h.le hj, fun hx => by have := h.x j hx; omega⟩
    · have hne : l1 ≠ l ∨ k1 ≠ k := by omega
      rw [updO_ne _ _ hne] at hj
      exact h2 j (Or.inr (Or.inr ⟨l1, k1, hl1, hk1, hj⟩))
/-- The head. -/
theorem WaveE.head (h : WaveE B X w p D O n vis Vb) : w.heap[p]? = some (.cells (headV D n vis) 75 (0, 0)) ∧ exT B X p := by
  obtain ⟨S, h1, h2⟩ := h.i
  exact ⟨h1.head, h2 p (Or.inl rfl)⟩
theorem WaveE.put (h : WaveE B X w p D O n vis Vb) {n' : Nat} (hc : Chg (fun j => j = p) w w') (hp : w'.heap[p]? = some (.cells (headV D n' vis') 75 (0, 0))) : WaveE B X w' p D O n' vis' Vb := by
  obtain ⟨S, h1, h2⟩ := h.i
  exact ⟨⟨S, h1.put hc hp, h2⟩, Nat.le_trans h.le hc.size, fun j hj => Nat.lt_of_lt_of_le (h.x j hj) hc.size⟩
theorem WaveE.setVis (h : WaveE B X w p D O n vis Vb) (v : Int) : WaveE B X (w.setCell ⟨p, 10, none⟩ (.int .i64 v)) p D O n v Vb ∧ Chg (exT B X) w (w.setCell ⟨p, 10, none⟩ (.int .i64 v)) := by
  have hc : Chg (fun j => j = p) w (w.setCell ⟨p, 10, none⟩ (.int .i64 v)) := Chg.refl.setCell (S := fun j => j = p) ⟨p, 10, none⟩ (Or.inl rfl) _
  exact ⟨h.put hc (heap_setCell_same w p 10 _ _ _ h.head.1), hc.mono (fun j hj => by subst hj; exact h.head.2)⟩
/-- The head's cells. -/
theorem WaveE.cells (h : WaveE B X w p D O n vis Vb) : (∀ l, l < 9 → w.cell? ⟨p, l, none⟩ = some (D.row l)) ∧ w.cell? ⟨p, 9, none⟩ = some (.int .i64 n) ∧ w.cell? ⟨p, 10, none⟩ = some (.int .i64 vis) ∧ (∀ j, w.frozen? ⟨p, j, none⟩ = false) ∧ p < w.heap.size := by
  have hp := h.head.1
  refine ⟨fun l hl => ?_, by rw [cell_of_row w p 9 _ _ _ hp]; rfl, by rw [cell_of_row w p 10 _ _ _ hp]; rfl, fun j => frozen_of_row w p j _ _ hp, (Array.getElem?_eq_some_iff.1 hp).1⟩
  rw [cell_of_row w p l _ _ _ hp]
  have : l = 0 ∨ l = 1 ∨ l = 2 ∨ l = 3 ∨ l = 4 ∨ l = 5 ∨ l = 6 ∨ l = 7 ∨ l = 8 := by omega
  rcases this with rfl | rfl | rfl | rfl | rfl | rfl | rfl | rfl | rfl <;> rfl
/-- A shelf's cells. -/
theorem WaveE.shelf (h : WaveE B X w p D O n vis Vb) {l k : Nat} (hl : l < 9) (hk : k < pw l) : w.cell? ⟨D.G l, k * 3, none⟩ = some (.pointer (some ⟨D.Q l k, 0, none⟩)) ∧ w.cell? ⟨D.G l, k * 3 + 1, none⟩ = some (.int .i64 l) ∧ w.cell? ⟨D.G l, k * 3 + 2, none⟩ = some (.int .i64 k) := by
  obtain ⟨S, h1, _⟩ := h.i
  exact h1.rows l k hl hk
end

end Go.Proofs.YtacoeohmdngnkaaGreatDoor

namespace Go.Proofs.YtacoeohmdngnkaaGreatDoor
set_option linter.unusedVariables false
set_option linter.unusedSimpArgs false
open Go.RowKit

/-- How many nodes a step on one tree looked at. -/
def vbAt (l k M : Nat) : Nat → Nat → Int → Prop := fun l' k' v => l' = l → k' = k → 0 ≤ v ∧ v ≤ M
section
variable {B : Nat} {X : Nat → Prop} {w w' : World} {p n : Nat} {D : WD} {O : Nat → Nat → Option ST} {vis : Int} {Vb : Nat → Nat → Int → Prop} {l k : Nat}
theorem vbAt_at {M v : Nat} (h : v ≤ M) : vbAt l k M l k (v : Int) := fun _ _ => ⟨by omega, by exact_mod_cast h⟩
theorem vbAt_ne {M : Nat} {Vb : Nat → Nat → Int → Prop} : ∀ l' k' v, Vb l' k' v → (l' ≠ l ∨ k' ≠ k) → vbAt l k M l' k' v := fun l' k' v _ hne h1 h2 => by omega
theorem WaveE.tGood (h : WaveE B X w p D O n vis Vb) (hl : l < 9) (hk : k < pw l) : Good (O l k) ∧ (sbits (O l k)).length ≤ 2147483648 := by
  obtain ⟨S, made, v, hv, ht, hS, hst⟩ := h.step hl hk
  exact ⟨ht.good, ht.len⟩
theorem WaveE.tRank (h : WaveE B X w p D O n vis Vb) (hl : l < 9) (hk : k < pw l) (j : Int) (x : Bool) :
    Calls Tryz.prog 73 #[.pointer (some ⟨D.Q l k, 0, none⟩), .int .i64 j, .bool x] w fun e w' => e = .returned (.int .i64 (rankL (sbits (O l k)) j.toNat x)) ∧ WaveE B X w' p D O n vis (vbAt l k (shigh (O l k) + 1)) ∧ Chg (exT B X) w w' := by
  obtain ⟨S, made, v, hv, ht, hS, hst⟩ := h.step hl hk
  refine (tRank_is ht j x).mono ?_
  rintro e w' ⟨rfl, ⟨v', hv', ht'⟩, hc⟩
  have := hst w' S _ made v' (vbAt l k (shigh (O l k) + 1)) ht' (fun j hj => Or.inl hj) hc (vbAt_at hv') vbAt_ne
  rw [updO_self] at this
  exact ⟨rfl, this⟩
theorem WaveE.tGet (h : WaveE B X w p D O n vis Vb) (hl : l < 9) (hk : k < pw l) (j : Nat) (hj : j < (sbits (O l k)).length) :
    Calls Tryz.prog 61 #[.pointer (some ⟨D.Q l k, 0, none⟩), .int .i64 j] w fun e w' => e = .returned (.tuple #[.bool (bitAt (sbits (O l k)) j), .int .i64 0]) ∧ WaveE B X w' p D O n vis (vbAt l k (shigh (O l k) + 1)) ∧ Chg (exT B X) w w' := by
  obtain ⟨S, made, v, hv, ht, hS, hst⟩ := h.step hl hk
  refine (tGet_is ht j hj).mono ?_
  rintro e w' ⟨rfl, ⟨v', hv', ht'⟩, hc⟩
  have := hst w' S _ made v' (vbAt l k (shigh (O l k) + 1)) ht' (fun j hj => Or.inl hj) hc (vbAt_at hv') vbAt_ne
  rw [updO_self] at this
  exact ⟨rfl, this⟩
theorem WaveE.tSelect (h : WaveE B X w p D O n vis Vb) (hl : l < 9) (hk : k < pw l) (hTab : BitTab w) (hN : 0 < B) (j : Int) (x : Bool) :
    Calls Tryz.prog 64 #[.pointer (some ⟨D.Q l k, 0, none⟩), .int .i64 j, .bool x] w fun e w' => e = .returned (.int .i64 (selL (sbits (O l k)) j x)) ∧ WaveE B X w' p D O n vis (vbAt l k (shigh (O l k) + 1)) ∧ Chg (exT B X) w w' := by
  obtain ⟨S, made, v, hv, ht, hS, hst⟩ := h.step hl hk
  refine (tSelect_is ht hTab (fun hs => by have := (hS _ hs).1; omega) j x).mono ?_
  rintro e w' ⟨rfl, ⟨v', hv', ht'⟩, hc⟩
  have := hst w' S _ made v' (vbAt l k (shigh (O l k) + 1)) ht' (fun j hj => Or.inl hj) hc (vbAt_at hv') vbAt_ne
  rw [updO_self] at this
  exact ⟨rfl, this⟩
end

end Go.Proofs.YtacoeohmdngnkaaGreatDoor

namespace Go.Proofs.YtacoeohmdngnkaaGreatDoor
set_option linter.unusedVariables false
set_option linter.unusedSimpArgs false
open Go.RowKit

/-- The cells of a level's first shelves. -/
def shC (Q : Nat → Nat → Nat) (l k : Nat) : List Value := (List.range k).flatMap (fun i => [.pointer (some ⟨Q l i, 0, none⟩), .int .i64 l, .int .i64 i])
theorem shC_succ (Q : Nat → Nat → Nat) (l k : Nat) : shC Q l (k + 1) = shC Q l k ++ [.pointer (some ⟨Q l k, 0, none⟩), .int .i64 l, .int .i64 k] := by
  unfold shC; rw [List.range_succ, List.flatMap_append]; simp
theorem shC_len (Q : Nat → Nat → Nat) (l k : Nat) : (shC Q l k).length = k * 3 := by
  induction k with
  | zero => rfl
  | succ k ih => rw [shC_succ, List.length_append, ih]; simp; omega
theorem shC_congr {Q Q' : Nat → Nat → Nat} {l k : Nat} (h : ∀ i, i < k → Q l i = Q' l i) : shC Q l k = shC Q' l k := by
  induction k with
  | zero => rfl
  | succ k ih => rw [shC_succ, shC_succ, ih (fun i hi => h i (by omega)), h k (by omega)]
theorem shC_get (Q : Nat → Nat → Nat) (l : Nat) {i k : Nat} (h : i < k) : (shC Q l k)[i * 3]? = some (.pointer (some ⟨Q l i, 0, none⟩)) ∧ (shC Q l k)[i * 3 + 1]? = some (.int .i64 l) ∧ (shC Q l k)[i * 3 + 2]? = some (.int .i64 i) := by
  induction k with
  | zero => omega
  | succ k ih =>
    rw [shC_succ]
    by_cases e : i = k
    · subst e
      have hl := shC_len Q l i
      refine ⟨?_, ?_, ?_⟩
      · rw [List.getElem?_append_right (by omega), hl, Nat.sub_self]; rfl
      · rw [List.getElem?_append_right (by omega), hl, show i * 3 + 1 - i * 3 = 1 by omega]; rfl
      · rw [List.getElem?_append_right (by omega), hl, show i * 3 + 2 - i * 3 = 2 by omega]; rfl
    · obtain ⟨a, b, c⟩ := ih (by omega)
      have hl := shC_len Q l k
      refine ⟨?_, ?_, ?_⟩
      · rw [List.getElem?_append_left (by omega)]; exact a
      · rw [List.getElem?_append_left (by omega)]; exact b
      · rw [List.getElem?_append_left (by omega)]; exact c

def headG (V : Nat → Value) (n : Nat) : Array Value := #[V 0, V 1, V 2, V 3, V 4, V 5, V 6, V 7, V 8, .int .i64 n, .int .i64 0]
def putV (V : Nat → Value) (l : Nat) (v : Value) : Nat → Value := fun l' => if l' = l then v else V l'
def incC (c : Nat → Nat) (l : Nat) : Nat → Nat := fun l' => if l' = l then c l + 1 else c l'
theorem headG_put (V : Nat → Value) (n : Nat) {l : Nat} (h : l < 9) (v : Value) : (headG V n).setIfInBounds l v = headG (putV V l v) n := by
  have : l = 0 ∨ l = 1 ∨ l = 2 ∨ l = 3 ∨ l = 4 ∨ l = 5 ∨ l = 6 ∨ l = 7 ∨ l = 8 := by omega
  rcases this with rfl | rfl | rfl | rfl | rfl | rfl | rfl | rfl | rfl <;> rfl
theorem headG_get (V : Nat → Value) (n : Nat) {l : Nat} (h : l < 9) : (headG V n)[l]? = some (V l) := by
  have : l = 0 ∨ l = 1 ∨ l = 2 ∨ l = 3 ∨ l = 4 ∨ l = 5 ∨ l = 6 ∨ l = 7 ∨ l = 8 := by omega
  rcases this with rfl | rfl | rfl | rfl | rfl | rfl | rfl | rfl | rfl <;> rfl

/-- A wave that is being built: so many shelves of each level are there. -/
structure WavePt (w : World) (base p : Nat) (V : Nat → Value) (c : Nat → Nat) (Q : Nat → Nat → Nat) (O : Nat → Nat → Option ST) (S : Nat → Nat → Nat → Prop) (n : Nat) : Prop where
  head : w.heap[p]? = some (.cells (headG V n) 75 (0, 0))
  rows : ∀ l, l < 9 → w.ownsRow base 79 3 (V l) (c l) (shC Q l (c l))
  rdis : ∀ l l' g, l < 9 → l' < 9 → l ≠ l' → (V l).ownBlock = some g → (V l').ownBlock ≠ some g
  tree : ∀ l k, l < 9 → k < c l → ∃ made, TreeIs (S l k) w (Q l k) (O l k) made 0
  dis : ∀ l k l' k', l < 9 → k < c l → l' < 9 → k' < c l' → (l ≠ l' ∨ k ≠ k') → ∀ j, S l k j → ¬ S l' k' j
  low : base ≤ p ∧ ∀ l k j, l < 9 → k < c l → S l k j → base ≤ j

section
variable {w w' : World} {base p n : Nat} {V : Nat → Value} {c : Nat → Nat} {Q : Nat → Nat → Nat} {O : Nat → Nat → Option ST} {S : Nat → Nat → Nat → Prop}
theorem own_ty {w : World} {base : Nat} {e : TypeId} {size : Nat} {v : Value} {n : Nat} {xs : List Value} (h : w.ownsRow base e size v n xs) {g : Nat} (hg : v.ownBlock = some g) : TypeAt w g e := by
  rcases h.2 with ⟨rfl, _⟩ | ⟨g', cap, cur, rfl, _, hgg, _⟩
  · simp [Value.ownBlock] at hg
  · simp [Value.ownBlock] at hg
    subst hg
    exact ⟨cur, hgg⟩
theorem WavePt.tyP (h : WavePt w base p V c Q O S n) : TypeAt w p 75 := ⟨_, h.head⟩
theorem WavePt.tyG (h : WavePt w base p V c Q O S n) {l g : Nat} (hl : l < 9) (hg : (V l).ownBlock = some g) : TypeAt w g 79 := own_ty (h.rows l hl) hg
theorem WavePt.chg {Z : Nat → Prop} (h : WavePt w base p V c Q O S n) (hc : Chg Z w w') (hp : ¬ Z p) (hr : ∀ l g, l < 9 → (V l).ownBlock = some g → ¬ Z g) (ht : ∀ l k j, l < 9 → k < c l → S l k j → ¬ Z j) : WavePt w' base p V c Q O S n :=
  ⟨hc.heap h.head hp, fun l hl => hc.own (h.rows l hl) (fun g hg => hr l g hl hg), h.rdis, fun l k hl hk => by obtain ⟨m, t⟩ := h.tree l k hl hk; exact ⟨m, t.chg hc (fun j hj => ht l k j hl hk hj)⟩, h.dis, h.low⟩
theorem WavePt.below (h : WavePt w base p V c Q O S n) (hb : Below w.heap.size w w') : WavePt w' base p V c Q O S n :=
  h.chg (Z := fun _ => False) (Chg.of_below hb) id (fun _ _ _ _ => id) (fun _ _ _ _ _ _ => id)
theorem WavePt.start (w : World) (n : Nat) (hb : base ≤ w.heap.size) (Q : Nat → Nat → Nat) (O : Nat → Nat → Option ST) (S : Nat → Nat → Nat → Prop) : WavePt (w.alloc (.cells (headG (fun _ => .slice none 0 0) n) 75)) base w.heap.size (fun _ => .slice none 0 0) (fun _ => 0) Q O S n :=
  ⟨heap_alloc_new w _, fun l hl => World.ownsRow_nil _ _ _ _, fun l l' g _ _ _ h => by simp [Value.ownBlock] at h, fun l k _ hk => by omega, fun l k l' k' _ hk => by omega, hb, fun l k j _ hk => by omega⟩

/-- One more shelf. -/
theorem WavePt.push {w1 w2 w3 : World} (h : WavePt w base p V c Q O S n) {l : Nat} (hl : l < 9) {S' : Nat → Prop} {q m : Nat} {o : Option ST} (ht : TreeIs S' w1 q o m 0) (hS : ∀ j, S' j → w.heap.size ≤ j) (h1 : Chg (fun _ => False) w w1) (h2 : Below w1.heap.size w1 w2)
    {v : Value} {g : Nat} (hv : v.ownBlock = some g) (hown : w3.ownsRow base 79 3 v (c l + 1) (shC Q l (c l) ++ [.pointer (some ⟨q, 0, none⟩), .int .i64 l, .int .i64 (c l : Nat)])) (hg : w2.grownBy w3 (V l).ownBlock) (hor : (V l).ownBlock = some g ∨ w2.heap.size ≤ g) :
    WavePt (w3.setCell ⟨p, l, none⟩ v) base p (putV V l v) (incC c l) (updO Q l (c l) q) (updO O l (c l) o) (updO S l (c l) S') n ∧ Chg (fun j => j = p ∨ (V l).ownBlock = some j) w (w3.setCell ⟨p, l, none⟩ v) := by
  have h12 : Chg (fun _ => False) w w2 := h1.trans (Chg.of_below (S := fun _ => False) h2) (fun b hb => hb.elim)
  have h3 : Chg (fun j => (V l).ownBlock = some j) w w3 := (h12.mono (fun j hj => hj.elim)).grown hg (fun k hk => Or.inl hk)
  have h3' : Chg (fun j => (V l).ownBlock = some j) w1 w3 := (Chg.of_below (S := fun j => (V l).ownBlock = some j) h2).grown hg (fun k hk => Or.inl hk)
  have hpw := h.tyP.lt
  have hpl : (V l).ownBlock ≠ some p := fun e => TypeAt.ne (h.tyG hl e) h.tyP (by decide) rfl
  have hset : Chg (fun j => j = p) w3 (w3.setCell ⟨p, l, none⟩ v) := Chg.refl.setCell (S := fun j => j = p) ⟨p, l, none⟩ (Or.inl rfl) v
  have hgt : TypeAt w3 g 79 := own_ty hown hv
  have hhead : w3.heap[p]? = some (.cells (headG V n) 75 (0, 0)) := h3.heap h.head hpl
  have hgp : g ≠ p := fun e => TypeAt.ne hgt ⟨_, hhead⟩ (by decide) e
  have nP : ∀ l' k, l' < 9 → k < c l' → ¬ S l' k p := fun l' k hl' hk => by obtain ⟨m, t⟩ := h.tree l' k hl' hk; exact t.notT h.tyP (by decide)
  have nG : ∀ l' k g', l' < 9 → k < c l' → (V l).ownBlock = some g' → ¬ S l' k g' := fun l' k g' hl' hk e => by obtain ⟨m, t⟩ := h.tree l' k hl' hk; exact t.notT (h.tyG hl e) (by decide)
  have nG' : ∀ j, S' j → (V l).ownBlock ≠ some j := fun j hj e => by have := (h.tyG hl e).lt; have := hS j hj; omega
  have nP' : ¬ S' p := fun hj => by have := hS p hj; omega
  have hsz := h12.size
  refine ⟨⟨?_, fun l' hl' => ?_, fun l1 l2 g' hl1 hl2 hne hg1 hg2 => ?_, fun l' k hl' hk => ?_, fun l1 k1 l2 k2 hl1 hk1 hl2 hk2 hne j hj1 hj2 => ?_, h.low.1, fun l' k j hl' hk hj => ?_⟩, Chg.setCell (S := fun j => j = p ∨ (V l).ownBlock = some j) (h3.mono (fun j hj => Or.inr hj)) ⟨p, l, none⟩ (Or.inl (Or.inl rfl)) v⟩
  · have := heap_setCell_same w3 p l _ _ v hhead
    rw [headG_put V n hl v] at this
    exact this
  · by_cases e : l' = l
    · subst e
      have e1 : putV V l' v l' = v := by simp [putV]
      have e2 : incC c l' l' = c l' + 1 := by simp [incC]
      rw [e1, e2, shC_succ, updO_same, shC_congr (Q' := Q) (fun i hi => updO_ne Q q (by omega))]
      exact hset.own hown (fun k hk e => by rw [hv] at hk; injection hk with hk; omega)
    · have e1 : putV V l v l' = V l' := by simp [putV, e]
      have e2 : incC c l l' = c l' := by simp [incC, e]
      rw [e1, e2, shC_congr (Q' := Q) (fun i hi => updO_ne Q q (Or.inl e))]
      refine hset.own (h3.own (h.rows l' hl') (fun k hk e3 => h.rdis l l' k hl hl' (Ne.symm e) e3 hk)) (fun k hk e3 => ?_)
      exact TypeAt.ne (h.tyG hl' hk) h.tyP (by decide) e3
  · by_cases e : l1 = l
    · subst e
      have e1 : putV V l1 v l1 = v := by simp [putV]
      have e2 : putV V l1 v l2 = V l2 := by simp [putV, Ne.symm hne]
      rw [e1, hv] at hg1; injection hg1 with hg1; subst hg1
      rw [e2] at hg2
      rcases hor with hor | hor
      · exact h.rdis l1 l2 g hl1 hl2 hne hor hg2
      · have := (h.tyG hl2 hg2).lt; omega
    · by_cases e' : l2 = l
      · subst e'
        have e1 : putV V l2 v l1 = V l1 := by simp [putV, e]
        have e2 : putV V l2 v l2 = v := by simp [putV]
        rw [e2, hv] at hg2; injection hg2 with hg2; subst hg2
        rw [e1] at hg1
        rcases hor with hor | hor
        · exact h.rdis l1 l2 g hl1 hl2 hne hg1 hor
        · have := (h.tyG hl1 hg1).lt; omega
      · have e1 : putV V l v l1 = V l1 := by simp [putV, e]
        have e2 : putV V l v l2 = V l2 := by simp [putV, e']
        rw [e1] at hg1; rw [e2] at hg2
        exact h.rdis l1 l2 g' hl1 hl2 hne hg1 hg2
  · by_cases e : l' = l ∧ k = c l
    · obtain ⟨rfl, rfl⟩ := e
      rw [updO_same, updO_same, updO_same]
      exact ⟨m, (ht.chg h3' nG').chg hset (fun j hj e => nP' (e ▸ hj))⟩
    · have hne : l' ≠ l ∨ k ≠ c l := by omega
      have hk' : k < c l' := by
        unfold incC at hk
        split at hk
        · next e2 => subst e2; omega
        · exact hk
      rw [updO_ne _ _ hne, updO_ne _ _ hne, updO_ne _ _ hne]
      obtain ⟨m, t⟩ := h.tree l' k hl' hk'
      exact ⟨m, (t.chg h3 (fun j hj e => nG l' k j hl' hk' e hj)).chg hset (fun j hj e => nP l' k hl' hk' (e ▸ hj))⟩
  · have key : ∀ l1 k1, l1 < 9 → k1 < incC c l l1 → updO S l (c l) S' l1 k1 j → (l1 = l ∧ k1 = c l ∧ w.heap.size ≤ j) ∨ ((l1 ≠ l ∨ k1 ≠ c l) ∧ k1 < c l1 ∧ S l1 k1 j ∧ j < w.heap.size) := by
      intro l1 k1 hl1 hk1 hj
      by_cases e : l1 = l ∧ k1 = c l
      · obtain ⟨rfl, rfl⟩ := e
        rw [updO_same] at hj
        exact Or.inl ⟨rfl, rfl, hS j hj⟩
      · have hne : l1 ≠ l ∨ k1 ≠ c l := by omega
        have hk' : k1 < c l1 := by
          unfold incC at hk1
          split at hk1
          · next e2 => subst e2; omega
          · exact hk1
        rw [updO_ne _ _ hne] at hj
        obtain ⟨m, t⟩ := h.tree l1 k1 hl1 hk'
        exact Or.inr ⟨hne, hk', hj, t.lt j hj⟩
    rcases key l1 k1 hl1 hk1 hj1 with ⟨a1, a2, a3⟩ | ⟨a1, a2, a3, a4⟩ <;> rcases key l2 k2 hl2 hk2 hj2 with ⟨b1, b2, b3⟩ | ⟨b1, b2, b3, b4⟩
    · omega
    · omega
    · omega
    · exact h.dis l1 k1 l2 k2 hl1 a2 hl2 b2 hne j a3 b3
  · by_cases e : l' = l ∧ k = c l
    · obtain ⟨rfl, rfl⟩ := e
      rw [updO_same] at hj
      have := hS j hj
      have := h.low.1
      omega
    · have hne : l' ≠ l ∨ k ≠ c l := by omega
      have hk' : k < c l' := by
        unfold incC at hk
        split at hk
        · next e2 => subst e2; omega
        · exact hk
      rw [updO_ne _ _ hne] at hj
      exact h.low.2 l' k j hl' hk' hj

theorem WavePt.mid {w1 w2 w3 : World} (h : WavePt w base p V c Q O S n) {l : Nat} (hl : l < 9) (h1 : Chg (fun _ => False) w w1) (h2 : Below w1.heap.size w1 w2) (hg : w2.grownBy w3 (V l).ownBlock) : w3.cell? ⟨p, l, none⟩ = some (V l) ∧ w3.frozen? ⟨p, l, none⟩ = false := by
  have h12 : Chg (fun _ => False) w w2 := h1.trans (Chg.of_below (S := fun _ => False) h2) (fun b hb => hb.elim)
  have h3 : Chg (fun j => (V l).ownBlock = some j) w w3 := (h12.mono (fun j hj => hj.elim)).grown hg (fun k hk => Or.inl hk)
  have hpl : (V l).ownBlock ≠ some p := fun e => TypeAt.ne (h.tyG hl e) h.tyP (by decide) rfl
  have hhead : w3.heap[p]? = some (.cells (headG V n) 75 (0, 0)) := h3.heap h.head hpl
  exact ⟨by rw [cell_of_row w3 p l _ _ _ hhead, headG_get V n hl], frozen_of_row w3 p l _ _ hhead⟩
/-- All shelves are there: it is a wave. -/
theorem WavePt.done (h : WavePt w base p V c Q O S n) (hc : ∀ l, l < 9 → c l = pw l) (hb : base ≤ w.heap.size) : ∃ D, WaveE base (fun _ => False) w p D O n 0 anyV := by
  have hex : ∀ l, ∃ g cap, l < 9 → V l = .slice (some ⟨g, 0, none⟩) (pw l) cap ∧ ∃ cur : Array Value, base ≤ g ∧ w.heap[g]? = some (.cells cur 79 (0, 0)) ∧ cur.toList.take (pw l * 3) = shC Q l (pw l) := by
    intro l
    by_cases hl : l < 9
    · have h1 := h.rows l hl
      rw [hc l hl] at h1
      rcases h1.2 with ⟨_, h0⟩ | ⟨g, cap, cur, hv, hb, hg, _, _, _, ht⟩
      · have := pw_pos l; omega
      · exact ⟨g, cap, fun _ => ⟨hv, cur, hb, hg, ht⟩⟩
    · exact ⟨0, 0, fun h => absurd h hl⟩
  obtain ⟨G, hG⟩ := Classical.axiomOfChoice hex
  obtain ⟨C, hC⟩ := Classical.axiomOfChoice hG
  refine ⟨⟨G, C, Q⟩, ⟨S, ⟨?_, fun l hl => ?_, fun l k hl hk => ?_, fun l k hl hk => ?_, fun l k l' k' hl hk hl' hk' hne j hj => h.dis l k l' k' hl (by rw [hc l hl]; exact hk) hl' (by rw [hc l' hl']; exact hk') hne j hj⟩, fun j hj => ?_⟩, hb, fun _ hf => hf.elim⟩
  · have hh := h.head
    unfold headG at hh
    rw [(hC 0 (by omega)).1, (hC 1 (by omega)).1, (hC 2 (by omega)).1, (hC 3 (by omega)).1, (hC 4 (by omega)).1, (hC 5 (by omega)).1, (hC 6 (by omega)).1, (hC 7 (by omega)).1, (hC 8 (by omega)).1] at hh
    exact hh
  · obtain ⟨_, cur, _, hg, _⟩ := hC l hl
    exact ⟨cur, hg⟩
  · obtain ⟨_, cur, _, hg, ht⟩ := hC l hl
    obtain ⟨a, b, c'⟩ := shC_get Q l hk
    have key : ∀ i v, (shC Q l (pw l))[i]? = some v → w.cell? ⟨G l, i, none⟩ = some v := by
      intro i v hv
      rw [cell_of_row w (G l) i _ _ _ hg]
      rw [← ht, List.getElem?_take] at hv
      split at hv
      · simpa using hv
      · cases hv
    exact ⟨key _ _ a, key _ _ b, key _ _ c'⟩
  · obtain ⟨m, t⟩ := h.tree l k hl (by rw [hc l hl]; exact hk)
    exact ⟨m, 0, trivial, t⟩
  · rcases hj with rfl | ⟨l, hl, rfl⟩ | ⟨l, k, hl, hk, hj⟩
    · exact ⟨h.low.1, id⟩
    · obtain ⟨_, cur, hb, _, _⟩ := hC l hl
      exact ⟨hb, id⟩
    · exact ⟨h.low.2 l k j hl (by rw [hc l hl]; exact hk) hj, id⟩
end

end Go.Proofs.YtacoeohmdngnkaaGreatDoor

namespace Go.Proofs.YtacoeohmdngnkaaGreatDoor
set_option linter.unusedVariables false
set_option linter.unusedSimpArgs false
open Go.RowKit

/-- Rows of bits F, of a block of slices vs. -/
structure BitsR (w : World) (base b N : Nat) (vs : Nat → Value) (F : Nat → List Bool) : Prop where
  blk : w.heap[b]? = some (.cells (vecL vs N).toArray 91 (0, 0))
  rows : ∀ k, k < N → w.ownsRow base 4 1 (vs k) (F k).length ((F k).map Value.bool)
  dis : ∀ k k' g, k < N → k' < N → k ≠ k' → (vs k).ownBlock = some g → (vs k').ownBlock ≠ some g
  low : base ≤ b

def putF (F : Nat → List Bool) (k : Nat) (x : Bool) : Nat → List Bool := fun k' => if k' = k then F k ++ [x] else F k'
section
variable {w w' : World} {base b N : Nat} {vs : Nat → Value} {F : Nat → List Bool}
theorem BitsR.lt (h : BitsR w base b N vs F) : b < w.heap.size := (Array.getElem?_eq_some_iff.1 h.blk).1
theorem BitsR.cell (h : BitsR w base b N vs F) {k : Nat} (hk : k < N) : w.cell? ⟨b, k, none⟩ = some (vs k) := by
  rw [cell_of_row w b k _ _ _ h.blk, List.getElem?_toArray, vecL_get hk]
theorem BitsR.frz (h : BitsR w base b N vs F) (k : Nat) : w.frozen? ⟨b, k, none⟩ = false := frozen_of_row w b k _ _ h.blk
theorem BitsR.chg {Z : Nat → Prop} (h : BitsR w base b N vs F) (hc : Chg Z w w') (hb : ∀ j, base ≤ j → ¬ Z j) : BitsR w' base b N vs F :=
  ⟨hc.heap h.blk (hb b h.low), fun k hk => hc.own (h.rows k hk) (fun g hg => hb g ((h.rows k hk).lt g hg).1), h.dis, h.low⟩
theorem BitsR.below (h : BitsR w base b N vs F) (hb : Below w.heap.size w w') : BitsR w' base b N vs F := h.chg (Z := fun _ => False) (Chg.of_below hb) (fun _ _ => id)
theorem BitsR.start (w : World) (N : Nat) (hb : base ≤ w.heap.size) : BitsR (w.alloc (.cells (vecL (fun _ => .slice none 0 0) N).toArray 91)) base w.heap.size N (fun _ => .slice none 0 0) (fun _ => []) :=
  ⟨heap_alloc_new w _, fun k hk => World.ownsRow_nil _ _ _ _, fun k k' g _ _ _ h => by simp [Value.ownBlock] at h, hb⟩
theorem BitsR.nB (h : BitsR w base b N vs F) {k : Nat} (hk : k < N) : (vs k).ownBlock ≠ some b := fun e => TypeAt.ne (own_ty (h.rows k hk) e) (⟨_, h.blk⟩ : TypeAt w b 91) (by decide) rfl
/-- One more bit. -/
theorem BitsR.push {w2 w3 : World} (h : BitsR w base b N vs F) {k : Nat} (hk : k < N) {x : Bool} (h2 : Below w.heap.size w w2)
    {v : Value} {g : Nat} (hv : v.ownBlock = some g) (hown : w3.ownsRow base 4 1 v ((F k).length + 1) ((F k).map Value.bool ++ [.bool x])) (hg : w2.grownBy w3 (vs k).ownBlock) (hor : (vs k).ownBlock = some g ∨ w2.heap.size ≤ g) :
    BitsR (w3.setCell ⟨b, k, none⟩ v) base b N (putV vs k v) (putF F k x) ∧ Chg (fun j => j = b ∨ (vs k).ownBlock = some j) w (w3.setCell ⟨b, k, none⟩ v) := by
  have h3 : Chg (fun j => (vs k).ownBlock = some j) w w3 := (Chg.of_below (S := fun j => (vs k).ownBlock = some j) h2).grown hg (fun k hk => Or.inl hk)
  have hset : Chg (fun j => j = b) w3 (w3.setCell ⟨b, k, none⟩ v) := Chg.refl.setCell (S := fun j => j = b) ⟨b, k, none⟩ (Or.inl rfl) v
  have hblk : w3.heap[b]? = some (.cells (vecL vs N).toArray 91 (0, 0)) := h3.heap h.blk (h.nB hk)
  have hgb : g ≠ b := fun e => TypeAt.ne (own_ty hown hv) (⟨_, hblk⟩ : TypeAt w3 b 91) (by decide) e
  have hsz := h2.size
  refine ⟨⟨?_, fun k' hk' => ?_, fun k1 k2 g' hk1 hk2 hne hg1 hg2 => ?_, h.low⟩, Chg.setCell (S := fun j => j = b ∨ (vs k).ownBlock = some j) (h3.mono (fun j hj => Or.inr hj)) ⟨b, k, none⟩ (Or.inl (Or.inl rfl)) v⟩
  · have := heap_setCell_same w3 b k _ _ v hblk
    rw [List.setIfInBounds_toArray, vecL_set] at this
    exact this
  · by_cases e : k' = k
    · subst e
      have e1 : putV vs k' v k' = v := by simp [putV]
      have e2 : putF F k' x k' = F k' ++ [x] := by simp [putF]
      rw [e1, e2, List.length_append, List.map_append]
      exact hset.own hown (fun j hj e => by rw [hv] at hj; injection hj with hj; omega)
    · have e1 : putV vs k v k' = vs k' := by simp [putV, e]
      have e2 : putF F k x k' = F k' := by simp [putF, e]
      rw [e1, e2]
      exact hset.own (h3.own (h.rows k' hk') (fun j hj e3 => h.dis k k' j hk hk' (Ne.symm e) e3 hj)) (fun j hj e3 => h.nB hk' (e3 ▸ hj))
  · have old : ∀ k1, k1 < N → (vs k1).ownBlock = some g → g < w.heap.size := fun k1 hk1 e => ((h.rows k1 hk1).lt g e).2
    by_cases e : k1 = k
    · subst e
      have e1 : putV vs k1 v k1 = v := by simp [putV]
      have e2 : putV vs k1 v k2 = vs k2 := by simp [putV, Ne.symm hne]
      rw [e1, hv] at hg1; injection hg1 with hg1; subst hg1
      rw [e2] at hg2
      rcases hor with hor | hor
      · exact h.dis k1 k2 g hk1 hk2 hne hor hg2
      · have := old k2 hk2 hg2; omega
    · by_cases e' : k2 = k
      · subst e'
        have e1 : putV vs k2 v k1 = vs k1 := by simp [putV, e]
        have e2 : putV vs k2 v k2 = v := by simp [putV]
        rw [e2, hv] at hg2; injection hg2 with hg2; subst hg2
        rw [e1] at hg1
        rcases hor with hor | hor
        · exact h.dis k1 k2 g hk1 hk2 hne hg1 hor
        · have := old k1 hk1 hg1; omega
      · have e1 : putV vs k v k1 = vs k1 := by simp [putV, e]
        have e2 : putV vs k v k2 = vs k2 := by simp [putV, e']
        rw [e1] at hg1; rw [e2] at hg2
        exact h.dis k1 k2 g' hk1 hk2 hne hg1 hg2
end
theorem BitsR.mid {w w2 w3 : World} {base b N : Nat} {vs : Nat → Value} {F : Nat → List Bool} (h : BitsR w base b N vs F) {k : Nat} (hk : k < N) (h2 : Below w.heap.size w w2) (hg : w2.grownBy w3 (vs k).ownBlock) : w3.cell? ⟨b, k, none⟩ = some (vs k) ∧ w3.frozen? ⟨b, k, none⟩ = false := by
  have h3 : Chg (fun j => (vs k).ownBlock = some j) w w3 := (Chg.of_below (S := fun j => (vs k).ownBlock = some j) h2).grown hg (fun k hk => Or.inl hk)
  have hblk : w3.heap[b]? = some (.cells (vecL vs N).toArray 91 (0, 0)) := h3.heap h.blk (h.nB hk)
  exact ⟨by rw [cell_of_row w3 b k _ _ _ hblk, List.getElem?_toArray, vecL_get hk], frozen_of_row w3 b k _ _ hblk⟩
/-- The bits of the first symbols, by their paths. -/
def firstL (L : List Nat) (l j : Nat) : Nat → List Bool := fun k => lvl (L.take j) l k
theorem firstL_zero (L : List Nat) (l : Nat) : firstL L l 0 = fun _ => [] := by funext k; simp [firstL, lvl]
theorem firstL_all (L : List Nat) (l k : Nat) : firstL L l L.length k = lvl L l k := by simp [firstL]
theorem firstL_succ {L : List Nat} {l j s : Nat} (h : L[j]? = some s) : firstL L l (j + 1) = putF (firstL L l j) (pth s l) (bitS s l) := by
  funext k
  have ht : L.take (j + 1) = L.take j ++ [s] := by rw [List.take_add_one, h]; rfl
  unfold firstL putF lvl
  rw [ht, List.filter_append, List.map_append]
  by_cases e : k = pth s l
  · subst e; simp
  · have e' : ¬ pth s l = k := fun x => e x.symm
    simp [e, e']
theorem lvl_lenLe (L : List Nat) (l k j : Nat) : (firstL L l j k).length ≤ L.length := by
  unfold firstL lvl
  rw [List.length_map]
  exact Nat.le_trans (List.length_filter_le _ _) (by rw [List.length_take]; omega)
theorem Tryz.infoBools : (Tryz.prog.info? 91).map (fun i => (i.zero, i.size, i.bytes)) = some (some (.slice none 0 0), 1, 24) := by kernel_rfl
theorem Tryz.infoShelf : (Tryz.prog.info? 79).map (fun i => (i.zero, i.size, i.bytes)) = some (some (.agg #[.pointer none, .int .i64 0, .int .i64 0]), 3, 24) := by kernel_rfl
theorem make_rows (n : Nat) (h : n ≤ 1000000000) (w : World) : (Instr.makeSlice 90 (.int .i64 (n : Int)) (.int .i64 (n : Int))).run Tryz.prog w = .ok (.slice (some ⟨w.heap.size, 0, none⟩) n n) (w.alloc (.cells (vecL (fun _ => .slice none 0 0) n).toArray 91)) :=
  run_makeG Tryz.infoBools Tryz.underlying90 rfl n (by omega) (by unfold maxLen; omega) w

end Go.Proofs.YtacoeohmdngnkaaGreatDoor

namespace Go.Proofs.YtacoeohmdngnkaaGreatDoor
set_option linter.unusedVariables false
set_option linter.unusedSimpArgs false
open Go.RowKit

/-- 'l = append(l, x)' of an element of some cells: the new row is the old one or a new block. -/
theorem wp_pushK {P : Program} {w : World} {o : Oper} {a : Act} {K : Act → World → Prop} {Q : Exit → Act → World → Prop} (s x : Operand) (t : TypeId)
    (ho : o.op = .call { callee := .builtin .append, args := #[s, x], argTypes := #[t, t] })
    (base : Nat) (e : TypeId) {z : Value} {bytes size : Nat} (hinfo : (P.info? e).map (fun i => (i.zero, i.size, i.bytes)) = some (some z, size, bytes)) (ht : P.underlying t = some (.slice e)) (hz1 : z.cells.size = size) (hsz0 : 0 < size)
    (v : Value) (n : Nat) (xs : List Value) (hs : a.eval s = v) (hown : w.ownsRow base e size v n xs)
    (b c : Nat) (us : List Value) (hx : a.eval x = .slice (some ⟨b, 0, none⟩) 1 c) (hl : us.length = size) (hus : ∀ j u, us[j]? = some u → w.cell? ⟨b, j, none⟩ = some u) (h1 : ∀ u ∈ us, u.oneCell' = true)
    (h63 : n + 1 ≤ maxLen) (hbytes : (n + 1) * bytes ≤ 140737488355328) (hbase : base ≤ w.heap.size)
    (h : ∀ g cap w', w'.ownsRow base e size (.slice (some ⟨g, 0, none⟩) (n + 1) cap) (n + 1) (xs ++ us) → w.grownBy w' v.ownBlock → (v.ownBlock = some g ∨ w.heap.size ≤ g) → g < w'.heap.size →
      K (a.put o.dst (.slice (some ⟨g, 0, none⟩) (n + 1) cap)) w') : Oper.wp P o a w K Q := by
  obtain ⟨i, hi, hz, hsz, hby⟩ := info_parts hinfo
  obtain ⟨v', w', hr, h2, h3, _, h5⟩ := run_append_own_at (P := P) w base t o.type e i z size bytes ht hi hz hsz hby hz1 hsz0 v n xs hown ⟨b, 0, none⟩ 1 c us (by omega) (fun j u hj => by rw [Addr.add_lit, Nat.zero_add]; exact hus j u hj) h1 h63 hbytes hbase
  unfold Oper.wp execOp
  simp only [ho, resolve, invoke, builtin, Sem.run_bind, Sem.run_pure, Result.andThen_ok, List.map_toArray, List.map_cons, List.map_nil, hs, hx, hr]
  obtain ⟨a', c', rfl, hn, hb⟩ := own_slice h2
  cases a' with
  | none => exact absurd (hn rfl).1 (by omega)
  | some ad =>
    obtain ⟨g, rfl, hg1, hg2, hg3⟩ := hb _ rfl
    refine h g c' w' h2 h3 ?_ hg2
    rcases h5 with hor | hor
    · left; rw [← hor]; exact hg3
    · right; rw [hor] at hg3; injection hg3 with hg3; omega

end Go.Proofs.YtacoeohmdngnkaaGreatDoor

namespace Go.Proofs.YtacoeohmdngnkaaGreatDoor
set_option linter.unusedVariables false
set_option linter.unusedSimpArgs false
open Go.RowKit

end Go.Proofs.YtacoeohmdngnkaaGreatDoor

namespace Go.Proofs.YtacoeohmdngnkaaGreatDoor
open Go.ChangeShapes Go.WideShapes Go.ChangeAt Go.RowKit

variable {H : Type} {enc : TypeId × Value → H} {P : Program} {w : World} {base : Nat} {sp : Nat → Bool} {held : Bool}

theorem argI_of {t e : TypeId} {k : IntKind} {fuel : Nat} {a : Option Addr} {len cap : Nat} {x : DataW H × List MemPlace} (ht : P.underlying t = some (.slice e)) (he : P.underlying e = some (.int k)) (hc : P.cellsOf e = 1)
    (hf : DataW.trod enc P w base sp held fuel t (Value.slice a len cap).cells.toList = some x) : ∃ xs : List Int, len = xs.length ∧ ArgI k w a cap xs := by
  rcases open_ints ht he hc hf with ⟨hcs, _⟩ | ⟨x, l, c, zs, hcs, _, hl, hm, hz, _, hcell, hwz⟩
  · simp [Value.cells] at hcs
    obtain ⟨rfl, rfl, rfl⟩ := hcs
    exact ⟨[], rfl, ⟨Reads.nil, fun i hi => absurd hi (by simp), by simp, by unfold maxLen; omega, fun _ => rfl⟩⟩
  · simp [Value.cells] at hcs
    obtain ⟨rfl, rfl, rfl⟩ := hcs
    have hzl : len ≤ zs.length := by rw [hz]; split <;> omega
    have hlen : (zs.take len).length = len := by rw [List.length_take]; omega
    clear hz
    refine ⟨zs.take len, hlen.symm, ⟨fun i hi => ?_, fun i hi => ?_, by rw [hlen]; exact hl, hm, fun h => by cases h⟩⟩
    · rw [hlen] at hi ⊢
      obtain ⟨b, off, spot⟩ := x
      have h0 := hcell 0 (by omega)
      have hspot : spot = none := by simpa [Addr.add] using World.cell?_spot h0
      subst hspot
      refine ⟨b, off, rfl, World.block_lt_of_cell? w _ (by simpa [Addr.add] using h0), fun j hj => ?_⟩
      have := hcell j (by omega)
      rw [List.getElem?_take, if_pos hj]
      rw [Addr.add_lit] at this
      simpa [List.getD_eq_getElem?_getD] using this
    · rw [hlen] at hi
      rw [List.getElem?_take, if_pos hi, List.getElem?_eq_getElem (by omega)]
      exact hwz _ (List.getElem_mem _)

end Go.Proofs.YtacoeohmdngnkaaGreatDoor

namespace Go.Proofs.YtacoeohmdngnkaaGreatDoor
set_option linter.unusedVariables false
set_option linter.unusedSimpArgs false
open Go.RowKit

/-- What a law's walk keeps of a block of its own. -/
def BkAt (B : Nat) (w : World) (p : Nat) (l : List Bool) : Prop := IsBlock w p l ∧ B ≤ p
theorem BkAt.below {B : Nat} {w w' : World} {p : Nat} {l : List Bool} (h : BkAt B w p l) (hb : Below w.heap.size w w') : BkAt B w' p l := ⟨h.1.below' hb, h.2⟩
theorem BlkStep.out {B : Nat} {w w' : World} {p : Nat} {l m : List Bool} (h : BlkStep w w' p m) (h0 : BkAt B w p l) (hB : B ≤ w.heap.size) : BkAt B w' p m ∧ Below B w w' :=
  ⟨⟨h.1, h0.2⟩, h.2.below (fun b hb => by have := h0.2; omega) hB⟩

end Go.Proofs.YtacoeohmdngnkaaGreatDoor

namespace Go.Proofs.YtacoeohmdngnkaaGreatDoor
set_option linter.unusedVariables false
set_option linter.unusedSimpArgs false
open Go.RowKit

end Go.Proofs.YtacoeohmdngnkaaGreatDoor

namespace Go.Proofs.YtacoeohmdngnkaaGreatDoor
set_option linter.unusedVariables false
set_option linter.unusedSimpArgs false
open Go.RowKit

end Go.Proofs.YtacoeohmdngnkaaGreatDoor

namespace Go.Proofs.YtacoeohmdngnkaaGreatDoor
set_option linter.unusedVariables false
set_option linter.unusedSimpArgs false
open Go.RowKit

end Go.Proofs.YtacoeohmdngnkaaGreatDoor

namespace Go.Proofs.YtacoeohmdngnkaaGreatDoor
set_option linter.unusedVariables false
set_option linter.unusedSimpArgs false
open Go.RowKit

/-- Four cells and what lies below are kept. -/
theorem keep4 {w w1 w2 : World} {N q : Nat} {sa sb sc sd : Value} (hN : N ≤ w.heap.size) (h : (w1.cell? ⟨q, 0, none⟩ = some sa ∧ w1.cell? ⟨q, 1, none⟩ = some sb ∧ w1.cell? ⟨q, 2, none⟩ = some sc ∧ w1.cell? ⟨q, 3, none⟩ = some sd) ∧ Below N w w1) (hb : Below w1.heap.size w1 w2) :
    (w2.cell? ⟨q, 0, none⟩ = some sa ∧ w2.cell? ⟨q, 1, none⟩ = some sb ∧ w2.cell? ⟨q, 2, none⟩ = some sc ∧ w2.cell? ⟨q, 3, none⟩ = some sd) ∧ Below N w w2 := by
  have hq := World.block_lt_of_cell? w1 _ h.1.1
  exact ⟨⟨(hb.cell (p := ⟨q, 0, none⟩) hq).trans h.1.1, (hb.cell (p := ⟨q, 1, none⟩) hq).trans h.1.2.1, (hb.cell (p := ⟨q, 2, none⟩) hq).trans h.1.2.2.1, (hb.cell (p := ⟨q, 3, none⟩) hq).trans h.1.2.2.2⟩, h.2.trans (hb.mono (Nat.le_trans hN h.2.size))⟩

/-- What the calls of 'same' go through: a tree and a row. -/
structure TR (B : Nat) (X : Nat → Prop) (w0 w : World) (p : Nat) (o : Option ST) (made : Nat) (a : Option Addr) (L : List Bool) : Prop where
  t : ∃ v : Int, TreeE B X w p o made v
  bits : sbits o = L
  r : ReadsV w a (L.map Value.bool)
  xa : ∀ ad, a = some ad → X ad.block
  tab : BitTab w
  tl : 0 < B
  chg : Chg (exT B X) w0 w
section
variable {B : Nat} {X : Nat → Prop} {w0 w w' : World} {p made : Nat} {o : Option ST} {a : Option Addr} {L : List Bool}
theorem TR.look (h : TR B X w0 w p o made a L) {m : Nat} (hl : ELook B X w w' p o made m) : TR B X w0 w' p o made a L := by
  obtain ⟨v0, h0⟩ := h.t
  obtain ⟨⟨v, _, h1⟩, hc⟩ := hl
  exact ⟨⟨v, h1⟩, h.bits, h.r.chg hc (fun ad ha hk => hk.2 (h.xa ad ha)), h.xa, h.tab.below (exT_below hc h0.le) h.tl, h.tl, h.chg.trans hc (fun b hb => Or.inl hb)⟩
theorem TR.drewN (h : TR B X w0 w p o made a L) (n : Nat) : TR B X w0 (w.drewN n) p o made a L := by
  obtain ⟨v0, h0⟩ := h.t
  exact ⟨⟨v0, h0.drewN n⟩, h.bits, h.r, h.xa, h.tab, h.tl, h.chg.drewN n⟩
theorem TR.rank (h : TR B X w0 w p o made a L) (k : Int) (x : Bool) :
    Calls Tryz.prog 73 #[.pointer (some ⟨p, 0, none⟩), .int .i64 k, .bool x] w fun e w' => e = .returned (.int .i64 (rankL L k.toNat x)) ∧ TR B X w0 w' p o made a L := by
  obtain ⟨v, h0⟩ := h.t
  refine (rank_t h0 h.bits k x rfl).mono ?_
  rintro e w' ⟨rfl, hl⟩
  exact ⟨rfl, h.look hl⟩
end

end Go.Proofs.YtacoeohmdngnkaaGreatDoor

namespace Go.Proofs.YtacoeohmdngnkaaGreatDoor
set_option linter.unusedVariables false
set_option linter.unusedSimpArgs false
open Go.RowKit

end Go.Proofs.YtacoeohmdngnkaaGreatDoor

namespace Go.Proofs.YtacoeohmdngnkaaGreatDoor
set_option linter.unusedVariables false
set_option linter.unusedSimpArgs false
open Go.RowKit

/-- What the closures of Rows read: how wide, how many, the ranks. -/
structure RkAt (w : World) (bw bn br g cap wide : Nat) (rk : List Int) : Prop where
  wide : w.cell? ⟨bw, 0, none⟩ = some (.int .i64 wide)
  n : w.cell? ⟨bn, 0, none⟩ = some (.int .i64 rk.length)
  row : w.cell? ⟨br, 0, none⟩ = some (.slice (some ⟨g, 0, none⟩) rk.length cap)
  rd : ∀ i, i < rk.length → w.cell? ⟨g, i, none⟩ = some (.int .i64 (sy rk i))

set_option maxHeartbeats 800000 in
theorem behind_any {w : World} {bw bn br g cap wide : Nat} {rk : List Int} (h : RkAt w bw bn br g cap wide rk) (i : Nat) (hi : i < rk.length) (hl : rk.length ≤ 1000000000) (hw : wide ≤ 1000000000) :
    Calls Tryz.prog 69 #[.int .i64 i, .pointer (some ⟨bw, 0, none⟩), .pointer (some ⟨bn, 0, none⟩), .pointer (some ⟨br, 0, none⟩)] w fun e w' => e = .returned (.int .i64 (sy rk (i + wide))) ∧ w = w' := by
  obtain ⟨h1, h2, h3, h4⟩ := h
  by_cases hc : i + wide < rk.length
  · have h5 := h4 (i + wide) hc
    clear h4
    generalize sy rk (i + wide) = x at *
    have d1 : decide ((i : Int) + (wide : Int) < (rk.length : Int)) = true := by simp; omega
    go_enter Tryz.func69, Tryz.ntmps69
    go_wp2_with fail
    go_ret
    exact ⟨rfl, rfl⟩
  · have e : sy rk (i + wide) = -1 := sy_over (by omega)
    rw [e]
    clear h4 e
    have d1 : decide ((i : Int) + (wide : Int) < (rk.length : Int)) = false := by simp; omega
    go_enter Tryz.func69, Tryz.ntmps69
    go_wp2_with fail
    go_ret
    exact ⟨rfl, rfl⟩

/-- A quiet call behind a quiet region. -/
theorem quiet_add_left {P : Program} {f : FuncId} {args : Array Value} {w : World} {a n : Nat} {v : Value}
    (h : Calls P f args (w.drewN (a + n)) fun e w' => e = .returned v ∧ w.drewN (a + n) = w') : Calls P f args (w.drewN (a + n)) fun e w'' => e = .returned v ∧ ∃ m, w'' = w.drewN (a + m) :=
  h.mono fun _ _ ⟨he, hm⟩ => ⟨he, n, hm.symm⟩
theorem RkAt.drewN {w : World} {bw bn br g cap wide : Nat} {rk : List Int} (h : RkAt w bw bn br g cap wide rk) (n : Nat) : RkAt (w.drewN n) bw bn br g cap wide rk := ⟨h.wide, h.n, h.row, h.rd⟩

set_option maxHeartbeats 1600000 in
theorem order_any {w : World} {bw bn br bf g cap wide : Nat} {rk : List Int} (h : RkAt w bw bn br g cap wide rk)
    (hf : w.cell? ⟨bf, 0, none⟩ = some (.func (.func 69) #[] #[.pointer (some ⟨bw, 0, none⟩), .pointer (some ⟨bn, 0, none⟩), .pointer (some ⟨br, 0, none⟩)]))
    (a b : Nat) (ha : a < rk.length) (hb : b < rk.length) (hl : rk.length ≤ 1000000000) (hw : wide ≤ 1000000000) (hr : ∀ i, -1 ≤ sy rk i ∧ sy rk i ≤ 1000000000) :
    Calls Tryz.prog 70 #[.int .i64 a, .int .i64 b, .pointer (some ⟨br, 0, none⟩), .pointer (some ⟨bf, 0, none⟩)] w fun e w' => e = .returned (.int .i64 (ordV rk wide a b)) ∧ ∃ n, w' = w.drewN n := by
  have ka := h.rd a ha
  have kb := h.rd b hb
  have kr := h.row
  have HA : Hid (∀ n, Calls Tryz.prog 69 #[.int .i64 a, .pointer (some ⟨bw, 0, none⟩), .pointer (some ⟨bn, 0, none⟩), .pointer (some ⟨br, 0, none⟩)] (w.drewN n) fun e w' => e = .returned (.int .i64 (sy rk (a + wide))) ∧ w.drewN n = w') := fun n => behind_any (h.drewN n) a ha hl hw
  have HB : Hid (∀ n, Calls Tryz.prog 69 #[.int .i64 b, .pointer (some ⟨bw, 0, none⟩), .pointer (some ⟨bn, 0, none⟩), .pointer (some ⟨br, 0, none⟩)] (w.drewN n) fun e w' => e = .returned (.int .i64 (sy rk (b + wide))) ∧ w.drewN n = w') := fun n => behind_any (h.drewN n) b hb hl hw
  obtain ⟨ra0, ra1⟩ := hr a
  obtain ⟨rb0, rb1⟩ := hr b
  obtain ⟨sa0, sa1⟩ := hr (a + wide)
  obtain ⟨sb0, sb1⟩ := hr (b + wide)
  have HV : Hid (ordV rk wide a b = if sy rk a = sy rk b then sy rk (a + wide) - sy rk (b + wide) else sy rk a - sy rk b) := rfl
  generalize sy rk a = x at *
  generalize sy rk b = y at *
  generalize sy rk (a + wide) = u at *
  generalize sy rk (b + wide) = v at *
  clear h hr
  have i0 : (0 : Int) ≤ (a : Int) := by omega
  have i1 : (a : Int) < (rk.length : Int) := by omega
  have j0 : (0 : Int) ≤ (b : Int) := by omega
  have j1 : (b : Int) < (rk.length : Int) := by omega
  have ew1 : IntKind.i64.wrap (x - y) = x - y := IntWalk.i64_in _ (by omega)
  by_cases hxy : x = y
  · have e : (x != y) = false := by simp [hxy]
    have HR : Hid (ordV rk wide a b = u - v) := by show _ = _; rw [HV.out, if_pos hxy]
    have HX := Lib.hid hxy
    have ew : IntKind.i64.wrap (u - v) = u - v := IntWalk.i64_in _ (by omega)
    clear hxy
    go_enter Tryz.func70, Tryz.ntmps70
    go_wp2_with fail
    go_quiet (fail)
    go_wp2_with fail
    go_quiet ((go_at_call 69; first | with_reducible exact quiet_add_left (HA.out _) | with_reducible exact quiet_add_left (HB.out _)))
    go_wp2_with fail
    go_ret
    exact ⟨ret_int HR.out.symm, _, World.drewN_drewN _ _ _⟩
  · have e : (x != y) = true := by simp [hxy]
    have HR : Hid (ordV rk wide a b = x - y) := by show _ = _; rw [HV.out, if_neg hxy]
    clear hxy
    go_enter Tryz.func70, Tryz.ntmps70
    go_wp2_with fail
    go_quiet (fail)
    go_wp2_with fail
    go_quiet (fail)
    go_wp2_with fail
    go_ret
    exact ⟨ret_int HR.out.symm, _, World.drewN_drewN _ _ _⟩

end Go.Proofs.YtacoeohmdngnkaaGreatDoor

namespace Go.Proofs.YtacoeohmdngnkaaGreatDoor
set_option linter.unusedVariables false
set_option linter.unusedSimpArgs false
open Go.RowKit

theorem sortWorld_chg {α : Type} [Inhabited α] (enc : α → Value) (w : World) (blk m : Nat) (dk : Array α) (os : Array Obj) : Chg (fun b => b = blk) w (sortWorld enc w blk 0 m dk os) := by
  refine ⟨rfl, rfl, rfl, ?_, fun k hk hn => ?_⟩
  · show w.heap.size ≤ ((w.heap.modify blk _) ++ os).size
    simp
  · show ((w.heap.modify blk _) ++ os)[k]? = w.heap[k]?
    rw [Array.getElem?_append_left (by simpa using hk), Array.getElem?_modify, if_neg (fun e => hn e.symm)]
theorem sortWorld_own {α : Type} [Inhabited α] (enc : α → Value) {w : World} {blk n cap base : Nat} {e : TypeId} {xs : List Value} (h : w.ownsRow base e 1 (.slice (some ⟨blk, 0, none⟩) n cap) n xs) (m : Nat) (dk : Array α) (os : Array Obj) (hd : dk.size = n) :
    (sortWorld enc w blk 0 m dk os).ownsRow base e 1 (.slice (some ⟨blk, 0, none⟩) n cap) n (dk.toList.map enc) := by
  obtain ⟨h1, h2⟩ := h
  refine ⟨by simp [hd], ?_⟩
  rcases h2 with ⟨h, _⟩ | ⟨g', cap', cur, hv, hb, hg, hc, hm, hs, ht⟩
  · cases h
  · injection hv with e1 e2 e3
    simp only [Option.some.injEq, Addr.mk.injEq, and_true] at e1
    subst e1; subst e3
    refine .inr ⟨blk, cap, Go.Sort.putCells enc 0 dk cur, rfl, hb, ?_, hc, hm, by simpa [Go.Sort.putCells] using hs, ?_⟩
    · show ((w.heap.modify blk _) ++ os)[blk]? = _
      have hlt := (Array.getElem?_eq_some_iff.1 hg).1
      rw [Array.getElem?_append_left (by simpa using hlt), Array.getElem?_modify, if_pos rfl, hg]
      rfl
    · apply List.ext_getElem?
      intro i
      rw [List.getElem?_take]
      by_cases hi : i < n
      · rw [if_pos (by omega), Array.getElem?_toList, Go.Sort.putCells, Array.getElem?_mapIdx, Array.getElem?_eq_getElem (by omega)]
        simp [hd, hi, show i < dk.size by omega]
      · rw [if_neg (by omega), List.getElem?_eq_none (by simp; omega)]

/-- A place, as a value. -/
def natV (x : Nat) : Value := .int .i64 (x : Int)
theorem RkAt.chg {w w' : World} {S : Nat → Prop} {bw bn br g cap wide : Nat} {rk : List Int} (h : RkAt w bw bn br g cap wide rk) (hc : Chg S w w') (h1 : ¬ S bw) (h2 : ¬ S bn) (h3 : ¬ S br) (h4 : ¬ S g) : RkAt w' bw bn br g cap wide rk :=
  ⟨hc.cell h.wide h1, hc.cell h.n h2, hc.cell h.row h3, fun i hi => hc.cell (h.rd i hi) h4⟩

theorem sort_rows {B : Nat} {w : World} {bw bn br bf g cap wide qr capr : Nat} {l rk : List Int} {r : List Nat} (h : RkAt w bw bn br g cap wide rk)
    (hf : w.cell? ⟨bf, 0, none⟩ = some (.func (.func 69) #[] #[.pointer (some ⟨bw, 0, none⟩), .pointer (some ⟨bn, 0, none⟩), .pointer (some ⟨br, 0, none⟩)]))
    (hrk : RankOf l wide rk) (hp : r.Perm (List.range l.length)) (hown : w.ownsRow B 3 1 (.slice (some ⟨qr, 0, none⟩) r.length capr) r.length (r.map natV))
    (hq : bw ≠ qr ∧ bn ≠ qr ∧ br ≠ qr ∧ bf ≠ qr ∧ g ≠ qr) (h0 : 0 < l.length) (hl : l.length ≤ 1000000000) (hw : wide ≤ 1000000000) (hr : ∀ i, -1 ≤ sy rk i ∧ sy rk i ≤ 1000000000) :
    Calls Tryz.prog 71 #[.slice (some ⟨qr, 0, none⟩) r.length capr, .func (.func 70) #[] #[.pointer (some ⟨br, 0, none⟩), .pointer (some ⟨bf, 0, none⟩)]] w
      fun e w' => e = .returned (.tuple #[]) ∧ ∃ r' : List Nat, SortedK l (wide + wide) r' ∧ r'.length = r.length ∧ w'.ownsRow B 3 1 (.slice (some ⟨qr, 0, none⟩) r.length capr) r.length (r'.map natV) ∧ Chg (fun b => b = qr) w w' := by
  have hrl : r.length = l.length := by have := hp.length_eq; simpa using this
  have hin : ∀ x ∈ r, x < l.length := fun x hx => List.mem_range.1 (hp.mem_iff.1 hx)
  letI : Inhabited (Fin l.length) := ⟨⟨0, h0⟩⟩
  let d : Array (Fin l.length) := (r.attach.map fun x => ⟨x.1, hin x.1 x.2⟩).toArray
  have hdv : d.toList.map Fin.val = r := by
    show (r.attach.map _).map _ = r
    rw [List.map_map]
    exact List.attach_map_subtype_val r
  have hds : d.size = r.length := by rw [← Array.length_toList, ← List.length_map (f := Fin.val), hdv]
  have henc : d.toList.map (fun x : Fin l.length => natV x.1) = r.map natV := by
    have e := congrArg (List.map natV) hdv
    rw [List.map_map] at e
    exact e
  have hqlt := (own_lt hown (k := qr) rfl).2
  have hH : Go.Sort.Holds (fun x : Fin l.length => natV x.1) w qr 0 d := by
    intro j hj
    obtain ⟨g', cap', hv, _, _, _, _, hcell, hfr⟩ := own_some hown (by omega)
    injection hv with e1 _ _
    injection e1 with e1
    injection e1 with e1 _ _
    subst e1
    refine ⟨?_, hfr _⟩
    rw [Nat.zero_add, hcell j (by omega), ← henc, List.getElem?_map]
    simp [hj]
  have hcmp : CmpLays1 Tryz.prog 70 #[.pointer (some ⟨br, 0, none⟩), .pointer (some ⟨bf, 0, none⟩)] (fun x : Fin l.length => natV x.1) (fun x y => ordV rk wide x.1 y.1) qr 0 d.size w := by
    intro m os dk _ x y
    have hc := sortWorld_chg (fun x : Fin l.length => natV x.1) w qr m dk os
    have hx : x.1 < rk.length := by have := x.2; have := hrk.len; omega
    have hy : y.1 < rk.length := by have := y.2; have := hrk.len; omega
    refine (order_any (h.chg hc hq.1 hq.2.1 hq.2.2.1 hq.2.2.2.2) (hc.cell hf hq.2.2.2.1) x.1 y.1 hx hy (by rw [hrk.len]; exact hl) hw hr).mono ?_
    rintro e w' ⟨rfl, n, rfl⟩
    exact ⟨rfl, n, #[], by rw [Go.Sort.grow_empty]⟩
  have hlt : ∀ x y : Fin l.length, ltOf (fun x y : Fin l.length => ordV rk wide x.1 y.1) x y = true ↔ ltK l (wide + wide) x.1 y.1 := fun x y => by
    unfold ltOf; rw [decide_eq_true_eq, ordV_lt hrk]
  have hltf : ∀ x y : Fin l.length, ltOf (fun x y : Fin l.length => ordV rk wide x.1 y.1) x y = false ↔ ¬ ltK l (wide + wide) x.1 y.1 := fun x y => by
    rw [← hlt, Bool.not_eq_true]
  have hO : Go.Sort.SWO (ltOf (fun x y : Fin l.length => ordV rk wide x.1 y.1)) :=
    ⟨fun x => (hltf x x).2 ltK_irrefl, fun x y z a b => (hlt x z).2 (ltK_trans ((hlt x y).1 a) ((hlt y z).1 b)), fun x y z a b => (hltf x z).2 (fun k => by
      rcases ltK_tri l (wide + wide) x.1 y.1 with q | q | q
      · exact (hltf x y).1 a q
      · exact (hltf y z).1 b (eq_ltK q.symm k)
      · exact (hltf y z).1 b (ltK_trans q k))⟩
  have eg : ∀ args w, (callFunc 70 args).run Tryz.prog w = .ok (.enter 70 args) w := enters_of Tryz.func70 (by kernel_rfl) rfl
  have hcon := Tryz.slices_SortFunc (fun x : Fin l.length => natV x.1) (fun _ => rfl) (fun x y => ordV rk wide x.1 y.1) hO 70 #[.pointer (some ⟨br, 0, none⟩), .pointer (some ⟨bf, 0, none⟩)] qr 0 capr d w eg hcmp hH hqlt (by rw [hds]; omega)
  rw [hds] at hcon
  refine hcon.mono ?_
  rintro e w' ⟨rfl, d', n, os, hpi, hsi, rfl⟩
  have hd's : d'.size = r.length := by have := hpi.1; omega
  have hperm : (d'.toList.map Fin.val).Perm r := by
    have := hpi.2.2
    rw [Array.extract_eq_self_of_le (by omega), Array.extract_eq_self_of_le (by omega)] at this
    rw [← hdv]; exact this.map _
  refine ⟨rfl, d'.toList.map Fin.val, ⟨hperm.trans hp, List.pairwise_iff_getElem.2 (fun i j hi hj hij => ?_)⟩, by simp [hd's], ?_, sortWorld_chg _ _ _ _ _ _⟩
  · have hj' : j < d'.size := by simpa using hj
    have := hsi i j (Nat.zero_le _) hij (by omega)
    rw [hltf, getElem!_pos d' i (by omega), getElem!_pos d' j hj'] at this
    simpa using this
  · have := sortWorld_own (fun x : Fin l.length => natV x.1) hown n d' os hd's
    rw [List.map_map]; exact this

end Go.Proofs.YtacoeohmdngnkaaGreatDoor

namespace Go.Proofs.YtacoeohmdngnkaaGreatDoor
set_option linter.unusedVariables false
set_option linter.unusedSimpArgs false
open Go.RowKit

/-- What Reverse has turned so far. -/
def revF (f : Nat → Value) (n k i : Nat) : Value := if i < k ∨ n - 1 - k < i then f (n - 1 - i) else f i
theorem revF_zero (f : Nat → Value) (n : Nat) : vecL f n = vecL (revF f n 0) n := vecL_congr (fun i hi => by unfold revF; rw [if_neg (by omega)])
theorem revF_step (f : Nat → Value) {n k : Nat} (h : k < n - 1 - k) : vecL (fun i => if i = n - 1 - k then f k else (fun i => if i = k then f (n - 1 - k) else revF f n k i) i) n = vecL (revF f n (k + 1)) n := vecL_congr (fun i hi => by
  unfold revF
  by_cases e1 : i = n - 1 - k
  · rw [if_pos e1, if_pos (by omega)]; congr 1; omega
  · rw [if_neg e1]
    by_cases e2 : i = k
    · simp only []
      rw [if_pos e2, if_pos (by omega), e2]
    · simp only []
      rw [if_neg e2]
      by_cases e3 : i < k ∨ n - 1 - k < i
      · rw [if_pos e3, if_pos (by omega)]
      · rw [if_neg e3, if_neg (by omega)])
theorem revF_done (f : Nat → Value) {n k : Nat} (h : ¬ k < n - 1 - k) : vecL (revF f n k) n = vecL (fun i => f (n - 1 - i)) n := vecL_congr (fun i hi => by
  unfold revF
  by_cases e : i < k ∨ n - 1 - k < i
  · rw [if_pos e]
  · rw [if_neg e]; congr 1; omega)

theorem rev_nil (a : Option Addr) (cap : Nat) (w : World) : Calls Tryz.prog 40 #[.slice a 0 cap] w fun e w' => e = .returned (.tuple #[]) ∧ w = w' := by
  go_enter Tryz.func40, Tryz.ntmps40
  go_wp2_with fail
  refine wp_loop_rounds 1 ?_
  rw [rounds_succ]
  go_wp2_with fail
  go_end0
  exact ⟨rfl, rfl⟩

set_option maxHeartbeats 3200000 in
set_option maxRecDepth 100000 in
theorem rev_any {w : World} {B g n cap : Nat} {F : Nat → Int} (hown : w.ownsRow B 5 1 (.slice (some ⟨g, 0, none⟩) n cap) n (vecL (fun i => .int .u8 (F i)) n)) (hn : 0 < n) (hm : n ≤ 1000000) :
    Calls Tryz.prog 40 #[.slice (some ⟨g, 0, none⟩) n cap] w fun e w' => e = .returned (.tuple #[]) ∧ w'.ownsRow B 5 1 (.slice (some ⟨g, 0, none⟩) n cap) n (vecL (fun i => .int .u8 (F (n - 1 - i))) n) ∧ Chg (fun b => b = g) w w' := by
  have HO := Lib.hid (by rw [revF_zero] at hown; exact hown : w.ownsRow B 5 1 (.slice (some ⟨g, 0, none⟩) n cap) n (vecL (revF (fun i => .int .u8 (F i)) n 0) n))
  clear hown
  go_enter Tryz.func40, Tryz.ntmps40
  go_wp2_with fail
  go_loopw [2, 3] (fun i j wr => ∃ k : Nat, k ≤ n ∧ i = .int .i64 k ∧ j = .int .i64 ((n : Int) - 1 - k) ∧ wr.ownsRow B 5 1 (.slice (some ⟨g, 0, none⟩) n cap) n (vecL (revF (fun i => .int .u8 (F i)) n k) n) ∧ Chg (fun b => b = g) w wr) (fun i _ _ => n - (intOf i).toNat)
  case atStart => exact ⟨0, Nat.zero_le _, rfl, by simp, HO.out, Chg.refl⟩
  case round => as_aux_lemma =>
    clear HO
    obtain ⟨k, hk, rfl, rfl, hown, hc⟩ := hrel
    have HO := Lib.hid hown
    have HC := Lib.hid hc
    clear hown hc
    by_cases hlt : k < n - 1 - k
    · obtain ⟨j, hj⟩ : ∃ j : Nat, n - 1 - k = j := ⟨_, rfl⟩
      have hji : (n : Int) - 1 - (k : Int) = (j : Int) := by omega
      have hjn : j < n := by omega
      have hkj : k < j := by omega
      have cj : wr.cell? ⟨g, j, none⟩ = some (.int .u8 (F j)) := by
        have := own_vcell HO.out hjn
        rw [this]; unfold revF; rw [if_neg (by omega)]
      have ck : wr.cell? ⟨g, k, none⟩ = some (.int .u8 (F k)) := by
        have := own_vcell HO.out (show k < n by omega)
        rw [this]; unfold revF; rw [if_neg (by omega)]
      have hfz := own_vfree HO.out
      have HSTEP : Hid (((wr.setCell ⟨g, k, none⟩ (.int .u8 (F j))).setCell ⟨g, j, none⟩ (.int .u8 (F k))).ownsRow B 5 1 (.slice (some ⟨g, 0, none⟩) n cap) n (vecL (revF (fun i => .int .u8 (F i)) n (k + 1)) n)) := Lib.hid (by
        have h1 := own_vset (own_vset HO.out k (.int .u8 (F j))) j (.int .u8 (F k))
        rw [← hj] at h1 ⊢
        rw [revF_step (fun i => .int .u8 (F i)) hlt] at h1
        exact h1)
      have HCH : Hid (Chg (fun b => b = g) w ((wr.setCell ⟨g, k, none⟩ (.int .u8 (F j))).setCell ⟨g, j, none⟩ (.int .u8 (F k)))) := Lib.hid ((HC.out.setCell (S := fun b => b = g) ⟨g, k, none⟩ (Or.inl rfl) _).setCell (S := fun b => b = g) ⟨g, j, none⟩ (Or.inl rfl) _)
      have i0 : (0 : Int) ≤ (k : Int) := by omega
      have i1 : (k : Int) < (n : Int) := by omega
      have i2 : (0 : Int) ≤ (j : Int) := by omega
      have i3 : (j : Int) < (n : Int) := by omega
      have hjk : j + k + 1 = n := by omega
      rw [hji]
      clear hlt hj hji HO HC
      generalize F j = vj at *
      generalize F k = vk at *
      go_upto_region 3 with fail
      -- REGION rev
      refine reg_start (fun _ => True) (by kernel_rfl) (trivial) (fun hHeld => ?_)
      refine rt 0 hHeld ?_
      refine rt 1 hHeld ?_
      refine rt 2 hHeld ?_
      refine rt 3 hHeld ?_
      refine rt 4 hHeld ?_
      refine rt 5 hHeld ?_
      refine rt 6 hHeld ?_
      refine rt 8 hHeld ?_
      refine rt 9 hHeld ?_
      refine rt 10 hHeld ?_
      refine reg_loud2 (i := 7) (j := 11) rfl rfl (by kernel_rfl) rfl rfl (fun K hK => ?brv7) (fun K hK => ?brv11)
      case brv7 => 
        go_simp
        refine hK.out _ _ (trivial) (fun hNew => ?_)
        clear hK K hHeld
        have hHeld := hNew
        clear hNew
        try simp only [Act.put, List.setIfInBounds_toArray, List.set_cons_zero, List.set_cons_succ]
        refine reg_loud (i := 11) rfl (by kernel_rfl) rfl (fun K hK => ?_)
        go_simp
        refine hK.out _ _ (trivial) (fun hNew => ?_)
        clear hK K hHeld
        have hHeld := hNew
        clear hNew
        try simp only [Act.put, List.setIfInBounds_toArray, List.set_cons_zero, List.set_cons_succ]
        refine rt 12 hHeld ?_
        refine reg_loud (i := 13) rfl (by kernel_rfl) rfl (fun K hK => ?_)
        go_simp
        refine hK.out _ _ (trivial) (fun hNew => ?_)
        clear hK K hHeld
        have hHeld := hNew
        clear hNew
        try simp only [Act.put, List.setIfInBounds_toArray, List.set_cons_zero, List.set_cons_succ]
        refine rt 14 hHeld ?_
        refine reg_loud (i := 15) rfl (by kernel_rfl) rfl (fun K hK => ?_)
        go_simp
        refine hK.out _ _ (trivial) (fun hNew => ?_)
        clear hK K hHeld
        have hHeld := hNew
        clear hNew
        try simp only [Act.put, List.setIfInBounds_toArray, List.set_cons_zero, List.set_cons_succ]
        refine reg_done (by kernel_rfl) ?_ _
        go_wp2_with fail
        go_roundw
        case rel => exact ⟨k + 1, by omega, by go_num, by congr 1; omega, HSTEP.out, HCH.out.drew⟩
        case measure => simp [intOf]; omega
      case brv11 => 
        go_simp
        refine hK.out _ _ (trivial) (fun hNew => ?_)
        clear hK K hHeld
        have hHeld := hNew
        clear hNew
        try simp only [Act.put, List.setIfInBounds_toArray, List.set_cons_zero, List.set_cons_succ]
        refine reg_loud (i := 7) rfl (by kernel_rfl) rfl (fun K hK => ?_)
        go_simp
        refine hK.out _ _ (trivial) (fun hNew => ?_)
        clear hK K hHeld
        have hHeld := hNew
        clear hNew
        try simp only [Act.put, List.setIfInBounds_toArray, List.set_cons_zero, List.set_cons_succ]
        refine rt 12 hHeld ?_
        refine reg_loud (i := 13) rfl (by kernel_rfl) rfl (fun K hK => ?_)
        go_simp
        refine hK.out _ _ (trivial) (fun hNew => ?_)
        clear hK K hHeld
        have hHeld := hNew
        clear hNew
        try simp only [Act.put, List.setIfInBounds_toArray, List.set_cons_zero, List.set_cons_succ]
        refine rt 14 hHeld ?_
        refine reg_loud (i := 15) rfl (by kernel_rfl) rfl (fun K hK => ?_)
        go_simp
        refine hK.out _ _ (trivial) (fun hNew => ?_)
        clear hK K hHeld
        have hHeld := hNew
        clear hNew
        try simp only [Act.put, List.setIfInBounds_toArray, List.set_cons_zero, List.set_cons_succ]
        refine reg_done (by kernel_rfl) ?_ _
        go_wp2_with fail
        go_roundw
        case rel => exact ⟨k + 1, by omega, by go_num, by congr 1; omega, HSTEP.out, HCH.out.drew⟩
        case measure => simp [intOf]; omega
      -- END OF REGION rev
    · have HD := Lib.hid (revF_done (fun i => .int .u8 (F i)) hlt)
      have hd : decide ((k : Int) < (n : Int) - 1 - (k : Int)) = false := decide_eq_false (by omega)
      go_wp2_with fail
      go_end0
      exact ⟨rfl, by have := HO.out; rw [HD.out] at this; exact this, HC.out⟩

end Go.Proofs.YtacoeohmdngnkaaGreatDoor

namespace Go.Proofs.YtacoeohmdngnkaaGreatDoor
set_option linter.unusedVariables false
set_option linter.unusedSimpArgs false

/-- A string's bytes as numbers. -/
def tOfS (s : ByteArray) : List Int := s.data.toList.map fun b => (b.toNat : Int)
theorem tOfS_len (s : ByteArray) : (tOfS s).length = s.size := by unfold tOfS; rw [List.length_map]; rfl
theorem tOfS_byte (s : ByteArray) : ByteL (tOfS s) := by
  intro x hx
  obtain ⟨b, _, rfl⟩ := List.mem_map.1 hx
  have := b.toNat_lt
  omega
theorem tOfS_of {t : List Int} (h : ByteL t) : tOfS (strOfNums t) = t := by
  unfold tOfS
  rw [strOfNums_data, List.map_map]
  apply List.ext_getElem
  · simp
  · intro i h1 h2
    have := h _ (List.getElem_mem h2)
    simp only [List.getElem_map, Function.comp]
    rw [UInt8.toNat_ofNat', Nat.mod_eq_of_lt (by omega)]
    omega
theorem tOfS_sy {s : ByteArray} {k : Nat} (h : k < s.size) : sy (symsT (tOfS s)) k = (s[k].toNat : Int) + 1 := by
  have h2 : k < (tOfS s).length := by rw [tOfS_len]; exact h
  rw [symsT_sy h2]
  have e : (tOfS s)[k]? = some (s[k].toNat : Int) := by
    unfold tOfS
    rw [List.getElem?_map, List.getElem?_eq_getElem (by exact h)]
    rfl
  rw [List.getElem?_eq_getElem h2] at e
  injection e with e
  rw [e]
theorem tOfS_end (s : ByteArray) : sy (symsT (tOfS s)) s.size = 0 := by
  have := symsT_end (tOfS s)
  rwa [tOfS_len] at this

theorem suf_shift {l : List Int} {d a b : Nat} (h : eqK l d a b) : sufLt l a b ↔ sufLt l (a + d) (b + d) := by
  constructor
  · rintro ⟨w, e, he, h1, h2⟩
    have hde : d ≤ e := by
      rcases Nat.lt_or_ge e d with k | k
      · have := h e k; omega
      · exact k
    obtain ⟨v, rfl⟩ := Nat.exists_eq_add_of_le hde
    refine ⟨v + 1, v, by omega, (eqK_add.1 h1).2, by rwa [Nat.add_assoc, Nat.add_assoc]⟩
  · rintro ⟨w, h2⟩
    exact ⟨d + w, ltK_add.2 (Or.inr ⟨h, h2⟩)⟩
theorem eqK_succ {l : List Int} {d a b : Nat} (h : eqK l d a b) (e : sy l (a + d) = sy l (b + d)) : eqK l (d + 1) a b :=
  eqK_add.2 ⟨h, fun x hx => by obtain rfl : x = 0 := by omega
                               simpa using e⟩

/-- A list with one more at a place. -/
def insA {α : Type} (l : List α) (k : Nat) (x : α) : List α := l.take k ++ x :: l.drop k
theorem insA_len {α : Type} {l : List α} {k : Nat} {x : α} (h : k ≤ l.length) : (insA l k x).length = l.length + 1 := by simp [insA]; omega
theorem insA_perm {α : Type} (l : List α) (k : Nat) (x : α) : (insA l k x).Perm (x :: l) := by
  unfold insA
  refine List.perm_middle.trans ?_
  rw [List.take_append_drop]
theorem insA_sorted {R : Nat → Nat → Prop} {l : List Nat} {k x : Nat} (hk : k ≤ l.length) (h : l.Pairwise R) (h1 : ∀ i (hi : i < l.length), i < k → R l[i] x) (h2 : ∀ i (hi : i < l.length), k ≤ i → R x l[i]) : (insA l k x).Pairwise R := by
  unfold insA
  rw [List.pairwise_append]
  refine ⟨h.sublist (List.take_sublist _ _), List.pairwise_cons.2 ⟨fun y hy => ?_, h.sublist (List.drop_sublist _ _)⟩, fun y hy z hz => ?_⟩
  · obtain ⟨i, hi, rfl⟩ := List.getElem_of_mem hy
    rw [List.length_drop] at hi
    rw [List.getElem_drop]
    exact h2 (k + i) (by omega) (by omega)
  · obtain ⟨i, hi, rfl⟩ := List.getElem_of_mem hy
    rw [List.length_take] at hi
    rw [List.getElem_take]
    rcases List.mem_cons.1 hz with rfl | hz
    · exact h1 i (by omega) (by omega)
    · obtain ⟨j, hj, rfl⟩ := List.getElem_of_mem hz
      rw [List.length_drop] at hj
      rw [List.getElem_drop]
      exact List.pairwise_iff_getElem.1 h i (k + j) (by omega) (by omega) (by omega)

end Go.Proofs.YtacoeohmdngnkaaGreatDoor

namespace Go.Proofs.YtacoeohmdngnkaaGreatDoor

def laidTab : List (String × DataW Unit) := [("math/bits.deBruijn64tab", Rows.laid_math_bits_deBruijn64tab)]
theorem tab_data : (Rows.laid_math_bits_deBruijn64tab : DataW Unit) = Lib.tabData .u8 (Lib.deBruijn64tab.map Int.ofNat) := rfl
theorem bitTab_of {W : World} (hL : laidMetH Tryz.prog laidTab W) : BitTab W := by
  rw [MakeChecks.laidMetH_plain _ _ _ (by kernel_rfl)] at hL
  have hL' : laidMet Tryz.prog [("math/bits.deBruijn64tab", Lib.tabData .u8 (Lib.deBruijn64tab.map Int.ofNat))] W := by rw [← tab_data]; exact hL
  have hg : Tryz.prog.globalNamed "math/bits.deBruijn64tab" = some 0 := by kernel_rfl
  have hT := Lib.tabIs_of_head hg (t := 140) (by kernel_rfl) Tryz.underlying140 Tryz.underlying5 (by kernel_rfl) (by kernel_rfl) hL'
  intro j hj
  rw [hT.cell hg j (by simpa using hj)]
  simp [List.getD_eq_getElem?_getD, List.getElem?_eq_getElem hj]

end Go.Proofs.YtacoeohmdngnkaaGreatDoor
