/- Lemmas and contracts under the claims of this seat: The rows of bits that New of package wave gathers; of no walk. append of one element of some cells, one operation; of no program. A tree's operations, of a tree of a wave. Contracts of the reference's rows of bits: Ranks, Selects, Gets, Same. What a walk is told of the arguments that came in: rows of integers and of bools. The laws' helpers of layer 2: Bits, told; frames of blocks for a law's walk. Contracts of the reference's words and rows of bits. Contracts of the reference's In and Out, Put and Cut. The laws' helpers of layer 5: near, Least, fours. The laws' helpers of layer 5: May, Fine, same. The laws' helper of layer 5: told; plain lemmas for the laws. What a walk is told of an argument that is a row of structs of two integers and a bool. What a walk is told of an argument that is a row of structs of three integers. The listed table, as a walk reads it. -/
import Derived.Test.YtcppgpjodfeigaaDoorZw6
import Derived.Test.YtcppgpjodfeigaaDoorZw3
import Derived.Test.YtcppgpjodfeigaaDoorZw1
import Derived.Deep.QuietTactic
import Derived.BigQuiet
import Derived.ProofKit
import Derived.OpenShut
import Derived.ShutString
import Derived.ChangeOld
import Derived.Below
import Derived.Test.YtcppgpjodfeigaaDoorZw2
import Derived.IntWalk
import Derived.Deep.SlicePairs
import Derived.Test.YtcppgpjodfeigaaDoorRows
import Derived.Lib.LaidTab
import Derived.Lay
import Derived.LaidSub
import Derived.MakeChecks
import Derived.SevenTiedAt
import Derived.JoinedOf
import Derived.ChangeVars

namespace Go.Proofs.YtcppgpjodfeigaaDoor
set_option linter.unusedVariables false
set_option linter.unusedSimpArgs false
open Go.RowKit

/-- Rows of bits F, of a block of slices vs. -/
structure BitsR (w : World) (base b N : Nat) (vs : Nat → Value) (F : Nat → List Bool) : Prop where
  blk : w.heap[b]? = some (.cells (vecL vs N).toArray 23 (0, 0))
  rows : ∀ k, k < N → w.ownsRow base 4 1 (vs k) (F k).length ((F k).map Value.bool)
  dis : ∀ k k' g, k < N → k' < N → k ≠ k' → (vs k).ownBlock = some g → (vs k').ownBlock ≠ some g
  low : base ≤ b

def putF (F : Nat → List Bool) (k : Nat) (x : Bool) : Nat → List Bool := fun k' => if k' = k then F k ++ [x] else F k'
section
variable {w w' : World} {base b N : Nat} {vs : Nat → Value} {F : Nat → List Bool}
theorem BitsR.lt (h : BitsR w base b N vs F) : b < w.heap.size := (Array.getElem?_eq_some_iff.1 h.blk).1
theorem BitsR.cell (h : BitsR w base b N vs F) {k : Nat} (hk : k < N) : w.cell? ⟨b, k, none⟩ = some (vs k) := by
  rw [cell_of_row w b k _ _ _ h.blk, List.getElem?_toArray, vecL_get hk]
theorem BitsR.frz (h : BitsR w base b N vs F) (k : Nat) : w.frozen? ⟨b, k, none⟩ = false := frozen_of_row w b k _ _ h.blk
theorem BitsR.chg {Z : Nat → Prop} (h : BitsR w base b N vs F) (hc : Chg Z w w') (hb : ∀ j, base ≤ j → ¬ Z j) : BitsR w' base b N vs F :=
  ⟨hc.heap h.blk (hb b h.low), fun k hk => hc.own (h.rows k hk) (fun g hg => hb g ((h.rows k hk).lt g hg).1), h.dis, h.low⟩
theorem BitsR.below (h : BitsR w base b N vs F) (hb : Below w.heap.size w w') : BitsR w' base b N vs F := h.chg (Z := fun _ => False) (Chg.of_below hb) (fun _ _ => id)
theorem BitsR.start (w : World) (N : Nat) (hb : base ≤ w.heap.size) : BitsR (w.alloc (.cells (vecL (fun _ => .slice none 0 0) N).toArray 23)) base w.heap.size N (fun _ => .slice none 0 0) (fun _ => []) :=
  ⟨heap_alloc_new w _, fun k hk => World.ownsRow_nil _ _ _ _, fun k k' g _ _ _ h => by simp [Value.ownBlock] at h, hb⟩
theorem BitsR.nB (h : BitsR w base b N vs F) {k : Nat} (hk : k < N) : (vs k).ownBlock ≠ some b := fun e => TypeAt.ne (own_ty (h.rows k hk) e) (⟨_, h.blk⟩ : TypeAt w b 23) (by decide) rfl
/-- One more bit. -/
theorem BitsR.push {w2 w3 : World} (h : BitsR w base b N vs F) {k : Nat} (hk : k < N) {x : Bool} (h2 : Below w.heap.size w w2)
    {v : Value} {g : Nat} (hv : v.ownBlock = some g) (hown : w3.ownsRow base 4 1 v ((F k).length + 1) ((F k).map Value.bool ++ [.bool x])) (hg : w2.grownBy w3 (vs k).ownBlock) (hor : (vs k).ownBlock = some g ∨ w2.heap.size ≤ g) :
    BitsR (w3.setCell ⟨b, k, none⟩ v) base b N (putV vs k v) (putF F k x) ∧ Chg (fun j => j = b ∨ (vs k).ownBlock = some j) w (w3.setCell ⟨b, k, none⟩ v) := by
  have h3 : Chg (fun j => (vs k).ownBlock = some j) w w3 := (Chg.of_below (S := fun j => (vs k).ownBlock = some j) h2).grown hg (fun k hk => Or.inl hk)
  have hset : Chg (fun j => j = b) w3 (w3.setCell ⟨b, k, none⟩ v) := Chg.refl.setCell (S := fun j => j = b) ⟨b, k, none⟩ (Or.inl rfl) v
  have hblk : w3.heap[b]? = some (.cells (vecL vs N).toArray 23 (0, 0)) := h3.heap h.blk (h.nB hk)
  have hgb : g ≠ b := fun e => TypeAt.ne (own_ty hown hv) (⟨_, hblk⟩ : TypeAt w3 b 23) (by decide) e
  have hsz := h2.size
  refine ⟨⟨?_, fun k' hk' => ?_, fun k1 k2 g' hk1 hk2 hne hg1 hg2 => ?_, h.low⟩, Chg.setCell (S := fun j => j = b ∨ (vs k).ownBlock = some j) (h3.mono (fun j hj => Or.inr hj)) ⟨b, k, none⟩ (Or.inl (Or.inl rfl)) v⟩
  · have := heap_setCell_same w3 b k _ _ v hblk
    rw [List.setIfInBounds_toArray, vecL_set] at this
    exact this
  · by_cases e : k' = k
    · subst e
      have e1 : putV vs k' v k' = v := by simp [putV]
      have e2 : putF F k' x k' = F k' ++ [x] := by simp [putF]
      rw [e1, e2, List.length_append, List.map_append]
      exact hset.own hown (fun j hj e => by rw [hv] at hj; injection hj with hj; omega)
    · have e1 : putV vs k v k' = vs k' := by simp [putV, e]
      have e2 : putF F k x k' = F k' := by simp [putF, e]
      rw [e1, e2]
      exact hset.own (h3.own (h.rows k' hk') (fun j hj e3 => h.dis k k' j hk hk' (Ne.symm e) e3 hj)) (fun j hj e3 => h.nB hk' (e3 ▸ hj))
  · have old : ∀ k1, k1 < N → (vs k1).ownBlock = some g → g < w.heap.size := fun k1 hk1 e => ((h.rows k1 hk1).lt g e).2
    by_cases e : k1 = k
    · subst e
      have e1 : putV vs k1 v k1 = v := by simp [putV]
      have e2 : putV vs k1 v k2 = vs k2 := by simp [putV, Ne.symm hne]
      rw [e1, hv] at hg1; injection hg1 with hg1; subst hg1
      rw [e2] at hg2
      rcases hor with hor | hor
      · exact h.dis k1 k2 g hk1 hk2 hne hor hg2
      · have := old k2 hk2 hg2; omega
    · by_cases e' : k2 = k
      · subst e'
        have e1 : putV vs k2 v k1 = vs k1 := by simp [putV, e]
        have e2 : putV vs k2 v k2 = v := by simp [putV]
        rw [e2, hv] at hg2; injection hg2 with hg2; subst hg2
        rw [e1] at hg1
        rcases hor with hor | hor
        · exact h.dis k1 k2 g hk1 hk2 hne hg1 hor
        · have := old k1 hk1 hg1; omega
      · have e1 : putV vs k v k1 = vs k1 := by simp [putV, e]
        have e2 : putV vs k v k2 = vs k2 := by simp [putV, e']
        rw [e1] at hg1; rw [e2] at hg2
        exact h.dis k1 k2 g' hk1 hk2 hne hg1 hg2
end
theorem BitsR.mid {w w2 w3 : World} {base b N : Nat} {vs : Nat → Value} {F : Nat → List Bool} (h : BitsR w base b N vs F) {k : Nat} (hk : k < N) (h2 : Below w.heap.size w w2) (hg : w2.grownBy w3 (vs k).ownBlock) : w3.cell? ⟨b, k, none⟩ = some (vs k) ∧ w3.frozen? ⟨b, k, none⟩ = false := by
  have h3 : Chg (fun j => (vs k).ownBlock = some j) w w3 := (Chg.of_below (S := fun j => (vs k).ownBlock = some j) h2).grown hg (fun k hk => Or.inl hk)
  have hblk : w3.heap[b]? = some (.cells (vecL vs N).toArray 23 (0, 0)) := h3.heap h.blk (h.nB hk)
  exact ⟨by rw [cell_of_row w3 b k _ _ _ hblk, List.getElem?_toArray, vecL_get hk], frozen_of_row w3 b k _ _ hblk⟩
/-- The bits of the first symbols, by their paths. -/
def firstL (L : List Nat) (l j : Nat) : Nat → List Bool := fun k => lvl (L.take j) l k
theorem firstL_zero (L : List Nat) (l : Nat) : firstL L l 0 = fun _ => [] := by funext k; simp [firstL, lvl]
theorem firstL_all (L : List Nat) (l k : Nat) : firstL L l L.length k = lvl L l k := by simp [firstL]
theorem firstL_succ {L : List Nat} {l j s : Nat} (h : L[j]? = some s) : firstL L l (j + 1) = putF (firstL L l j) (pth s l) (bitS s l) := by
  funext k
  have ht : L.take (j + 1) = L.take j ++ [s] := by rw [List.take_add_one, h]; rfl
  unfold firstL putF lvl
  rw [ht, List.filter_append, List.map_append]
  by_cases e : k = pth s l
  · subst e; simp
  · have e' : ¬ pth s l = k := fun x => e x.symm
    simp [e, e']
theorem lvl_lenLe (L : List Nat) (l k j : Nat) : (firstL L l j k).length ≤ L.length := by
  unfold firstL lvl
  rw [List.length_map]
  exact Nat.le_trans (List.length_filter_le _ _) (by rw [List.length_take]; omega)
theorem Tryd.infoBools : (Tryd.prog.info? 23).map (fun i => (i.zero, i.size, i.bytes)) = some (some (.slice none 0 0), 1, 24) := by kernel_rfl
theorem Tryd.infoShelf : (Tryd.prog.info? 104).map (fun i => (i.zero, i.size, i.bytes)) = some (some (.agg #[.pointer none, .int .i64 0, .int .i64 0]), 3, 24) := by kernel_rfl
theorem make_rows (n : Nat) (h : n ≤ 1000000000) (w : World) : (Instr.makeSlice 102 (.int .i64 (n : Int)) (.int .i64 (n : Int))).run Tryd.prog w = .ok (.slice (some ⟨w.heap.size, 0, none⟩) n n) (w.alloc (.cells (vecL (fun _ => .slice none 0 0) n).toArray 23)) :=
  run_makeG Tryd.infoBools Tryd.underlying102 rfl n (by omega) (by unfold maxLen; omega) w

end Go.Proofs.YtcppgpjodfeigaaDoor

namespace Go.Proofs.YtcppgpjodfeigaaDoor
set_option linter.unusedVariables false
set_option linter.unusedSimpArgs false
open Go.RowKit

/-- 'l = append(l, x)' of an element of some cells: the new row is the old one or a new block. -/
theorem wp_pushK {P : Program} {w : World} {o : Oper} {a : Act} {K : Act → World → Prop} {Q : Exit → Act → World → Prop} (s x : Operand) (t : TypeId)
    (ho : o.op = .call { callee := .builtin .append, args := #[s, x], argTypes := #[t, t] })
    (base : Nat) (e : TypeId) {z : Value} {bytes size : Nat} (hinfo : (P.info? e).map (fun i => (i.zero, i.size, i.bytes)) = some (some z, size, bytes)) (ht : P.underlying t = some (.slice e)) (hz1 : z.cells.size = size) (hsz0 : 0 < size)
    (v : Value) (n : Nat) (xs : List Value) (hs : a.eval s = v) (hown : w.ownsRow base e size v n xs)
    (b c : Nat) (us : List Value) (hx : a.eval x = .slice (some ⟨b, 0, none⟩) 1 c) (hl : us.length = size) (hus : ∀ j u, us[j]? = some u → w.cell? ⟨b, j, none⟩ = some u) (h1 : ∀ u ∈ us, u.oneCell' = true)
    (h63 : n + 1 ≤ maxLen) (hbytes : (n + 1) * bytes ≤ 140737488355328) (hbase : base ≤ w.heap.size)
    (h : ∀ g cap w', w'.ownsRow base e size (.slice (some ⟨g, 0, none⟩) (n + 1) cap) (n + 1) (xs ++ us) → w.grownBy w' v.ownBlock → (v.ownBlock = some g ∨ w.heap.size ≤ g) → g < w'.heap.size →
      K (a.put o.dst (.slice (some ⟨g, 0, none⟩) (n + 1) cap)) w') : Oper.wp P o a w K Q := by
  obtain ⟨i, hi, hz, hsz, hby⟩ := info_parts hinfo
  obtain ⟨v', w', hr, h2, h3, _, h5⟩ := run_append_own_at (P := P) w base t o.type e i z size bytes ht hi hz hsz hby hz1 hsz0 v n xs hown ⟨b, 0, none⟩ 1 c us (by omega) (fun j u hj => by rw [Addr.add_lit, Nat.zero_add]; exact hus j u hj) h1 h63 hbytes hbase
  unfold Oper.wp execOp
  simp only [ho, resolve, invoke, builtin, Sem.run_bind, Sem.run_pure, Result.andThen_ok, List.map_toArray, List.map_cons, List.map_nil, hs, hx, hr]
  obtain ⟨a', c', rfl, hn, hb⟩ := own_slice h2
  cases a' with
  | none => exact absurd (hn rfl).1 (by omega)
  | some ad =>
    obtain ⟨g, rfl, hg1, hg2, hg3⟩ := hb _ rfl
    refine h g c' w' h2 h3 ?_ hg2
    rcases h5 with hor | hor
    · left; rw [← hor]; exact hg3
    · right; rw [hor] at hg3; injection hg3 with hg3; omega

theorem wpList_pushK {P : Program} {w : World} {ops : Array Oper} {rest : List Oper} {o : Oper} {a : Act} {Q : Exit → Act → World → Prop} (hgd : o.guard = none) (s x : Operand) (t : TypeId)
    (ho : o.op = .call { callee := .builtin .append, args := #[s, x], argTypes := #[t, t] })
    (base : Nat) (e : TypeId) {z : Value} {bytes size : Nat} (hinfo : (P.info? e).map (fun i => (i.zero, i.size, i.bytes)) = some (some z, size, bytes)) (ht : P.underlying t = some (.slice e)) (hz1 : z.cells.size = size) (hsz0 : 0 < size)
    (v : Value) (n : Nat) (xs : List Value) (hs : a.eval s = v) (hown : w.ownsRow base e size v n xs)
    (b c : Nat) (us : List Value) (hx : a.eval x = .slice (some ⟨b, 0, none⟩) 1 c) (hl : us.length = size) (hus : ∀ j u, us[j]? = some u → w.cell? ⟨b, j, none⟩ = some u) (h1 : ∀ u ∈ us, u.oneCell' = true)
    (h63 : n + 1 ≤ maxLen) (hbytes : (n + 1) * bytes ≤ 140737488355328) (hbase : base ≤ w.heap.size)
    (h : ∀ g cap w', w'.ownsRow base e size (.slice (some ⟨g, 0, none⟩) (n + 1) cap) (n + 1) (xs ++ us) → w.grownBy w' v.ownBlock → (v.ownBlock = some g ∨ w.heap.size ≤ g) → g < w'.heap.size →
      wpList P ops Q rest (a.put o.dst (.slice (some ⟨g, 0, none⟩) (n + 1) cap)) w') : wpList P ops Q (o :: rest) a w :=
  wpList_plain hgd fun K hK => wp_pushK s x t ho base e hinfo ht hz1 hsz0 v n xs hs hown b c us hx hl hus h1 h63 hbytes hbase (fun g cap w' a1 a2 a3 a4 => hK _ _ (h g cap w' a1 a2 a3 a4))

end Go.Proofs.YtcppgpjodfeigaaDoor

namespace Go.Proofs.YtcppgpjodfeigaaDoor
set_option linter.unusedVariables false
set_option linter.unusedSimpArgs false
open Go.RowKit

/-- How many nodes a step on one tree looked at. -/
def vbAt (l k M : Nat) : Nat → Nat → Int → Prop := fun l' k' v => l' = l → k' = k → 0 ≤ v ∧ v ≤ M
section
variable {B : Nat} {X : Nat → Prop} {w w' : World} {p n : Nat} {D : WD} {O : Nat → Nat → Option ST} {vis : Int} {Vb : Nat → Nat → Int → Prop} {l k : Nat}
theorem vbAt_at {M v : Nat} (h : v ≤ M) : vbAt l k M l k (v : Int) := fun _ _ => ⟨by omega, by exact_mod_cast h⟩
theorem vbAt_ne {M : Nat} {Vb : Nat → Nat → Int → Prop} : ∀ l' k' v, Vb l' k' v → (l' ≠ l ∨ k' ≠ k) → vbAt l k M l' k' v := fun l' k' v _ hne h1 h2 => by omega
theorem WaveE.tLen (h : WaveE B X w p D O n vis Vb) (hl : l < 9) (hk : k < pw l) :
    Calls Tryd.prog 24 #[.pointer (some ⟨D.Q l k, 0, none⟩)] w fun e w' => e = .returned (.int .i64 (sbits (O l k)).length) ∧ ∃ m, w' = w.drewN m := by
  obtain ⟨S, made, v, hv, ht, hS, hst⟩ := h.step hl hk
  exact tLen_is ht
theorem WaveE.tShape (h : WaveE B X w p D O n vis Vb) (hl : l < 9) (hk : k < pw l) :
    Calls Tryd.prog 27 #[.pointer (some ⟨D.Q l k, 0, none⟩)] w fun e w' => e = .returned (shapeV (O l k)) ∧ Below w.heap.size w w' := by
  obtain ⟨S, made, v, hv, ht, hS, hst⟩ := h.step hl hk
  exact tShape_is ht
theorem WaveE.tAll (h : WaveE B X w p D O n vis Vb) (hl : l < 9) (hk : k < pw l) :
    Calls Tryd.prog 31 #[.pointer (some ⟨D.Q l k, 0, none⟩)] w (GivesB w.heap.size w (sbits (O l k))) := by
  obtain ⟨S, made, v, hv, ht, hS, hst⟩ := h.step hl hk
  exact tAll_is ht
theorem WaveE.tGood (h : WaveE B X w p D O n vis Vb) (hl : l < 9) (hk : k < pw l) : Good (O l k) ∧ (sbits (O l k)).length ≤ 2147483648 := by
  obtain ⟨S, made, v, hv, ht, hS, hst⟩ := h.step hl hk
  exact ⟨ht.good, ht.len⟩
theorem WaveE.tRank (h : WaveE B X w p D O n vis Vb) (hl : l < 9) (hk : k < pw l) (j : Int) (x : Bool) :
    Calls Tryd.prog 20 #[.pointer (some ⟨D.Q l k, 0, none⟩), .int .i64 j, .bool x] w fun e w' => e = .returned (.int .i64 (rankL (sbits (O l k)) j.toNat x)) ∧ WaveE B X w' p D O n vis (vbAt l k (shigh (O l k) + 1)) ∧ Chg (exT B X) w w' := by
  obtain ⟨S, made, v, hv, ht, hS, hst⟩ := h.step hl hk
  refine (tRank_is ht j x).mono ?_
  rintro e w' ⟨rfl, ⟨v', hv', ht'⟩, hc⟩
  have := hst w' S _ made v' (vbAt l k (shigh (O l k) + 1)) ht' (fun j hj => Or.inl hj) hc (vbAt_at hv') vbAt_ne
  rw [updO_self] at this
  exact ⟨rfl, this⟩
theorem WaveE.tGet (h : WaveE B X w p D O n vis Vb) (hl : l < 9) (hk : k < pw l) (j : Nat) (hj : j < (sbits (O l k)).length) :
    Calls Tryd.prog 19 #[.pointer (some ⟨D.Q l k, 0, none⟩), .int .i64 j] w fun e w' => e = .returned (.tuple #[.bool (bitAt (sbits (O l k)) j), .int .i64 0]) ∧ WaveE B X w' p D O n vis (vbAt l k (shigh (O l k) + 1)) ∧ Chg (exT B X) w w' := by
  obtain ⟨S, made, v, hv, ht, hS, hst⟩ := h.step hl hk
  refine (tGet_is ht j hj).mono ?_
  rintro e w' ⟨rfl, ⟨v', hv', ht'⟩, hc⟩
  have := hst w' S _ made v' (vbAt l k (shigh (O l k) + 1)) ht' (fun j hj => Or.inl hj) hc (vbAt_at hv') vbAt_ne
  rw [updO_self] at this
  exact ⟨rfl, this⟩
theorem WaveE.tSelect (h : WaveE B X w p D O n vis Vb) (hl : l < 9) (hk : k < pw l) (hTab : BitTab w) (hN : 0 < B) (j : Int) (x : Bool) :
    Calls Tryd.prog 21 #[.pointer (some ⟨D.Q l k, 0, none⟩), .int .i64 j, .bool x] w fun e w' => e = .returned (.int .i64 (selL (sbits (O l k)) j x)) ∧ WaveE B X w' p D O n vis (vbAt l k (shigh (O l k) + 1)) ∧ Chg (exT B X) w w' := by
  obtain ⟨S, made, v, hv, ht, hS, hst⟩ := h.step hl hk
  refine (tSelect_is ht hTab (fun hs => by have := (hS _ hs).1; omega) j x).mono ?_
  rintro e w' ⟨rfl, ⟨v', hv', ht'⟩, hc⟩
  have := hst w' S _ made v' (vbAt l k (shigh (O l k) + 1)) ht' (fun j hj => Or.inl hj) hc (vbAt_at hv') vbAt_ne
  rw [updO_self] at this
  exact ⟨rfl, this⟩
theorem WaveE.tInsert (h : WaveE B X w p D O n vis Vb) (hl : l < 9) (hk : k < pw l) (j : Nat) (hj : j ≤ (sbits (O l k)).length) (hlen : (sbits (O l k)).length < 2147483648) (x : Bool) :
    Calls Tryd.prog 25 #[.pointer (some ⟨D.Q l k, 0, none⟩), .int .i64 j, .bool x] w fun e w' => e = .returned (.int .i64 0) ∧ WaveE B X w' p D (updO O l k (insO (O l k) j x)) n vis (vbAt l k (7 * shigh (O l k) + 2)) ∧ Chg (exT B X) w w' := by
  obtain ⟨S, made, v, hv, ht, hS, hst⟩ := h.step hl hk
  refine (tInsert_is ht hlen j hj x).mono ?_
  rintro e w' ⟨rfl, made', v', ⟨⟨S', ht', hS'⟩, hc⟩, h0, h1⟩
  obtain ⟨u, rfl⟩ := Int.eq_ofNat_of_zero_le h0
  exact ⟨rfl, hst w' S' _ made' u (vbAt l k (7 * shigh (O l k) + 2)) ht' hS' hc (vbAt_at (by have h1' : (u : Int) ≤ 7 * (shigh (O l k) : Int) + 2 := h1; omega)) vbAt_ne⟩
theorem WaveE.tDelete (h : WaveE B X w p D O n vis Vb) (hl : l < 9) (hk : k < pw l) (j : Nat) (hj : j < (sbits (O l k)).length) :
    Calls Tryd.prog 32 #[.pointer (some ⟨D.Q l k, 0, none⟩), .int .i64 j] w fun e w' => e = .returned (.tuple #[.bool (bitAt (sbits (O l k)) j), .int .i64 0]) ∧ WaveE B X w' p D (updO O l k (delO (O l k) j)) n vis (vbAt l k (7 * shigh (O l k) + 2)) ∧ Chg (exT B X) w w' := by
  obtain ⟨S, made, v, hv, ht, hS, hst⟩ := h.step hl hk
  refine (tDelete_is ht j hj).mono ?_
  rintro e w' ⟨rfl, v', ⟨⟨S', ht', hS'⟩, hc⟩, h0, h1⟩
  obtain ⟨u, rfl⟩ := Int.eq_ofNat_of_zero_le h0
  exact ⟨rfl, hst w' S' _ made u (vbAt l k (7 * shigh (O l k) + 2)) ht' hS' hc (vbAt_at (by have h1' : (u : Int) ≤ 7 * (shigh (O l k) : Int) + 2 := h1; omega)) vbAt_ne⟩
end

end Go.Proofs.YtcppgpjodfeigaaDoor

namespace Go.Proofs.YtcppgpjodfeigaaDoor
set_option linter.unusedVariables false
set_option linter.unusedSimpArgs false
open Go.RowKit

theorem readsB {w : World} {a : Option Addr} {l : List Bool} (hr : ReadsV w a (l.map Value.bool)) {k : Nat} (hk : k < l.length) :
    ∃ b off, a = some ⟨b, off, none⟩ ∧ b < w.heap.size ∧ w.cell? ⟨b, off + k, none⟩ = some (.bool (bitAt l k)) := by
  obtain ⟨b, off, ha, hb, hc⟩ := hr.some (by rw [List.length_map]; omega)
  exact ⟨b, off, ha, hb, hc k _ (by rw [List.getElem?_map, List.getElem?_eq_getElem hk]; simp [bitAt, hk])⟩

theorem refRanks_any (a : Option Addr) (c : Nat) (l : List Bool) (k : Int) (b : Bool) (w : World) (hr : ReadsV w a (l.map Value.bool)) (hl : l.length ≤ 1000000) :
    Calls Tryd.prog 78 #[.slice a l.length c, .int .i64 k, .bool b] w fun e w' => e = .returned (.int .i64 (rankL l k.toNat b)) ∧ w = w' := by
  go_enter Tryd.func78, Tryd.ntmps78
  go_wp2_with fail
  go_loop [7, 8] (fun n i => ∃ m : Nat, m ≤ l.length ∧ m ≤ k.toNat ∧ i = .int .i64 m ∧ n = .int .i64 (rankL l m b)) (fun _ i => l.length - (intOf i).toNat)
  case atStart => exact ⟨0, Nat.zero_le _, Nat.zero_le _, rfl, by simp [rankL]⟩
  case round =>
    obtain ⟨m, hm, hmk, rfl, rfl⟩ := hrel
    have hle := (rankL_le l m b).1
    by_cases h1 : (m : Int) < k
    · by_cases h2 : m < l.length
      · obtain ⟨bb, off, rfl, _, hc⟩ := readsB hr h2
        have hs := rankL_succ b h2
        have e0 : l[m]?.getD false = bitAt l m := rfl
        rw [e0] at hs
        generalize bitAt l m = x at *
        have HS := Lib.hid hs
        clear hs e0 hr
        cases x <;> cases b
        all_goals
          go_wp2_with fail
          go_round
          case rel => exact ⟨m + 1, by omega, by omega, by go_num, by rw [HS.out]; simp⟩
          case measure => simp [intOf]; omega
      · have hR : rankL l k.toNat b = rankL l m b := by rw [rankL_over b (by omega), rankL_over b (by omega)]
        have HR := Lib.hid hR
        clear hR hr
        go_wp2_with fail
        go_ret
        exact ⟨ret_int (by rw [HR.out]), rfl⟩
    · have hR : rankL l k.toNat b = rankL l m b := by rw [show k.toNat = m by omega]
      have HR := Lib.hid hR
      clear hR hr
      go_wp2_with fail
      go_ret
      exact ⟨ret_int (by rw [HR.out]), rfl⟩

theorem refGets_bad (a : Option Addr) (n c : Nat) (k : Int) (w : World) (hk : k < 0 ∨ (n : Int) ≤ k) :
    Calls Tryd.prog 36 #[.slice a n c, .int .i64 k] w fun e w' => e = .returned (.tuple #[.bool false, .int .i64 2]) ∧ w = w' := by
  rcases hk with hk | hk
  · go_enter Tryd.func36, Tryd.ntmps36
    go_wp2_with fail
    go_ret2
    exact ⟨rfl, rfl⟩
  · have d : decide (k < 0) = false := by simp; omega
    go_enter Tryd.func36, Tryd.ntmps36
    go_wp2_with fail
    go_ret2
    exact ⟨rfl, rfl⟩
theorem refGets (a : Option Addr) (c : Nat) (l : List Bool) (k : Nat) (w : World) (hr : ReadsV w a (l.map Value.bool)) (hk : k < l.length) :
    Calls Tryd.prog 36 #[.slice a l.length c, .int .i64 k] w fun e w' => e = .returned (.tuple #[.bool (bitAt l k), .int .i64 0]) ∧ w = w' := by
  obtain ⟨b, off, rfl, _, hc⟩ := readsB hr hk
  have d : decide ((l.length : Int) ≤ (k : Int)) = false := by simp; omega
  clear hr
  go_enter Tryd.func36, Tryd.ntmps36
  go_wp2_with fail
  go_ret2
  exact ⟨rfl, rfl⟩

theorem refSelects_any (a : Option Addr) (c : Nat) (l : List Bool) (j : Int) (b : Bool) (w : World) (hr : ReadsV w a (l.map Value.bool)) (hl : l.length ≤ 1000000) :
    Calls Tryd.prog 79 #[.slice a l.length c, .int .i64 j, .bool b] w fun e w' => e = .returned (.int .i64 (selL l j b)) ∧ w = w' := by
  go_enter Tryd.func79, Tryd.ntmps79
  go_wp2_with fail
  go_loop [7, 8] (fun n i => ∃ m : Nat, m ≤ l.length ∧ i = .int .i64 m ∧ n = .int .i64 (rankL l m b) ∧ ∀ q, q < m → l[q]?.getD false = b → (rankL l q b : Int) ≠ j) (fun _ i => l.length - (intOf i).toNat)
  case atStart => exact ⟨0, Nat.zero_le _, rfl, by simp [rankL], fun q hq => by omega⟩
  case round =>
    obtain ⟨m, hm, rfl, rfl, hno⟩ := hrel
    have HNO := Lib.hid hno
    clear hno
    have hle := (rankL_le l m b).1
    by_cases h2 : m < l.length
    · obtain ⟨bb, off, rfl, _, hc⟩ := readsB hr h2
      have hs := rankL_succ b h2
      have e0 : l[m]?.getD false = bitAt l m := rfl
      rw [e0] at hs
      by_cases hb : bitAt l m = b
      · have HB := Lib.hid hb
        rw [if_pos hb] at hs
        have HS := Lib.hid hs
        rw [hb] at hc
        clear hs e0 hr hb
        by_cases hj : (rankL l m b : Int) = j
        · have hd : ((rankL l m b : Int) == j) = true := by simpa using hj
          have hR := Lib.hid (selL_hit h2 HB.out hj)
          clear hj
          cases b
          all_goals
            go_wp2_with fail
            go_ret
            exact ⟨ret_int hR.out.symm, rfl⟩
        · have hd : ((rankL l m b : Int) == j) = false := by simpa using hj
          have HJ := Lib.hid hj
          clear hj
          have hnx : Hid (∀ q, q < m + 1 → l[q]?.getD false = b → (rankL l q b : Int) ≠ j) := fun q hq hqb => by
            rcases Nat.lt_or_ge q m with h | h
            · exact HNO.out q h hqb
            · have : q = m := by omega
              rw [this]; exact HJ.out
          cases b
          all_goals
            go_wp2_with fail
            go_round
            case rel => exact ⟨m + 1, by omega, by go_num, by rw [HS.out]; simp, hnx.out⟩
            case measure => simp [intOf]; omega
      · have hbb : bitAt l m = !b := by cases b <;> cases h : bitAt l m <;> simp_all
        rw [if_neg hb] at hs
        have HS := Lib.hid hs
        rw [hbb] at hc
        have hnx : Hid (∀ q, q < m + 1 → l[q]?.getD false = b → (rankL l q b : Int) ≠ j) := fun q hq hqb => by
          rcases Nat.lt_or_ge q m with h | h
          · exact HNO.out q h hqb
          · have : q = m := by omega
            rw [this] at hqb; exact absurd hqb hb
        clear hs e0 hr hbb hb
        cases b
        all_goals
          go_wp2_with fail
          go_round
          case rel => exact ⟨m + 1, by omega, by go_num, by rw [HS.out]; simp, hnx.out⟩
          case measure => simp [intOf]; omega
    · have hR : selL l j b = -1 := selL_none (fun q hq => HNO.out q (by omega))
      have HR := Lib.hid hR
      clear hR hr
      go_wp2_with fail
      go_ret
      exact ⟨ret_int HR.out.symm, rfl⟩

theorem refSame_any (a : Option Addr) (c : Nat) (l : List Bool) (a2 : Option Addr) (c2 : Nat) (m : List Bool) (w : World) (hr : ReadsV w a (l.map Value.bool)) (hr2 : ReadsV w a2 (m.map Value.bool)) (hl : l.length ≤ 1000000) :
    Calls Tryd.prog 30 #[.slice a l.length c, .slice a2 m.length c2] w fun e w' => e = .returned (.bool (decide (l = m))) ∧ ∃ n, w' = w.drewN n := by
  by_cases hlen : l.length = m.length
  · have hd : ((l.length : Int) != (m.length : Int)) = false := by simp [hlen]
    have HLEN := Lib.hid hlen
    clear hlen
    go_enter Tryd.func30, Tryd.ntmps30
    go_wp2_with fail
    go_loopw [5] (fun i wr => ∃ k : Nat, k ≤ l.length ∧ i = .int .i64 k ∧ (∀ q, q < k → bitAt l q = bitAt m q) ∧ ∃ n, wr = w.drewN n) (fun i _ => l.length - (intOf i).toNat)
    case atStart => exact ⟨0, Nat.zero_le _, rfl, fun q hq => by omega, 0, rfl⟩
    case round =>
      obtain ⟨k, hk, rfl, hsame, n, rfl⟩ := hrel
      have HSM := Lib.hid hsame
      clear hsame
      by_cases hlt : k < l.length
      · obtain ⟨b1, o1, rfl, _, hc1⟩ := readsB hr hlt
        obtain ⟨b2, o2, rfl, _, hc2⟩ := readsB hr2 (k := k) (by have := HLEN.out; omega)
        have hkm : k < m.length := by have := HLEN.out; omega
        have hc1' : (w.drewN n).cell? ⟨b1, o1 + k, none⟩ = some (.bool (bitAt l k)) := hc1
        have hc2' : (w.drewN n).cell? ⟨b2, o2 + k, none⟩ = some (.bool (bitAt m k)) := hc2
        by_cases hb : bitAt l k = bitAt m k
        · have hs : Hid (∀ q, q < k + 1 → bitAt l q = bitAt m q) := fun q hq => by
            rcases Nat.lt_or_ge q k with h | h
            · exact HSM.out q h
            · have : q = k := by omega
              rw [this]; exact hb
          rw [← hb] at hc2'
          clear hb hc1 hc2 hr hr2
          have HD : Hid (∀ x, ∃ n', (w.drewN n).drewN x = w.drewN n') := fun x => ⟨n + x, by simp [World.drewN, Nat.add_assoc]⟩
          generalize w.drewN n = w1 at *
          cases hbv : bitAt l k
          all_goals
            rw [hbv] at hc1' hc2'
            clear hbv
            go_wp2_with fail
            go_quiet (fail)
            go_wp2_with fail
            go_roundw
            case rel => exact ⟨k + 1, by omega, by go_num, hs.out, HD.out _⟩
            case measure => simp [intOf]; omega
        · have hne : Hid (false = decide (l = m)) := by
            show _ = _
            symm; rw [decide_eq_false_iff_not]; intro e; exact hb (by rw [e])
          have HD : Hid (∀ x, ∃ n', (w.drewN n).drewN x = w.drewN n') := fun x => ⟨n + x, by simp [World.drewN, Nat.add_assoc]⟩
          generalize w.drewN n = w1 at *
          clear hc1 hc2 hr hr2
          cases hb1 : bitAt l k <;> cases hb2 : bitAt m k
          all_goals first
            | (exact absurd (hb1.trans hb2.symm) hb)
            | (rw [hb1] at hc1'
               rw [hb2] at hc2'
               clear hb1 hb2 hb
               go_wp2_with fail
               go_quiet (fail)
               go_wp2_with fail
               go_ret
               exact ⟨ret_bool hne.out, HD.out _⟩)
      · have heq : Hid (true = decide (l = m)) := by
          show _ = _
          symm; rw [decide_eq_true_eq]
          apply List.ext_getElem?
          intro i
          by_cases hi : i < l.length
          · have h1 := HSM.out i (by omega)
            have hm : i < m.length := by have := HLEN.out; omega
            rw [List.getElem?_eq_getElem hi, List.getElem?_eq_getElem hm]
            simpa [bitAt, hi, hm] using h1
          · rw [List.getElem?_eq_none (by omega), List.getElem?_eq_none (by have := HLEN.out; omega)]
        clear hr hr2
        go_wp2_with fail
        go_ret
        exact ⟨ret_bool heq.out, n, rfl⟩
  · have hd : ((l.length : Int) != (m.length : Int)) = true := by simp; omega
    have hne : Hid (false = decide (l = m)) := by
      show _ = _
      symm; rw [decide_eq_false_iff_not]; intro e; exact hlen (by rw [e])
    clear hr hr2 hlen
    go_enter Tryd.func30, Tryd.ntmps30
    go_wp2_with fail
    go_ret
    exact ⟨ret_bool hne.out, 0, rfl⟩

end Go.Proofs.YtcppgpjodfeigaaDoor

namespace Go.Proofs.YtcppgpjodfeigaaDoor
open Go.ChangeShapes Go.WideShapes Go.ChangeAt Go.RowKit

variable {H : Type} {enc : TypeId × Value → H} {P : Program} {w : World} {base : Nat} {sp : Nat → Bool} {held : Bool}

theorem argI_of {t e : TypeId} {k : IntKind} {fuel : Nat} {a : Option Addr} {len cap : Nat} {x : DataW H × List MemPlace} (ht : P.underlying t = some (.slice e)) (he : P.underlying e = some (.int k)) (hc : P.cellsOf e = 1)
    (hf : DataW.trod enc P w base sp held fuel t (Value.slice a len cap).cells.toList = some x) : ∃ xs : List Int, len = xs.length ∧ ArgI k w a cap xs := by
  rcases open_ints ht he hc hf with ⟨hcs, _⟩ | ⟨x, l, c, zs, hcs, _, hl, hm, hz, _, hcell, hwz⟩
  · simp [Value.cells] at hcs
    obtain ⟨rfl, rfl, rfl⟩ := hcs
    exact ⟨[], rfl, ⟨Reads.nil, fun i hi => absurd hi (by simp), by simp, by unfold maxLen; omega, fun _ => rfl⟩⟩
  · simp [Value.cells] at hcs
    obtain ⟨rfl, rfl, rfl⟩ := hcs
    have hzl : len ≤ zs.length := by rw [hz]; split <;> omega
    have hlen : (zs.take len).length = len := by rw [List.length_take]; omega
    clear hz
    refine ⟨zs.take len, hlen.symm, ⟨fun i hi => ?_, fun i hi => ?_, by rw [hlen]; exact hl, hm, fun h => by cases h⟩⟩
    · rw [hlen] at hi ⊢
      obtain ⟨b, off, spot⟩ := x
      have h0 := hcell 0 (by omega)
      have hspot : spot = none := by simpa [Addr.add] using World.cell?_spot h0
      subst hspot
      refine ⟨b, off, rfl, World.block_lt_of_cell? w _ (by simpa [Addr.add] using h0), fun j hj => ?_⟩
      have := hcell j (by omega)
      rw [List.getElem?_take, if_pos hj]
      rw [Addr.add_lit] at this
      simpa [List.getD_eq_getElem?_getD] using this
    · rw [hlen] at hi
      rw [List.getElem?_take, if_pos hi, List.getElem?_eq_getElem (by omega)]
      exact hwz _ (List.getElem_mem _)

end Go.Proofs.YtcppgpjodfeigaaDoor

namespace Go.Proofs.YtcppgpjodfeigaaDoor
set_option linter.unusedVariables false
set_option linter.unusedSimpArgs false
open Go.RowKit

/-- What is returned is some row of bools of the call's own, of at most so many. -/
def SomeB (B : Nat) (w : World) (most : Nat) (e : Ending) (w' : World) : Prop := ∃ l : List Bool, l.length ≤ most ∧ GivesB B w l e w'

set_option maxHeartbeats 1600000 in
theorem lawBits_any (a : Option Addr) (c : Nat) (z : List Int) (most : Nat) (w : World) (hr : Reads w .i64 a z) (hm : most ≤ 1000) (hz : z.length ≤ maxLen) :
    Calls Tryd.prog 17 #[.slice a z.length c, .int .i64 most] w (SomeB w.heap.size w most) := by
  unfold maxLen at hz
  go_enter Tryd.func17, Tryd.ntmps17
  go_wp2_with fail
  go_loopw [5, 6] (fun v i wr => ∃ (k : Nat) (l : List Bool), k ≤ z.length ∧ l.length ≤ most ∧ i = .int .i64 k ∧ wr.ownsRow w.heap.size 4 1 v l.length (l.map Value.bool) ∧ Below w.heap.size w wr) (fun _ i _ => z.length - (intOf i).toNat)
  case atStart => exact ⟨0, [], Nat.zero_le _, Nat.zero_le _, rfl, World.ownsRow_nil _ _ _ _, Below.refl _ _⟩
  case round =>
    obtain ⟨k, l, hk, hl, rfl, hown, hb⟩ := hrel
    by_cases hlt : k < z.length
    · obtain ⟨b, off, rfl, hbl, hcells⟩ := hr.some (by omega)
      have hcx : Hid (∀ w', Below w.heap.size w w' → w'.cell? ⟨b, off + k, none⟩ = some (.int .i64 (z[k]?.getD 0))) := fun w' hb => (hb.cell (p := ⟨b, off + k, none⟩) hbl).trans (hcells k hlt)
      have hc0 := hcx.out wr hb
      generalize z[k]?.getD 0 = x at *
      obtain ⟨u, hu0, hu1, hu⟩ : ∃ u : Int, 0 ≤ u ∧ u < 18446744073709551616 ∧ IntKind.u64.wrap x = u := ⟨IntKind.u64.wrap x, by rw [IntKind.wrap_u64]; omega, by rw [IntKind.wrap_u64]; omega, rfl⟩
      have hn0 : Hid (∃ n : Nat, n ≤ 12 ∧ u / 2 % 12 = (n : Int)) := ⟨(u / 2 % 12).toNat, by omega, by omega⟩
      clear hcells
      go_wp2_with fail
      obtain ⟨wo, rfl⟩ : ∃ wo : World, wo = wr := ⟨_, rfl⟩
      go_loopw [5, 7] (fun v i wr => ∃ (n : Nat) (l : List Bool), n ≤ 12 ∧ l.length ≤ most ∧ i = .int .u64 n ∧ wr.ownsRow w.heap.size 4 1 v l.length (l.map Value.bool) ∧ Below w.heap.size w wr) (fun _ i _ => (intOf i).toNat)
      case atStart =>
        obtain ⟨n, h1, h2⟩ := hn0.out
        exact ⟨n, l, h1, hl, by rw [h2], hown, hb⟩
      case round =>
        clear hc0 hown hb hl
        obtain ⟨n, l, hn, hl, rfl, hown, hb⟩ := hrel
        have hs := hb.size
        have hc0 := hcx.out wr hb
        obtain ⟨v, c, rfl, _, _⟩ := own_slice hown
        by_cases h1 : 0 < n ∧ l.length < most
        · obtain ⟨h1, h2⟩ := h1
          go_wp2_with (at_builtin; refine wpList_push rfl _ _ 23 rfl w.heap.size 4 Tryd.infoBoolR Tryd.underlying23 rfl _ _ _ rfl hown rfl rfl ?c1 ?c2 ?c3 ?_)
          case c1 => unfold maxLen; omega
          case c2 => omega
          case c3 => omega
          intro v' w1 hown' hgrow
          have hnx' : Below w.heap.size w w1 := hb.grown hgrow hs (fun j hj => (hown.lt j hj).1)
          generalize (bits BinOp.and IntKind.i64 x 1 == 1) = bv at *
          have HO : Hid (w1.ownsRow w.heap.size 4 1 v' (l ++ [bv]).length ((l ++ [bv]).map Value.bool)) := by
            show w1.ownsRow _ _ _ _ _ _
            rw [List.length_append, List.map_append]; exact hown'
          clear hown hgrow hown'
          go_wp2_with fail
          go_roundw
          case rel => exact ⟨n - 1, l ++ [bv], by omega, by rw [List.length_append]; simp; omega, by rw [show ((n - 1 : Nat) : Int) = (n : Int) - 1 by omega], HO.out, hnx'⟩
          case measure => simp [intOf]; omega
        · have hor : n = 0 ∨ (0 < n ∧ most ≤ l.length) := by omega
          rcases hor with rfl | ⟨h2, h3⟩
          · go_wp2_with fail
            go_roundw
            case rel => exact ⟨k + 1, l, by omega, hl, by go_num, hown, hb⟩
            case measure => simp [intOf]; omega
          · have hd : decide ((l.length : Int) < (most : Int)) = false := by simp; omega
            go_wp2_with fail
            go_roundw
            case rel => exact ⟨k + 1, l, by omega, hl, by go_num, hown, hb⟩
            case measure => simp [intOf]; omega
    · go_wp2_with fail
      go_ret
      exact ⟨l, hl, _, rfl, hown, hb⟩

/-- 'append(s, x...)' onto an own row behind a guard that is met. -/
theorem wpList_appendG {P : Program} {w : World} {ops : Array Oper} {rest : List Oper} {o : Oper} {a : Act} {Q : Exit → Act → World → Prop} (hw : Region.wanted o (yielded ops a.tmps) = true) (s x : Operand) (t : TypeId)
    (ho : o.op = .call { callee := .builtin .append, args := #[s, x], argTypes := #[t, t] })
    (base : Nat) (e : TypeId) {z : Value} {bytes : Nat} (hinfo : (P.info? e).map (fun i => (i.zero, i.size, i.bytes)) = some (some z, 1, bytes)) (ht : P.underlying t = some (.slice e)) (hz1 : z.cells.size = 1)
    (v : Value) (n : Nat) (xs : List Value) (hs : a.eval s = v) (hown : w.ownsRow base e 1 v n xs)
    (ad : Option Addr) (m c : Nat) (news : List Value) (hx : a.eval x = .slice ad m c) (hl : news.length = m) (hnil : ad = none → m = 0 ∧ c = 0)
    (hnews : ∀ p, ad = some p → ∀ j u, news[j]? = some u → w.cell? (p.add j) = some u) (h1 : ∀ u ∈ news, u.oneCell' = true)
    (h63 : n + m ≤ maxLen) (hbytes : (n + m) * bytes ≤ 140737488355328) (hbase : base ≤ w.heap.size)
    (h : ∀ a' c' w', w'.ownsRow base e 1 (.slice a' (n + m) c') (n + m) (xs ++ news) → w.grownBy w' v.ownBlock → (∀ g, a' = some ⟨g, 0, none⟩ → v.ownBlock = some g ∨ w.heap.size ≤ g) →
      wpList P ops Q rest (a.put o.dst (.slice a' (n + m) c')) w') : wpList P ops Q (o :: rest) a w :=
  wpList_step fun K hK => by
    rw [if_pos hw]
    exact wp_appendL s x t ho base e hinfo ht hz1 v n xs hs hown ad m c news hx hl hnil hnews h1 h63 hbytes hbase (fun a' c' w' h1 h2 h3 => hK _ _ (h a' c' w' h1 h2 h3))

/-- What a law's walk keeps of a block of its own. -/
def BkAt (B : Nat) (w : World) (p : Nat) (l : List Bool) : Prop := IsBlock w p l ∧ B ≤ p
theorem BkAt.below {B : Nat} {w w' : World} {p : Nat} {l : List Bool} (h : BkAt B w p l) (hb : Below w.heap.size w w') : BkAt B w' p l := ⟨h.1.below' hb, h.2⟩
theorem BlkStep.out {B : Nat} {w w' : World} {p : Nat} {l m : List Bool} (h : BlkStep w w' p m) (h0 : BkAt B w p l) (hB : B ≤ w.heap.size) : BkAt B w' p m ∧ Below B w w' :=
  ⟨⟨h.1, h0.2⟩, h.2.below (fun b hb => by have := h0.2; omega) hB⟩

theorem ins_at {B : Nat} {w : World} {p : Nat} {l m : List Bool} {k : Int} {b : Bool} (h : BkAt B w p l) (hB : B ≤ w.heap.size) (n : Nat) (hk : k = (n : Int)) (hl : l.length < 128) (hn : n ≤ l.length) (hm : inL l n b = m) :
    Calls Tryd.prog 101 #[.pointer (some ⟨p, 0, none⟩), .int .i64 k, .bool b] w fun e w' => e = .returned (.int .i64 0) ∧ BkAt B w' p m ∧ Below B w w' := by
  subst hk hm
  refine (blkInsert h.1 hl n hn b).mono ?_
  rintro e w' ⟨rfl, hs⟩
  exact ⟨rfl, hs.out h hB⟩
theorem del_at {B : Nat} {w : World} {p : Nat} {l m : List Bool} {k : Int} {x : Bool} (h : BkAt B w p l) (hB : B ≤ w.heap.size) (n : Nat) (hk : k = (n : Int)) (hn : n < l.length) (hm : outL l n = m) (hx : bitAt l n = x) :
    Calls Tryd.prog 105 #[.pointer (some ⟨p, 0, none⟩), .int .i64 k] w fun e w' => e = .returned (.tuple #[.bool x, .int .i64 0]) ∧ BkAt B w' p m ∧ Below B w w' := by
  subst hk hm hx
  refine (blkDelete h.1 n hn).mono ?_
  rintro e w' ⟨rfl, hs⟩
  exact ⟨rfl, hs.out h hB⟩
/-- Split, of a block of the call's own. -/
def SplitAt (B : Nat) (w : World) (p : Nat) (l : List Bool) (e : Ending) (w' : World) : Prop :=
  ∃ q, e = .returned (.pointer (some ⟨q, 0, none⟩)) ∧ BkAt B w' q (l.drop (l.length / 2)) ∧ BkAt B w' p (l.take (l.length / 2)) ∧ p ≠ q ∧ Below B w w'
theorem split_at {B : Nat} {w : World} {p : Nat} {l : List Bool} (h : BkAt B w p l) (hB : B ≤ w.heap.size) :
    Calls Tryd.prog 100 #[.pointer (some ⟨p, 0, none⟩)] w (SplitAt B w p l) := by
  refine (blkSplit h.1).mono ?_
  rintro e w' ⟨q, rfl, hq, h1, h2, hc⟩
  exact ⟨q, rfl, ⟨h1, by omega⟩, ⟨h2, h.2⟩, fun e => by have := h.1.lt; omega, hc.below (fun b hb => by have := h.2; omega) hB⟩
/-- Join, of blocks of the call's own. -/
def JoinAt (B : Nat) (w : World) (p q : Nat) (l m : List Bool) (e : Ending) (w' : World) : Prop :=
  e = .returned (.int .i64 0) ∧ BkAt B w' p (l ++ m) ∧ BkAt B w' q [] ∧ Below B w w'
theorem join_at {B : Nat} {w : World} {p q : Nat} {l m : List Bool} (h : BkAt B w p l) (h2 : BkAt B w q m) (hpq : p ≠ q) (hB : B ≤ w.heap.size) (hl : l.length + m.length ≤ 128) :
    Calls Tryd.prog 122 #[.pointer (some ⟨p, 0, none⟩), .pointer (some ⟨q, 0, none⟩)] w (JoinAt B w p q l m) := by
  refine (blkJoin h.1 h2.1 hpq hl).mono ?_
  rintro e w' ⟨rfl, h3, h4, hc⟩
  exact ⟨rfl, ⟨h3, h.2⟩, ⟨h4, h2.2⟩, hc.below (fun b hb => by have := h.2; have := h2.2; rcases hb with rfl | rfl <;> omega) hB⟩
theorem new_blk {B : Nat} {w : World} {a : Option Addr} {c n : Nat} (l : List Bool) (hn : n = l.length) (hr : ReadsV w a (l.map Value.bool)) (hl : l.length ≤ 128) (hB : B ≤ w.heap.size) :
    Calls Tryd.prog 67 #[.slice a n c] w fun e w' => e = .returned (.tuple #[.pointer (some ⟨w.heap.size, 0, none⟩), .int .i64 0]) ∧ BkAt B w' w.heap.size l ∧ Below w.heap.size w w' := by
  subst hn
  refine (blkNew w a c l hr hl).mono ?_
  rintro e w' ⟨rfl, h, hb⟩
  exact ⟨rfl, ⟨h, hB⟩, hb⟩
theorem below_drewW {B : Nat} {w w' : World} (h : Below B w w') (n : Nat) : Below B w (w'.drewN n) := ⟨h.os, h.tape, h.output, h.size, h.block⟩

end Go.Proofs.YtcppgpjodfeigaaDoor

namespace Go.Proofs.YtcppgpjodfeigaaDoor
set_option linter.unusedVariables false
set_option linter.unusedSimpArgs false
open Go.RowKit

/-- Bits in a row: of a word. -/
def bitsL (x n : Nat) : List Bool := (List.range n).map x.testBit
theorem bitsL_len (x n : Nat) : (bitsL x n).length = n := by simp [bitsL]
theorem bitsL_get {x n i : Nat} (h : i < n) : (bitsL x n)[i]? = some (x.testBit i) := by simp [bitsL, h]
theorem bitsL_succ (x n : Nat) : bitsL x (n + 1) = bitsL x n ++ [x.testBit n] := by simp [bitsL, List.range_succ]

theorem wordOf_congr {f g : Nat → Bool} {n : Nat} (h : ∀ i, i < n → f i = g i) : wordOf f n = wordOf g n :=
  word_ext (wordOf_lt f n) (wordOf_lt g n) (fun i hi => by rw [wordOf_bit, wordOf_bit, h i hi])
theorem wordOf_or {f : Nat → Bool} {k : Nat} : wordOf f k ||| (if f k then 2 ^ k else 0) = wordOf f (k + 1) := by
  have hl := wordOf_lt f k
  refine word_ext (n := k + 1) (Nat.or_lt_two_pow (Nat.lt_of_lt_of_le hl (Nat.pow_le_pow_right (by omega) (by omega))) ?_) (wordOf_lt _ _) (fun i hi => ?_)
  · rw [Nat.pow_succ]; have := Nat.two_pow_pos k; split <;> omega
  · rw [Nat.testBit_or, wordOf_bit, wordOf_bit]
    have hb : (if f k = true then 2 ^ k else 0 : Nat).testBit i = (f k && decide (i = k)) := by
      cases f k
      · simp
      · simp [Nat.testBit_two_pow, eq_comm]
    rw [hb]
    by_cases h1 : i < k
    · have h2 : ¬ i = k := by omega
      simp [h1, h2, hi]
    · have h2 : i = k := by omega
      subst h2; simp

end Go.Proofs.YtcppgpjodfeigaaDoor

namespace Go.Proofs.YtcppgpjodfeigaaDoor
set_option linter.unusedVariables false
set_option linter.unusedSimpArgs false
open Go.RowKit

set_option maxHeartbeats 1600000 in
theorem refOut_any (a : Option Addr) (c : Nat) (l : List Bool) (k : Nat) (w : World) (hr : ReadsV w a (l.map Value.bool)) (hk : k < l.length) (hc : l.length ≤ c) (hcm : c ≤ maxLen) (hl : l.length ≤ 1000000) (hnil : a = none → l.length = 0 ∧ c = 0) :
    Calls Tryd.prog 37 #[.slice a l.length c, .int .i64 k] w (GivesB w.heap.size w (outL l k)) := by
  have hs1 := fun (w : World) => run_sliceTo (P := Tryd.prog) (w := w) (t := 23) (a := a) (len := l.length) (cap := c) (k := k) Tryd.underlying23 (by kernel_rfl) (by omega)
  have hs2 : ∀ (w : World), (Instr.slice 23 (.slice a l.length c) (some (.int .i64 ((k : Int) + 1))) none none).run Tryd.prog w = .ok (.slice (offA a (k + 1) c) (l.length - (k + 1)) (c - (k + 1))) w :=
    fun w => run_sliceFrom (P := Tryd.prog) (w := w) (t := 23) (a := a) (len := l.length) (cap := c) (k := k + 1) Tryd.underlying23 (by kernel_rfl) (by omega)
  have HNIL := Lib.hid (offA_nil (k := k + 1) hnil)
  have HN0 : Hid (a = none → k = 0 ∧ c = 0) := fun h => by have := hnil h; omega
  have hrt : ReadsV w a ((l.take k).map Value.bool) := by rw [List.map_take]; exact hr.take k
  have HRT : Hid (∀ w', Below w.heap.size w w' → ReadsV w' a ((l.take k).map Value.bool)) := fun w' hb => hrt.below' hb
  have HRD : Hid (∀ w', Below w.heap.size w w' → ReadsV w' (offA a (k + 1) c) ((l.drop (k + 1)).map Value.bool)) := fun w' hb => by rw [List.map_drop]; exact (hr.below' hb).drop (by simpa using hc)
  have hb0 := below_alloc w (.cells #[] 4)
  have hown0 : (w.alloc (.cells #[] 4)).ownsRow w.heap.size 4 1 (.slice (some ⟨w.heap.size, 0, none⟩) 0 0) 0 [] := own_zero (Nat.le_refl _) (heap_alloc_new _ _)
  have HL := Lib.hid hl
  have HO0 := Lib.hid hown0
  have HB0 := Lib.hid hb0
  clear hnil hr hrt hown0 hb0
  go_enter Tryd.func37, Tryd.ntmps37
  go_wp2_with (at_builtin; refine wpList_appendL rfl _ _ 23 rfl w.heap.size 4 Tryd.infoBoolR Tryd.underlying23 rfl _ 0 _ rfl HO0.out a k c ((l.take k).map Value.bool) rfl (by simp; omega) HN0.out (HRT.out _ HB0.out).hnews (oneB _) (by unfold maxLen; omega) (by omega) HB0.out.size ?_)
  intro a1 c1 w1 hown hgrow _
  have hb1 : Below w.heap.size w w1 := HB0.out.grown hgrow HB0.out.size (fun j hj => by simp [Value.ownBlock] at hj; omega)
  have HB1 := Lib.hid hb1
  have hown1 : w1.ownsRow w.heap.size 4 1 (.slice a1 k c1) k ((l.take k).map Value.bool) := by simpa using hown
  have HOWN := Lib.hid hown1
  clear hown hown1 hgrow hb1
  go_wp2_with (at_builtin; refine wpList_appendL rfl _ _ 23 rfl w.heap.size 4 Tryd.infoBoolR Tryd.underlying23 rfl _ k _ rfl HOWN.out (offA a (k + 1) c) (l.length - (k + 1)) (c - (k + 1)) ((l.drop (k + 1)).map Value.bool) rfl (by simp) HNIL.out (HRD.out _ HB1.out).hnews (oneB _) (by unfold maxLen; omega) (by omega) HB1.out.size ?_)
  intro a2 c2 w2 hown2 hgrow2 _
  have hb2 : Below w.heap.size w w2 := HB1.out.grown hgrow2 HB1.out.size (fun j hj => (own_lt HOWN.out hj).1)
  have HB2 := Lib.hid hb2
  have HO2 := Lib.hid hown2
  clear hown2 hgrow2 hb2
  go_wp2_with fail
  go_ret
  refine ⟨_, rfl, ?_, HB2.out⟩
  have := HO2.out
  rw [show (outL l k).map Value.bool = List.take k (List.map Value.bool l) ++ List.drop (k + 1) (List.map Value.bool l) by simp [outL]]
  rw [show (outL l k).length = k + (l.length - (k + 1)) by rw [outL_len hk]; omega]
  exact this

set_option maxHeartbeats 1600000 in
theorem refIn_any (a : Option Addr) (c : Nat) (l : List Bool) (k : Nat) (b : Bool) (w : World) (hr : ReadsV w a (l.map Value.bool)) (hk : k ≤ l.length) (hc : l.length ≤ c) (hcm : c ≤ maxLen) (hl : l.length ≤ 1000000) (hnil : a = none → l.length = 0 ∧ c = 0) :
    Calls Tryd.prog 35 #[.slice a l.length c, .int .i64 k, .bool b] w (GivesB w.heap.size w (inL l k b)) := by
  have hs1 := fun (w : World) => run_sliceTo (P := Tryd.prog) (w := w) (t := 23) (a := a) (len := l.length) (cap := c) (k := k) Tryd.underlying23 (by kernel_rfl) (by omega)
  have hs2 := fun (w : World) => run_sliceFrom (P := Tryd.prog) (w := w) (t := 23) (a := a) (len := l.length) (cap := c) (k := k) Tryd.underlying23 (by kernel_rfl) (by omega)
  have HNIL := Lib.hid (offA_nil (k := k) hnil)
  have HN0 : Hid (a = none → k = 0 ∧ c = 0) := fun h => by have := hnil h; omega
  have hrt : ReadsV w a ((l.take k).map Value.bool) := by rw [List.map_take]; exact hr.take k
  have HRT : Hid (∀ w', Below w.heap.size w w' → ReadsV w' a ((l.take k).map Value.bool)) := fun w' hb => hrt.below' hb
  have HRD : Hid (∀ w', Below w.heap.size w w' → ReadsV w' (offA a k c) ((l.drop k).map Value.bool)) := fun w' hb => by rw [List.map_drop]; exact (hr.below' hb).drop (by simpa using hc)
  have hb0 := below_alloc w (.cells #[] 4)
  have hown0 : (w.alloc (.cells #[] 4)).ownsRow w.heap.size 4 1 (.slice (some ⟨w.heap.size, 0, none⟩) 0 0) 0 [] := own_zero (Nat.le_refl _) (heap_alloc_new _ _)
  have HL := Lib.hid hl
  have HO0 := Lib.hid hown0
  have HB0 := Lib.hid hb0
  clear hnil hr hrt hown0 hb0
  go_enter Tryd.func35, Tryd.ntmps35
  go_wp2_with (at_builtin; refine wpList_appendL rfl _ _ 23 rfl w.heap.size 4 Tryd.infoBoolR Tryd.underlying23 rfl _ 0 _ rfl HO0.out a k c ((l.take k).map Value.bool) rfl (by simp; omega) HN0.out (HRT.out _ HB0.out).hnews (oneB _) (by unfold maxLen; omega) (by omega) HB0.out.size ?_)
  intro a1 c1 w1 hown hgrow _
  have hb1 : Below w.heap.size w w1 := HB0.out.grown hgrow HB0.out.size (fun j hj => by simp [Value.ownBlock] at hj; omega)
  have hown1 : w1.ownsRow w.heap.size 4 1 (.slice a1 k c1) k ((l.take k).map Value.bool) := by simpa using hown
  have HB1 := Lib.hid hb1
  have HOWN := Lib.hid hown1
  clear hown hown1 hgrow hb1
  go_wp2_with fail
  have hs1b := HB1.out.drew.size
  have HB1A : Hid (Below w.heap.size w (w1.drew.alloc (.cells #[.bool b] 4))) := HB1.out.drew.alloc hs1b _
  have HOWN2 : Hid ((w1.drew.alloc (.cells #[.bool b] 4)).ownsRow w.heap.size 4 1 (.slice a1 k c1) k ((l.take k).map Value.bool)) := World.ownsRow.alloc (w := w1.drew) HOWN.out _
  have HNEW : Hid (∀ p, some (⟨w1.heap.size, 0, none⟩ : Addr) = some p → ∀ j u, [Value.bool b][j]? = some u → (w1.drew.alloc (.cells #[.bool b] 4)).cell? (p.add j) = some u) :=
    (readsV_block (xs := [.bool b]) (heap_alloc_new w1.drew _)).hnews
  refine reg_start (fun _ => True) (by kernel_rfl) (trivial) (fun hHeld => ?_)
  refine reg_take (i := 0) (v := ?v0) rfl (by kernel_rfl) rfl hHeld ?y0 ?r0
  case y0 => (intro w hSw; (try dsimp only at hSw); go_simp; all_goals with_reducible rfl)
  try simp only [Act.put, List.setIfInBounds_toArray, List.set_cons_zero, List.set_cons_succ]
  refine reg_take (i := 1) (v := ?v1) rfl (by kernel_rfl) rfl hHeld ?y1 ?r1
  case y1 => (intro w hSw; (try dsimp only at hSw); go_simp; all_goals with_reducible rfl)
  try simp only [Act.put, List.setIfInBounds_toArray, List.set_cons_zero, List.set_cons_succ]
  refine reg_take (i := 4) (v := ?v4) rfl (by kernel_rfl) rfl hHeld ?y4 ?r4
  case y4 => (intro w hSw; (try dsimp only at hSw); go_simp; all_goals with_reducible rfl)
  try simp only [Act.put, List.setIfInBounds_toArray, List.set_cons_zero, List.set_cons_succ]
  refine reg_take (i := 5) (v := ?v5) rfl (by kernel_rfl) rfl hHeld ?y5 ?r5
  case y5 => (intro w hSw; (try dsimp only at hSw); go_simp; all_goals with_reducible rfl)
  try simp only [Act.put, List.setIfInBounds_toArray, List.set_cons_zero, List.set_cons_succ]
  refine reg_take (i := 6) (v := ?v6) rfl (by kernel_rfl) rfl hHeld ?y6 ?r6
  case y6 => (intro w hSw; (try dsimp only at hSw); go_simp; all_goals with_reducible rfl)
  try simp only [Act.put, List.setIfInBounds_toArray, List.set_cons_zero, List.set_cons_succ]
  refine reg_loud (i := 2) rfl (by kernel_rfl) rfl (fun K hK => ?_)
  go_simp
  refine hK.out _ _ (trivial) (fun hNew => ?_)
  clear hK K hHeld
  have hHeld := hNew
  clear hNew
  try simp only [Act.put, List.setIfInBounds_toArray, List.set_cons_zero, List.set_cons_succ]
  refine reg_loud (i := 3) rfl (by kernel_rfl) rfl (fun K hK => ?_)
  refine wp_appendL _ _ 23 rfl w.heap.size 4 Tryd.infoBoolR Tryd.underlying23 rfl _ k _ rfl HOWN2.out (some ⟨w1.heap.size, 0, none⟩) 1 1 [.bool b] rfl rfl (fun h => by cases h) HNEW.out (oneB [b]) (by unfold maxLen; omega) (by omega) HB1A.out.size ?_
  intro a2 c2 w2 hown2 hgrow2 _
  have hb2 : Below w.heap.size w w2 := HB1A.out.grown hgrow2 HB1A.out.size (fun j hj => (own_lt HOWN2.out hj).1)
  have HB2 := Lib.hid hb2
  have HO2 := Lib.hid hown2
  clear hown2 hgrow2 hb2
  refine hK.out _ _ (trivial) (fun hNew => ?_)
  clear hK K hHeld
  have hHeld := hNew
  clear hNew
  try simp only [Act.put, List.setIfInBounds_toArray, List.set_cons_zero, List.set_cons_succ]
  refine reg_loud (i := 7) rfl (by kernel_rfl) rfl (fun K hK => ?_)
  refine wp_appendL _ _ 23 rfl w.heap.size 4 Tryd.infoBoolR Tryd.underlying23 rfl _ (k + 1) _ rfl HO2.out (offA a k c) (l.length - k) (c - k) ((l.drop k).map Value.bool) rfl (by simp) HNIL.out (HRD.out w2 (HB2.out)).hnews (oneB _) (by unfold maxLen; omega) (by omega) HB2.out.size ?_
  intro a3 c3 w3 hown3 hgrow3 _
  have hb3 : Below w.heap.size w w3 := HB2.out.grown hgrow3 HB2.out.size (fun j hj => (own_lt HO2.out hj).1)
  have HB3 := Lib.hid hb3
  have HO3 := Lib.hid hown3
  clear hown3 hgrow3 hb3
  refine hK.out _ _ (trivial) (fun hNew => ?_)
  clear hK K hHeld
  have hHeld := hNew
  clear hNew
  try simp only [Act.put, List.setIfInBounds_toArray, List.set_cons_zero, List.set_cons_succ]
  refine reg_take (i := 8) (v := ?v8) rfl (by kernel_rfl) rfl hHeld ?y8 ?r8
  case y8 => (intro w hSw; (try dsimp only at hSw); go_simp; all_goals with_reducible rfl)
  try simp only [Act.put, List.setIfInBounds_toArray, List.set_cons_zero, List.set_cons_succ]
  refine reg_done (by kernel_rfl) ?_ _
  go_wp2_with fail
  go_ret
  refine ⟨_, rfl, ?_, HB3.out⟩
  have := HO3.out
  rw [show (inL l k b).map Value.bool = (l.take k).map Value.bool ++ [.bool b] ++ (l.drop k).map Value.bool by simp [inL]]
  rw [show (inL l k b).length = k + 1 + (l.length - k) by rw [inL_len hk]; omega]
  exact this

theorem word_in (x k : Nat) (b : Bool) (hk : k < 64) : wordOf (fun i => (inL (bitsL x 64) k b)[i]?.getD false) 64 = putW x k b := by
  refine wordOf_congr (fun i hi => ?_)
  rw [inL_get (by rw [bitsL_len]; omega)]
  split
  · rw [bitsL_get hi]; rfl
  · split
    · rfl
    · rw [bitsL_get (by omega)]; rfl
theorem word_out (x k : Nat) (b : Bool) (hk : k < 64) : wordOf (fun i => (outL (bitsL x 64) k ++ [b])[i]?.getD false) 64 = cutW x k b := by
  refine wordOf_congr (fun i hi => ?_)
  have hl : (outL (bitsL x 64) k).length = 63 := by rw [outL_len (by rw [bitsL_len]; omega), bitsL_len]
  rw [List.getElem?_append, hl]
  by_cases h63 : i < 63
  · rw [if_pos h63, outL_get (by rw [bitsL_len]; omega)]
    split
    · rw [bitsL_get hi]; rfl
    · rw [bitsL_get (by omega), if_neg (by omega)]; rfl
  · have : i = 63 := by omega
    subst this
    simp
    intro h; omega

end Go.Proofs.YtcppgpjodfeigaaDoor

namespace Go.Proofs.YtcppgpjodfeigaaDoor
set_option linter.unusedVariables false
set_option linter.unusedSimpArgs false
open Go.RowKit

theorem u64r (a : Int) : ∃ u : Int, 0 ≤ u ∧ u < 18446744073709551616 ∧ IntKind.u64.wrap a = u := ⟨IntKind.u64.wrap a, by rw [IntKind.wrap_u64]; omega, by rw [IntKind.wrap_u64]; omega, rfl⟩

set_option maxHeartbeats 1600000 in
theorem near5_any (k : Int) (n : Nat) (hn : n ≤ 1000000000) (w : World) :
    Calls Tryd.prog 28 #[.int .i64 k, .int .i64 (n : Int)] w fun e w' => (∃ r : Nat, r ≤ n ∧ e = .returned (.int .i64 r)) ∧ w = w' := by
  obtain ⟨u, hu0, hu1, hu⟩ := u64r k
  obtain ⟨r, hr, hrn⟩ : ∃ r : Nat, u % ((n : Int) + 1) = (r : Int) ∧ r ≤ n := ⟨(u % ((n : Int) + 1)).toNat, by have := Int.emod_nonneg u (b := (n : Int) + 1) (by omega); omega, by have := Int.emod_lt_of_pos u (b := (n : Int) + 1) (by omega); omega⟩
  have hw1 : IntKind.i64.wrap ((n : Int) + 1) = (n : Int) + 1 := IntWalk.i64_in _ (by omega)
  have hw2 : IntKind.u64.wrap ((n : Int) + 1) = (n : Int) + 1 := by rw [IntKind.wrap_u64]; omega
  have hw3 : u.tmod ((n : Int) + 1) = (r : Int) := by rw [Int.tmod_eq_emod_of_nonneg hu0, hr]
  have hw4 : IntKind.u64.wrap (r : Int) = (r : Int) := by rw [IntKind.wrap_u64]; omega
  have hw5 : IntKind.i64.wrap (r : Int) = (r : Int) := IntWalk.i64_in _ (by omega)
  have hw6 : IntKind.u64.wrap (u.tmod ((n : Int) + 1)) = (r : Int) := by rw [hw3, hw4]
  have hne : ((n : Int) + 1 == 0) = false := by rw [beq_eq_false_iff_ne]; omega
  go_enter Tryd.func28, Tryd.ntmps28
  go_wp2_with fail
  go_ret
  exact ⟨⟨r, hrn, rfl⟩, rfl⟩

theorem leastP_two : ∀ h, (leastP h).2 ≤ 2 * (leastP h).1
  | 0 => by simp [leastP]
  | h + 1 => by have := leastP_pos h; simp only [leastP]; omega
theorem leastP_add {h : Nat} : (leastP (h + 1)).1 = (leastP h).2 ∧ (leastP (h + 1)).2 = (leastP h).1 + (leastP h).2 := ⟨rfl, rfl⟩

set_option maxHeartbeats 1600000 in
theorem refLeast_any (h : Nat) (hh : h ≤ 1000000000000) (w : World) :
    Calls Tryd.prog 70 #[.int .i64 (h : Int)] w fun e w' => e = .returned (.int .i64 (min (leastP h).1 2147483648 : Nat)) ∧ ∃ n, w' = w.drewN n := by
  go_enter Tryd.func70, Tryd.ntmps70
  go_wp2_with fail
  go_loopw [3, 4, 5] (fun a b i wr => ∃ k : Nat, k ≤ h ∧ i = .int .i64 k ∧ a = .int .i64 ((leastP k).1 : Nat) ∧ b = .int .i64 ((leastP k).2 : Nat) ∧ (leastP k).1 ≤ 4294967296 ∧ ∃ n, wr = w.drewN n) (fun _ _ i _ => h - (intOf i).toNat)
  case atStart => exact ⟨0, Nat.zero_le _, rfl, rfl, rfl, by decide, 0, rfl⟩
  case round =>
    obtain ⟨k, hk, rfl, rfl, rfl, hle, n, rfl⟩ := hrel
    have h2 := leastP_two k
    have h1 := leastP_pos k
    obtain ⟨e1, e2⟩ := leastP_add (h := k)
    by_cases hlt : k < h ∧ (leastP k).1 < 2147483648
    · obtain ⟨hlt, hl2⟩ := hlt
      have HE1 := Lib.hid e1
      have HE2 := Lib.hid e2
      clear e1 e2
      generalize (leastP k).1 = a at *
      generalize (leastP k).2 = b at *
      have d1 : decide ((a : Int) < 2147483648) = true := decide_eq_true (by omega)
      have d2 : IntKind.i64.wrap ((a : Int) + (b : Int)) = (a : Int) + (b : Int) := IntWalk.i64_in _ (by omega)
      have HL2 : Hid (b ≤ 4294967296) := (by omega : b ≤ 4294967296)
      clear hl2
      go_wp2_with fail
      go_roundw
      case rel => exact ⟨k + 1, by omega, by go_num, by rw [HE1.out], by rw [HE2.out]; go_num, by rw [HE1.out]; exact HL2.out, n, rfl⟩
      case measure => simp [intOf]; omega
    · have HR : Hid (((min (leastP k).1 2147483648 : Nat) : Int) = ((min (leastP h).1 2147483648 : Nat) : Int)) := by
        show _ = _
        by_cases hkh : k = h
        · rw [hkh]
        · have := leastP_mono (h := k) (g := h) hk
          omega
      clear e1 e2
      generalize (leastP k).1 = a at *
      generalize (leastP k).2 = b at *
      have HW : Hid ((k < h → ¬ a < 2147483648) ∧ (a < 2147483648 → k = h)) := ⟨fun h1 h2 => hlt ⟨h1, h2⟩, fun h1 => by omega⟩
      by_cases h5 : a < 2147483648
      · have hm : min (a : Int) 2147483648 = (a : Int) := by omega
        obtain rfl := HW.out.2 h5
        clear h5 hlt HW
        go_wp2_with fail
        all_goals
          go_ret
          exact ⟨ret_int (by rw [← HR.out]; omega), n, rfl⟩
      · have d1 : decide ((a : Int) < 2147483648) = false := decide_eq_false (by omega)
        have HA := Lib.hid h5
        have HM : Hid (2147483648 = ((min (leastP h).1 2147483648 : Nat) : Int)) := by show _ = _; rw [← HR.out]; omega
        rcases (by omega : (2147483648 : Int) < (a : Int) ∨ (a : Int) = 2147483648) with h6 | h6
        · clear h5 hlt HW
          by_cases h3 : k < h
          all_goals
            go_wp2_with fail
            all_goals
              go_ret
              exact ⟨ret_int HM.out, n, rfl⟩
        · rw [h6] at d1 ⊢
          clear h5 hlt HW h6 h1 h2
          by_cases h3 : k < h
          all_goals
            go_wp2_with fail
            all_goals
              go_ret
              exact ⟨ret_int HM.out, n, rfl⟩

set_option maxHeartbeats 1600000 in
theorem refFours_any (n : Nat) (hn : n ≤ 1000000000000) (w : World) :
    Calls Tryd.prog 71 #[.int .i64 (n : Int)] w fun e w' => e = .returned (.int .i64 (n / 32 : Nat)) ∧ w = w' := by
  have e : ((n / 32 : Nat) : Int) = (n : Int) / 128 * 4 + (n : Int) % 128 * 4 / 128 := by omega
  have HE := Lib.hid e
  clear e
  go_enter Tryd.func71, Tryd.ntmps71
  go_wp2_with fail
  go_ret
  exact ⟨ret_int HE.out.symm, rfl⟩

end Go.Proofs.YtcppgpjodfeigaaDoor

namespace Go.Proofs.YtcppgpjodfeigaaDoor
set_option linter.unusedVariables false
set_option linter.unusedSimpArgs false
open Go.RowKit

theorem box4 {w : World} {q : Nat} {T : TypeId} {a b c d : Value} (h : w.heap[q]? = some (.cells #[a, b, c, d] T (0, 0))) : w.cell? ⟨q, 0, none⟩ = some a ∧ w.cell? ⟨q, 1, none⟩ = some b ∧ w.cell? ⟨q, 2, none⟩ = some c ∧ w.cell? ⟨q, 3, none⟩ = some d :=
  ⟨by rw [cell_of_row w q 0 _ _ _ h]; rfl, by rw [cell_of_row w q 1 _ _ _ h]; rfl, by rw [cell_of_row w q 2 _ _ _ h]; rfl, by rw [cell_of_row w q 3 _ _ _ h]; rfl⟩
/-- Four cells and what lies below are kept. -/
theorem keep4 {w w1 w2 : World} {N q : Nat} {sa sb sc sd : Value} (hN : N ≤ w.heap.size) (h : (w1.cell? ⟨q, 0, none⟩ = some sa ∧ w1.cell? ⟨q, 1, none⟩ = some sb ∧ w1.cell? ⟨q, 2, none⟩ = some sc ∧ w1.cell? ⟨q, 3, none⟩ = some sd) ∧ Below N w w1) (hb : Below w1.heap.size w1 w2) :
    (w2.cell? ⟨q, 0, none⟩ = some sa ∧ w2.cell? ⟨q, 1, none⟩ = some sb ∧ w2.cell? ⟨q, 2, none⟩ = some sc ∧ w2.cell? ⟨q, 3, none⟩ = some sd) ∧ Below N w w2 := by
  have hq := World.block_lt_of_cell? w1 _ h.1.1
  exact ⟨⟨(hb.cell (p := ⟨q, 0, none⟩) hq).trans h.1.1, (hb.cell (p := ⟨q, 1, none⟩) hq).trans h.1.2.1, (hb.cell (p := ⟨q, 2, none⟩) hq).trans h.1.2.2.1, (hb.cell (p := ⟨q, 3, none⟩) hq).trans h.1.2.2.2⟩, h.2.trans (hb.mono (Nat.le_trans hN h.2.size))⟩

theorem keepD {w w1 w2 : World} {N q n : Nat} {sa sb sc sd : Value} (hN : N ≤ w.heap.size) (h : (w1.cell? ⟨q, 0, none⟩ = some sa ∧ w1.cell? ⟨q, 1, none⟩ = some sb ∧ w1.cell? ⟨q, 2, none⟩ = some sc ∧ w1.cell? ⟨q, 3, none⟩ = some sd) ∧ Below N w w1) (hw : w2 = w1.drewN n) :
    (w2.cell? ⟨q, 0, none⟩ = some sa ∧ w2.cell? ⟨q, 1, none⟩ = some sb ∧ w2.cell? ⟨q, 2, none⟩ = some sc ∧ w2.cell? ⟨q, 3, none⟩ = some sd) ∧ Below N w w2 := by
  subst hw; exact keep4 hN h ⟨rfl, rfl, rfl, Nat.le_refl _, fun _ _ => rfl⟩

/-- What May is asked of a tree that is as it must be. -/
theorem may_facts {t : ST} (ha : t.Avl) (hr : t.Root) (hl : t.bits.length ≤ 2147483648) : 1 ≤ t.bits.length ∧ t.high ≤ 1000000000 ∧ min (leastP t.high).1 2147483648 ≤ t.leaves ∧ 1 ≤ t.leaves ∧ t.leaves ≤ t.bits.length / 32 + 1 ∧ t.size + 1 = 2 * t.leaves ∧ t.leaves ≤ 1000000000 := by
  have h1 := hr.pos
  have h2 := good_small hr hl
  have h3 := avl_leaves ha
  have h4 := t.leaves_pos
  have h5 := hr.len
  have h6 := t.size_leaves
  omega

set_option maxHeartbeats 3200000 in
set_option maxRecDepth 100000 in
theorem refMay_any {o : Option ST} (hg : Good o) (hl : (sbits o).length ≤ 2147483648) (w : World) :
    Calls Tryd.prog 26 #[shapeV o] w fun e w' => e = .returned (.bool true) ∧ Below w.heap.size w w' := by
  cases o with
  | none =>
    show Calls _ _ #[.agg #[.int .i64 0, .int .i64 0, .int .i64 0, .int .i64 0]] w _
    go_enter Tryd.func26, Tryd.ntmps26
    go_wp2_with fail
    go_ret
    exact ⟨rfl, (Below.refl _ _).alloc (Nat.le_refl _) _⟩
  | some t =>
    obtain ⟨f1, f2, f3, f4, f5, f6, f7⟩ := may_facts hg.1 hg.2 hl
    have hl' : t.bits.length ≤ 2147483648 := hl
    have HL := Lib.hid (fun w => refLeast_any t.high (by omega) w)
    have HF := Lib.hid (fun w => refFours_any t.bits.length (by omega) w)
    show Calls _ _ #[.agg #[.int .i64 t.bits.length, .int .i64 t.high, .int .i64 t.leaves, .int .i64 t.size]] w _
    clear hg hl
    generalize t.bits.length = n at *
    generalize t.high = h at *
    generalize t.leaves = m at *
    generalize t.size = z at *
    generalize min (leastP h).1 2147483648 = q at *
    generalize hg : n / 32 = g at *
    have d0 : ((n : Int) == 0) = false := by rw [beq_eq_false_iff_ne]; omega
    have d1 : decide ((0 : Int) < (n : Int)) = true := decide_eq_true (by omega)
    have d1n : decide (0 < n) = true := decide_eq_true (by omega)
    have d1p : 0 < n := by omega
    have d2 : decide ((0 : Int) ≤ (h : Int)) = true := decide_eq_true (by omega)
    have d3 : decide (q ≤ m) = true := decide_eq_true f3
    have d4 : decide ((1 : Int) ≤ (m : Int)) = true := decide_eq_true (by omega)
    have d4n : decide (1 ≤ m) = true := decide_eq_true (by omega)
    have d5 : decide ((m : Int) - 1 ≤ (g : Int)) = true := decide_eq_true (by omega)
    have d6 : ((z : Int) == 2 * (m : Int) - 1) = true := by rw [beq_iff_eq]; omega
    have d7 : IntKind.i64.wrap ((m : Int) - 1) = (m : Int) - 1 := IntWalk.i64_in _ (by omega)
    have d8 : IntKind.i64.wrap (2 * (m : Int)) = 2 * (m : Int) := IntWalk.i64_in _ (by omega)
    have d9 : IntKind.i64.wrap (2 * (m : Int) - 1) = 2 * (m : Int) - 1 := IntWalk.i64_in _ (by omega)
    clear hg f1 f2 f3 f4 f5 f6 f7 hl'
    go_enter Tryd.func26, Tryd.ntmps26
    go_wp2_with fail
    have HW : Hid (Below w.heap.size w ((w.alloc (.cells #[.int .i64 n, .int .i64 h, .int .i64 m, .int .i64 z] 36)))) := (Below.refl _ _).alloc (Nat.le_refl _) _
    have hq := heap_alloc_new w (.cells #[.int .i64 n, .int .i64 h, .int .i64 m, .int .i64 z] 36)
    have b0 := box4 hq
    generalize w.alloc (.cells #[.int .i64 n, .int .i64 h, .int .i64 m, .int .i64 z] 36) = wb at *
    have B0 : Hid ((wb.drew.cell? ⟨w.heap.size, 0, none⟩ = some (.int .i64 n) ∧ wb.drew.cell? ⟨w.heap.size, 1, none⟩ = some (.int .i64 h) ∧ wb.drew.cell? ⟨w.heap.size, 2, none⟩ = some (.int .i64 m) ∧ wb.drew.cell? ⟨w.heap.size, 3, none⟩ = some (.int .i64 z)) ∧ Below w.heap.size w wb.drew) := ⟨b0, below_drewW HW.out 1⟩
    clear hq b0 HW
    -- REGION may
    refine reg_start (fun w' => (w'.cell? ⟨w.heap.size, 0, none⟩ = some (.int .i64 n) ∧ w'.cell? ⟨w.heap.size, 1, none⟩ = some (.int .i64 h) ∧ w'.cell? ⟨w.heap.size, 2, none⟩ = some (.int .i64 m) ∧ w'.cell? ⟨w.heap.size, 3, none⟩ = some (.int .i64 z)) ∧ Below w.heap.size w w') (by kernel_rfl) (B0.out) (fun hHeld => ?_)
    refine reg_take (i := 0) (v := ?vmy0) rfl (by kernel_rfl) rfl hHeld ?ymy0 ?rmy0
    case ymy0 => (intro w hSw; (try dsimp only at hSw); go_simp; all_goals with_reducible rfl)
    try simp only [Act.put, List.setIfInBounds_toArray, List.set_cons_zero, List.set_cons_succ]
    refine reg_take (i := 1) (v := ?vmy1) rfl (by kernel_rfl) rfl hHeld ?ymy1 ?rmy1
    case ymy1 => (intro w hSw; (try dsimp only at hSw); go_simp; all_goals with_reducible rfl)
    try simp only [Act.put, List.setIfInBounds_toArray, List.set_cons_zero, List.set_cons_succ]
    refine reg_take (i := 2) (v := ?vmy2) rfl (by kernel_rfl) rfl hHeld ?ymy2 ?rmy2
    case ymy2 => (intro w hSw; (try dsimp only at hSw); go_simp; all_goals with_reducible rfl)
    try simp only [Act.put, List.setIfInBounds_toArray, List.set_cons_zero, List.set_cons_succ]
    refine reg_take (i := 3) (v := ?vmy3) rfl (by kernel_rfl) rfl hHeld ?ymy3 ?rmy3
    case ymy3 => (intro w hSw; (try dsimp only at hSw); go_simp; all_goals with_reducible rfl)
    try simp only [Act.put, List.setIfInBounds_toArray, List.set_cons_zero, List.set_cons_succ]
    refine reg_take (i := 4) (v := ?vmy4) rfl (by kernel_rfl) rfl hHeld ?ymy4 ?rmy4
    case ymy4 => (intro w hSw; (try dsimp only at hSw); go_simp; all_goals with_reducible rfl)
    try simp only [Act.put, List.setIfInBounds_toArray, List.set_cons_zero, List.set_cons_succ]
    refine reg_take (i := 5) (v := ?vmy5) rfl (by kernel_rfl) rfl hHeld ?ymy5 ?rmy5
    case ymy5 => (intro w hSw; (try dsimp only at hSw); go_simp; all_goals with_reducible rfl)
    try simp only [Act.put, List.setIfInBounds_toArray, List.set_cons_zero, List.set_cons_succ]
    refine reg_take (i := 6) (v := ?vmy6) rfl (by kernel_rfl) rfl hHeld ?ymy6 ?rmy6
    case ymy6 => (intro w hSw; (try dsimp only at hSw); go_simp; all_goals with_reducible rfl)
    try simp only [Act.put, List.setIfInBounds_toArray, List.set_cons_zero, List.set_cons_succ]
    refine reg_take (i := 7) (v := ?vmy7) rfl (by kernel_rfl) rfl hHeld ?ymy7 ?rmy7
    case ymy7 => (intro w hSw; (try dsimp only at hSw); go_simp; all_goals with_reducible rfl)
    try simp only [Act.put, List.setIfInBounds_toArray, List.set_cons_zero, List.set_cons_succ]
    refine reg_take (i := 8) (v := ?vmy8) rfl (by kernel_rfl) rfl hHeld ?ymy8 ?rmy8
    case ymy8 => (intro w hSw; (try dsimp only at hSw); go_simp; all_goals with_reducible rfl)
    try simp only [Act.put, List.setIfInBounds_toArray, List.set_cons_zero, List.set_cons_succ]
    refine reg_take (i := 9) (v := ?vmy9) rfl (by kernel_rfl) rfl hHeld ?ymy9 ?rmy9
    case ymy9 => (intro w hSw; (try dsimp only at hSw); go_simp; all_goals with_reducible rfl)
    try simp only [Act.put, List.setIfInBounds_toArray, List.set_cons_zero, List.set_cons_succ]
    refine reg_take (i := 10) (v := ?vmy10) rfl (by kernel_rfl) rfl hHeld ?ymy10 ?rmy10
    case ymy10 => (intro w hSw; (try dsimp only at hSw); go_simp; all_goals with_reducible rfl)
    try simp only [Act.put, List.setIfInBounds_toArray, List.set_cons_zero, List.set_cons_succ]
    refine reg_take (i := 11) (v := ?vmy11) rfl (by kernel_rfl) rfl hHeld ?ymy11 ?rmy11
    case ymy11 => (intro w hSw; (try dsimp only at hSw); go_simp; all_goals with_reducible rfl)
    try simp only [Act.put, List.setIfInBounds_toArray, List.set_cons_zero, List.set_cons_succ]
    refine reg_take (i := 12) (v := ?vmy12) rfl (by kernel_rfl) rfl hHeld ?ymy12 ?rmy12
    case ymy12 => (intro w hSw; (try dsimp only at hSw); go_simp; all_goals with_reducible rfl)
    try simp only [Act.put, List.setIfInBounds_toArray, List.set_cons_zero, List.set_cons_succ]
    refine reg_loud (i := 13) rfl (by kernel_rfl) rfl (fun K hK => ?_)
    go_simp
    ((refine (HL.out _).mono ?_))
    rintro e w2 ⟨rfl, n2, rfl⟩
    refine hK.out _ _ (keep4 (Nat.le_refl _) hHeld ⟨rfl, rfl, rfl, Nat.le_refl _, fun _ _ => rfl⟩) (fun hNew => ?_)
    clear hK K hHeld
    have hHeld := hNew
    clear hNew
    try simp only [Act.put, List.setIfInBounds_toArray, List.set_cons_zero, List.set_cons_succ]
    refine reg_take (i := 14) (v := ?vmy14) rfl (by kernel_rfl) rfl hHeld ?ymy14 ?rmy14
    case ymy14 => (intro w hSw; (try dsimp only at hSw); go_simp; all_goals with_reducible rfl)
    try simp only [Act.put, List.setIfInBounds_toArray, List.set_cons_zero, List.set_cons_succ]
    refine reg_take (i := 15) (v := ?vmy15) rfl (by kernel_rfl) rfl hHeld ?ymy15 ?rmy15
    case ymy15 => (intro w hSw; (try dsimp only at hSw); go_simp; all_goals with_reducible rfl)
    try simp only [Act.put, List.setIfInBounds_toArray, List.set_cons_zero, List.set_cons_succ]
    refine reg_take (i := 16) (v := ?vmy16) rfl (by kernel_rfl) rfl hHeld ?ymy16 ?rmy16
    case ymy16 => (intro w hSw; (try dsimp only at hSw); go_simp; all_goals with_reducible rfl)
    try simp only [Act.put, List.setIfInBounds_toArray, List.set_cons_zero, List.set_cons_succ]
    refine reg_take (i := 17) (v := ?vmy17) rfl (by kernel_rfl) rfl hHeld ?ymy17 ?rmy17
    case ymy17 => (intro w hSw; (try dsimp only at hSw); go_simp; all_goals with_reducible rfl)
    try simp only [Act.put, List.setIfInBounds_toArray, List.set_cons_zero, List.set_cons_succ]
    refine reg_take (i := 18) (v := ?vmy18) rfl (by kernel_rfl) rfl hHeld ?ymy18 ?rmy18
    case ymy18 => (intro w hSw; (try dsimp only at hSw); go_simp; all_goals with_reducible rfl)
    try simp only [Act.put, List.setIfInBounds_toArray, List.set_cons_zero, List.set_cons_succ]
    refine reg_take (i := 19) (v := ?vmy19) rfl (by kernel_rfl) rfl hHeld ?ymy19 ?rmy19
    case ymy19 => (intro w hSw; (try dsimp only at hSw); go_simp; all_goals with_reducible rfl)
    try simp only [Act.put, List.setIfInBounds_toArray, List.set_cons_zero, List.set_cons_succ]
    refine reg_take (i := 20) (v := ?vmy20) rfl (by kernel_rfl) rfl hHeld ?ymy20 ?rmy20
    case ymy20 => (intro w hSw; (try dsimp only at hSw); go_simp; all_goals with_reducible rfl)
    try simp only [Act.put, List.setIfInBounds_toArray, List.set_cons_zero, List.set_cons_succ]
    refine reg_take (i := 21) (v := ?vmy21) rfl (by kernel_rfl) rfl hHeld ?ymy21 ?rmy21
    case ymy21 => (intro w hSw; (try dsimp only at hSw); go_simp; all_goals with_reducible rfl)
    try simp only [Act.put, List.setIfInBounds_toArray, List.set_cons_zero, List.set_cons_succ]
    refine reg_take (i := 22) (v := ?vmy22) rfl (by kernel_rfl) rfl hHeld ?ymy22 ?rmy22
    case ymy22 => (intro w hSw; (try dsimp only at hSw); go_simp; all_goals with_reducible rfl)
    try simp only [Act.put, List.setIfInBounds_toArray, List.set_cons_zero, List.set_cons_succ]
    refine reg_take (i := 23) (v := ?vmy23) rfl (by kernel_rfl) rfl hHeld ?ymy23 ?rmy23
    case ymy23 => (intro w hSw; (try dsimp only at hSw); go_simp; all_goals with_reducible rfl)
    try simp only [Act.put, List.setIfInBounds_toArray, List.set_cons_zero, List.set_cons_succ]
    refine reg_take (i := 24) (v := ?vmy24) rfl (by kernel_rfl) rfl hHeld ?ymy24 ?rmy24
    case ymy24 => (intro w hSw; (try dsimp only at hSw); go_simp; all_goals with_reducible rfl)
    try simp only [Act.put, List.setIfInBounds_toArray, List.set_cons_zero, List.set_cons_succ]
    refine reg_take (i := 25) (v := ?vmy25) rfl (by kernel_rfl) rfl hHeld ?ymy25 ?rmy25
    case ymy25 => (intro w hSw; (try dsimp only at hSw); go_simp; all_goals with_reducible rfl)
    try simp only [Act.put, List.setIfInBounds_toArray, List.set_cons_zero, List.set_cons_succ]
    refine reg_take (i := 26) (v := ?vmy26) rfl (by kernel_rfl) rfl hHeld ?ymy26 ?rmy26
    case ymy26 => (intro w hSw; (try dsimp only at hSw); go_simp; all_goals with_reducible rfl)
    try simp only [Act.put, List.setIfInBounds_toArray, List.set_cons_zero, List.set_cons_succ]
    refine reg_loud (i := 27) rfl (by kernel_rfl) rfl (fun K hK => ?_)
    go_simp
    ((refine (HF.out _).mono ?_))
    rintro e w2 ⟨rfl, rfl⟩
    refine hK.out _ _ (keep4 (Nat.le_refl _) hHeld ⟨rfl, rfl, rfl, Nat.le_refl _, fun _ _ => rfl⟩) (fun hNew => ?_)
    clear hK K hHeld
    have hHeld := hNew
    clear hNew
    try simp only [Act.put, List.setIfInBounds_toArray, List.set_cons_zero, List.set_cons_succ]
    refine reg_take (i := 28) (v := ?vmy28) rfl (by kernel_rfl) rfl hHeld ?ymy28 ?rmy28
    case ymy28 => (intro w hSw; (try dsimp only at hSw); go_simp; all_goals with_reducible rfl)
    try simp only [Act.put, List.setIfInBounds_toArray, List.set_cons_zero, List.set_cons_succ]
    refine reg_take (i := 29) (v := ?vmy29) rfl (by kernel_rfl) rfl hHeld ?ymy29 ?rmy29
    case ymy29 => (intro w hSw; (try dsimp only at hSw); go_simp; all_goals with_reducible rfl)
    try simp only [Act.put, List.setIfInBounds_toArray, List.set_cons_zero, List.set_cons_succ]
    refine reg_take (i := 30) (v := ?vmy30) rfl (by kernel_rfl) rfl hHeld ?ymy30 ?rmy30
    case ymy30 => (intro w hSw; (try dsimp only at hSw); go_simp; all_goals with_reducible rfl)
    try simp only [Act.put, List.setIfInBounds_toArray, List.set_cons_zero, List.set_cons_succ]
    refine reg_take (i := 31) (v := ?vmy31) rfl (by kernel_rfl) rfl hHeld ?ymy31 ?rmy31
    case ymy31 => (intro w hSw; (try dsimp only at hSw); go_simp; all_goals with_reducible rfl)
    try simp only [Act.put, List.setIfInBounds_toArray, List.set_cons_zero, List.set_cons_succ]
    refine reg_take (i := 32) (v := ?vmy32) rfl (by kernel_rfl) rfl hHeld ?ymy32 ?rmy32
    case ymy32 => (intro w hSw; (try dsimp only at hSw); go_simp; all_goals with_reducible rfl)
    try simp only [Act.put, List.setIfInBounds_toArray, List.set_cons_zero, List.set_cons_succ]
    refine reg_take (i := 33) (v := ?vmy33) rfl (by kernel_rfl) rfl hHeld ?ymy33 ?rmy33
    case ymy33 => (intro w hSw; (try dsimp only at hSw); go_simp; all_goals with_reducible rfl)
    try simp only [Act.put, List.setIfInBounds_toArray, List.set_cons_zero, List.set_cons_succ]
    refine reg_take (i := 34) (v := ?vmy34) rfl (by kernel_rfl) rfl hHeld ?ymy34 ?rmy34
    case ymy34 => (intro w hSw; (try dsimp only at hSw); go_simp; all_goals with_reducible rfl)
    try simp only [Act.put, List.setIfInBounds_toArray, List.set_cons_zero, List.set_cons_succ]
    refine reg_take (i := 35) (v := ?vmy35) rfl (by kernel_rfl) rfl hHeld ?ymy35 ?rmy35
    case ymy35 => (intro w hSw; (try dsimp only at hSw); go_simp; all_goals with_reducible rfl)
    try simp only [Act.put, List.setIfInBounds_toArray, List.set_cons_zero, List.set_cons_succ]
    refine reg_take (i := 36) (v := ?vmy36) rfl (by kernel_rfl) rfl hHeld ?ymy36 ?rmy36
    case ymy36 => (intro w hSw; (try dsimp only at hSw); go_simp; all_goals with_reducible rfl)
    try simp only [Act.put, List.setIfInBounds_toArray, List.set_cons_zero, List.set_cons_succ]
    refine reg_take (i := 37) (v := ?vmy37) rfl (by kernel_rfl) rfl hHeld ?ymy37 ?rmy37
    case ymy37 => (intro w hSw; (try dsimp only at hSw); go_simp; all_goals with_reducible rfl)
    try simp only [Act.put, List.setIfInBounds_toArray, List.set_cons_zero, List.set_cons_succ]
    refine reg_take (i := 38) (v := ?vmy38) rfl (by kernel_rfl) rfl hHeld ?ymy38 ?rmy38
    case ymy38 => (intro w hSw; (try dsimp only at hSw); go_simp; all_goals with_reducible rfl)
    try simp only [Act.put, List.setIfInBounds_toArray, List.set_cons_zero, List.set_cons_succ]
    refine reg_take (i := 39) (v := ?vmy39) rfl (by kernel_rfl) rfl hHeld ?ymy39 ?rmy39
    case ymy39 => (intro w hSw; (try dsimp only at hSw); go_simp; all_goals with_reducible rfl)
    try simp only [Act.put, List.setIfInBounds_toArray, List.set_cons_zero, List.set_cons_succ]
    refine reg_done (by kernel_rfl) ?_ _
    -- END OF REGION may
    have HHD := Lib.hid hHeld.2
    clear hHeld
    go_wp2_with fail
    go_ret
    exact ⟨rfl, HHD.out⟩

/-- What a tree's height is, for Fine: the fourth cell of its Shape. -/
theorem shapeV_cells (o : Option ST) : ∃ (n h m z : Nat), shapeV o = .agg #[.int .i64 n, .int .i64 h, .int .i64 m, .int .i64 z] ∧ n = (sbits o).length ∧ h = shigh o ∧ z = sizeO o := by
  cases o with
  | none => exact ⟨0, 0, 0, 0, rfl, rfl, rfl, rfl⟩
  | some t => exact ⟨_, _, _, _, rfl, rfl, rfl, rfl⟩

set_option maxHeartbeats 6400000 in
set_option maxRecDepth 100000 in
theorem fine5_any {B : Nat} {X : Nat → Prop} {w : World} {p made : Nat} {o : Option ST} {v : Nat} (h : TreeE B X w p o made v) (b : Nat) (hb : b ≤ 1000000000) (hv : v ≤ 8 * (max (shigh o) b + 2)) :
    Calls Tryd.prog 29 #[.pointer (some ⟨p, 0, none⟩), .int .i64 (b : Int)] w fun e w' => e = .returned (.bool true) ∧ Below w.heap.size w w' := by
  have hp : p < w.heap.size := by obtain ⟨S, h1, _⟩ := h.t; exact h1.lt p h1.self
  have HSH := Lib.hid (shape_t h)
  have HMY : Hid (∀ w, Calls Tryd.prog 26 #[shapeV o] w fun e w' => e = .returned (.bool true) ∧ Below w.heap.size w w') := fun w => refMay_any h.good h.len w
  have hhi : shigh o ≤ 1000000000 := by
    cases o with
    | none => simp [shigh]
    | some t => have := good_small h.good.2 h.len; simp only [shigh]; omega
  have hlen := h.len
  have HT : Hid (∀ w', Below w.heap.size w w' → TreeE B X w' p o made v) := fun w' hb => h.below hb
  have HLE : Hid (∀ w', Below w.heap.size w w' → Calls Tryd.prog 24 #[.pointer (some ⟨p, 0, none⟩)] w' fun e w'' => e = .returned (.int .i64 (sbits o).length) ∧ ∃ n, w'' = w'.drewN n) := fun w' hb => len_t (h.below hb) rfl
  have HLI : Hid (∀ w', Below w.heap.size w w' → Calls Tryd.prog 33 #[.pointer (some ⟨p, 0, none⟩)] w' fun e w'' => e = .returned (.int .i64 (sizeO o)) ∧ ∃ n, w'' = w'.drewN n) := fun w' hb => live_t (h.below hb)
  have HVI : Hid (∀ w', Below w.heap.size w w' → Calls Tryd.prog 72 #[.pointer (some ⟨p, 0, none⟩)] w' fun e w'' => e = .returned (.int .i64 (v : Int)) ∧ w' = w'') := fun w' hb => visits_t (h.below hb)
  obtain ⟨n, ht, m, z, e0, e1, e2, e3⟩ := shapeV_cells o
  rw [← e1] at HLE
  rw [← e3] at HLI
  rw [← e2] at hv hhi
  rw [e0] at HSH HMY
  clear h e0 e1 e2 e3 HT hlen
  have q4 : decide ((0 : Int) ≤ (v : Int)) = true := decide_eq_true (by omega)
  have HQ : Hid (ht < b → IntKind.i64.wrap ((b : Int) + 2) = (b : Int) + 2 ∧ IntKind.i64.wrap (8 * ((b : Int) + 2)) = 8 * ((b : Int) + 2) ∧ decide ((v : Int) ≤ 8 * ((b : Int) + 2)) = true) :=
    fun h => ⟨IntWalk.i64_in _ (by omega), IntWalk.i64_in _ (by omega), decide_eq_true (by omega)⟩
  have HQ2 : Hid (¬ ht < b → IntKind.i64.wrap ((ht : Int) + 2) = (ht : Int) + 2 ∧ IntKind.i64.wrap (8 * ((ht : Int) + 2)) = 8 * ((ht : Int) + 2) ∧ decide ((v : Int) ≤ 8 * ((ht : Int) + 2)) = true) :=
    fun h => ⟨IntWalk.i64_in _ (by omega), IntWalk.i64_in _ (by omega), decide_eq_true (by omega)⟩
  clear hv hhi hb
  go_enter Tryd.func29, Tryd.ntmps29
  go_wp2_with fail
  refine HSH.out.mono ?_
  rintro e w1 ⟨rfl, hb1⟩
  have hs1 := hb1.size
  have HB1 := Lib.hid hb1
  have HS1 := Lib.hid hs1
  clear hb1 hs1 HSH
  go_wp2_with fail
  have hw := box4 (heap_alloc_new w1 (.cells #[.int .i64 n, .int .i64 ht, .int .i64 m, .int .i64 z] 36))
  have hbw := HB1.out.alloc HS1.out (.cells #[.int .i64 n, .int .i64 ht, .int .i64 m, .int .i64 z] 36)
  generalize w1.alloc (.cells #[.int .i64 n, .int .i64 ht, .int .i64 m, .int .i64 z] 36) = wb at *
  have B0 : Hid ((wb.drew.cell? ⟨w1.heap.size, 0, none⟩ = some (.int .i64 n) ∧ wb.drew.cell? ⟨w1.heap.size, 1, none⟩ = some (.int .i64 ht) ∧ wb.drew.cell? ⟨w1.heap.size, 2, none⟩ = some (.int .i64 m) ∧ wb.drew.cell? ⟨w1.heap.size, 3, none⟩ = some (.int .i64 z)) ∧ Below w.heap.size w wb.drew) := ⟨hw, below_drewW hbw 1⟩
  clear hw hbw
  -- REGION fine
  refine reg_start (fun w' => (w'.cell? ⟨w1.heap.size, 0, none⟩ = some (.int .i64 n) ∧ w'.cell? ⟨w1.heap.size, 1, none⟩ = some (.int .i64 ht) ∧ w'.cell? ⟨w1.heap.size, 2, none⟩ = some (.int .i64 m) ∧ w'.cell? ⟨w1.heap.size, 3, none⟩ = some (.int .i64 z)) ∧ Below w.heap.size w w') (by kernel_rfl) (B0.out) (fun hHeld => ?_)
  refine reg_take (i := 0) (v := ?vfi0) rfl (by kernel_rfl) rfl hHeld ?yfi0 ?rfi0
  case yfi0 => (intro w hSw; (try dsimp only at hSw); go_simp; all_goals with_reducible rfl)
  try simp only [Act.put, List.setIfInBounds_toArray, List.set_cons_zero, List.set_cons_succ]
  refine reg_loud (i := 1) rfl (by kernel_rfl) rfl (fun K hK => ?_)
  go_simp
  ((refine (HMY.out _).mono ?_))
  rintro e w2 ⟨rfl, hb2⟩
  refine hK.out _ _ (keep4 (Nat.le_refl _) hHeld hb2) (fun hNew => ?_)
  clear hK K hHeld
  have hHeld := hNew
  clear hNew
  try simp only [Act.put, List.setIfInBounds_toArray, List.set_cons_zero, List.set_cons_succ]
  refine reg_take (i := 2) (v := ?vfi2) rfl (by kernel_rfl) rfl hHeld ?yfi2 ?rfi2
  case yfi2 => (intro w hSw; (try dsimp only at hSw); go_simp; all_goals with_reducible rfl)
  try simp only [Act.put, List.setIfInBounds_toArray, List.set_cons_zero, List.set_cons_succ]
  refine reg_take (i := 3) (v := ?vfi3) rfl (by kernel_rfl) rfl hHeld ?yfi3 ?rfi3
  case yfi3 => (intro w hSw; (try dsimp only at hSw); go_simp; all_goals with_reducible rfl)
  try simp only [Act.put, List.setIfInBounds_toArray, List.set_cons_zero, List.set_cons_succ]
  refine reg_take (i := 4) (v := ?vfi4) rfl (by kernel_rfl) rfl hHeld ?yfi4 ?rfi4
  case yfi4 => (intro w hSw; (try dsimp only at hSw); go_simp; all_goals with_reducible rfl)
  try simp only [Act.put, List.setIfInBounds_toArray, List.set_cons_zero, List.set_cons_succ]
  refine reg_take (i := 5) (v := ?vfi5) rfl (by kernel_rfl) rfl hHeld ?yfi5 ?rfi5
  case yfi5 => (intro w hSw; (try dsimp only at hSw); go_simp; all_goals with_reducible rfl)
  try simp only [Act.put, List.setIfInBounds_toArray, List.set_cons_zero, List.set_cons_succ]
  refine reg_loud (i := 6) rfl (by kernel_rfl) rfl (fun K hK => ?_)
  go_simp
  ((refine (HLE.out _ hHeld.2).mono ?_))
  rintro e w3 ⟨rfl, n2, hw2⟩
  have HK := Lib.hid (keepD (Nat.le_refl _) hHeld hw2)
  clear hw2
  refine hK.out _ _ (HK.out) (fun hNew => ?_)
  clear hK K hHeld
  have hHeld := hNew
  clear hNew
  try simp only [Act.put, List.setIfInBounds_toArray, List.set_cons_zero, List.set_cons_succ]
  refine reg_take (i := 7) (v := ?vfi7) rfl (by kernel_rfl) rfl hHeld ?yfi7 ?rfi7
  case yfi7 => (intro w hSw; (try dsimp only at hSw); go_simp; all_goals with_reducible rfl)
  try simp only [Act.put, List.setIfInBounds_toArray, List.set_cons_zero, List.set_cons_succ]
  refine reg_take (i := 8) (v := ?vfi8) rfl (by kernel_rfl) rfl hHeld ?yfi8 ?rfi8
  case yfi8 => (intro w hSw; (try dsimp only at hSw); go_simp; all_goals with_reducible rfl)
  try simp only [Act.put, List.setIfInBounds_toArray, List.set_cons_zero, List.set_cons_succ]
  refine reg_take (i := 9) (v := ?vfi9) rfl (by kernel_rfl) rfl hHeld ?yfi9 ?rfi9
  case yfi9 => (intro w hSw; (try dsimp only at hSw); go_simp; all_goals with_reducible rfl)
  try simp only [Act.put, List.setIfInBounds_toArray, List.set_cons_zero, List.set_cons_succ]
  refine reg_take (i := 10) (v := ?vfi10) rfl (by kernel_rfl) rfl hHeld ?yfi10 ?rfi10
  case yfi10 => (intro w hSw; (try dsimp only at hSw); go_simp; all_goals with_reducible rfl)
  try simp only [Act.put, List.setIfInBounds_toArray, List.set_cons_zero, List.set_cons_succ]
  refine reg_take (i := 12) (v := ?vfi12) rfl (by kernel_rfl) rfl hHeld ?yfi12 ?rfi12
  case yfi12 => (intro w hSw; (try dsimp only at hSw); go_simp; all_goals with_reducible rfl)
  try simp only [Act.put, List.setIfInBounds_toArray, List.set_cons_zero, List.set_cons_succ]
  refine reg_take (i := 13) (v := ?vfi13) rfl (by kernel_rfl) rfl hHeld ?yfi13 ?rfi13
  case yfi13 => (intro w hSw; (try dsimp only at hSw); go_simp; all_goals with_reducible rfl)
  try simp only [Act.put, List.setIfInBounds_toArray, List.set_cons_zero, List.set_cons_succ]
  refine reg_loud (i := 11) rfl (by kernel_rfl) rfl (fun K hK => ?_)
  go_simp
  ((refine (HLI.out _ hHeld.2).mono ?_))
  rintro e w4 ⟨rfl, n2, hw2⟩
  have HK := Lib.hid (keepD (Nat.le_refl _) hHeld hw2)
  clear hw2
  refine hK.out _ _ (HK.out) (fun hNew => ?_)
  clear hK K hHeld
  have hHeld := hNew
  clear hNew
  try simp only [Act.put, List.setIfInBounds_toArray, List.set_cons_zero, List.set_cons_succ]
  refine reg_take (i := 14) (v := ?vfi14) rfl (by kernel_rfl) rfl hHeld ?yfi14 ?rfi14
  case yfi14 => (intro w hSw; (try dsimp only at hSw); go_simp; all_goals with_reducible rfl)
  try simp only [Act.put, List.setIfInBounds_toArray, List.set_cons_zero, List.set_cons_succ]
  refine reg_take (i := 15) (v := ?vfi15) rfl (by kernel_rfl) rfl hHeld ?yfi15 ?rfi15
  case yfi15 => (intro w hSw; (try dsimp only at hSw); go_simp; all_goals with_reducible rfl)
  try simp only [Act.put, List.setIfInBounds_toArray, List.set_cons_zero, List.set_cons_succ]
  refine reg_take (i := 16) (v := ?vfi16) rfl (by kernel_rfl) rfl hHeld ?yfi16 ?rfi16
  case yfi16 => (intro w hSw; (try dsimp only at hSw); go_simp; all_goals with_reducible rfl)
  try simp only [Act.put, List.setIfInBounds_toArray, List.set_cons_zero, List.set_cons_succ]
  refine reg_take (i := 17) (v := ?vfi17) rfl (by kernel_rfl) rfl hHeld ?yfi17 ?rfi17
  case yfi17 => (intro w hSw; (try dsimp only at hSw); go_simp; all_goals with_reducible rfl)
  try simp only [Act.put, List.setIfInBounds_toArray, List.set_cons_zero, List.set_cons_succ]
  refine reg_loud (i := 18) rfl (by kernel_rfl) rfl (fun K hK => ?_)
  go_simp
  ((refine (HVI.out _ hHeld.2).mono ?_))
  rintro e w5 ⟨rfl, rfl⟩
  refine hK.out _ _ (hHeld) (fun hNew => ?_)
  clear hK K hHeld
  have hHeld := hNew
  clear hNew
  try simp only [Act.put, List.setIfInBounds_toArray, List.set_cons_zero, List.set_cons_succ]
  refine reg_take (i := 19) (v := ?vfi19) rfl (by kernel_rfl) rfl hHeld ?yfi19 ?rfi19
  case yfi19 => (intro w hSw; (try dsimp only at hSw); go_simp; all_goals with_reducible rfl)
  try simp only [Act.put, List.setIfInBounds_toArray, List.set_cons_zero, List.set_cons_succ]
  refine reg_take (i := 20) (v := ?vfi20) rfl (by kernel_rfl) rfl hHeld ?yfi20 ?rfi20
  case yfi20 => (intro w hSw; (try dsimp only at hSw); go_simp; all_goals with_reducible rfl)
  try simp only [Act.put, List.setIfInBounds_toArray, List.set_cons_zero, List.set_cons_succ]
  refine reg_take (i := 21) (v := ?vfi21) rfl (by kernel_rfl) rfl hHeld ?yfi21 ?rfi21
  case yfi21 => (intro w hSw; (try dsimp only at hSw); go_simp; all_goals with_reducible rfl)
  try simp only [Act.put, List.setIfInBounds_toArray, List.set_cons_zero, List.set_cons_succ]
  refine reg_take (i := 22) (v := ?vfi22) rfl (by kernel_rfl) rfl hHeld ?yfi22 ?rfi22
  case yfi22 => (intro w hSw; (try dsimp only at hSw); go_simp; all_goals with_reducible rfl)
  try simp only [Act.put, List.setIfInBounds_toArray, List.set_cons_zero, List.set_cons_succ]
  refine reg_take (i := 24) (v := ?vfi24) rfl (by kernel_rfl) rfl hHeld ?yfi24 ?rfi24
  case yfi24 => (intro w hSw; (try dsimp only at hSw); go_simp; all_goals with_reducible rfl)
  try simp only [Act.put, List.setIfInBounds_toArray, List.set_cons_zero, List.set_cons_succ]
  refine reg_take (i := 25) (v := ?vfi25) rfl (by kernel_rfl) rfl hHeld ?yfi25 ?rfi25
  case yfi25 => (intro w hSw; (try dsimp only at hSw); go_simp; all_goals with_reducible rfl)
  try simp only [Act.put, List.setIfInBounds_toArray, List.set_cons_zero, List.set_cons_succ]
  refine reg_take (i := 26) (v := ?vfi26) rfl (by kernel_rfl) rfl hHeld ?yfi26 ?rfi26
  case yfi26 => (intro w hSw; (try dsimp only at hSw); go_simp; all_goals with_reducible rfl)
  try simp only [Act.put, List.setIfInBounds_toArray, List.set_cons_zero, List.set_cons_succ]
  refine reg_take (i := 27) (v := ?vfi27) rfl (by kernel_rfl) rfl hHeld ?yfi27 ?rfi27
  case yfi27 => (intro w hSw; (try dsimp only at hSw); go_simp; all_goals with_reducible rfl)
  try simp only [Act.put, List.setIfInBounds_toArray, List.set_cons_zero, List.set_cons_succ]
  refine reg_take (i := 28) (v := ?vfi28) rfl (by kernel_rfl) rfl hHeld ?yfi28 ?rfi28
  case yfi28 => (intro w hSw; (try dsimp only at hSw); go_simp; all_goals with_reducible rfl)
  try simp only [Act.put, List.setIfInBounds_toArray, List.set_cons_zero, List.set_cons_succ]
  refine reg_take (i := 29) (v := ?vfi29) rfl (by kernel_rfl) rfl hHeld ?yfi29 ?rfi29
  case yfi29 => (intro w hSw; (try dsimp only at hSw); go_simp; all_goals with_reducible rfl)
  try simp only [Act.put, List.setIfInBounds_toArray, List.set_cons_zero, List.set_cons_succ]
  refine reg_loud (i := 23) rfl (by kernel_rfl) rfl (fun K hK => ?_)
  go_simp
  ((refine (HVI.out _ hHeld.2).mono ?_))
  rintro e w5 ⟨rfl, rfl⟩
  refine hK.out _ _ (hHeld) (fun hNew => ?_)
  clear hK K hHeld
  have hHeld := hNew
  clear hNew
  try simp only [Act.put, List.setIfInBounds_toArray, List.set_cons_zero, List.set_cons_succ]
  refine reg_take (i := 30) (v := ?vfi30) rfl (by kernel_rfl) rfl hHeld ?yfi30 ?rfi30
  case yfi30 => (intro w hSw; (try dsimp only at hSw); go_simp; all_goals with_reducible rfl)
  try simp only [Act.put, List.setIfInBounds_toArray, List.set_cons_zero, List.set_cons_succ]
  refine reg_take (i := 31) (v := ?vfi31) rfl (by kernel_rfl) rfl hHeld ?yfi31 ?rfi31
  case yfi31 => (intro w hSw; (try dsimp only at hSw); go_simp; all_goals with_reducible rfl)
  try simp only [Act.put, List.setIfInBounds_toArray, List.set_cons_zero, List.set_cons_succ]
  refine reg_take (i := 32) (v := ?vfi32) rfl (by kernel_rfl) rfl hHeld ?yfi32 ?rfi32
  case yfi32 => (intro w hSw; (try dsimp only at hSw); go_simp; all_goals with_reducible rfl)
  try simp only [Act.put, List.setIfInBounds_toArray, List.set_cons_zero, List.set_cons_succ]
  refine reg_done (by kernel_rfl) ?_ _
  -- END OF REGION fine
  have HHD := Lib.hid hHeld.2
  clear hHeld
  by_cases hbt : ht < b
  · obtain ⟨q1, q2, q3⟩ := HQ.out hbt
    go_wp2_with fail
    go_ret
    exact ⟨rfl, HHD.out⟩
  · obtain ⟨q1, q2, q3⟩ := HQ2.out hbt
    go_wp2_with fail
    go_ret
    exact ⟨rfl, HHD.out⟩

/-- What the calls of 'same' go through: a tree and a row. -/
structure TR (B : Nat) (X : Nat → Prop) (w0 w : World) (p : Nat) (o : Option ST) (made : Nat) (a : Option Addr) (L : List Bool) : Prop where
  t : ∃ v : Int, TreeE B X w p o made v
  bits : sbits o = L
  r : ReadsV w a (L.map Value.bool)
  xa : ∀ ad, a = some ad → X ad.block
  tab : BitTab w
  tl : 0 < B
  chg : Chg (exT B X) w0 w
section
variable {B : Nat} {X : Nat → Prop} {w0 w w' : World} {p made : Nat} {o : Option ST} {a : Option Addr} {L : List Bool}
theorem TR.look (h : TR B X w0 w p o made a L) {m : Nat} (hl : ELook B X w w' p o made m) : TR B X w0 w' p o made a L := by
  obtain ⟨v0, h0⟩ := h.t
  obtain ⟨⟨v, _, h1⟩, hc⟩ := hl
  exact ⟨⟨v, h1⟩, h.bits, h.r.chg hc (fun ad ha hk => hk.2 (h.xa ad ha)), h.xa, h.tab.below (exT_below hc h0.le) h.tl, h.tl, h.chg.trans hc (fun b hb => Or.inl hb)⟩
theorem TR.drewN (h : TR B X w0 w p o made a L) (n : Nat) : TR B X w0 (w.drewN n) p o made a L := by
  obtain ⟨v0, h0⟩ := h.t
  exact ⟨⟨v0, h0.drewN n⟩, h.bits, h.r, h.xa, h.tab, h.tl, h.chg.drewN n⟩
theorem TR.rank (h : TR B X w0 w p o made a L) (k : Int) (x : Bool) :
    Calls Tryd.prog 20 #[.pointer (some ⟨p, 0, none⟩), .int .i64 k, .bool x] w fun e w' => e = .returned (.int .i64 (rankL L k.toNat x)) ∧ TR B X w0 w' p o made a L := by
  obtain ⟨v, h0⟩ := h.t
  refine (rank_t h0 h.bits k x rfl).mono ?_
  rintro e w' ⟨rfl, hl⟩
  exact ⟨rfl, h.look hl⟩
theorem TR.select (h : TR B X w0 w p o made a L) (k : Int) (x : Bool) :
    Calls Tryd.prog 21 #[.pointer (some ⟨p, 0, none⟩), .int .i64 k, .bool x] w fun e w' => e = .returned (.int .i64 (selL L k x)) ∧ TR B X w0 w' p o made a L := by
  obtain ⟨v, h0⟩ := h.t
  refine (select_t h0 h.tab h.tl h.bits k x rfl).mono ?_
  rintro e w' ⟨rfl, hl⟩
  exact ⟨rfl, h.look hl⟩
end

set_option maxHeartbeats 6400000 in
set_option maxRecDepth 100000 in
theorem same5_any {B : Nat} {X : Nat → Prop} {w : World} {p made : Nat} {o : Option ST} {a : Option Addr} {L : List Bool} (h : TR B X w w p o made a L) (c : Nat) (k : Int) (hl : L.length ≤ 1000000) :
    Calls Tryd.prog 38 #[.pointer (some ⟨p, 0, none⟩), .slice a L.length c, .int .i64 k] w fun e w' => e = .returned (.bool true) ∧ TR B X w w' p o made a L := by
  have hrk : rankL L ((L.length : Int)).toNat true = L.count true := by rw [Int.toNat_natCast, rankL_over true (Nat.le_refl _)]
  have HRK := Lib.hid hrk
  have hcl := List.count_le_length (a := true) (l := L)
  have G1 : Hid (∃ (x : Bool) (y : Int), (Calls Tryd.prog 19 #[.pointer (some ⟨p, 0, none⟩), .int .i64 k] w fun e w'' => e = .returned (.tuple #[.bool x, .int .i64 y]) ∧ TR B X w w'' p o made a L) ∧
      (∀ w', ReadsV w' a (L.map Value.bool) → Calls Tryd.prog 36 #[.slice a L.length c, .int .i64 k] w' fun e w'' => e = .returned (.tuple #[.bool x, .int .i64 y]) ∧ w' = w'')) := by
    obtain ⟨v, h0⟩ := h.t
    by_cases hin : 0 ≤ k ∧ k < L.length
    · obtain ⟨n, rfl⟩ := Int.eq_ofNat_of_zero_le hin.1
      refine ⟨bitAt L n, 0, (get_t h0 h.bits n rfl (by omega) rfl).mono ?_, fun w' h => refGets a c L n w' h (by omega)⟩
      rintro e w' ⟨rfl, hk⟩
      exact ⟨rfl, h.look hk⟩
    · refine ⟨false, 2, (get_tBad h0 h.bits k (by omega)).mono ?_, fun w' _ => refGets_bad a L.length c k w' (by omega)⟩
      rintro e w' ⟨rfl, hk⟩
      exact ⟨rfl, h.look hk⟩
  obtain ⟨x, y, g1, g2⟩ := G1.out
  have GA := Lib.hid g1
  have GB := Lib.hid g2
  clear g1 g2 G1 hrk h
  go_enter Tryd.func38, Tryd.ntmps38
  go_wp2_with fail
  refine GA.out.mono ?_
  rintro e w1 ⟨rfl, h1⟩
  have H1 := Lib.hid h1
  clear h1 GA
  go_wp2_with fail
  refine (GB.out w1 H1.out.r).mono ?_
  rintro e w' ⟨rfl, rfl⟩
  clear GB
  go_wp2_with fail
  obtain ⟨v1, t1⟩ := H1.out.t
  refine (len_t t1 H1.out.bits).mono ?_
  clear t1
  rintro e w' ⟨rfl, n, rfl⟩
  have H2 := Lib.hid (H1.out.drewN n)
  generalize w1.drewN n = w2 at *
  clear H1
  go_wp2_with fail
  obtain ⟨v2, t2⟩ := H2.out.t
  refine (ones_t t2 H2.out.bits).mono ?_
  clear t2
  rintro e w' ⟨rfl, n2, rfl⟩
  have H3 := Lib.hid (H2.out.drewN n2)
  generalize w2.drewN n2 = w3 at *
  clear H2
  go_wp2_with fail
  refine (refRanks_any a c L L.length true _ H3.out.r hl).mono ?_
  rintro e w' ⟨rfl, rfl⟩
  rw [HRK.out]
  have hyy : (y == y) = true := by simp
  cases x
  all_goals
    go_wp2_with fail
    refine (H3.out.rank k true).mono ?_
    rintro e w4 ⟨rfl, h4⟩
    have H4 := Lib.hid h4
    clear h4 H3
    go_wp2_with fail
    refine (refRanks_any a c L k true _ H4.out.r hl).mono ?_
    rintro e w' ⟨rfl, rfl⟩
    go_wp2_with fail
    refine (H4.out.rank k false).mono ?_
    rintro e w5 ⟨rfl, h5⟩
    have H5 := Lib.hid h5
    clear h5 H4
    go_wp2_with fail
    refine (refRanks_any a c L k false _ H5.out.r hl).mono ?_
    rintro e w' ⟨rfl, rfl⟩
    go_wp2_with fail
    refine (H5.out.select k true).mono ?_
    rintro e w6 ⟨rfl, h6⟩
    have H6 := Lib.hid h6
    clear h6 H5
    go_wp2_with fail
    refine (refSelects_any a c L k true _ H6.out.r hl).mono ?_
    rintro e w' ⟨rfl, rfl⟩
    go_wp2_with fail
    refine (H6.out.select k false).mono ?_
    rintro e w7 ⟨rfl, h7⟩
    have H7 := Lib.hid h7
    clear h7 H6
    go_wp2_with fail
    refine (refSelects_any a c L k false _ H7.out.r hl).mono ?_
    rintro e w' ⟨rfl, rfl⟩
    go_wp2_with fail
    go_ret
    exact ⟨rfl, H7.out⟩

end Go.Proofs.YtcppgpjodfeigaaDoor

namespace Go.Proofs.YtcppgpjodfeigaaDoor
set_option linter.unusedVariables false
set_option linter.unusedSimpArgs false
open Go.RowKit

theorem out_in {l : List Bool} {k : Nat} {b : Bool} (h : k ≤ l.length) : outL (inL l k b) k = l := by
  apply List.ext_getElem?
  intro i
  have h2 : k < (inL l k b).length := by rw [inL_len h]; omega
  rw [outL_get h2, inL_get h, inL_get h]
  by_cases h3 : i < k
  · rw [if_pos h3, if_pos h3]
  · rw [if_neg h3, if_neg (by omega), if_neg (by omega)]; simp
theorem bitAt_in_self {l : List Bool} {k : Nat} {b : Bool} (h : k ≤ l.length) : bitAt (inL l k b) k = b := by rw [bitAt_in h, if_neg (by omega), if_pos rfl]
/-- A tree of a few bits is one leaf. -/
theorem small_leaf {o : Option ST} {L : List Bool} (hg : Good o) (hb : sbits o = L) (h0 : 0 < L.length) (h1 : L.length < 64) : o = some (.leaf L) := by
  cases o with
  | none => subst hb; simp [sbits] at h0
  | some t =>
    cases t with
    | leaf l => simp [sbits, ST.bits] at hb; rw [hb]
    | pair a b =>
      have hf : (ST.pair a b).Fill := hg.2
      have h2 := hf.len
      have h3 : (ST.pair a b).bits = L := hb
      have h4 := a.leaves_pos
      have h5 := b.leaves_pos
      simp only [ST.leaves] at h2
      rw [h3] at h2
      omega
theorem none_of {o : Option ST} (hg : Good o) (hb : sbits o = []) : o = none := by
  cases o with
  | none => rfl
  | some t =>
    have := hg.2.pos
    have h3 : t.bits = [] := hb
    rw [h3] at this
    simp at this

theorem exT_keep {B : Nat} {X : Nat → Prop} {w w' : World} {a : Option Addr} {xs : List Value} (hr : ReadsV w a xs) (hc : Chg (exT B X) w w') (hX : ∀ ad, a = some ad → X ad.block) : ReadsV w' a xs :=
  hr.chg hc (fun ad h hk => hk.2 (hX ad h))

theorem tabB {B : Nat} {X : Nat → Prop} {w w' : World} (h : BitTab w) (hc : Chg (exT B X) w w') (hB : B ≤ w.heap.size) (hl : 0 < B) : BitTab w' := h.below (exT_below hc hB) hl

set_option maxHeartbeats 3200000 in
set_option maxRecDepth 100000 in
theorem told5_any (w : World) (hT : BitTab w) : Calls Tryd.prog 22 #[] w fun e w' => e = .returned (.bool true) ∧ Below w.heap.size w w' := by
  have HT := Lib.hid hT
  have HTL := Lib.hid hT.lt
  clear hT
  go_enter Tryd.func22, Tryd.ntmps22
  go_wp2_with fail
  refine (new_t (B := w.heap.size) (X := fun _ => False) [true, false] rfl (by exact readsV_block (xs := [.bool true, .bool false]) (heap_alloc_new w _)) (by decide) (by decide) (by simp) (fun k hk => hk.elim)).mono ?_
  rintro e w1 ⟨p, o, rfl, ht, hbits, hb0⟩
  have HO : Hid (sbits o = [true, false]) := hbits
  have HB1 := Lib.hid ((below_alloc w (.cells #[.bool true, .bool false] 4)).trans (hb0.mono (by simp)))
  have HT1 := Lib.hid ht
  clear ht hbits hb0
  go_wp2_with fail
  refine (insert_t HT1.out HO.out 1 rfl (by decide) (by decide) true).mono ?_
  rintro e w2 ⟨rfl, made2, ⟨v2, _, ht2⟩, hc2⟩
  have HO2 : Hid (sbits (insO o 1 true) = [true, true, false]) := by show _ = _; rw [insO_bits (by rw [HO.out]; decide), HO.out]; rfl
  have HB2 := Lib.hid (HB1.out.trans (exT_below hc2 HT1.out.le))
  have HT2 := Lib.hid ht2
  clear ht2 hc2 HO HB1 HT1
  generalize insO o 1 true = o2 at *
  go_wp2_with fail
  refine (insert_tBad HT2.out HO2.out 9 true (Or.inr (by decide))).mono ?_
  rintro e w3 ⟨rfl, ⟨v3, _, ht3⟩, hc3⟩
  have HB3 := Lib.hid (HB2.out.trans (exT_below hc3 HT2.out.le))
  have HT3 := Lib.hid ht3
  clear ht3 hc3 HB2 HT2
  go_wp2_with fail
  refine (delete_t HT3.out HO2.out 0 rfl (by decide) (x := true) rfl).mono ?_
  rintro e w4 ⟨rfl, ⟨v4, _, ht4⟩, hc4⟩
  have HO4 : Hid (sbits (delO o2 0) = [true, false]) := by show _ = _; rw [delO_bits (by rw [HO2.out]; decide), HO2.out]; rfl
  have HB4 := Lib.hid (HB3.out.trans (exT_below hc4 HT3.out.le))
  have HT4 := Lib.hid ht4
  clear ht4 hc4 HB3 HT3 HO2
  generalize delO o2 0 = o4 at *
  go_wp2_with fail
  refine (get_tBad HT4.out HO4.out 2 (Or.inr (by decide))).mono ?_
  rintro e w5 ⟨rfl, ⟨v5, _, ht5⟩, hc5⟩
  have HB5 := Lib.hid (HB4.out.trans (exT_below hc5 HT4.out.le))
  have HT5 := Lib.hid ht5
  clear ht5 hc5 HB4 HT4
  obtain rfl := small_leaf HT5.out.good HO4.out (by decide) (by decide)
  go_wp2_with fail
  refine (new_t (B := w5.heap.size) (X := fun _ => False) (w := w5) (a := none) (c := 0) [] rfl ReadsV.nil (Nat.le_refl _) (by decide) (Nat.le_refl _) (fun k hk => hk.elim)).mono ?_
  rintro e w6 ⟨q, on, rfl, hn, hbn, hb6⟩
  obtain rfl := none_of hn.good hbn
  obtain ⟨Sn, hn1, hsn⟩ := hn.t
  have ht6 := HT5.out.less hb6 (Y := Sn) (fun k hk => Or.inr (hsn k hk).1) hn1.lt
  have HB6 := Lib.hid (HB5.out.trans (hb6.mono HB5.out.size))
  have HN6 := Lib.hid hn1
  have HT6 := Lib.hid ht6
  clear hn hn1 hsn ht6 hb6 hbn HB5 HT5
  go_wp2_with fail
  refine (len_t HT6.out HO4.out).mono ?_
  rintro e w' ⟨rfl, n1, rfl⟩
  have HB7 := Lib.hid (below_drewW HB6.out n1)
  have HN7 := Lib.hid (HN6.out.drewN n1)
  have HT7 := Lib.hid (HT6.out.drewN n1)
  generalize w6.drewN n1 = w7 at *
  clear HB6 HN6 HT6
  go_wp2_with fail
  refine (ones_t HT7.out HO4.out).mono ?_
  rintro e w' ⟨rfl, n1, rfl⟩
  have HB8 := Lib.hid (below_drewW HB7.out n1)
  have HN8 := Lib.hid (HN7.out.drewN n1)
  have HT8 := Lib.hid (HT7.out.drewN n1)
  generalize w7.drewN n1 = w8 at *
  clear HB7 HN7 HT7
  have c1 : (([true, false] : List Bool).count true : Int) = 1 := by decide
  go_wp2_with fail
  refine (rank_t HT8.out HO4.out 2 false (r := 1) (by decide)).mono ?_
  rintro e w9 ⟨rfl, ⟨v9, _, ht9⟩, hc9⟩
  have HB9 := Lib.hid (HB8.out.trans (exT_below hc9 HT8.out.le))
  have HN9 := Lib.hid (HN8.out.chg hc9 (fun k hk h => h.2 hk))
  have HT9 := Lib.hid ht9
  clear ht9 hc9 HB8 HN8 HT8
  go_wp2_with fail
  refine (select_t HT9.out (HT.out.below' HB9.out) HTL.out HO4.out 0 false (r := 1) (by decide)).mono ?_
  rintro e w10 ⟨rfl, ⟨v10, _, ht10⟩, hc10⟩
  have HB10 := Lib.hid (HB9.out.trans (exT_below hc10 HT9.out.le))
  have HN10 := Lib.hid (HN9.out.chg hc10 (fun k hk h => h.2 hk))
  have HT10 := Lib.hid ht10
  clear ht10 hc10 HB9 HN9 HT9 c1
  go_wp2_with fail
  refine (shape_t HT10.out).mono ?_
  rintro e w11 ⟨rfl, hb11⟩
  have HB11 := Lib.hid (HB10.out.trans (hb11.mono HB10.out.size))
  have HN11 := Lib.hid (HN10.out.below hb11)
  have HT11 := Lib.hid (HT10.out.below hb11)
  clear hb11 HB10 HN10 HT10
  rw [show shapeV (some (ST.leaf [true, false])) = .agg #[.int .i64 2, .int .i64 0, .int .i64 1, .int .i64 1] from rfl]
  go_wp2_with fail
  refine (live_t HT11.out).mono ?_
  rintro e w' ⟨rfl, n1, rfl⟩
  have HB12 := Lib.hid (below_drewW HB11.out n1)
  have HN12 := Lib.hid (HN11.out.drewN n1)
  generalize w11.drewN n1 = w12 at *
  clear HB11 HN11 HT11
  rw [show ((sizeO (some (ST.leaf [true, false])) : Nat) : Int) = 1 from rfl]
  go_wp2_with fail
  refine (tShape_is HN12.out).mono ?_
  rintro e w13 ⟨rfl, hb13⟩
  have HB13 := Lib.hid (HB12.out.trans (hb13.mono HB12.out.size))
  clear hb13 HB12 HN12
  rw [show shapeV none = .agg #[.int .i64 0, .int .i64 0, .int .i64 0, .int .i64 0] from rfl]
  go_wp2_with (first
    | (go_at_call 25; refine (tInsert_nil _ _ _).mono ?_; rintro e w' ⟨rfl, rfl⟩)
    | (go_at_call 20; refine (tRank_nil _ _ _).mono ?_; rintro e w' ⟨rfl, rfl⟩)
    | (go_at_call 21; refine (tSelect_nil _ _ _).mono ?_; rintro e w' ⟨rfl, rfl⟩))
  go_ret
  exact ⟨rfl, HB13.out⟩

end Go.Proofs.YtcppgpjodfeigaaDoor

namespace Go.Proofs.YtcppgpjodfeigaaDoor
open Go.ChangeShapes Go.WideShapes Go.ChangeAt Go.RowKit

/-- A row of such structs that came in. -/
structure ArgO (w : World) (a : Option Addr) (cap : Nat) (xs : List (Int × Int × Bool)) : Prop where
  reads : ∀ i, i < xs.length → ∃ b off, a = some ⟨b, off, none⟩ ∧ b < w.heap.size ∧ ∀ j, j < xs.length →
    w.cell? ⟨b, off + j * 3, none⟩ = some (.int .i64 (xs[j]?.getD default).1) ∧ w.cell? ⟨b, off + j * 3 + 1, none⟩ = some (.int .i64 (xs[j]?.getD default).2.1) ∧ w.cell? ⟨b, off + j * 3 + 2, none⟩ = some (.bool (xs[j]?.getD default).2.2)
  wf : ∀ i, i < xs.length → (Lit.int .i64 (xs[i]?.getD default).2.1).wf = true
  le : xs.length ≤ cap
  max : cap ≤ maxLen

variable {H : Type} {enc : TypeId × Value → H} {P : Program} {w : World} {base : Nat} {sp : Nat → Bool} {held : Bool}

theorem trod_int_wf {t : TypeId} {k : IntKind} {fuel : Nat} {v : Value} {x : DataW H × List MemPlace} (ht : P.underlying t = some (.int k)) (hf : DataW.trod enc P w base sp held fuel t [v] = some x) : ∃ n, v = .int k n ∧ (Lit.int k n).wf = true := by
  cases fuel with
  | zero => simp [DataW.trod] at hf
  | succ fuel =>
    cases v <;> simp [DataW.trod, ht] at hf
    rename_i k' n
    obtain ⟨⟨rfl, h⟩, _⟩ := hf
    exact ⟨n, rfl, h⟩
theorem trod_bool_v {t : TypeId} {fuel : Nat} {v : Value} {x : DataW H × List MemPlace} (ht : P.underlying t = some .bool) (hf : DataW.trod enc P w base sp held fuel t [v] = some x) : ∃ b, v = .bool b := by
  cases fuel with
  | zero => simp [DataW.trod] at hf
  | succ fuel =>
    cases v <;> simp [DataW.trod, ht] at hf
    exact ⟨_, rfl⟩

theorem argO_of {t e : TypeId} {f0 f1 f2 : Field} {fuel : Nat} {a : Option Addr} {len cap : Nat} {x : DataW H × List MemPlace} (ht : P.underlying t = some (.slice e)) (he : P.underlying e = some (.struct #[f0, f1, f2]))
    (ce : P.cellsOf e = 3) (o0 : f0.offset = 0) (o1 : f1.offset = 1) (o2 : f2.offset = 2) (c0 : P.cellsOf f0.type = 1) (c1 : P.cellsOf f1.type = 1) (c2 : P.cellsOf f2.type = 1)
    (i0 : P.underlying f0.type = some (.int .i64)) (i1 : P.underlying f1.type = some (.int .i64)) (i2 : P.underlying f2.type = some .bool)
    (hf : DataW.trod enc P w base sp held fuel t (Value.slice a len cap).cells.toList = some x) : ∃ xs : List (Int × Int × Bool), len = xs.length ∧ ArgO w a cap xs := by
  rcases Go.Deep.open_slice ht hf with ⟨hcs, _⟩ | ⟨x, l, c, m, n, D, Pl, hcs, _, hl, hm, hmm, _, hx⟩
  · simp [Value.cells] at hcs
    obtain ⟨rfl, rfl, rfl⟩ := hcs
    exact ⟨[], rfl, ⟨fun i hi => absurd hi (by simp), fun i hi => absurd hi (by simp), by simp, by unfold maxLen; omega⟩⟩
  · simp [Value.cells] at hcs
    obtain ⟨rfl, rfl, rfl⟩ := hcs
    have hlm : len ≤ m := by rw [hmm]; split <;> omega
    have hz : ∀ i, i < m → ∃ z : Int × Int × Bool, w.cell? (x.add (i * 3)) = some (.int .i64 z.1) ∧ w.cell? (x.add (i * 3 + 1)) = some (.int .i64 z.2.1) ∧ w.cell? (x.add (i * 3 + 2)) = some (.bool z.2.2) ∧ (Lit.int .i64 z.2.1).wf = true := fun i hi => by
      obtain ⟨cs', h1, h2⟩ := hx i hi
      rw [ce] at h1
      obtain ⟨_, hlen, hcell⟩ := World.cells?_some h1
      obtain ⟨xs, k, hk, hxy, _, hxl, hfs⟩ := DataW.trod_struct he h2
      match xs, hxl, cs', hlen with
      | [y0, y1, y2], _, [v0, v1, v2], _ =>
        have g0 := hfs 0 f0 rfl
        have g1 := hfs 1 f1 rfl
        have g2 := hfs 2 f2 rfl
        simp [o0, o1, o2, c0, c1, c2] at g0 g1 g2
        have e0 := hcell 0 (by omega)
        have e1 := hcell 1 (by omega)
        have e2 := hcell 2 (by omega)
        rw [Go.Deep.add_add] at e0 e1 e2
        obtain ⟨n0, rfl, _⟩ := trod_int_wf i0 g0
        obtain ⟨n1, rfl, hw⟩ := trod_int_wf i1 g1
        obtain ⟨b2, rfl⟩ := trod_bool_v i2 g2
        exact ⟨(n0, n1, b2), by simpa using e0, by simpa using e1, by simpa using e2, hw⟩
    obtain ⟨z, hzz⟩ := Go.Deep.choose_lt hz
    have hlen : ((List.range len).map z).length = len := by simp
    have hget : ∀ j, j < len → ((List.range len).map z)[j]?.getD default = z j := fun j hj => by simp [hj]
    refine ⟨(List.range len).map z, hlen.symm, ⟨fun i hi => ?_, fun i hi => ?_, by rw [hlen]; exact hl, hm⟩⟩
    · rw [hlen] at hi ⊢
      obtain ⟨b, off, spot⟩ := x
      have h0 := (hzz 0 (by omega)).1
      have hspot : spot = none := by simpa [Addr.add] using World.cell?_spot h0
      subst hspot
      refine ⟨b, off, rfl, World.block_lt_of_cell? w _ (by simpa [Addr.add] using h0), fun j hj => ?_⟩
      obtain ⟨g0, g1, g2, _⟩ := hzz j (by omega)
      rw [Addr.add_lit] at g0 g1 g2
      rw [hget j hj]
      exact ⟨g0, g1, g2⟩
    · rw [hlen] at hi
      rw [hget i hi]
      exact (hzz i (by omega)).2.2.2

end Go.Proofs.YtcppgpjodfeigaaDoor

namespace Go.Proofs.YtcppgpjodfeigaaDoor
open Go.ChangeShapes Go.WideShapes Go.ChangeAt Go.RowKit

/-- A row of such structs that came in. -/
structure ArgT (w : World) (a : Option Addr) (cap : Nat) (xs : List (Int × Int × Int)) : Prop where
  reads : ∀ i, i < xs.length → ∃ b off, a = some ⟨b, off, none⟩ ∧ b < w.heap.size ∧ ∀ j, j < xs.length →
    w.cell? ⟨b, off + j * 3, none⟩ = some (.int .i64 (xs[j]?.getD default).1) ∧ w.cell? ⟨b, off + j * 3 + 1, none⟩ = some (.int .i64 (xs[j]?.getD default).2.1) ∧ w.cell? ⟨b, off + j * 3 + 2, none⟩ = some (.int .i64 (xs[j]?.getD default).2.2)
  wf : ∀ i, i < xs.length → (Lit.int .i64 (xs[i]?.getD default).1).wf = true ∧ (Lit.int .i64 (xs[i]?.getD default).2.1).wf = true ∧ (Lit.int .i64 (xs[i]?.getD default).2.2).wf = true
  le : xs.length ≤ cap
  max : cap ≤ maxLen

variable {H : Type} {enc : TypeId × Value → H} {P : Program} {w : World} {base : Nat} {sp : Nat → Bool} {held : Bool}

theorem argT_of {t e : TypeId} {f0 f1 f2 : Field} {fuel : Nat} {a : Option Addr} {len cap : Nat} {x : DataW H × List MemPlace} (ht : P.underlying t = some (.slice e)) (he : P.underlying e = some (.struct #[f0, f1, f2]))
    (ce : P.cellsOf e = 3) (o0 : f0.offset = 0) (o1 : f1.offset = 1) (o2 : f2.offset = 2) (c0 : P.cellsOf f0.type = 1) (c1 : P.cellsOf f1.type = 1) (c2 : P.cellsOf f2.type = 1)
    (i0 : P.underlying f0.type = some (.int .i64)) (i1 : P.underlying f1.type = some (.int .i64)) (i2 : P.underlying f2.type = some (.int .i64))
    (hf : DataW.trod enc P w base sp held fuel t (Value.slice a len cap).cells.toList = some x) : ∃ xs : List (Int × Int × Int), len = xs.length ∧ ArgT w a cap xs := by
  rcases Go.Deep.open_slice ht hf with ⟨hcs, _⟩ | ⟨x, l, c, m, n, D, Pl, hcs, _, hl, hm, hmm, _, hx⟩
  · simp [Value.cells] at hcs
    obtain ⟨rfl, rfl, rfl⟩ := hcs
    exact ⟨[], rfl, ⟨fun i hi => absurd hi (by simp), fun i hi => absurd hi (by simp), by simp, by unfold maxLen; omega⟩⟩
  · simp [Value.cells] at hcs
    obtain ⟨rfl, rfl, rfl⟩ := hcs
    have hlm : len ≤ m := by rw [hmm]; split <;> omega
    have hz : ∀ i, i < m → ∃ z : Int × Int × Int, w.cell? (x.add (i * 3)) = some (.int .i64 z.1) ∧ w.cell? (x.add (i * 3 + 1)) = some (.int .i64 z.2.1) ∧ w.cell? (x.add (i * 3 + 2)) = some (.int .i64 z.2.2) ∧ (Lit.int .i64 z.1).wf = true ∧ (Lit.int .i64 z.2.1).wf = true ∧ (Lit.int .i64 z.2.2).wf = true := fun i hi => by
      obtain ⟨cs', h1, h2⟩ := hx i hi
      rw [ce] at h1
      obtain ⟨_, hlen, hcell⟩ := World.cells?_some h1
      obtain ⟨xs, k, hk, hxy, _, hxl, hfs⟩ := DataW.trod_struct he h2
      match xs, hxl, cs', hlen with
      | [y0, y1, y2], _, [v0, v1, v2], _ =>
        have g0 := hfs 0 f0 rfl
        have g1 := hfs 1 f1 rfl
        have g2 := hfs 2 f2 rfl
        simp [o0, o1, o2, c0, c1, c2] at g0 g1 g2
        have e0 := hcell 0 (by omega)
        have e1 := hcell 1 (by omega)
        have e2 := hcell 2 (by omega)
        rw [Go.Deep.add_add] at e0 e1 e2
        obtain ⟨n0, rfl, hw0⟩ := trod_int_wf i0 g0
        obtain ⟨n1, rfl, hw⟩ := trod_int_wf i1 g1
        obtain ⟨b2, rfl, hw2⟩ := trod_int_wf i2 g2
        exact ⟨(n0, n1, b2), by simpa using e0, by simpa using e1, by simpa using e2, hw0, hw, hw2⟩
    obtain ⟨z, hzz⟩ := Go.Deep.choose_lt hz
    have hlen : ((List.range len).map z).length = len := by simp
    have hget : ∀ j, j < len → ((List.range len).map z)[j]?.getD default = z j := fun j hj => by simp [hj]
    refine ⟨(List.range len).map z, hlen.symm, ⟨fun i hi => ?_, fun i hi => ?_, by rw [hlen]; exact hl, hm⟩⟩
    · rw [hlen] at hi ⊢
      obtain ⟨b, off, spot⟩ := x
      have h0 := (hzz 0 (by omega)).1
      have hspot : spot = none := by simpa [Addr.add] using World.cell?_spot h0
      subst hspot
      refine ⟨b, off, rfl, World.block_lt_of_cell? w _ (by simpa [Addr.add] using h0), fun j hj => ?_⟩
      obtain ⟨g0, g1, g2, _⟩ := hzz j (by omega)
      rw [Addr.add_lit] at g0 g1 g2
      rw [hget j hj]
      exact ⟨g0, g1, g2⟩
    · rw [hlen] at hi
      rw [hget i hi]
      exact (hzz i (by omega)).2.2.2

end Go.Proofs.YtcppgpjodfeigaaDoor

namespace Go.Proofs.YtcppgpjodfeigaaDoor

def laidTab : List (String × DataW Unit) := [("math/bits.deBruijn64tab", Rows.laid_math_bits_deBruijn64tab)]
theorem tab_data : (Rows.laid_math_bits_deBruijn64tab : DataW Unit) = Lib.tabData .u8 (Lib.deBruijn64tab.map Int.ofNat) := rfl
theorem bitTab_of {W : World} (hL : laidMetH Tryd.prog laidTab W) : BitTab W := by
  rw [MakeChecks.laidMetH_plain _ _ _ (by kernel_rfl)] at hL
  have hL' : laidMet Tryd.prog [("math/bits.deBruijn64tab", Lib.tabData .u8 (Lib.deBruijn64tab.map Int.ofNat))] W := by rw [← tab_data]; exact hL
  have hg : Tryd.prog.globalNamed "math/bits.deBruijn64tab" = some 0 := by kernel_rfl
  have hT := Lib.tabIs_of_head hg (t := 128) (by kernel_rfl) Tryd.underlying128 Tryd.underlying5 (by kernel_rfl) (by kernel_rfl) hL'
  intro j hj
  rw [hT.cell hg j (by simpa using hj)]
  simp [List.getD_eq_getElem?_getD, List.getElem?_eq_getElem hj]

end Go.Proofs.YtcppgpjodfeigaaDoor
