/- Lemmas and contracts under the claims of this seat: The contract of sorted.Rows. The contracts of sorted.Last and sorted.Same. -/
import Derived.Test.YtacoeohmdngnkaaGreatDoorZl4
import Derived.Test.YtacoeohmdngnkaaGreatDoorZl6
import Derived.Test.YtacoeohmdngnkaaGreatDoorZl2
import Derived.Laws.MakeOwn
import Derived.Deep.DeepCutAuto
import Derived.Deep.CutBlock
import Derived.Deep.CutRange
import Derived.RegionCalls
import Derived.RegionTactic
import Derived.BigRegion
import Derived.ChangeAlike
import Derived.Laws.EntriesVeiled

namespace Go.Proofs.YtacoeohmdngnkaaGreatDoor
set_option linter.unusedVariables false
set_option linter.unusedSimpArgs false
open Go.RowKit

/-- What Rows keeps: how many, the ranks' box, the rows, the ranks, the next ones. -/
structure RowsSt (B : Nat) (w : World) (n bn br qr gn g c1 c2 c3 : Nat) (fr fn fk : Nat → Int) : Prop where
  nb : w.heap[bn]? = some (.cells #[.int .i64 n] 3 (0, 0))
  rb : w.heap[br]? = some (.cells #[.slice (some ⟨g, 0, none⟩) n c3] 22 (0, 0))
  rows : w.ownsRow B 3 1 (.slice (some ⟨qr, 0, none⟩) n c1) n (vecL (fun i => .int .i64 (fr i)) n)
  next : w.ownsRow B 3 1 (.slice (some ⟨gn, 0, none⟩) n c2) n (vecL (fun i => .int .i64 (fn i)) n)
  rank : w.ownsRow B 3 1 (.slice (some ⟨g, 0, none⟩) n c3) n (vecL (fun i => .int .i64 (fk i)) n)
  ne : qr ≠ gn ∧ qr ≠ g ∧ gn ≠ g ∧ bn ≠ qr ∧ bn ≠ gn ∧ bn ≠ g ∧ br ≠ qr ∧ br ≠ gn ∧ br ≠ g ∧ bn ≠ br
  lo : B ≤ bn ∧ B ≤ br

section
variable {B : Nat} {w w' : World} {n bn br qr gn g c1 c2 c3 : Nat} {fr fn fk : Nat → Int}
theorem RowsSt.chg (h : RowsSt B w n bn br qr gn g c1 c2 c3 fr fn fk) {S : Nat → Prop} (hc : Chg S w w') (h1 : ¬ S bn) (h2 : ¬ S br) (h3 : ¬ S qr) (h4 : ¬ S gn) (h5 : ¬ S g) : RowsSt B w' n bn br qr gn g c1 c2 c3 fr fn fk := by
  have key : ∀ q n c, (∀ k, (Value.slice (some ⟨q, 0, none⟩) n c).ownBlock = some k → k = q) := fun q n c k hk => by simp [Value.ownBlock] at hk; exact hk.symm
  exact ⟨hc.heap h.nb h1, hc.heap h.rb h2, hc.own h.rows (fun k hk => by rw [key _ _ _ k hk]; exact h3), hc.own h.next (fun k hk => by rw [key _ _ _ k hk]; exact h4), hc.own h.rank (fun k hk => by rw [key _ _ _ k hk]; exact h5), h.ne, h.lo⟩
theorem RowsSt.still (h : RowsSt B w n bn br qr gn g c1 c2 c3 fr fn fk) (hb : Below w.heap.size w w') : RowsSt B w' n bn br qr gn g c1 c2 c3 fr fn fk :=
  h.chg (Chg.of_below (S := fun _ => False) hb) id id id id id
theorem RowsSt.drewN (h : RowsSt B w n bn br qr gn g c1 c2 c3 fr fn fk) (m : Nat) : RowsSt B (w.drewN m) n bn br qr gn g c1 c2 c3 fr fn fk := ⟨h.nb, h.rb, h.rows, h.next, h.rank, h.ne, h.lo⟩
theorem vec_if {f : Nat → Int} {j n : Nat} {x : Int} : vecL (fun i => if i = j then Value.int .i64 x else Value.int .i64 (f i)) n = vecL (fun i => Value.int .i64 (if i = j then x else f i)) n :=
  vecL_congr (fun i _ => by split <;> rfl)
theorem RowsSt.setRows (h : RowsSt B w n bn br qr gn g c1 c2 c3 fr fn fk) (j : Nat) (x : Int) : RowsSt B (w.setCell ⟨qr, j, none⟩ (.int .i64 x)) n bn br qr gn g c1 c2 c3 (fun i => if i = j then x else fr i) fn fk := by
  have hc : Chg (fun b => b = qr) w (w.setCell ⟨qr, j, none⟩ (.int .i64 x)) := Chg.refl.setCell (S := fun b => b = qr) ⟨qr, j, none⟩ (Or.inl rfl) _
  obtain ⟨a1, a2, a3, a4, a5, a6, a7, a8, a9, a10⟩ := h.ne
  have key : ∀ q n c, (∀ k, (Value.slice (some ⟨q, 0, none⟩) n c).ownBlock = some k → k = q) := fun q n c k hk => by simp [Value.ownBlock] at hk; exact hk.symm
  have ho := own_vset h.rows j (.int .i64 x)
  rw [vec_if] at ho
  exact ⟨hc.heap h.nb a4, hc.heap h.rb a7, ho, hc.own h.next (fun k hk e => a1 ((key _ _ _ k hk ▸ e : gn = qr).symm)), hc.own h.rank (fun k hk e => a2 ((key _ _ _ k hk ▸ e : g = qr).symm)), h.ne, h.lo⟩
theorem RowsSt.setNext (h : RowsSt B w n bn br qr gn g c1 c2 c3 fr fn fk) (j : Nat) (x : Int) : RowsSt B (w.setCell ⟨gn, j, none⟩ (.int .i64 x)) n bn br qr gn g c1 c2 c3 fr (fun i => if i = j then x else fn i) fk := by
  have hc : Chg (fun b => b = gn) w (w.setCell ⟨gn, j, none⟩ (.int .i64 x)) := Chg.refl.setCell (S := fun b => b = gn) ⟨gn, j, none⟩ (Or.inl rfl) _
  obtain ⟨a1, a2, a3, a4, a5, a6, a7, a8, a9, a10⟩ := h.ne
  have key : ∀ q n c, (∀ k, (Value.slice (some ⟨q, 0, none⟩) n c).ownBlock = some k → k = q) := fun q n c k hk => by simp [Value.ownBlock] at hk; exact hk.symm
  have ho := own_vset h.next j (.int .i64 x)
  rw [vec_if] at ho
  exact ⟨hc.heap h.nb a5, hc.heap h.rb a8, hc.own h.rows (fun k hk e => a1 (key _ _ _ k hk ▸ e : qr = gn)), ho, hc.own h.rank (fun k hk e => a3 ((key _ _ _ k hk ▸ e : g = gn).symm)), h.ne, h.lo⟩
/-- The ranks and the next ones change places. -/
theorem RowsSt.swap (h : RowsSt B w n bn br qr gn g c1 c2 c3 fr fn fk) : RowsSt B (w.setCell ⟨br, 0, none⟩ (.slice (some ⟨gn, 0, none⟩) n c2)) n bn br qr g gn c1 c3 c2 fr fk fn := by
  have hc : Chg (fun b => b = br) w (w.setCell ⟨br, 0, none⟩ (.slice (some ⟨gn, 0, none⟩) n c2)) := Chg.refl.setCell (S := fun b => b = br) ⟨br, 0, none⟩ (Or.inl rfl) _
  obtain ⟨a1, a2, a3, a4, a5, a6, a7, a8, a9, a10⟩ := h.ne
  have key : ∀ q n c, (∀ k, (Value.slice (some ⟨q, 0, none⟩) n c).ownBlock = some k → k = q) := fun q n c k hk => by simp [Value.ownBlock] at hk; exact hk.symm
  exact ⟨hc.heap h.nb a10, heap_setCell_same w br 0 _ _ _ h.rb, hc.own h.rows (fun k hk e => a7 ((key _ _ _ k hk ▸ e : qr = br).symm)), hc.own h.rank (fun k hk e => a9 ((key _ _ _ k hk ▸ e : g = br).symm)), hc.own h.next (fun k hk e => a8 ((key _ _ _ k hk ▸ e : gn = br).symm)), ⟨a2, a1, fun e => a3 e.symm, a4, a6, a5, a7, a9, a8, a10⟩, h.lo⟩
theorem RowsSt.cells (h : RowsSt B w n bn br qr gn g c1 c2 c3 fr fn fk) : w.cell? ⟨bn, 0, none⟩ = some (.int .i64 n) ∧ w.cell? ⟨br, 0, none⟩ = some (.slice (some ⟨g, 0, none⟩) n c3) ∧
    (∀ j, j < n → w.cell? ⟨qr, j, none⟩ = some (.int .i64 (fr j))) ∧ (∀ j, j < n → w.cell? ⟨gn, j, none⟩ = some (.int .i64 (fn j))) ∧ (∀ j, j < n → w.cell? ⟨g, j, none⟩ = some (.int .i64 (fk j))) ∧
    (∀ j, w.frozen? ⟨qr, j, none⟩ = false) ∧ (∀ j, w.frozen? ⟨gn, j, none⟩ = false) ∧ (∀ j, w.frozen? ⟨br, j, none⟩ = false) :=
  ⟨by rw [cell_of_row w bn 0 _ _ _ h.nb]; rfl, by rw [cell_of_row w br 0 _ _ _ h.rb]; rfl, fun j hj => own_vcell h.rows hj, fun j hj => own_vcell h.next hj, fun j hj => own_vcell h.rank hj, own_vfree h.rows, own_vfree h.next, fun j => frozen_of_row w br j _ _ h.rb⟩
theorem RowsSt.newRows (h : RowsSt B w n bn br qr gn g c1 c2 c3 fr fn fk) (hc : Chg (fun b => b = qr) w w') {fr' : Nat → Int} (ho : w'.ownsRow B 3 1 (.slice (some ⟨qr, 0, none⟩) n c1) n (vecL (fun i => .int .i64 (fr' i)) n)) : RowsSt B w' n bn br qr gn g c1 c2 c3 fr' fn fk := by
  obtain ⟨a1, a2, a3, a4, a5, a6, a7, a8, a9, a10⟩ := h.ne
  have key : ∀ q n c, (∀ k, (Value.slice (some ⟨q, 0, none⟩) n c).ownBlock = some k → k = q) := fun q n c k hk => by simp [Value.ownBlock] at hk; exact hk.symm
  exact ⟨hc.heap h.nb a4, hc.heap h.rb a7, ho, hc.own h.next (fun k hk e => a1 ((key _ _ _ k hk ▸ e : gn = qr).symm)), hc.own h.rank (fun k hk e => a2 ((key _ _ _ k hk ▸ e : g = qr).symm)), h.ne, h.lo⟩
theorem RowsSt.congr (h : RowsSt B w n bn br qr gn g c1 c2 c3 fr fn fk) {fr' fn' fk' : Nat → Int} (e1 : ∀ i, i < n → fr i = fr' i) (e2 : ∀ i, i < n → fn i = fn' i) (e3 : ∀ i, i < n → fk i = fk' i) : RowsSt B w n bn br qr gn g c1 c2 c3 fr' fn' fk' :=
  ⟨h.nb, h.rb, by rw [vecL_congr (g := fun i => .int .i64 (fr i)) (fun i hi => by rw [e1 i hi])]; exact h.rows, by rw [vecL_congr (g := fun i => .int .i64 (fn i)) (fun i hi => by rw [e2 i hi])]; exact h.next, by rw [vecL_congr (g := fun i => .int .i64 (fk i)) (fun i hi => by rw [e3 i hi])]; exact h.rank, h.ne, h.lo⟩
end

/-- slices.Clone, of a row that is read, in a world that has grown. -/
def CloneP (n : Nat) (l : List Int) (W : World) (e : Ending) (w' : World) : Prop := ∃ g cap, e = .returned (.slice (some ⟨g, 0, none⟩) n cap) ∧ w'.ownsRow W.heap.size 3 1 (.slice (some ⟨g, 0, none⟩) n cap) n (vecL (fun i => .int .i64 (sy l i)) n) ∧ Below W.heap.size W w'
theorem vec_of_list {l : List Int} {n : Nat} (h : l.length = n) : l.map (Value.int .i64) = vecL (fun i => .int .i64 (sy l i)) n := by
  apply List.ext_getElem?
  intro i
  by_cases hi : i < n
  · rw [vecL_get hi, List.getElem?_map, List.getElem?_eq_getElem (by omega), sy_in (by omega)]; rfl
  · rw [List.getElem?_eq_none (by simp; omega), List.getElem?_eq_none (by rw [vecL_len]; omega)]
theorem clone_any {w0 W : World} {g0 cap0 n : Nat} {l : List Int} (hr : ∀ j, j < n → w0.cell? ⟨g0, j, none⟩ = some (.int .i64 (sy l j))) (hg : g0 < w0.heap.size) (hb : Below w0.heap.size w0 W) (hn : l.length = n) (h0 : 0 < n) (hm : n ≤ 1000000000) :
    Calls Tryz.prog 68 #[.slice (some ⟨g0, 0, none⟩) n cap0] W (CloneP n l W) := by
  refine (Tryz.slices_Clone_int g0 0 n cap0 l W (by omega) (by omega) (fun j hj => ?_)).mono ?_
  · rw [Nat.zero_add, (hb.cell (p := ⟨g0, j, none⟩) hg).trans (hr j (by omega)), sy_in hj]
    simp [hj]
  · rintro e w' ⟨v', rfl, hown, _, hb'⟩
    obtain ⟨g, cap, rfl, _⟩ := own_some hown h0
    rw [List.take_of_length_le (by omega), vec_of_list hn] at hown
    exact ⟨g, cap, rfl, hown, hb'⟩

/-- One more object; one more row; a store into an object of one cell: the world behind it under a new name. -/
theorem mk_step {w2 W : World} (hb : Below w2.heap.size w2 W) (o : Obj) : ∃ W' q, W.alloc o = W' ∧ W.heap.size = q ∧ Hid (Below w2.heap.size w2 W') ∧ Hid (W'.heap[q]? = some o) ∧ Hid (∀ S, Chg S W W') ∧ q < W'.heap.size ∧ w2.heap.size ≤ q ∧ W.heap.size ≤ q :=
  ⟨_, _, rfl, rfl, hb.alloc hb.size o, heap_alloc_new W o, fun S => Chg.refl.alloc o, by simp, hb.size, Nat.le_refl _⟩
theorem cl_step {w2 W W' : World} {q n cp : Nat} {xs : List Value} {e : TypeId} (hb : Below w2.heap.size w2 W) (ho : W'.ownsRow W.heap.size e 1 (.slice (some ⟨q, 0, none⟩) n cp) n xs) (hc : Below W.heap.size W W') :
    Hid (Below w2.heap.size w2 W') ∧ Hid (W'.ownsRow W.heap.size e 1 (.slice (some ⟨q, 0, none⟩) n cp) n xs) ∧ Hid (∀ S, Chg S W W') ∧ q < W'.heap.size ∧ w2.heap.size ≤ W.heap.size ∧ W.heap.size ≤ q :=
  ⟨hb.trans (hc.mono hb.size), ho, fun S => Chg.of_below hc, (own_lt ho rfl).2, hb.size, (own_lt ho rfl).1⟩
theorem st_step {w2 W : World} {q : Nat} {v : Value} {T : TypeId} (hb : Below w2.heap.size w2 W) (hq : W.heap[q]? = some (.cells #[v] T (0, 0))) (u : Value) (hlo : w2.heap.size ≤ q) :
    ∃ W', W.setCell ⟨q, 0, none⟩ u = W' ∧ Hid (Below w2.heap.size w2 W') ∧ Hid (W'.heap[q]? = some (.cells #[u] T (0, 0))) ∧ Hid (Chg (fun b => b = q) W W') ∧ W.heap.size ≤ W'.heap.size :=
  ⟨_, rfl, hb.trans ((Chg.refl.setCell (S := fun b => b = q) ⟨q, 0, none⟩ (Or.inl rfl) u).below (fun b h => by rw [h]; exact hlo) hb.size), heap_setCell_same W q 0 #[v] T u hq, Chg.refl.setCell (S := fun b => b = q) ⟨q, 0, none⟩ (Or.inl rfl) u, by simp [World.setCell]⟩

/-- What Rows tells: the rows, in memory of the call's own. -/
def RowsPost (B : Nat) (w : World) (l : List Int) (e : Ending) (w' : World) : Prop := ∃ r : List Nat, IsRows l r ∧ ∃ v, e = .returned v ∧ w'.ownsRow B 3 1 v r.length (r.map natV) ∧ Below B w w'
theorem natV_vec {r : List Nat} {n : Nat} (h : r.length = n) : r.map natV = vecL (fun i => .int .i64 ((r[i]?.getD 0 : Nat) : Int)) n := by
  apply List.ext_getElem?
  intro i
  by_cases hi : i < n
  · rw [vecL_get hi, List.getElem?_map, List.getElem?_eq_getElem (by omega)]; rfl
  · rw [List.getElem?_eq_none (by simp; omega), List.getElem?_eq_none (by rw [vecL_len]; omega)]
theorem byteL_of {t : List Int} (h : Bytes t) : ByteL t := by
  intro x hx
  obtain ⟨i, hi, rfl⟩ := List.getElem_of_mem hx
  have := h i hi
  rwa [getD_eq hi] at this
/-- The number that a pointer's cell holds. -/
def cellNat (w : World) (v : Value) : Nat := match v with
  | .pointer (some p) => (match w.cell? p with | some (.int _ x) => x.toNat | _ => 0)
  | _ => 0
theorem cellNat_of {w : World} {p : Addr} {k : IntKind} {x : Nat} (h : w.cell? p = some (.int k (x : Int))) : cellNat w (.pointer (some p)) = x := by
  unfold cellNat
  simp only [h]
  omega
theorem list_sy (f : Nat → Int) {n i : Nat} (h : i < n) : sy ((List.range n).map f) i = f i := by unfold sy; simp [h]
/-- The state at the head of a round: how wide, the ranks by so many symbols, all places in some order. -/
def RoundSt (B : Nat) (w wr : World) (l : List Int) (n bn br qr c1 : Nat) (v7 v9 : Value) : Prop :=
  ∃ (bw gn g c2 c3 wide : Nat) (rk : List Int) (fn : Nat → Int) (r : List Nat), v7 = .slice (some ⟨gn, 0, none⟩) n c2 ∧ v9 = .pointer (some ⟨bw, 0, none⟩) ∧ wr.heap[bw]? = some (.cells #[.int .i64 wide] 3 (0, 0)) ∧
    RowsSt B wr n bn br qr gn g c1 c2 c3 (fun i => ((r[i]?.getD 0 : Nat) : Int)) fn (sy rk) ∧ RankOf l wide rk ∧ r.Perm (List.range n) ∧ 0 < wide ∧ (wide < n ∨ wide = 1) ∧ (∀ i, i < n → sy rk i ≤ 1000000) ∧ bw ≠ qr ∧ bw ≠ gn ∧ bw ≠ g ∧ B ≤ bw ∧ Below B w wr

set_option maxHeartbeats 4000000 in
set_option maxRecDepth 100000 in
theorem rows_any (a : Option Addr) (c : Nat) (t : List Int) (w : World) (hr : Reads w .u8 a t) (hb : Bytes t) (hl : t.length ≤ 1000000) :
    Calls Tryz.prog 52 #[.slice a t.length c] w (RowsPost w.heap.size w (symsT t)) := by
  go_enter Tryz.func52, Tryz.ntmps52
  go_wp2_with fail
  have hb0 := below_al w (.cells #[.slice a t.length c] 24)
  refine (symAll1 w.heap.size 1 a c t _ (by simp) (by simp) (hr.below hb0) hb (by omega)).mono ?_
  rintro e w1 ⟨v, rfl, hown, hb1⟩
  obtain ⟨g0, cap0, rfl, hg1, hg2, _, _, hcell, _⟩ := own_some hown (by omega)
  have hbw : Below w.heap.size w w1 := hb0.trans (hb1.mono (by simp))
  have hls : (symsT t).length = t.length + 1 := symsT_len t
  have hrc : ∀ j, j < t.length + 1 → w1.cell? ⟨g0, j, none⟩ = some (.int .i64 (sy (symsT t) j)) := by
    intro j hj
    rw [hcell j hj]
    have e : t.map symV ++ [.int .i64 0] = (symsT t).map (Value.int .i64) := by simp [symsT, symV, Function.comp]
    rw [e, List.getElem?_map, List.getElem?_eq_getElem (by omega), sy_in (by omega)]; rfl
  have hgw : g0 < w1.heap.size := hg2
  have hgb : w.heap.size ≤ g0 := by simp at hg1; omega
  clear hown hcell hb0 hb1 hg1 hg2
  go_upto_region 3 with fail
  have ecast : ((t.length : Int) + 1) = ((t.length + 1 : Nat) : Int) := by omega
  rw [ecast]
  obtain ⟨n, hn⟩ : ∃ n, t.length + 1 = n := ⟨_, rfl⟩
  have hn0 : 0 < n := by omega
  have hnm : n ≤ 1000001 := by omega
  rw [hn] at hls hrc ⊢
  have HN := Lib.hid hn
  have HLS := Lib.hid hls
  have HRC := Lib.hid hrc
  have HBW := Lib.hid hbw
  obtain ⟨bn, hbn⟩ : ∃ bn, w1.heap.size = bn := ⟨_, rfl⟩
  obtain ⟨w2, hw2⟩ : ∃ w2, w1.alloc (.cells #[.int .i64 n] 3) = w2 := ⟨_, rfl⟩
  have hc2 : w2.cell? ⟨bn, 0, none⟩ = some (.int .i64 n) := by rw [← hw2, ← hbn]; simp
  have hs2 : bn < w2.heap.size := by rw [← hw2, ← hbn]; simp
  rw [hbn, hw2]
  have HW2 := Lib.hid hw2
  have HBN := Lib.hid hbn
  have hmk := make_ints n (by omega)
  have HB2 : Hid (∀ W, Below w2.heap.size w2 W → ∀ j, j < n → W.cell? ⟨g0, j, none⟩ = some (.int .i64 (sy (symsT t) j))) := by
    intro W hW j hj
    rw [hW.cell (p := ⟨g0, j, none⟩) (by show g0 < _; rw [← HW2.out]; simp; omega), ← HW2.out]
    rw [(below_al w1 _).cell (p := ⟨g0, j, none⟩) (by show g0 < _; omega)]
    exact HRC.out j hj
  have HCL : Hid (∀ W, Below w2.heap.size w2 W → Calls Tryz.prog 68 #[.slice (some ⟨g0, 0, none⟩) n cap0] W (CloneP n (symsT t) W)) := by
    intro W hW
    exact clone_any (w0 := W) (HB2.out W hW) (by have := hW.size; have : g0 < w2.heap.size := by rw [← HW2.out]; simp; omega
                                                 omega) (Below.refl _ _) HLS.out hn0 (by omega)
  clear hls hrc hbw hn hw2 hbn
  have HB0 : Hid (Below w2.heap.size w2 w2.drew) := (Below.refl _ _).drew
  have HH : Hid (∀ W, Below w2.heap.size w2 W → W.cell? ⟨bn, 0, none⟩ = some (.int .i64 n)) := fun W h => (h.cell (p := ⟨bn, 0, none⟩) hs2).trans hc2
  have HN2 : Hid (∀ W, Below w2.heap.size w2 W → W.heap[bn]? = some (.cells #[.int .i64 n] 3 (0, 0))) := fun W h => (h.block bn hs2).trans (by rw [← HW2.out, ← HBN.out]; exact heap_alloc_new _ _)
  have hbnB : w.heap.size ≤ bn := by rw [← HBN.out]; exact HBW.out.size
  go_cut [5, 6, 7] (fun r5 r6 r7 wx => ∃ br qr gn g c1 c2 c3, r5 = .slice (some ⟨qr, 0, none⟩) n c1 ∧ r6 = .pointer (some ⟨br, 0, none⟩) ∧ r7 = .slice (some ⟨gn, 0, none⟩) n c2 ∧ RowsSt w.heap.size wx n bn br qr gn g c1 c2 c3 (fun _ => 0) (fun _ => 0) (sy (symsT t)) ∧ Below w2.heap.size w2 wx)
  case first => as_aux_lemma =>
    clear hc2
    -- REGION 3
    refine reg_start (fun W => W.cell? ⟨bn, 0, none⟩ = some (.int .i64 n)) (by kernel_rfl) (HH.out _ HB0.out) (fun hHeld => ?_)
    generalize w2.drew = x0 at *
    refine rt 0 hHeld ?_
    refine rt 2 hHeld ?_
    refine rt 4 hHeld ?_
    refine wpAnyH_ready (rs := [1, 3, 5, 6]) (by kernel_rfl) (by simp) (all_cons rfl rfl (fun K hK => ?_) (all_cons rfl rfl (fun K hK => ?_) (all_cons rfl rfl (fun K hK => ?_) (all_cons rfl rfl (fun K hK => ?_) (AllReadyH.nil)))))
    · go_simp
      obtain ⟨x1, q1, hx, hq, HB1, HO1, HC1, z1a, z1b, z1c⟩ := mk_step HB0.out (.cells (vecL (fun _ => .int .i64 0) n).toArray 3)
      rw [hx, hq]
      clear hx hq
      refine hK.out _ _ (HH.out _ HB1.out) (fun hHeld => ?_)
      clear hK K
      try simp only [Act.put, List.setIfInBounds_toArray, List.set_cons_zero, List.set_cons_succ]
      refine wpAnyH_ready (rs := [3, 5, 6]) (by kernel_rfl) (by simp) (all_cons rfl rfl (fun K hK => ?_) (all_cons rfl rfl (fun K hK => ?_) (all_cons rfl rfl (fun K hK => ?_) (AllReadyH.nil))))
      · go_simp
        refine (HCL.out _ HB1.out).mono ?_
        rintro e x2 ⟨q3, cp, rfl, hown, hbC⟩
        obtain ⟨HB2, HO3, HC2, z2a, z2b, z2c⟩ := cl_step HB1.out hown hbC
        clear hown hbC
        go_wp2_with fail
        refine hK.out _ _ (HH.out _ HB2.out) (fun hHeld => ?_)
        clear hK K
        try simp only [Act.put, List.setIfInBounds_toArray, List.set_cons_zero, List.set_cons_succ]
        refine wpAnyH_ready (rs := [5, 6]) (by kernel_rfl) (by simp) (all_cons rfl rfl (fun K hK => ?_) (all_cons rfl rfl (fun K hK => ?_) (AllReadyH.nil)))
        · go_simp
          obtain ⟨x3, q5, hx, hq, HB3, HO5, HC3, z3a, z3b, z3c⟩ := mk_step HB2.out (.cells (vecL (fun _ => .int .i64 0) n).toArray 3)
          rw [hx, hq]
          clear hx hq
          refine hK.out _ _ (HH.out _ HB3.out) (fun hHeld => ?_)
          clear hK K
          try simp only [Act.put, List.setIfInBounds_toArray, List.set_cons_zero, List.set_cons_succ]
          refine wpAnyH_ready (rs := [6]) (by kernel_rfl) (by simp) (all_cons rfl rfl (fun K hK => ?_) (AllReadyH.nil))
          · go_simp
            obtain ⟨x4, q6, hx, hq, HB4, HO6, HC4, z4a, z4b, z4c⟩ := mk_step HB3.out (.cells #[.slice none 0 0] 22)
            rw [hx, hq]
            clear hx hq
            refine hK.out _ _ (HH.out _ HB4.out) (fun hHeld => ?_)
            clear hK K
            try simp only [Act.put, List.setIfInBounds_toArray, List.set_cons_zero, List.set_cons_succ]
            refine rt 7 hHeld ?_
            refine wpAnyH_ready (rs := [8]) (by kernel_rfl) (by simp) (all_cons rfl rfl (fun K hK => ?_) (AllReadyH.nil))
            · have hcell := cell_of_row _ q6 0 _ _ _ ((Chg.refl (S := (fun _ => False))).heap HO6.out (fun h => h))
              have hfree := frozen_of_row _ q6 0 _ _ ((Chg.refl (S := (fun _ => False))).heap HO6.out (fun h => h))
              obtain ⟨x5, hx, HB5, HS, HC5, z5a⟩ := st_step HB4.out ((Chg.refl (S := (fun _ => False))).heap HO6.out (fun h => h)) (.slice (some ⟨q3, 0, none⟩) n cp) (by omega)
              go_simp
              clear hx hcell hfree
              refine hK.out _ _ (HH.out _ HB5.out) (fun hHeld => ?_)
              clear hK K
              try simp only [Act.put, List.setIfInBounds_toArray, List.set_cons_zero, List.set_cons_succ]
              refine rt 9 hHeld ?_
              refine reg_done (by kernel_rfl) ?_ _
              go_wp2_with fail
              go_meet
              case rel =>
                refine ⟨q6, q1, q5, q3, n, n, cp, rfl, rfl, rfl, ?_, HB5.out⟩
                refine ⟨HN2.out _ HB5.out, (Chg.refl (S := (fun _ => False))).heap HS.out (fun h => h), ?_, ?_, ?_, ?_, ?_⟩
                · exact own_vecG (((((HC2.out (fun b => b = q6)).trans (HC3.out (fun b => b = q6)) (fun b hb => Or.inl hb)).trans (HC4.out (fun b => b = q6)) (fun b hb => Or.inl hb)).trans HC5.out (fun b hb => Or.inl hb)).heap HO1.out (fun h => by have h : q1 = q6 := h; omega)) (by omega) (by unfold maxLen; omega)
                · exact own_vecG (((HC4.out (fun b => b = q6)).trans HC5.out (fun b hb => Or.inl hb)).heap HO5.out (fun h => by have h : q5 = q6 := h; omega)) (by omega) (by unfold maxLen; omega)
                · exact own_mono ((((HC3.out (fun b => b = q6)).trans (HC4.out (fun b => b = q6)) (fun b hb => Or.inl hb)).trans HC5.out (fun b hb => Or.inl hb)).own HO3.out (fun k hk h => by simp [Value.ownBlock] at hk; have h : k = q6 := h; omega)) (by omega)
                · refine ⟨?_, ?_, ?_, ?_, ?_, ?_⟩ <;> omega
                · exact ⟨by omega, by omega⟩
        · go_simp
          obtain ⟨x3, q6, hx, hq, HB3, HO6, HC3, z3a, z3b, z3c⟩ := mk_step HB2.out (.cells #[.slice none 0 0] 22)
          rw [hx, hq]
          clear hx hq
          refine hK.out _ _ (HH.out _ HB3.out) (fun hHeld => ?_)
          clear hK K
          try simp only [Act.put, List.setIfInBounds_toArray, List.set_cons_zero, List.set_cons_succ]
          refine rt 7 hHeld ?_
          refine wpAnyH_ready (rs := [5, 8]) (by kernel_rfl) (by simp) (all_cons rfl rfl (fun K hK => ?_) (all_cons rfl rfl (fun K hK => ?_) (AllReadyH.nil)))
          · go_simp
            obtain ⟨x4, q5, hx, hq, HB4, HO5, HC4, z4a, z4b, z4c⟩ := mk_step HB3.out (.cells (vecL (fun _ => .int .i64 0) n).toArray 3)
            rw [hx, hq]
            clear hx hq
            refine hK.out _ _ (HH.out _ HB4.out) (fun hHeld => ?_)
            clear hK K
            try simp only [Act.put, List.setIfInBounds_toArray, List.set_cons_zero, List.set_cons_succ]
            refine wpAnyH_ready (rs := [8]) (by kernel_rfl) (by simp) (all_cons rfl rfl (fun K hK => ?_) (AllReadyH.nil))
            · have hcell := cell_of_row _ q6 0 _ _ _ ((HC4.out (fun _ => False)).heap HO6.out (fun h => h))
              have hfree := frozen_of_row _ q6 0 _ _ ((HC4.out (fun _ => False)).heap HO6.out (fun h => h))
              obtain ⟨x5, hx, HB5, HS, HC5, z5a⟩ := st_step HB4.out ((HC4.out (fun _ => False)).heap HO6.out (fun h => h)) (.slice (some ⟨q3, 0, none⟩) n cp) (by omega)
              go_simp
              clear hx hcell hfree
              refine hK.out _ _ (HH.out _ HB5.out) (fun hHeld => ?_)
              clear hK K
              try simp only [Act.put, List.setIfInBounds_toArray, List.set_cons_zero, List.set_cons_succ]
              refine rt 9 hHeld ?_
              refine reg_done (by kernel_rfl) ?_ _
              go_wp2_with fail
              go_meet
              case rel =>
                refine ⟨q6, q1, q5, q3, n, n, cp, rfl, rfl, rfl, ?_, HB5.out⟩
                refine ⟨HN2.out _ HB5.out, (Chg.refl (S := (fun _ => False))).heap HS.out (fun h => h), ?_, ?_, ?_, ?_, ?_⟩
                · exact own_vecG (((((HC2.out (fun b => b = q6)).trans (HC3.out (fun b => b = q6)) (fun b hb => Or.inl hb)).trans (HC4.out (fun b => b = q6)) (fun b hb => Or.inl hb)).trans HC5.out (fun b hb => Or.inl hb)).heap HO1.out (fun h => by have h : q1 = q6 := h; omega)) (by omega) (by unfold maxLen; omega)
                · exact own_vecG (HC5.out.heap HO5.out (fun h => by have h : q5 = q6 := h; omega)) (by omega) (by unfold maxLen; omega)
                · exact own_mono ((((HC3.out (fun b => b = q6)).trans (HC4.out (fun b => b = q6)) (fun b hb => Or.inl hb)).trans HC5.out (fun b hb => Or.inl hb)).own HO3.out (fun k hk h => by simp [Value.ownBlock] at hk; have h : k = q6 := h; omega)) (by omega)
                · refine ⟨?_, ?_, ?_, ?_, ?_, ?_⟩ <;> omega
                · exact ⟨by omega, by omega⟩
          · have hcell := cell_of_row _ q6 0 _ _ _ ((Chg.refl (S := (fun _ => False))).heap HO6.out (fun h => h))
            have hfree := frozen_of_row _ q6 0 _ _ ((Chg.refl (S := (fun _ => False))).heap HO6.out (fun h => h))
            obtain ⟨x4, hx, HB4, HS, HC4, z4a⟩ := st_step HB3.out ((Chg.refl (S := (fun _ => False))).heap HO6.out (fun h => h)) (.slice (some ⟨q3, 0, none⟩) n cp) (by omega)
            go_simp
            clear hx hcell hfree
            refine hK.out _ _ (HH.out _ HB4.out) (fun hHeld => ?_)
            clear hK K
            try simp only [Act.put, List.setIfInBounds_toArray, List.set_cons_zero, List.set_cons_succ]
            refine wpAnyH_ready (rs := [5]) (by kernel_rfl) (by simp) (all_cons rfl rfl (fun K hK => ?_) (AllReadyH.nil))
            · go_simp
              obtain ⟨x5, q5, hx, hq, HB5, HO5, HC5, z5a, z5b, z5c⟩ := mk_step HB4.out (.cells (vecL (fun _ => .int .i64 0) n).toArray 3)
              rw [hx, hq]
              clear hx hq
              refine hK.out _ _ (HH.out _ HB5.out) (fun hHeld => ?_)
              clear hK K
              try simp only [Act.put, List.setIfInBounds_toArray, List.set_cons_zero, List.set_cons_succ]
              refine rt 9 hHeld ?_
              refine reg_done (by kernel_rfl) ?_ _
              go_wp2_with fail
              go_meet
              case rel =>
                refine ⟨q6, q1, q5, q3, n, n, cp, rfl, rfl, rfl, ?_, HB5.out⟩
                refine ⟨HN2.out _ HB5.out, (HC5.out (fun _ => False)).heap HS.out (fun h => h), ?_, ?_, ?_, ?_, ?_⟩
                · exact own_vecG (((((HC2.out (fun b => b = q6)).trans (HC3.out (fun b => b = q6)) (fun b hb => Or.inl hb)).trans HC4.out (fun b hb => Or.inl hb)).trans (HC5.out (fun b => b = q6)) (fun b hb => Or.inl hb)).heap HO1.out (fun h => by have h : q1 = q6 := h; omega)) (by omega) (by unfold maxLen; omega)
                · exact own_vecG ((Chg.refl (S := (fun b => b = q6))).heap HO5.out (fun h => by have h : q5 = q6 := h; omega)) (by omega) (by unfold maxLen; omega)
                · exact own_mono ((((HC3.out (fun b => b = q6)).trans HC4.out (fun b hb => Or.inl hb)).trans (HC5.out (fun b => b = q6)) (fun b hb => Or.inl hb)).own HO3.out (fun k hk h => by simp [Value.ownBlock] at hk; have h : k = q6 := h; omega)) (by omega)
                · refine ⟨?_, ?_, ?_, ?_, ?_, ?_⟩ <;> omega
                · exact ⟨by omega, by omega⟩
      · go_simp
        obtain ⟨x2, q5, hx, hq, HB2, HO5, HC2, z2a, z2b, z2c⟩ := mk_step HB1.out (.cells (vecL (fun _ => .int .i64 0) n).toArray 3)
        rw [hx, hq]
        clear hx hq
        refine hK.out _ _ (HH.out _ HB2.out) (fun hHeld => ?_)
        clear hK K
        try simp only [Act.put, List.setIfInBounds_toArray, List.set_cons_zero, List.set_cons_succ]
        refine wpAnyH_ready (rs := [3, 6]) (by kernel_rfl) (by simp) (all_cons rfl rfl (fun K hK => ?_) (all_cons rfl rfl (fun K hK => ?_) (AllReadyH.nil)))
        · go_simp
          refine (HCL.out _ HB2.out).mono ?_
          rintro e x3 ⟨q3, cp, rfl, hown, hbC⟩
          obtain ⟨HB3, HO3, HC3, z3a, z3b, z3c⟩ := cl_step HB2.out hown hbC
          clear hown hbC
          go_wp2_with fail
          refine hK.out _ _ (HH.out _ HB3.out) (fun hHeld => ?_)
          clear hK K
          try simp only [Act.put, List.setIfInBounds_toArray, List.set_cons_zero, List.set_cons_succ]
          refine wpAnyH_ready (rs := [6]) (by kernel_rfl) (by simp) (all_cons rfl rfl (fun K hK => ?_) (AllReadyH.nil))
          · go_simp
            obtain ⟨x4, q6, hx, hq, HB4, HO6, HC4, z4a, z4b, z4c⟩ := mk_step HB3.out (.cells #[.slice none 0 0] 22)
            rw [hx, hq]
            clear hx hq
            refine hK.out _ _ (HH.out _ HB4.out) (fun hHeld => ?_)
            clear hK K
            try simp only [Act.put, List.setIfInBounds_toArray, List.set_cons_zero, List.set_cons_succ]
            refine rt 7 hHeld ?_
            refine wpAnyH_ready (rs := [8]) (by kernel_rfl) (by simp) (all_cons rfl rfl (fun K hK => ?_) (AllReadyH.nil))
            · have hcell := cell_of_row _ q6 0 _ _ _ ((Chg.refl (S := (fun _ => False))).heap HO6.out (fun h => h))
              have hfree := frozen_of_row _ q6 0 _ _ ((Chg.refl (S := (fun _ => False))).heap HO6.out (fun h => h))
              obtain ⟨x5, hx, HB5, HS, HC5, z5a⟩ := st_step HB4.out ((Chg.refl (S := (fun _ => False))).heap HO6.out (fun h => h)) (.slice (some ⟨q3, 0, none⟩) n cp) (by omega)
              go_simp
              clear hx hcell hfree
              refine hK.out _ _ (HH.out _ HB5.out) (fun hHeld => ?_)
              clear hK K
              try simp only [Act.put, List.setIfInBounds_toArray, List.set_cons_zero, List.set_cons_succ]
              refine rt 9 hHeld ?_
              refine reg_done (by kernel_rfl) ?_ _
              go_wp2_with fail
              go_meet
              case rel =>
                refine ⟨q6, q1, q5, q3, n, n, cp, rfl, rfl, rfl, ?_, HB5.out⟩
                refine ⟨HN2.out _ HB5.out, (Chg.refl (S := (fun _ => False))).heap HS.out (fun h => h), ?_, ?_, ?_, ?_, ?_⟩
                · exact own_vecG (((((HC2.out (fun b => b = q6)).trans (HC3.out (fun b => b = q6)) (fun b hb => Or.inl hb)).trans (HC4.out (fun b => b = q6)) (fun b hb => Or.inl hb)).trans HC5.out (fun b hb => Or.inl hb)).heap HO1.out (fun h => by have h : q1 = q6 := h; omega)) (by omega) (by unfold maxLen; omega)
                · exact own_vecG ((((HC3.out (fun b => b = q6)).trans (HC4.out (fun b => b = q6)) (fun b hb => Or.inl hb)).trans HC5.out (fun b hb => Or.inl hb)).heap HO5.out (fun h => by have h : q5 = q6 := h; omega)) (by omega) (by unfold maxLen; omega)
                · exact own_mono (((HC4.out (fun b => b = q6)).trans HC5.out (fun b hb => Or.inl hb)).own HO3.out (fun k hk h => by simp [Value.ownBlock] at hk; have h : k = q6 := h; omega)) (by omega)
                · refine ⟨?_, ?_, ?_, ?_, ?_, ?_⟩ <;> omega
                · exact ⟨by omega, by omega⟩
        · go_simp
          obtain ⟨x3, q6, hx, hq, HB3, HO6, HC3, z3a, z3b, z3c⟩ := mk_step HB2.out (.cells #[.slice none 0 0] 22)
          rw [hx, hq]
          clear hx hq
          refine hK.out _ _ (HH.out _ HB3.out) (fun hHeld => ?_)
          clear hK K
          try simp only [Act.put, List.setIfInBounds_toArray, List.set_cons_zero, List.set_cons_succ]
          refine wpAnyH_ready (rs := [3]) (by kernel_rfl) (by simp) (all_cons rfl rfl (fun K hK => ?_) (AllReadyH.nil))
          · go_simp
            refine (HCL.out _ HB3.out).mono ?_
            rintro e x4 ⟨q3, cp, rfl, hown, hbC⟩
            obtain ⟨HB4, HO3, HC4, z4a, z4b, z4c⟩ := cl_step HB3.out hown hbC
            clear hown hbC
            go_wp2_with fail
            refine hK.out _ _ (HH.out _ HB4.out) (fun hHeld => ?_)
            clear hK K
            try simp only [Act.put, List.setIfInBounds_toArray, List.set_cons_zero, List.set_cons_succ]
            refine rt 7 hHeld ?_
            refine wpAnyH_ready (rs := [8]) (by kernel_rfl) (by simp) (all_cons rfl rfl (fun K hK => ?_) (AllReadyH.nil))
            · have hcell := cell_of_row _ q6 0 _ _ _ ((HC4.out (fun _ => False)).heap HO6.out (fun h => h))
              have hfree := frozen_of_row _ q6 0 _ _ ((HC4.out (fun _ => False)).heap HO6.out (fun h => h))
              obtain ⟨x5, hx, HB5, HS, HC5, z5a⟩ := st_step HB4.out ((HC4.out (fun _ => False)).heap HO6.out (fun h => h)) (.slice (some ⟨q3, 0, none⟩) n cp) (by omega)
              go_simp
              clear hx hcell hfree
              refine hK.out _ _ (HH.out _ HB5.out) (fun hHeld => ?_)
              clear hK K
              try simp only [Act.put, List.setIfInBounds_toArray, List.set_cons_zero, List.set_cons_succ]
              refine rt 9 hHeld ?_
              refine reg_done (by kernel_rfl) ?_ _
              go_wp2_with fail
              go_meet
              case rel =>
                refine ⟨q6, q1, q5, q3, n, n, cp, rfl, rfl, rfl, ?_, HB5.out⟩
                refine ⟨HN2.out _ HB5.out, (Chg.refl (S := (fun _ => False))).heap HS.out (fun h => h), ?_, ?_, ?_, ?_, ?_⟩
                · exact own_vecG (((((HC2.out (fun b => b = q6)).trans (HC3.out (fun b => b = q6)) (fun b hb => Or.inl hb)).trans (HC4.out (fun b => b = q6)) (fun b hb => Or.inl hb)).trans HC5.out (fun b hb => Or.inl hb)).heap HO1.out (fun h => by have h : q1 = q6 := h; omega)) (by omega) (by unfold maxLen; omega)
                · exact own_vecG ((((HC3.out (fun b => b = q6)).trans (HC4.out (fun b => b = q6)) (fun b hb => Or.inl hb)).trans HC5.out (fun b hb => Or.inl hb)).heap HO5.out (fun h => by have h : q5 = q6 := h; omega)) (by omega) (by unfold maxLen; omega)
                · exact own_mono (HC5.out.own HO3.out (fun k hk h => by simp [Value.ownBlock] at hk; have h : k = q6 := h; omega)) (by omega)
                · refine ⟨?_, ?_, ?_, ?_, ?_, ?_⟩ <;> omega
                · exact ⟨by omega, by omega⟩
      · go_simp
        obtain ⟨x2, q6, hx, hq, HB2, HO6, HC2, z2a, z2b, z2c⟩ := mk_step HB1.out (.cells #[.slice none 0 0] 22)
        rw [hx, hq]
        clear hx hq
        refine hK.out _ _ (HH.out _ HB2.out) (fun hHeld => ?_)
        clear hK K
        try simp only [Act.put, List.setIfInBounds_toArray, List.set_cons_zero, List.set_cons_succ]
        refine wpAnyH_ready (rs := [3, 5]) (by kernel_rfl) (by simp) (all_cons rfl rfl (fun K hK => ?_) (all_cons rfl rfl (fun K hK => ?_) (AllReadyH.nil)))
        · go_simp
          refine (HCL.out _ HB2.out).mono ?_
          rintro e x3 ⟨q3, cp, rfl, hown, hbC⟩
          obtain ⟨HB3, HO3, HC3, z3a, z3b, z3c⟩ := cl_step HB2.out hown hbC
          clear hown hbC
          go_wp2_with fail
          refine hK.out _ _ (HH.out _ HB3.out) (fun hHeld => ?_)
          clear hK K
          try simp only [Act.put, List.setIfInBounds_toArray, List.set_cons_zero, List.set_cons_succ]
          refine rt 7 hHeld ?_
          refine wpAnyH_ready (rs := [5, 8]) (by kernel_rfl) (by simp) (all_cons rfl rfl (fun K hK => ?_) (all_cons rfl rfl (fun K hK => ?_) (AllReadyH.nil)))
          · go_simp
            obtain ⟨x4, q5, hx, hq, HB4, HO5, HC4, z4a, z4b, z4c⟩ := mk_step HB3.out (.cells (vecL (fun _ => .int .i64 0) n).toArray 3)
            rw [hx, hq]
            clear hx hq
            refine hK.out _ _ (HH.out _ HB4.out) (fun hHeld => ?_)
            clear hK K
            try simp only [Act.put, List.setIfInBounds_toArray, List.set_cons_zero, List.set_cons_succ]
            refine wpAnyH_ready (rs := [8]) (by kernel_rfl) (by simp) (all_cons rfl rfl (fun K hK => ?_) (AllReadyH.nil))
            · have hcell := cell_of_row _ q6 0 _ _ _ (((HC3.out (fun _ => False)).trans (HC4.out (fun _ => False)) (fun b hb => Or.inl hb)).heap HO6.out (fun h => h))
              have hfree := frozen_of_row _ q6 0 _ _ (((HC3.out (fun _ => False)).trans (HC4.out (fun _ => False)) (fun b hb => Or.inl hb)).heap HO6.out (fun h => h))
              obtain ⟨x5, hx, HB5, HS, HC5, z5a⟩ := st_step HB4.out (((HC3.out (fun _ => False)).trans (HC4.out (fun _ => False)) (fun b hb => Or.inl hb)).heap HO6.out (fun h => h)) (.slice (some ⟨q3, 0, none⟩) n cp) (by omega)
              go_simp
              clear hx hcell hfree
              refine hK.out _ _ (HH.out _ HB5.out) (fun hHeld => ?_)
              clear hK K
              try simp only [Act.put, List.setIfInBounds_toArray, List.set_cons_zero, List.set_cons_succ]
              refine rt 9 hHeld ?_
              refine reg_done (by kernel_rfl) ?_ _
              go_wp2_with fail
              go_meet
              case rel =>
                refine ⟨q6, q1, q5, q3, n, n, cp, rfl, rfl, rfl, ?_, HB5.out⟩
                refine ⟨HN2.out _ HB5.out, (Chg.refl (S := (fun _ => False))).heap HS.out (fun h => h), ?_, ?_, ?_, ?_, ?_⟩
                · exact own_vecG (((((HC2.out (fun b => b = q6)).trans (HC3.out (fun b => b = q6)) (fun b hb => Or.inl hb)).trans (HC4.out (fun b => b = q6)) (fun b hb => Or.inl hb)).trans HC5.out (fun b hb => Or.inl hb)).heap HO1.out (fun h => by have h : q1 = q6 := h; omega)) (by omega) (by unfold maxLen; omega)
                · exact own_vecG (HC5.out.heap HO5.out (fun h => by have h : q5 = q6 := h; omega)) (by omega) (by unfold maxLen; omega)
                · exact own_mono (((HC4.out (fun b => b = q6)).trans HC5.out (fun b hb => Or.inl hb)).own HO3.out (fun k hk h => by simp [Value.ownBlock] at hk; have h : k = q6 := h; omega)) (by omega)
                · refine ⟨?_, ?_, ?_, ?_, ?_, ?_⟩ <;> omega
                · exact ⟨by omega, by omega⟩
          · have hcell := cell_of_row _ q6 0 _ _ _ ((HC3.out (fun _ => False)).heap HO6.out (fun h => h))
            have hfree := frozen_of_row _ q6 0 _ _ ((HC3.out (fun _ => False)).heap HO6.out (fun h => h))
            obtain ⟨x4, hx, HB4, HS, HC4, z4a⟩ := st_step HB3.out ((HC3.out (fun _ => False)).heap HO6.out (fun h => h)) (.slice (some ⟨q3, 0, none⟩) n cp) (by omega)
            go_simp
            clear hx hcell hfree
            refine hK.out _ _ (HH.out _ HB4.out) (fun hHeld => ?_)
            clear hK K
            try simp only [Act.put, List.setIfInBounds_toArray, List.set_cons_zero, List.set_cons_succ]
            refine wpAnyH_ready (rs := [5]) (by kernel_rfl) (by simp) (all_cons rfl rfl (fun K hK => ?_) (AllReadyH.nil))
            · go_simp
              obtain ⟨x5, q5, hx, hq, HB5, HO5, HC5, z5a, z5b, z5c⟩ := mk_step HB4.out (.cells (vecL (fun _ => .int .i64 0) n).toArray 3)
              rw [hx, hq]
              clear hx hq
              refine hK.out _ _ (HH.out _ HB5.out) (fun hHeld => ?_)
              clear hK K
              try simp only [Act.put, List.setIfInBounds_toArray, List.set_cons_zero, List.set_cons_succ]
              refine rt 9 hHeld ?_
              refine reg_done (by kernel_rfl) ?_ _
              go_wp2_with fail
              go_meet
              case rel =>
                refine ⟨q6, q1, q5, q3, n, n, cp, rfl, rfl, rfl, ?_, HB5.out⟩
                refine ⟨HN2.out _ HB5.out, (HC5.out (fun _ => False)).heap HS.out (fun h => h), ?_, ?_, ?_, ?_, ?_⟩
                · exact own_vecG (((((HC2.out (fun b => b = q6)).trans (HC3.out (fun b => b = q6)) (fun b hb => Or.inl hb)).trans HC4.out (fun b hb => Or.inl hb)).trans (HC5.out (fun b => b = q6)) (fun b hb => Or.inl hb)).heap HO1.out (fun h => by have h : q1 = q6 := h; omega)) (by omega) (by unfold maxLen; omega)
                · exact own_vecG ((Chg.refl (S := (fun b => b = q6))).heap HO5.out (fun h => by have h : q5 = q6 := h; omega)) (by omega) (by unfold maxLen; omega)
                · exact own_mono ((HC4.out.trans (HC5.out (fun b => b = q6)) (fun b hb => Or.inl hb)).own HO3.out (fun k hk h => by simp [Value.ownBlock] at hk; have h : k = q6 := h; omega)) (by omega)
                · refine ⟨?_, ?_, ?_, ?_, ?_, ?_⟩ <;> omega
                · exact ⟨by omega, by omega⟩
        · go_simp
          obtain ⟨x3, q5, hx, hq, HB3, HO5, HC3, z3a, z3b, z3c⟩ := mk_step HB2.out (.cells (vecL (fun _ => .int .i64 0) n).toArray 3)
          rw [hx, hq]
          clear hx hq
          refine hK.out _ _ (HH.out _ HB3.out) (fun hHeld => ?_)
          clear hK K
          try simp only [Act.put, List.setIfInBounds_toArray, List.set_cons_zero, List.set_cons_succ]
          refine wpAnyH_ready (rs := [3]) (by kernel_rfl) (by simp) (all_cons rfl rfl (fun K hK => ?_) (AllReadyH.nil))
          · go_simp
            refine (HCL.out _ HB3.out).mono ?_
            rintro e x4 ⟨q3, cp, rfl, hown, hbC⟩
            obtain ⟨HB4, HO3, HC4, z4a, z4b, z4c⟩ := cl_step HB3.out hown hbC
            clear hown hbC
            go_wp2_with fail
            refine hK.out _ _ (HH.out _ HB4.out) (fun hHeld => ?_)
            clear hK K
            try simp only [Act.put, List.setIfInBounds_toArray, List.set_cons_zero, List.set_cons_succ]
            refine rt 7 hHeld ?_
            refine wpAnyH_ready (rs := [8]) (by kernel_rfl) (by simp) (all_cons rfl rfl (fun K hK => ?_) (AllReadyH.nil))
            · have hcell := cell_of_row _ q6 0 _ _ _ (((HC3.out (fun _ => False)).trans (HC4.out (fun _ => False)) (fun b hb => Or.inl hb)).heap HO6.out (fun h => h))
              have hfree := frozen_of_row _ q6 0 _ _ (((HC3.out (fun _ => False)).trans (HC4.out (fun _ => False)) (fun b hb => Or.inl hb)).heap HO6.out (fun h => h))
              obtain ⟨x5, hx, HB5, HS, HC5, z5a⟩ := st_step HB4.out (((HC3.out (fun _ => False)).trans (HC4.out (fun _ => False)) (fun b hb => Or.inl hb)).heap HO6.out (fun h => h)) (.slice (some ⟨q3, 0, none⟩) n cp) (by omega)
              go_simp
              clear hx hcell hfree
              refine hK.out _ _ (HH.out _ HB5.out) (fun hHeld => ?_)
              clear hK K
              try simp only [Act.put, List.setIfInBounds_toArray, List.set_cons_zero, List.set_cons_succ]
              refine rt 9 hHeld ?_
              refine reg_done (by kernel_rfl) ?_ _
              go_wp2_with fail
              go_meet
              case rel =>
                refine ⟨q6, q1, q5, q3, n, n, cp, rfl, rfl, rfl, ?_, HB5.out⟩
                refine ⟨HN2.out _ HB5.out, (Chg.refl (S := (fun _ => False))).heap HS.out (fun h => h), ?_, ?_, ?_, ?_, ?_⟩
                · exact own_vecG (((((HC2.out (fun b => b = q6)).trans (HC3.out (fun b => b = q6)) (fun b hb => Or.inl hb)).trans (HC4.out (fun b => b = q6)) (fun b hb => Or.inl hb)).trans HC5.out (fun b hb => Or.inl hb)).heap HO1.out (fun h => by have h : q1 = q6 := h; omega)) (by omega) (by unfold maxLen; omega)
                · exact own_vecG (((HC4.out (fun b => b = q6)).trans HC5.out (fun b hb => Or.inl hb)).heap HO5.out (fun h => by have h : q5 = q6 := h; omega)) (by omega) (by unfold maxLen; omega)
                · exact own_mono (HC5.out.own HO3.out (fun k hk h => by simp [Value.ownBlock] at hk; have h : k = q6 := h; omega)) (by omega)
                · refine ⟨?_, ?_, ?_, ?_, ?_, ?_⟩ <;> omega
                · exact ⟨by omega, by omega⟩
    · go_simp
      refine (HCL.out _ HB0.out).mono ?_
      rintro e x1 ⟨q3, cp, rfl, hown, hbC⟩
      obtain ⟨HB1, HO3, HC1, z1a, z1b, z1c⟩ := cl_step HB0.out hown hbC
      clear hown hbC
      go_wp2_with fail
      refine hK.out _ _ (HH.out _ HB1.out) (fun hHeld => ?_)
      clear hK K
      try simp only [Act.put, List.setIfInBounds_toArray, List.set_cons_zero, List.set_cons_succ]
      refine wpAnyH_ready (rs := [1, 5, 6]) (by kernel_rfl) (by simp) (all_cons rfl rfl (fun K hK => ?_) (all_cons rfl rfl (fun K hK => ?_) (all_cons rfl rfl (fun K hK => ?_) (AllReadyH.nil))))
      · go_simp
        obtain ⟨x2, q1, hx, hq, HB2, HO1, HC2, z2a, z2b, z2c⟩ := mk_step HB1.out (.cells (vecL (fun _ => .int .i64 0) n).toArray 3)
        rw [hx, hq]
        clear hx hq
        refine hK.out _ _ (HH.out _ HB2.out) (fun hHeld => ?_)
        clear hK K
        try simp only [Act.put, List.setIfInBounds_toArray, List.set_cons_zero, List.set_cons_succ]
        refine wpAnyH_ready (rs := [5, 6]) (by kernel_rfl) (by simp) (all_cons rfl rfl (fun K hK => ?_) (all_cons rfl rfl (fun K hK => ?_) (AllReadyH.nil)))
        · go_simp
          obtain ⟨x3, q5, hx, hq, HB3, HO5, HC3, z3a, z3b, z3c⟩ := mk_step HB2.out (.cells (vecL (fun _ => .int .i64 0) n).toArray 3)
          rw [hx, hq]
          clear hx hq
          refine hK.out _ _ (HH.out _ HB3.out) (fun hHeld => ?_)
          clear hK K
          try simp only [Act.put, List.setIfInBounds_toArray, List.set_cons_zero, List.set_cons_succ]
          refine wpAnyH_ready (rs := [6]) (by kernel_rfl) (by simp) (all_cons rfl rfl (fun K hK => ?_) (AllReadyH.nil))
          · go_simp
            obtain ⟨x4, q6, hx, hq, HB4, HO6, HC4, z4a, z4b, z4c⟩ := mk_step HB3.out (.cells #[.slice none 0 0] 22)
            rw [hx, hq]
            clear hx hq
            refine hK.out _ _ (HH.out _ HB4.out) (fun hHeld => ?_)
            clear hK K
            try simp only [Act.put, List.setIfInBounds_toArray, List.set_cons_zero, List.set_cons_succ]
            refine rt 7 hHeld ?_
            refine wpAnyH_ready (rs := [8]) (by kernel_rfl) (by simp) (all_cons rfl rfl (fun K hK => ?_) (AllReadyH.nil))
            · have hcell := cell_of_row _ q6 0 _ _ _ ((Chg.refl (S := (fun _ => False))).heap HO6.out (fun h => h))
              have hfree := frozen_of_row _ q6 0 _ _ ((Chg.refl (S := (fun _ => False))).heap HO6.out (fun h => h))
              obtain ⟨x5, hx, HB5, HS, HC5, z5a⟩ := st_step HB4.out ((Chg.refl (S := (fun _ => False))).heap HO6.out (fun h => h)) (.slice (some ⟨q3, 0, none⟩) n cp) (by omega)
              go_simp
              clear hx hcell hfree
              refine hK.out _ _ (HH.out _ HB5.out) (fun hHeld => ?_)
              clear hK K
              try simp only [Act.put, List.setIfInBounds_toArray, List.set_cons_zero, List.set_cons_succ]
              refine rt 9 hHeld ?_
              refine reg_done (by kernel_rfl) ?_ _
              go_wp2_with fail
              go_meet
              case rel =>
                refine ⟨q6, q1, q5, q3, n, n, cp, rfl, rfl, rfl, ?_, HB5.out⟩
                refine ⟨HN2.out _ HB5.out, (Chg.refl (S := (fun _ => False))).heap HS.out (fun h => h), ?_, ?_, ?_, ?_, ?_⟩
                · exact own_vecG ((((HC3.out (fun b => b = q6)).trans (HC4.out (fun b => b = q6)) (fun b hb => Or.inl hb)).trans HC5.out (fun b hb => Or.inl hb)).heap HO1.out (fun h => by have h : q1 = q6 := h; omega)) (by omega) (by unfold maxLen; omega)
                · exact own_vecG (((HC4.out (fun b => b = q6)).trans HC5.out (fun b hb => Or.inl hb)).heap HO5.out (fun h => by have h : q5 = q6 := h; omega)) (by omega) (by unfold maxLen; omega)
                · exact own_mono (((((HC2.out (fun b => b = q6)).trans (HC3.out (fun b => b = q6)) (fun b hb => Or.inl hb)).trans (HC4.out (fun b => b = q6)) (fun b hb => Or.inl hb)).trans HC5.out (fun b hb => Or.inl hb)).own HO3.out (fun k hk h => by simp [Value.ownBlock] at hk; have h : k = q6 := h; omega)) (by omega)
                · refine ⟨?_, ?_, ?_, ?_, ?_, ?_⟩ <;> omega
                · exact ⟨by omega, by omega⟩
        · go_simp
          obtain ⟨x3, q6, hx, hq, HB3, HO6, HC3, z3a, z3b, z3c⟩ := mk_step HB2.out (.cells #[.slice none 0 0] 22)
          rw [hx, hq]
          clear hx hq
          refine hK.out _ _ (HH.out _ HB3.out) (fun hHeld => ?_)
          clear hK K
          try simp only [Act.put, List.setIfInBounds_toArray, List.set_cons_zero, List.set_cons_succ]
          refine rt 7 hHeld ?_
          refine wpAnyH_ready (rs := [5, 8]) (by kernel_rfl) (by simp) (all_cons rfl rfl (fun K hK => ?_) (all_cons rfl rfl (fun K hK => ?_) (AllReadyH.nil)))
          · go_simp
            obtain ⟨x4, q5, hx, hq, HB4, HO5, HC4, z4a, z4b, z4c⟩ := mk_step HB3.out (.cells (vecL (fun _ => .int .i64 0) n).toArray 3)
            rw [hx, hq]
            clear hx hq
            refine hK.out _ _ (HH.out _ HB4.out) (fun hHeld => ?_)
            clear hK K
            try simp only [Act.put, List.setIfInBounds_toArray, List.set_cons_zero, List.set_cons_succ]
            refine wpAnyH_ready (rs := [8]) (by kernel_rfl) (by simp) (all_cons rfl rfl (fun K hK => ?_) (AllReadyH.nil))
            · have hcell := cell_of_row _ q6 0 _ _ _ ((HC4.out (fun _ => False)).heap HO6.out (fun h => h))
              have hfree := frozen_of_row _ q6 0 _ _ ((HC4.out (fun _ => False)).heap HO6.out (fun h => h))
              obtain ⟨x5, hx, HB5, HS, HC5, z5a⟩ := st_step HB4.out ((HC4.out (fun _ => False)).heap HO6.out (fun h => h)) (.slice (some ⟨q3, 0, none⟩) n cp) (by omega)
              go_simp
              clear hx hcell hfree
              refine hK.out _ _ (HH.out _ HB5.out) (fun hHeld => ?_)
              clear hK K
              try simp only [Act.put, List.setIfInBounds_toArray, List.set_cons_zero, List.set_cons_succ]
              refine rt 9 hHeld ?_
              refine reg_done (by kernel_rfl) ?_ _
              go_wp2_with fail
              go_meet
              case rel =>
                refine ⟨q6, q1, q5, q3, n, n, cp, rfl, rfl, rfl, ?_, HB5.out⟩
                refine ⟨HN2.out _ HB5.out, (Chg.refl (S := (fun _ => False))).heap HS.out (fun h => h), ?_, ?_, ?_, ?_, ?_⟩
                · exact own_vecG ((((HC3.out (fun b => b = q6)).trans (HC4.out (fun b => b = q6)) (fun b hb => Or.inl hb)).trans HC5.out (fun b hb => Or.inl hb)).heap HO1.out (fun h => by have h : q1 = q6 := h; omega)) (by omega) (by unfold maxLen; omega)
                · exact own_vecG (HC5.out.heap HO5.out (fun h => by have h : q5 = q6 := h; omega)) (by omega) (by unfold maxLen; omega)
                · exact own_mono (((((HC2.out (fun b => b = q6)).trans (HC3.out (fun b => b = q6)) (fun b hb => Or.inl hb)).trans (HC4.out (fun b => b = q6)) (fun b hb => Or.inl hb)).trans HC5.out (fun b hb => Or.inl hb)).own HO3.out (fun k hk h => by simp [Value.ownBlock] at hk; have h : k = q6 := h; omega)) (by omega)
                · refine ⟨?_, ?_, ?_, ?_, ?_, ?_⟩ <;> omega
                · exact ⟨by omega, by omega⟩
          · have hcell := cell_of_row _ q6 0 _ _ _ ((Chg.refl (S := (fun _ => False))).heap HO6.out (fun h => h))
            have hfree := frozen_of_row _ q6 0 _ _ ((Chg.refl (S := (fun _ => False))).heap HO6.out (fun h => h))
            obtain ⟨x4, hx, HB4, HS, HC4, z4a⟩ := st_step HB3.out ((Chg.refl (S := (fun _ => False))).heap HO6.out (fun h => h)) (.slice (some ⟨q3, 0, none⟩) n cp) (by omega)
            go_simp
            clear hx hcell hfree
            refine hK.out _ _ (HH.out _ HB4.out) (fun hHeld => ?_)
            clear hK K
            try simp only [Act.put, List.setIfInBounds_toArray, List.set_cons_zero, List.set_cons_succ]
            refine wpAnyH_ready (rs := [5]) (by kernel_rfl) (by simp) (all_cons rfl rfl (fun K hK => ?_) (AllReadyH.nil))
            · go_simp
              obtain ⟨x5, q5, hx, hq, HB5, HO5, HC5, z5a, z5b, z5c⟩ := mk_step HB4.out (.cells (vecL (fun _ => .int .i64 0) n).toArray 3)
              rw [hx, hq]
              clear hx hq
              refine hK.out _ _ (HH.out _ HB5.out) (fun hHeld => ?_)
              clear hK K
              try simp only [Act.put, List.setIfInBounds_toArray, List.set_cons_zero, List.set_cons_succ]
              refine rt 9 hHeld ?_
              refine reg_done (by kernel_rfl) ?_ _
              go_wp2_with fail
              go_meet
              case rel =>
                refine ⟨q6, q1, q5, q3, n, n, cp, rfl, rfl, rfl, ?_, HB5.out⟩
                refine ⟨HN2.out _ HB5.out, (HC5.out (fun _ => False)).heap HS.out (fun h => h), ?_, ?_, ?_, ?_, ?_⟩
                · exact own_vecG ((((HC3.out (fun b => b = q6)).trans HC4.out (fun b hb => Or.inl hb)).trans (HC5.out (fun b => b = q6)) (fun b hb => Or.inl hb)).heap HO1.out (fun h => by have h : q1 = q6 := h; omega)) (by omega) (by unfold maxLen; omega)
                · exact own_vecG ((Chg.refl (S := (fun b => b = q6))).heap HO5.out (fun h => by have h : q5 = q6 := h; omega)) (by omega) (by unfold maxLen; omega)
                · exact own_mono (((((HC2.out (fun b => b = q6)).trans (HC3.out (fun b => b = q6)) (fun b hb => Or.inl hb)).trans HC4.out (fun b hb => Or.inl hb)).trans (HC5.out (fun b => b = q6)) (fun b hb => Or.inl hb)).own HO3.out (fun k hk h => by simp [Value.ownBlock] at hk; have h : k = q6 := h; omega)) (by omega)
                · refine ⟨?_, ?_, ?_, ?_, ?_, ?_⟩ <;> omega
                · exact ⟨by omega, by omega⟩
      · go_simp
        obtain ⟨x2, q5, hx, hq, HB2, HO5, HC2, z2a, z2b, z2c⟩ := mk_step HB1.out (.cells (vecL (fun _ => .int .i64 0) n).toArray 3)
        rw [hx, hq]
        clear hx hq
        refine hK.out _ _ (HH.out _ HB2.out) (fun hHeld => ?_)
        clear hK K
        try simp only [Act.put, List.setIfInBounds_toArray, List.set_cons_zero, List.set_cons_succ]
        refine wpAnyH_ready (rs := [1, 6]) (by kernel_rfl) (by simp) (all_cons rfl rfl (fun K hK => ?_) (all_cons rfl rfl (fun K hK => ?_) (AllReadyH.nil)))
        · go_simp
          obtain ⟨x3, q1, hx, hq, HB3, HO1, HC3, z3a, z3b, z3c⟩ := mk_step HB2.out (.cells (vecL (fun _ => .int .i64 0) n).toArray 3)
          rw [hx, hq]
          clear hx hq
          refine hK.out _ _ (HH.out _ HB3.out) (fun hHeld => ?_)
          clear hK K
          try simp only [Act.put, List.setIfInBounds_toArray, List.set_cons_zero, List.set_cons_succ]
          refine wpAnyH_ready (rs := [6]) (by kernel_rfl) (by simp) (all_cons rfl rfl (fun K hK => ?_) (AllReadyH.nil))
          · go_simp
            obtain ⟨x4, q6, hx, hq, HB4, HO6, HC4, z4a, z4b, z4c⟩ := mk_step HB3.out (.cells #[.slice none 0 0] 22)
            rw [hx, hq]
            clear hx hq
            refine hK.out _ _ (HH.out _ HB4.out) (fun hHeld => ?_)
            clear hK K
            try simp only [Act.put, List.setIfInBounds_toArray, List.set_cons_zero, List.set_cons_succ]
            refine rt 7 hHeld ?_
            refine wpAnyH_ready (rs := [8]) (by kernel_rfl) (by simp) (all_cons rfl rfl (fun K hK => ?_) (AllReadyH.nil))
            · have hcell := cell_of_row _ q6 0 _ _ _ ((Chg.refl (S := (fun _ => False))).heap HO6.out (fun h => h))
              have hfree := frozen_of_row _ q6 0 _ _ ((Chg.refl (S := (fun _ => False))).heap HO6.out (fun h => h))
              obtain ⟨x5, hx, HB5, HS, HC5, z5a⟩ := st_step HB4.out ((Chg.refl (S := (fun _ => False))).heap HO6.out (fun h => h)) (.slice (some ⟨q3, 0, none⟩) n cp) (by omega)
              go_simp
              clear hx hcell hfree
              refine hK.out _ _ (HH.out _ HB5.out) (fun hHeld => ?_)
              clear hK K
              try simp only [Act.put, List.setIfInBounds_toArray, List.set_cons_zero, List.set_cons_succ]
              refine rt 9 hHeld ?_
              refine reg_done (by kernel_rfl) ?_ _
              go_wp2_with fail
              go_meet
              case rel =>
                refine ⟨q6, q1, q5, q3, n, n, cp, rfl, rfl, rfl, ?_, HB5.out⟩
                refine ⟨HN2.out _ HB5.out, (Chg.refl (S := (fun _ => False))).heap HS.out (fun h => h), ?_, ?_, ?_, ?_, ?_⟩
                · exact own_vecG (((HC4.out (fun b => b = q6)).trans HC5.out (fun b hb => Or.inl hb)).heap HO1.out (fun h => by have h : q1 = q6 := h; omega)) (by omega) (by unfold maxLen; omega)
                · exact own_vecG ((((HC3.out (fun b => b = q6)).trans (HC4.out (fun b => b = q6)) (fun b hb => Or.inl hb)).trans HC5.out (fun b hb => Or.inl hb)).heap HO5.out (fun h => by have h : q5 = q6 := h; omega)) (by omega) (by unfold maxLen; omega)
                · exact own_mono (((((HC2.out (fun b => b = q6)).trans (HC3.out (fun b => b = q6)) (fun b hb => Or.inl hb)).trans (HC4.out (fun b => b = q6)) (fun b hb => Or.inl hb)).trans HC5.out (fun b hb => Or.inl hb)).own HO3.out (fun k hk h => by simp [Value.ownBlock] at hk; have h : k = q6 := h; omega)) (by omega)
                · refine ⟨?_, ?_, ?_, ?_, ?_, ?_⟩ <;> omega
                · exact ⟨by omega, by omega⟩
        · go_simp
          obtain ⟨x3, q6, hx, hq, HB3, HO6, HC3, z3a, z3b, z3c⟩ := mk_step HB2.out (.cells #[.slice none 0 0] 22)
          rw [hx, hq]
          clear hx hq
          refine hK.out _ _ (HH.out _ HB3.out) (fun hHeld => ?_)
          clear hK K
          try simp only [Act.put, List.setIfInBounds_toArray, List.set_cons_zero, List.set_cons_succ]
          refine wpAnyH_ready (rs := [1]) (by kernel_rfl) (by simp) (all_cons rfl rfl (fun K hK => ?_) (AllReadyH.nil))
          · go_simp
            obtain ⟨x4, q1, hx, hq, HB4, HO1, HC4, z4a, z4b, z4c⟩ := mk_step HB3.out (.cells (vecL (fun _ => .int .i64 0) n).toArray 3)
            rw [hx, hq]
            clear hx hq
            refine hK.out _ _ (HH.out _ HB4.out) (fun hHeld => ?_)
            clear hK K
            try simp only [Act.put, List.setIfInBounds_toArray, List.set_cons_zero, List.set_cons_succ]
            refine rt 7 hHeld ?_
            refine wpAnyH_ready (rs := [8]) (by kernel_rfl) (by simp) (all_cons rfl rfl (fun K hK => ?_) (AllReadyH.nil))
            · have hcell := cell_of_row _ q6 0 _ _ _ ((HC4.out (fun _ => False)).heap HO6.out (fun h => h))
              have hfree := frozen_of_row _ q6 0 _ _ ((HC4.out (fun _ => False)).heap HO6.out (fun h => h))
              obtain ⟨x5, hx, HB5, HS, HC5, z5a⟩ := st_step HB4.out ((HC4.out (fun _ => False)).heap HO6.out (fun h => h)) (.slice (some ⟨q3, 0, none⟩) n cp) (by omega)
              go_simp
              clear hx hcell hfree
              refine hK.out _ _ (HH.out _ HB5.out) (fun hHeld => ?_)
              clear hK K
              try simp only [Act.put, List.setIfInBounds_toArray, List.set_cons_zero, List.set_cons_succ]
              refine rt 9 hHeld ?_
              refine reg_done (by kernel_rfl) ?_ _
              go_wp2_with fail
              go_meet
              case rel =>
                refine ⟨q6, q1, q5, q3, n, n, cp, rfl, rfl, rfl, ?_, HB5.out⟩
                refine ⟨HN2.out _ HB5.out, (Chg.refl (S := (fun _ => False))).heap HS.out (fun h => h), ?_, ?_, ?_, ?_, ?_⟩
                · exact own_vecG (HC5.out.heap HO1.out (fun h => by have h : q1 = q6 := h; omega)) (by omega) (by unfold maxLen; omega)
                · exact own_vecG ((((HC3.out (fun b => b = q6)).trans (HC4.out (fun b => b = q6)) (fun b hb => Or.inl hb)).trans HC5.out (fun b hb => Or.inl hb)).heap HO5.out (fun h => by have h : q5 = q6 := h; omega)) (by omega) (by unfold maxLen; omega)
                · exact own_mono (((((HC2.out (fun b => b = q6)).trans (HC3.out (fun b => b = q6)) (fun b hb => Or.inl hb)).trans (HC4.out (fun b => b = q6)) (fun b hb => Or.inl hb)).trans HC5.out (fun b hb => Or.inl hb)).own HO3.out (fun k hk h => by simp [Value.ownBlock] at hk; have h : k = q6 := h; omega)) (by omega)
                · refine ⟨?_, ?_, ?_, ?_, ?_, ?_⟩ <;> omega
                · exact ⟨by omega, by omega⟩
      · go_simp
        obtain ⟨x2, q6, hx, hq, HB2, HO6, HC2, z2a, z2b, z2c⟩ := mk_step HB1.out (.cells #[.slice none 0 0] 22)
        rw [hx, hq]
        clear hx hq
        refine hK.out _ _ (HH.out _ HB2.out) (fun hHeld => ?_)
        clear hK K
        try simp only [Act.put, List.setIfInBounds_toArray, List.set_cons_zero, List.set_cons_succ]
        refine wpAnyH_ready (rs := [1, 5]) (by kernel_rfl) (by simp) (all_cons rfl rfl (fun K hK => ?_) (all_cons rfl rfl (fun K hK => ?_) (AllReadyH.nil)))
        · go_simp
          obtain ⟨x3, q1, hx, hq, HB3, HO1, HC3, z3a, z3b, z3c⟩ := mk_step HB2.out (.cells (vecL (fun _ => .int .i64 0) n).toArray 3)
          rw [hx, hq]
          clear hx hq
          refine hK.out _ _ (HH.out _ HB3.out) (fun hHeld => ?_)
          clear hK K
          try simp only [Act.put, List.setIfInBounds_toArray, List.set_cons_zero, List.set_cons_succ]
          refine rt 7 hHeld ?_
          refine wpAnyH_ready (rs := [5, 8]) (by kernel_rfl) (by simp) (all_cons rfl rfl (fun K hK => ?_) (all_cons rfl rfl (fun K hK => ?_) (AllReadyH.nil)))
          · go_simp
            obtain ⟨x4, q5, hx, hq, HB4, HO5, HC4, z4a, z4b, z4c⟩ := mk_step HB3.out (.cells (vecL (fun _ => .int .i64 0) n).toArray 3)
            rw [hx, hq]
            clear hx hq
            refine hK.out _ _ (HH.out _ HB4.out) (fun hHeld => ?_)
            clear hK K
            try simp only [Act.put, List.setIfInBounds_toArray, List.set_cons_zero, List.set_cons_succ]
            refine wpAnyH_ready (rs := [8]) (by kernel_rfl) (by simp) (all_cons rfl rfl (fun K hK => ?_) (AllReadyH.nil))
            · have hcell := cell_of_row _ q6 0 _ _ _ (((HC3.out (fun _ => False)).trans (HC4.out (fun _ => False)) (fun b hb => Or.inl hb)).heap HO6.out (fun h => h))
              have hfree := frozen_of_row _ q6 0 _ _ (((HC3.out (fun _ => False)).trans (HC4.out (fun _ => False)) (fun b hb => Or.inl hb)).heap HO6.out (fun h => h))
              obtain ⟨x5, hx, HB5, HS, HC5, z5a⟩ := st_step HB4.out (((HC3.out (fun _ => False)).trans (HC4.out (fun _ => False)) (fun b hb => Or.inl hb)).heap HO6.out (fun h => h)) (.slice (some ⟨q3, 0, none⟩) n cp) (by omega)
              go_simp
              clear hx hcell hfree
              refine hK.out _ _ (HH.out _ HB5.out) (fun hHeld => ?_)
              clear hK K
              try simp only [Act.put, List.setIfInBounds_toArray, List.set_cons_zero, List.set_cons_succ]
              refine rt 9 hHeld ?_
              refine reg_done (by kernel_rfl) ?_ _
              go_wp2_with fail
              go_meet
              case rel =>
                refine ⟨q6, q1, q5, q3, n, n, cp, rfl, rfl, rfl, ?_, HB5.out⟩
                refine ⟨HN2.out _ HB5.out, (Chg.refl (S := (fun _ => False))).heap HS.out (fun h => h), ?_, ?_, ?_, ?_, ?_⟩
                · exact own_vecG (((HC4.out (fun b => b = q6)).trans HC5.out (fun b hb => Or.inl hb)).heap HO1.out (fun h => by have h : q1 = q6 := h; omega)) (by omega) (by unfold maxLen; omega)
                · exact own_vecG (HC5.out.heap HO5.out (fun h => by have h : q5 = q6 := h; omega)) (by omega) (by unfold maxLen; omega)
                · exact own_mono (((((HC2.out (fun b => b = q6)).trans (HC3.out (fun b => b = q6)) (fun b hb => Or.inl hb)).trans (HC4.out (fun b => b = q6)) (fun b hb => Or.inl hb)).trans HC5.out (fun b hb => Or.inl hb)).own HO3.out (fun k hk h => by simp [Value.ownBlock] at hk; have h : k = q6 := h; omega)) (by omega)
                · refine ⟨?_, ?_, ?_, ?_, ?_, ?_⟩ <;> omega
                · exact ⟨by omega, by omega⟩
          · have hcell := cell_of_row _ q6 0 _ _ _ ((HC3.out (fun _ => False)).heap HO6.out (fun h => h))
            have hfree := frozen_of_row _ q6 0 _ _ ((HC3.out (fun _ => False)).heap HO6.out (fun h => h))
            obtain ⟨x4, hx, HB4, HS, HC4, z4a⟩ := st_step HB3.out ((HC3.out (fun _ => False)).heap HO6.out (fun h => h)) (.slice (some ⟨q3, 0, none⟩) n cp) (by omega)
            go_simp
            clear hx hcell hfree
            refine hK.out _ _ (HH.out _ HB4.out) (fun hHeld => ?_)
            clear hK K
            try simp only [Act.put, List.setIfInBounds_toArray, List.set_cons_zero, List.set_cons_succ]
            refine wpAnyH_ready (rs := [5]) (by kernel_rfl) (by simp) (all_cons rfl rfl (fun K hK => ?_) (AllReadyH.nil))
            · go_simp
              obtain ⟨x5, q5, hx, hq, HB5, HO5, HC5, z5a, z5b, z5c⟩ := mk_step HB4.out (.cells (vecL (fun _ => .int .i64 0) n).toArray 3)
              rw [hx, hq]
              clear hx hq
              refine hK.out _ _ (HH.out _ HB5.out) (fun hHeld => ?_)
              clear hK K
              try simp only [Act.put, List.setIfInBounds_toArray, List.set_cons_zero, List.set_cons_succ]
              refine rt 9 hHeld ?_
              refine reg_done (by kernel_rfl) ?_ _
              go_wp2_with fail
              go_meet
              case rel =>
                refine ⟨q6, q1, q5, q3, n, n, cp, rfl, rfl, rfl, ?_, HB5.out⟩
                refine ⟨HN2.out _ HB5.out, (HC5.out (fun _ => False)).heap HS.out (fun h => h), ?_, ?_, ?_, ?_, ?_⟩
                · exact own_vecG ((HC4.out.trans (HC5.out (fun b => b = q6)) (fun b hb => Or.inl hb)).heap HO1.out (fun h => by have h : q1 = q6 := h; omega)) (by omega) (by unfold maxLen; omega)
                · exact own_vecG ((Chg.refl (S := (fun b => b = q6))).heap HO5.out (fun h => by have h : q5 = q6 := h; omega)) (by omega) (by unfold maxLen; omega)
                · exact own_mono (((((HC2.out (fun b => b = q6)).trans (HC3.out (fun b => b = q6)) (fun b hb => Or.inl hb)).trans HC4.out (fun b hb => Or.inl hb)).trans (HC5.out (fun b => b = q6)) (fun b hb => Or.inl hb)).own HO3.out (fun k hk h => by simp [Value.ownBlock] at hk; have h : k = q6 := h; omega)) (by omega)
                · refine ⟨?_, ?_, ?_, ?_, ?_, ?_⟩ <;> omega
                · exact ⟨by omega, by omega⟩
        · go_simp
          obtain ⟨x3, q5, hx, hq, HB3, HO5, HC3, z3a, z3b, z3c⟩ := mk_step HB2.out (.cells (vecL (fun _ => .int .i64 0) n).toArray 3)
          rw [hx, hq]
          clear hx hq
          refine hK.out _ _ (HH.out _ HB3.out) (fun hHeld => ?_)
          clear hK K
          try simp only [Act.put, List.setIfInBounds_toArray, List.set_cons_zero, List.set_cons_succ]
          refine wpAnyH_ready (rs := [1]) (by kernel_rfl) (by simp) (all_cons rfl rfl (fun K hK => ?_) (AllReadyH.nil))
          · go_simp
            obtain ⟨x4, q1, hx, hq, HB4, HO1, HC4, z4a, z4b, z4c⟩ := mk_step HB3.out (.cells (vecL (fun _ => .int .i64 0) n).toArray 3)
            rw [hx, hq]
            clear hx hq
            refine hK.out _ _ (HH.out _ HB4.out) (fun hHeld => ?_)
            clear hK K
            try simp only [Act.put, List.setIfInBounds_toArray, List.set_cons_zero, List.set_cons_succ]
            refine rt 7 hHeld ?_
            refine wpAnyH_ready (rs := [8]) (by kernel_rfl) (by simp) (all_cons rfl rfl (fun K hK => ?_) (AllReadyH.nil))
            · have hcell := cell_of_row _ q6 0 _ _ _ (((HC3.out (fun _ => False)).trans (HC4.out (fun _ => False)) (fun b hb => Or.inl hb)).heap HO6.out (fun h => h))
              have hfree := frozen_of_row _ q6 0 _ _ (((HC3.out (fun _ => False)).trans (HC4.out (fun _ => False)) (fun b hb => Or.inl hb)).heap HO6.out (fun h => h))
              obtain ⟨x5, hx, HB5, HS, HC5, z5a⟩ := st_step HB4.out (((HC3.out (fun _ => False)).trans (HC4.out (fun _ => False)) (fun b hb => Or.inl hb)).heap HO6.out (fun h => h)) (.slice (some ⟨q3, 0, none⟩) n cp) (by omega)
              go_simp
              clear hx hcell hfree
              refine hK.out _ _ (HH.out _ HB5.out) (fun hHeld => ?_)
              clear hK K
              try simp only [Act.put, List.setIfInBounds_toArray, List.set_cons_zero, List.set_cons_succ]
              refine rt 9 hHeld ?_
              refine reg_done (by kernel_rfl) ?_ _
              go_wp2_with fail
              go_meet
              case rel =>
                refine ⟨q6, q1, q5, q3, n, n, cp, rfl, rfl, rfl, ?_, HB5.out⟩
                refine ⟨HN2.out _ HB5.out, (Chg.refl (S := (fun _ => False))).heap HS.out (fun h => h), ?_, ?_, ?_, ?_, ?_⟩
                · exact own_vecG (HC5.out.heap HO1.out (fun h => by have h : q1 = q6 := h; omega)) (by omega) (by unfold maxLen; omega)
                · exact own_vecG (((HC4.out (fun b => b = q6)).trans HC5.out (fun b hb => Or.inl hb)).heap HO5.out (fun h => by have h : q5 = q6 := h; omega)) (by omega) (by unfold maxLen; omega)
                · exact own_mono (((((HC2.out (fun b => b = q6)).trans (HC3.out (fun b => b = q6)) (fun b hb => Or.inl hb)).trans (HC4.out (fun b => b = q6)) (fun b hb => Or.inl hb)).trans HC5.out (fun b hb => Or.inl hb)).own HO3.out (fun k hk h => by simp [Value.ownBlock] at hk; have h : k = q6 := h; omega)) (by omega)
                · refine ⟨?_, ?_, ?_, ?_, ?_, ?_⟩ <;> omega
                · exact ⟨by omega, by omega⟩
    · go_simp
      obtain ⟨x1, q5, hx, hq, HB1, HO5, HC1, z1a, z1b, z1c⟩ := mk_step HB0.out (.cells (vecL (fun _ => .int .i64 0) n).toArray 3)
      rw [hx, hq]
      clear hx hq
      refine hK.out _ _ (HH.out _ HB1.out) (fun hHeld => ?_)
      clear hK K
      try simp only [Act.put, List.setIfInBounds_toArray, List.set_cons_zero, List.set_cons_succ]
      refine wpAnyH_ready (rs := [1, 3, 6]) (by kernel_rfl) (by simp) (all_cons rfl rfl (fun K hK => ?_) (all_cons rfl rfl (fun K hK => ?_) (all_cons rfl rfl (fun K hK => ?_) (AllReadyH.nil))))
      · go_simp
        obtain ⟨x2, q1, hx, hq, HB2, HO1, HC2, z2a, z2b, z2c⟩ := mk_step HB1.out (.cells (vecL (fun _ => .int .i64 0) n).toArray 3)
        rw [hx, hq]
        clear hx hq
        refine hK.out _ _ (HH.out _ HB2.out) (fun hHeld => ?_)
        clear hK K
        try simp only [Act.put, List.setIfInBounds_toArray, List.set_cons_zero, List.set_cons_succ]
        refine wpAnyH_ready (rs := [3, 6]) (by kernel_rfl) (by simp) (all_cons rfl rfl (fun K hK => ?_) (all_cons rfl rfl (fun K hK => ?_) (AllReadyH.nil)))
        · go_simp
          refine (HCL.out _ HB2.out).mono ?_
          rintro e x3 ⟨q3, cp, rfl, hown, hbC⟩
          obtain ⟨HB3, HO3, HC3, z3a, z3b, z3c⟩ := cl_step HB2.out hown hbC
          clear hown hbC
          go_wp2_with fail
          refine hK.out _ _ (HH.out _ HB3.out) (fun hHeld => ?_)
          clear hK K
          try simp only [Act.put, List.setIfInBounds_toArray, List.set_cons_zero, List.set_cons_succ]
          refine wpAnyH_ready (rs := [6]) (by kernel_rfl) (by simp) (all_cons rfl rfl (fun K hK => ?_) (AllReadyH.nil))
          · go_simp
            obtain ⟨x4, q6, hx, hq, HB4, HO6, HC4, z4a, z4b, z4c⟩ := mk_step HB3.out (.cells #[.slice none 0 0] 22)
            rw [hx, hq]
            clear hx hq
            refine hK.out _ _ (HH.out _ HB4.out) (fun hHeld => ?_)
            clear hK K
            try simp only [Act.put, List.setIfInBounds_toArray, List.set_cons_zero, List.set_cons_succ]
            refine rt 7 hHeld ?_
            refine wpAnyH_ready (rs := [8]) (by kernel_rfl) (by simp) (all_cons rfl rfl (fun K hK => ?_) (AllReadyH.nil))
            · have hcell := cell_of_row _ q6 0 _ _ _ ((Chg.refl (S := (fun _ => False))).heap HO6.out (fun h => h))
              have hfree := frozen_of_row _ q6 0 _ _ ((Chg.refl (S := (fun _ => False))).heap HO6.out (fun h => h))
              obtain ⟨x5, hx, HB5, HS, HC5, z5a⟩ := st_step HB4.out ((Chg.refl (S := (fun _ => False))).heap HO6.out (fun h => h)) (.slice (some ⟨q3, 0, none⟩) n cp) (by omega)
              go_simp
              clear hx hcell hfree
              refine hK.out _ _ (HH.out _ HB5.out) (fun hHeld => ?_)
              clear hK K
              try simp only [Act.put, List.setIfInBounds_toArray, List.set_cons_zero, List.set_cons_succ]
              refine rt 9 hHeld ?_
              refine reg_done (by kernel_rfl) ?_ _
              go_wp2_with fail
              go_meet
              case rel =>
                refine ⟨q6, q1, q5, q3, n, n, cp, rfl, rfl, rfl, ?_, HB5.out⟩
                refine ⟨HN2.out _ HB5.out, (Chg.refl (S := (fun _ => False))).heap HS.out (fun h => h), ?_, ?_, ?_, ?_, ?_⟩
                · exact own_vecG ((((HC3.out (fun b => b = q6)).trans (HC4.out (fun b => b = q6)) (fun b hb => Or.inl hb)).trans HC5.out (fun b hb => Or.inl hb)).heap HO1.out (fun h => by have h : q1 = q6 := h; omega)) (by omega) (by unfold maxLen; omega)
                · exact own_vecG (((((HC2.out (fun b => b = q6)).trans (HC3.out (fun b => b = q6)) (fun b hb => Or.inl hb)).trans (HC4.out (fun b => b = q6)) (fun b hb => Or.inl hb)).trans HC5.out (fun b hb => Or.inl hb)).heap HO5.out (fun h => by have h : q5 = q6 := h; omega)) (by omega) (by unfold maxLen; omega)
                · exact own_mono (((HC4.out (fun b => b = q6)).trans HC5.out (fun b hb => Or.inl hb)).own HO3.out (fun k hk h => by simp [Value.ownBlock] at hk; have h : k = q6 := h; omega)) (by omega)
                · refine ⟨?_, ?_, ?_, ?_, ?_, ?_⟩ <;> omega
                · exact ⟨by omega, by omega⟩
        · go_simp
          obtain ⟨x3, q6, hx, hq, HB3, HO6, HC3, z3a, z3b, z3c⟩ := mk_step HB2.out (.cells #[.slice none 0 0] 22)
          rw [hx, hq]
          clear hx hq
          refine hK.out _ _ (HH.out _ HB3.out) (fun hHeld => ?_)
          clear hK K
          try simp only [Act.put, List.setIfInBounds_toArray, List.set_cons_zero, List.set_cons_succ]
          refine wpAnyH_ready (rs := [3]) (by kernel_rfl) (by simp) (all_cons rfl rfl (fun K hK => ?_) (AllReadyH.nil))
          · go_simp
            refine (HCL.out _ HB3.out).mono ?_
            rintro e x4 ⟨q3, cp, rfl, hown, hbC⟩
            obtain ⟨HB4, HO3, HC4, z4a, z4b, z4c⟩ := cl_step HB3.out hown hbC
            clear hown hbC
            go_wp2_with fail
            refine hK.out _ _ (HH.out _ HB4.out) (fun hHeld => ?_)
            clear hK K
            try simp only [Act.put, List.setIfInBounds_toArray, List.set_cons_zero, List.set_cons_succ]
            refine rt 7 hHeld ?_
            refine wpAnyH_ready (rs := [8]) (by kernel_rfl) (by simp) (all_cons rfl rfl (fun K hK => ?_) (AllReadyH.nil))
            · have hcell := cell_of_row _ q6 0 _ _ _ ((HC4.out (fun _ => False)).heap HO6.out (fun h => h))
              have hfree := frozen_of_row _ q6 0 _ _ ((HC4.out (fun _ => False)).heap HO6.out (fun h => h))
              obtain ⟨x5, hx, HB5, HS, HC5, z5a⟩ := st_step HB4.out ((HC4.out (fun _ => False)).heap HO6.out (fun h => h)) (.slice (some ⟨q3, 0, none⟩) n cp) (by omega)
              go_simp
              clear hx hcell hfree
              refine hK.out _ _ (HH.out _ HB5.out) (fun hHeld => ?_)
              clear hK K
              try simp only [Act.put, List.setIfInBounds_toArray, List.set_cons_zero, List.set_cons_succ]
              refine rt 9 hHeld ?_
              refine reg_done (by kernel_rfl) ?_ _
              go_wp2_with fail
              go_meet
              case rel =>
                refine ⟨q6, q1, q5, q3, n, n, cp, rfl, rfl, rfl, ?_, HB5.out⟩
                refine ⟨HN2.out _ HB5.out, (Chg.refl (S := (fun _ => False))).heap HS.out (fun h => h), ?_, ?_, ?_, ?_, ?_⟩
                · exact own_vecG ((((HC3.out (fun b => b = q6)).trans (HC4.out (fun b => b = q6)) (fun b hb => Or.inl hb)).trans HC5.out (fun b hb => Or.inl hb)).heap HO1.out (fun h => by have h : q1 = q6 := h; omega)) (by omega) (by unfold maxLen; omega)
                · exact own_vecG (((((HC2.out (fun b => b = q6)).trans (HC3.out (fun b => b = q6)) (fun b hb => Or.inl hb)).trans (HC4.out (fun b => b = q6)) (fun b hb => Or.inl hb)).trans HC5.out (fun b hb => Or.inl hb)).heap HO5.out (fun h => by have h : q5 = q6 := h; omega)) (by omega) (by unfold maxLen; omega)
                · exact own_mono (HC5.out.own HO3.out (fun k hk h => by simp [Value.ownBlock] at hk; have h : k = q6 := h; omega)) (by omega)
                · refine ⟨?_, ?_, ?_, ?_, ?_, ?_⟩ <;> omega
                · exact ⟨by omega, by omega⟩
      · go_simp
        refine (HCL.out _ HB1.out).mono ?_
        rintro e x2 ⟨q3, cp, rfl, hown, hbC⟩
        obtain ⟨HB2, HO3, HC2, z2a, z2b, z2c⟩ := cl_step HB1.out hown hbC
        clear hown hbC
        go_wp2_with fail
        refine hK.out _ _ (HH.out _ HB2.out) (fun hHeld => ?_)
        clear hK K
        try simp only [Act.put, List.setIfInBounds_toArray, List.set_cons_zero, List.set_cons_succ]
        refine wpAnyH_ready (rs := [1, 6]) (by kernel_rfl) (by simp) (all_cons rfl rfl (fun K hK => ?_) (all_cons rfl rfl (fun K hK => ?_) (AllReadyH.nil)))
        · go_simp
          obtain ⟨x3, q1, hx, hq, HB3, HO1, HC3, z3a, z3b, z3c⟩ := mk_step HB2.out (.cells (vecL (fun _ => .int .i64 0) n).toArray 3)
          rw [hx, hq]
          clear hx hq
          refine hK.out _ _ (HH.out _ HB3.out) (fun hHeld => ?_)
          clear hK K
          try simp only [Act.put, List.setIfInBounds_toArray, List.set_cons_zero, List.set_cons_succ]
          refine wpAnyH_ready (rs := [6]) (by kernel_rfl) (by simp) (all_cons rfl rfl (fun K hK => ?_) (AllReadyH.nil))
          · go_simp
            obtain ⟨x4, q6, hx, hq, HB4, HO6, HC4, z4a, z4b, z4c⟩ := mk_step HB3.out (.cells #[.slice none 0 0] 22)
            rw [hx, hq]
            clear hx hq
            refine hK.out _ _ (HH.out _ HB4.out) (fun hHeld => ?_)
            clear hK K
            try simp only [Act.put, List.setIfInBounds_toArray, List.set_cons_zero, List.set_cons_succ]
            refine rt 7 hHeld ?_
            refine wpAnyH_ready (rs := [8]) (by kernel_rfl) (by simp) (all_cons rfl rfl (fun K hK => ?_) (AllReadyH.nil))
            · have hcell := cell_of_row _ q6 0 _ _ _ ((Chg.refl (S := (fun _ => False))).heap HO6.out (fun h => h))
              have hfree := frozen_of_row _ q6 0 _ _ ((Chg.refl (S := (fun _ => False))).heap HO6.out (fun h => h))
              obtain ⟨x5, hx, HB5, HS, HC5, z5a⟩ := st_step HB4.out ((Chg.refl (S := (fun _ => False))).heap HO6.out (fun h => h)) (.slice (some ⟨q3, 0, none⟩) n cp) (by omega)
              go_simp
              clear hx hcell hfree
              refine hK.out _ _ (HH.out _ HB5.out) (fun hHeld => ?_)
              clear hK K
              try simp only [Act.put, List.setIfInBounds_toArray, List.set_cons_zero, List.set_cons_succ]
              refine rt 9 hHeld ?_
              refine reg_done (by kernel_rfl) ?_ _
              go_wp2_with fail
              go_meet
              case rel =>
                refine ⟨q6, q1, q5, q3, n, n, cp, rfl, rfl, rfl, ?_, HB5.out⟩
                refine ⟨HN2.out _ HB5.out, (Chg.refl (S := (fun _ => False))).heap HS.out (fun h => h), ?_, ?_, ?_, ?_, ?_⟩
                · exact own_vecG (((HC4.out (fun b => b = q6)).trans HC5.out (fun b hb => Or.inl hb)).heap HO1.out (fun h => by have h : q1 = q6 := h; omega)) (by omega) (by unfold maxLen; omega)
                · exact own_vecG (((((HC2.out (fun b => b = q6)).trans (HC3.out (fun b => b = q6)) (fun b hb => Or.inl hb)).trans (HC4.out (fun b => b = q6)) (fun b hb => Or.inl hb)).trans HC5.out (fun b hb => Or.inl hb)).heap HO5.out (fun h => by have h : q5 = q6 := h; omega)) (by omega) (by unfold maxLen; omega)
                · exact own_mono ((((HC3.out (fun b => b = q6)).trans (HC4.out (fun b => b = q6)) (fun b hb => Or.inl hb)).trans HC5.out (fun b hb => Or.inl hb)).own HO3.out (fun k hk h => by simp [Value.ownBlock] at hk; have h : k = q6 := h; omega)) (by omega)
                · refine ⟨?_, ?_, ?_, ?_, ?_, ?_⟩ <;> omega
                · exact ⟨by omega, by omega⟩
        · go_simp
          obtain ⟨x3, q6, hx, hq, HB3, HO6, HC3, z3a, z3b, z3c⟩ := mk_step HB2.out (.cells #[.slice none 0 0] 22)
          rw [hx, hq]
          clear hx hq
          refine hK.out _ _ (HH.out _ HB3.out) (fun hHeld => ?_)
          clear hK K
          try simp only [Act.put, List.setIfInBounds_toArray, List.set_cons_zero, List.set_cons_succ]
          refine wpAnyH_ready (rs := [1]) (by kernel_rfl) (by simp) (all_cons rfl rfl (fun K hK => ?_) (AllReadyH.nil))
          · go_simp
            obtain ⟨x4, q1, hx, hq, HB4, HO1, HC4, z4a, z4b, z4c⟩ := mk_step HB3.out (.cells (vecL (fun _ => .int .i64 0) n).toArray 3)
            rw [hx, hq]
            clear hx hq
            refine hK.out _ _ (HH.out _ HB4.out) (fun hHeld => ?_)
            clear hK K
            try simp only [Act.put, List.setIfInBounds_toArray, List.set_cons_zero, List.set_cons_succ]
            refine rt 7 hHeld ?_
            refine wpAnyH_ready (rs := [8]) (by kernel_rfl) (by simp) (all_cons rfl rfl (fun K hK => ?_) (AllReadyH.nil))
            · have hcell := cell_of_row _ q6 0 _ _ _ ((HC4.out (fun _ => False)).heap HO6.out (fun h => h))
              have hfree := frozen_of_row _ q6 0 _ _ ((HC4.out (fun _ => False)).heap HO6.out (fun h => h))
              obtain ⟨x5, hx, HB5, HS, HC5, z5a⟩ := st_step HB4.out ((HC4.out (fun _ => False)).heap HO6.out (fun h => h)) (.slice (some ⟨q3, 0, none⟩) n cp) (by omega)
              go_simp
              clear hx hcell hfree
              refine hK.out _ _ (HH.out _ HB5.out) (fun hHeld => ?_)
              clear hK K
              try simp only [Act.put, List.setIfInBounds_toArray, List.set_cons_zero, List.set_cons_succ]
              refine rt 9 hHeld ?_
              refine reg_done (by kernel_rfl) ?_ _
              go_wp2_with fail
              go_meet
              case rel =>
                refine ⟨q6, q1, q5, q3, n, n, cp, rfl, rfl, rfl, ?_, HB5.out⟩
                refine ⟨HN2.out _ HB5.out, (Chg.refl (S := (fun _ => False))).heap HS.out (fun h => h), ?_, ?_, ?_, ?_, ?_⟩
                · exact own_vecG (HC5.out.heap HO1.out (fun h => by have h : q1 = q6 := h; omega)) (by omega) (by unfold maxLen; omega)
                · exact own_vecG (((((HC2.out (fun b => b = q6)).trans (HC3.out (fun b => b = q6)) (fun b hb => Or.inl hb)).trans (HC4.out (fun b => b = q6)) (fun b hb => Or.inl hb)).trans HC5.out (fun b hb => Or.inl hb)).heap HO5.out (fun h => by have h : q5 = q6 := h; omega)) (by omega) (by unfold maxLen; omega)
                · exact own_mono ((((HC3.out (fun b => b = q6)).trans (HC4.out (fun b => b = q6)) (fun b hb => Or.inl hb)).trans HC5.out (fun b hb => Or.inl hb)).own HO3.out (fun k hk h => by simp [Value.ownBlock] at hk; have h : k = q6 := h; omega)) (by omega)
                · refine ⟨?_, ?_, ?_, ?_, ?_, ?_⟩ <;> omega
                · exact ⟨by omega, by omega⟩
      · go_simp
        obtain ⟨x2, q6, hx, hq, HB2, HO6, HC2, z2a, z2b, z2c⟩ := mk_step HB1.out (.cells #[.slice none 0 0] 22)
        rw [hx, hq]
        clear hx hq
        refine hK.out _ _ (HH.out _ HB2.out) (fun hHeld => ?_)
        clear hK K
        try simp only [Act.put, List.setIfInBounds_toArray, List.set_cons_zero, List.set_cons_succ]
        refine wpAnyH_ready (rs := [1, 3]) (by kernel_rfl) (by simp) (all_cons rfl rfl (fun K hK => ?_) (all_cons rfl rfl (fun K hK => ?_) (AllReadyH.nil)))
        · go_simp
          obtain ⟨x3, q1, hx, hq, HB3, HO1, HC3, z3a, z3b, z3c⟩ := mk_step HB2.out (.cells (vecL (fun _ => .int .i64 0) n).toArray 3)
          rw [hx, hq]
          clear hx hq
          refine hK.out _ _ (HH.out _ HB3.out) (fun hHeld => ?_)
          clear hK K
          try simp only [Act.put, List.setIfInBounds_toArray, List.set_cons_zero, List.set_cons_succ]
          refine wpAnyH_ready (rs := [3]) (by kernel_rfl) (by simp) (all_cons rfl rfl (fun K hK => ?_) (AllReadyH.nil))
          · go_simp
            refine (HCL.out _ HB3.out).mono ?_
            rintro e x4 ⟨q3, cp, rfl, hown, hbC⟩
            obtain ⟨HB4, HO3, HC4, z4a, z4b, z4c⟩ := cl_step HB3.out hown hbC
            clear hown hbC
            go_wp2_with fail
            refine hK.out _ _ (HH.out _ HB4.out) (fun hHeld => ?_)
            clear hK K
            try simp only [Act.put, List.setIfInBounds_toArray, List.set_cons_zero, List.set_cons_succ]
            refine rt 7 hHeld ?_
            refine wpAnyH_ready (rs := [8]) (by kernel_rfl) (by simp) (all_cons rfl rfl (fun K hK => ?_) (AllReadyH.nil))
            · have hcell := cell_of_row _ q6 0 _ _ _ (((HC3.out (fun _ => False)).trans (HC4.out (fun _ => False)) (fun b hb => Or.inl hb)).heap HO6.out (fun h => h))
              have hfree := frozen_of_row _ q6 0 _ _ (((HC3.out (fun _ => False)).trans (HC4.out (fun _ => False)) (fun b hb => Or.inl hb)).heap HO6.out (fun h => h))
              obtain ⟨x5, hx, HB5, HS, HC5, z5a⟩ := st_step HB4.out (((HC3.out (fun _ => False)).trans (HC4.out (fun _ => False)) (fun b hb => Or.inl hb)).heap HO6.out (fun h => h)) (.slice (some ⟨q3, 0, none⟩) n cp) (by omega)
              go_simp
              clear hx hcell hfree
              refine hK.out _ _ (HH.out _ HB5.out) (fun hHeld => ?_)
              clear hK K
              try simp only [Act.put, List.setIfInBounds_toArray, List.set_cons_zero, List.set_cons_succ]
              refine rt 9 hHeld ?_
              refine reg_done (by kernel_rfl) ?_ _
              go_wp2_with fail
              go_meet
              case rel =>
                refine ⟨q6, q1, q5, q3, n, n, cp, rfl, rfl, rfl, ?_, HB5.out⟩
                refine ⟨HN2.out _ HB5.out, (Chg.refl (S := (fun _ => False))).heap HS.out (fun h => h), ?_, ?_, ?_, ?_, ?_⟩
                · exact own_vecG (((HC4.out (fun b => b = q6)).trans HC5.out (fun b hb => Or.inl hb)).heap HO1.out (fun h => by have h : q1 = q6 := h; omega)) (by omega) (by unfold maxLen; omega)
                · exact own_vecG (((((HC2.out (fun b => b = q6)).trans (HC3.out (fun b => b = q6)) (fun b hb => Or.inl hb)).trans (HC4.out (fun b => b = q6)) (fun b hb => Or.inl hb)).trans HC5.out (fun b hb => Or.inl hb)).heap HO5.out (fun h => by have h : q5 = q6 := h; omega)) (by omega) (by unfold maxLen; omega)
                · exact own_mono (HC5.out.own HO3.out (fun k hk h => by simp [Value.ownBlock] at hk; have h : k = q6 := h; omega)) (by omega)
                · refine ⟨?_, ?_, ?_, ?_, ?_, ?_⟩ <;> omega
                · exact ⟨by omega, by omega⟩
        · go_simp
          refine (HCL.out _ HB2.out).mono ?_
          rintro e x3 ⟨q3, cp, rfl, hown, hbC⟩
          obtain ⟨HB3, HO3, HC3, z3a, z3b, z3c⟩ := cl_step HB2.out hown hbC
          clear hown hbC
          go_wp2_with fail
          refine hK.out _ _ (HH.out _ HB3.out) (fun hHeld => ?_)
          clear hK K
          try simp only [Act.put, List.setIfInBounds_toArray, List.set_cons_zero, List.set_cons_succ]
          refine wpAnyH_ready (rs := [1]) (by kernel_rfl) (by simp) (all_cons rfl rfl (fun K hK => ?_) (AllReadyH.nil))
          · go_simp
            obtain ⟨x4, q1, hx, hq, HB4, HO1, HC4, z4a, z4b, z4c⟩ := mk_step HB3.out (.cells (vecL (fun _ => .int .i64 0) n).toArray 3)
            rw [hx, hq]
            clear hx hq
            refine hK.out _ _ (HH.out _ HB4.out) (fun hHeld => ?_)
            clear hK K
            try simp only [Act.put, List.setIfInBounds_toArray, List.set_cons_zero, List.set_cons_succ]
            refine rt 7 hHeld ?_
            refine wpAnyH_ready (rs := [8]) (by kernel_rfl) (by simp) (all_cons rfl rfl (fun K hK => ?_) (AllReadyH.nil))
            · have hcell := cell_of_row _ q6 0 _ _ _ (((HC3.out (fun _ => False)).trans (HC4.out (fun _ => False)) (fun b hb => Or.inl hb)).heap HO6.out (fun h => h))
              have hfree := frozen_of_row _ q6 0 _ _ (((HC3.out (fun _ => False)).trans (HC4.out (fun _ => False)) (fun b hb => Or.inl hb)).heap HO6.out (fun h => h))
              obtain ⟨x5, hx, HB5, HS, HC5, z5a⟩ := st_step HB4.out (((HC3.out (fun _ => False)).trans (HC4.out (fun _ => False)) (fun b hb => Or.inl hb)).heap HO6.out (fun h => h)) (.slice (some ⟨q3, 0, none⟩) n cp) (by omega)
              go_simp
              clear hx hcell hfree
              refine hK.out _ _ (HH.out _ HB5.out) (fun hHeld => ?_)
              clear hK K
              try simp only [Act.put, List.setIfInBounds_toArray, List.set_cons_zero, List.set_cons_succ]
              refine rt 9 hHeld ?_
              refine reg_done (by kernel_rfl) ?_ _
              go_wp2_with fail
              go_meet
              case rel =>
                refine ⟨q6, q1, q5, q3, n, n, cp, rfl, rfl, rfl, ?_, HB5.out⟩
                refine ⟨HN2.out _ HB5.out, (Chg.refl (S := (fun _ => False))).heap HS.out (fun h => h), ?_, ?_, ?_, ?_, ?_⟩
                · exact own_vecG (HC5.out.heap HO1.out (fun h => by have h : q1 = q6 := h; omega)) (by omega) (by unfold maxLen; omega)
                · exact own_vecG (((((HC2.out (fun b => b = q6)).trans (HC3.out (fun b => b = q6)) (fun b hb => Or.inl hb)).trans (HC4.out (fun b => b = q6)) (fun b hb => Or.inl hb)).trans HC5.out (fun b hb => Or.inl hb)).heap HO5.out (fun h => by have h : q5 = q6 := h; omega)) (by omega) (by unfold maxLen; omega)
                · exact own_mono (((HC4.out (fun b => b = q6)).trans HC5.out (fun b hb => Or.inl hb)).own HO3.out (fun k hk h => by simp [Value.ownBlock] at hk; have h : k = q6 := h; omega)) (by omega)
                · refine ⟨?_, ?_, ?_, ?_, ?_, ?_⟩ <;> omega
                · exact ⟨by omega, by omega⟩
    · go_simp
      obtain ⟨x1, q6, hx, hq, HB1, HO6, HC1, z1a, z1b, z1c⟩ := mk_step HB0.out (.cells #[.slice none 0 0] 22)
      rw [hx, hq]
      clear hx hq
      refine hK.out _ _ (HH.out _ HB1.out) (fun hHeld => ?_)
      clear hK K
      try simp only [Act.put, List.setIfInBounds_toArray, List.set_cons_zero, List.set_cons_succ]
      refine wpAnyH_ready (rs := [1, 3, 5]) (by kernel_rfl) (by simp) (all_cons rfl rfl (fun K hK => ?_) (all_cons rfl rfl (fun K hK => ?_) (all_cons rfl rfl (fun K hK => ?_) (AllReadyH.nil))))
      · go_simp
        obtain ⟨x2, q1, hx, hq, HB2, HO1, HC2, z2a, z2b, z2c⟩ := mk_step HB1.out (.cells (vecL (fun _ => .int .i64 0) n).toArray 3)
        rw [hx, hq]
        clear hx hq
        refine hK.out _ _ (HH.out _ HB2.out) (fun hHeld => ?_)
        clear hK K
        try simp only [Act.put, List.setIfInBounds_toArray, List.set_cons_zero, List.set_cons_succ]
        refine wpAnyH_ready (rs := [3, 5]) (by kernel_rfl) (by simp) (all_cons rfl rfl (fun K hK => ?_) (all_cons rfl rfl (fun K hK => ?_) (AllReadyH.nil)))
        · go_simp
          refine (HCL.out _ HB2.out).mono ?_
          rintro e x3 ⟨q3, cp, rfl, hown, hbC⟩
          obtain ⟨HB3, HO3, HC3, z3a, z3b, z3c⟩ := cl_step HB2.out hown hbC
          clear hown hbC
          go_wp2_with fail
          refine hK.out _ _ (HH.out _ HB3.out) (fun hHeld => ?_)
          clear hK K
          try simp only [Act.put, List.setIfInBounds_toArray, List.set_cons_zero, List.set_cons_succ]
          refine rt 7 hHeld ?_
          refine wpAnyH_ready (rs := [5, 8]) (by kernel_rfl) (by simp) (all_cons rfl rfl (fun K hK => ?_) (all_cons rfl rfl (fun K hK => ?_) (AllReadyH.nil)))
          · go_simp
            obtain ⟨x4, q5, hx, hq, HB4, HO5, HC4, z4a, z4b, z4c⟩ := mk_step HB3.out (.cells (vecL (fun _ => .int .i64 0) n).toArray 3)
            rw [hx, hq]
            clear hx hq
            refine hK.out _ _ (HH.out _ HB4.out) (fun hHeld => ?_)
            clear hK K
            try simp only [Act.put, List.setIfInBounds_toArray, List.set_cons_zero, List.set_cons_succ]
            refine wpAnyH_ready (rs := [8]) (by kernel_rfl) (by simp) (all_cons rfl rfl (fun K hK => ?_) (AllReadyH.nil))
            · have hcell := cell_of_row _ q6 0 _ _ _ ((((HC2.out (fun _ => False)).trans (HC3.out (fun _ => False)) (fun b hb => Or.inl hb)).trans (HC4.out (fun _ => False)) (fun b hb => Or.inl hb)).heap HO6.out (fun h => h))
              have hfree := frozen_of_row _ q6 0 _ _ ((((HC2.out (fun _ => False)).trans (HC3.out (fun _ => False)) (fun b hb => Or.inl hb)).trans (HC4.out (fun _ => False)) (fun b hb => Or.inl hb)).heap HO6.out (fun h => h))
              obtain ⟨x5, hx, HB5, HS, HC5, z5a⟩ := st_step HB4.out ((((HC2.out (fun _ => False)).trans (HC3.out (fun _ => False)) (fun b hb => Or.inl hb)).trans (HC4.out (fun _ => False)) (fun b hb => Or.inl hb)).heap HO6.out (fun h => h)) (.slice (some ⟨q3, 0, none⟩) n cp) (by omega)
              go_simp
              clear hx hcell hfree
              refine hK.out _ _ (HH.out _ HB5.out) (fun hHeld => ?_)
              clear hK K
              try simp only [Act.put, List.setIfInBounds_toArray, List.set_cons_zero, List.set_cons_succ]
              refine rt 9 hHeld ?_
              refine reg_done (by kernel_rfl) ?_ _
              go_wp2_with fail
              go_meet
              case rel =>
                refine ⟨q6, q1, q5, q3, n, n, cp, rfl, rfl, rfl, ?_, HB5.out⟩
                refine ⟨HN2.out _ HB5.out, (Chg.refl (S := (fun _ => False))).heap HS.out (fun h => h), ?_, ?_, ?_, ?_, ?_⟩
                · exact own_vecG ((((HC3.out (fun b => b = q6)).trans (HC4.out (fun b => b = q6)) (fun b hb => Or.inl hb)).trans HC5.out (fun b hb => Or.inl hb)).heap HO1.out (fun h => by have h : q1 = q6 := h; omega)) (by omega) (by unfold maxLen; omega)
                · exact own_vecG (HC5.out.heap HO5.out (fun h => by have h : q5 = q6 := h; omega)) (by omega) (by unfold maxLen; omega)
                · exact own_mono (((HC4.out (fun b => b = q6)).trans HC5.out (fun b hb => Or.inl hb)).own HO3.out (fun k hk h => by simp [Value.ownBlock] at hk; have h : k = q6 := h; omega)) (by omega)
                · refine ⟨?_, ?_, ?_, ?_, ?_, ?_⟩ <;> omega
                · exact ⟨by omega, by omega⟩
          · have hcell := cell_of_row _ q6 0 _ _ _ (((HC2.out (fun _ => False)).trans (HC3.out (fun _ => False)) (fun b hb => Or.inl hb)).heap HO6.out (fun h => h))
            have hfree := frozen_of_row _ q6 0 _ _ (((HC2.out (fun _ => False)).trans (HC3.out (fun _ => False)) (fun b hb => Or.inl hb)).heap HO6.out (fun h => h))
            obtain ⟨x4, hx, HB4, HS, HC4, z4a⟩ := st_step HB3.out (((HC2.out (fun _ => False)).trans (HC3.out (fun _ => False)) (fun b hb => Or.inl hb)).heap HO6.out (fun h => h)) (.slice (some ⟨q3, 0, none⟩) n cp) (by omega)
            go_simp
            clear hx hcell hfree
            refine hK.out _ _ (HH.out _ HB4.out) (fun hHeld => ?_)
            clear hK K
            try simp only [Act.put, List.setIfInBounds_toArray, List.set_cons_zero, List.set_cons_succ]
            refine wpAnyH_ready (rs := [5]) (by kernel_rfl) (by simp) (all_cons rfl rfl (fun K hK => ?_) (AllReadyH.nil))
            · go_simp
              obtain ⟨x5, q5, hx, hq, HB5, HO5, HC5, z5a, z5b, z5c⟩ := mk_step HB4.out (.cells (vecL (fun _ => .int .i64 0) n).toArray 3)
              rw [hx, hq]
              clear hx hq
              refine hK.out _ _ (HH.out _ HB5.out) (fun hHeld => ?_)
              clear hK K
              try simp only [Act.put, List.setIfInBounds_toArray, List.set_cons_zero, List.set_cons_succ]
              refine rt 9 hHeld ?_
              refine reg_done (by kernel_rfl) ?_ _
              go_wp2_with fail
              go_meet
              case rel =>
                refine ⟨q6, q1, q5, q3, n, n, cp, rfl, rfl, rfl, ?_, HB5.out⟩
                refine ⟨HN2.out _ HB5.out, (HC5.out (fun _ => False)).heap HS.out (fun h => h), ?_, ?_, ?_, ?_, ?_⟩
                · exact own_vecG ((((HC3.out (fun b => b = q6)).trans HC4.out (fun b hb => Or.inl hb)).trans (HC5.out (fun b => b = q6)) (fun b hb => Or.inl hb)).heap HO1.out (fun h => by have h : q1 = q6 := h; omega)) (by omega) (by unfold maxLen; omega)
                · exact own_vecG ((Chg.refl (S := (fun b => b = q6))).heap HO5.out (fun h => by have h : q5 = q6 := h; omega)) (by omega) (by unfold maxLen; omega)
                · exact own_mono ((HC4.out.trans (HC5.out (fun b => b = q6)) (fun b hb => Or.inl hb)).own HO3.out (fun k hk h => by simp [Value.ownBlock] at hk; have h : k = q6 := h; omega)) (by omega)
                · refine ⟨?_, ?_, ?_, ?_, ?_, ?_⟩ <;> omega
                · exact ⟨by omega, by omega⟩
        · go_simp
          obtain ⟨x3, q5, hx, hq, HB3, HO5, HC3, z3a, z3b, z3c⟩ := mk_step HB2.out (.cells (vecL (fun _ => .int .i64 0) n).toArray 3)
          rw [hx, hq]
          clear hx hq
          refine hK.out _ _ (HH.out _ HB3.out) (fun hHeld => ?_)
          clear hK K
          try simp only [Act.put, List.setIfInBounds_toArray, List.set_cons_zero, List.set_cons_succ]
          refine wpAnyH_ready (rs := [3]) (by kernel_rfl) (by simp) (all_cons rfl rfl (fun K hK => ?_) (AllReadyH.nil))
          · go_simp
            refine (HCL.out _ HB3.out).mono ?_
            rintro e x4 ⟨q3, cp, rfl, hown, hbC⟩
            obtain ⟨HB4, HO3, HC4, z4a, z4b, z4c⟩ := cl_step HB3.out hown hbC
            clear hown hbC
            go_wp2_with fail
            refine hK.out _ _ (HH.out _ HB4.out) (fun hHeld => ?_)
            clear hK K
            try simp only [Act.put, List.setIfInBounds_toArray, List.set_cons_zero, List.set_cons_succ]
            refine rt 7 hHeld ?_
            refine wpAnyH_ready (rs := [8]) (by kernel_rfl) (by simp) (all_cons rfl rfl (fun K hK => ?_) (AllReadyH.nil))
            · have hcell := cell_of_row _ q6 0 _ _ _ ((((HC2.out (fun _ => False)).trans (HC3.out (fun _ => False)) (fun b hb => Or.inl hb)).trans (HC4.out (fun _ => False)) (fun b hb => Or.inl hb)).heap HO6.out (fun h => h))
              have hfree := frozen_of_row _ q6 0 _ _ ((((HC2.out (fun _ => False)).trans (HC3.out (fun _ => False)) (fun b hb => Or.inl hb)).trans (HC4.out (fun _ => False)) (fun b hb => Or.inl hb)).heap HO6.out (fun h => h))
              obtain ⟨x5, hx, HB5, HS, HC5, z5a⟩ := st_step HB4.out ((((HC2.out (fun _ => False)).trans (HC3.out (fun _ => False)) (fun b hb => Or.inl hb)).trans (HC4.out (fun _ => False)) (fun b hb => Or.inl hb)).heap HO6.out (fun h => h)) (.slice (some ⟨q3, 0, none⟩) n cp) (by omega)
              go_simp
              clear hx hcell hfree
              refine hK.out _ _ (HH.out _ HB5.out) (fun hHeld => ?_)
              clear hK K
              try simp only [Act.put, List.setIfInBounds_toArray, List.set_cons_zero, List.set_cons_succ]
              refine rt 9 hHeld ?_
              refine reg_done (by kernel_rfl) ?_ _
              go_wp2_with fail
              go_meet
              case rel =>
                refine ⟨q6, q1, q5, q3, n, n, cp, rfl, rfl, rfl, ?_, HB5.out⟩
                refine ⟨HN2.out _ HB5.out, (Chg.refl (S := (fun _ => False))).heap HS.out (fun h => h), ?_, ?_, ?_, ?_, ?_⟩
                · exact own_vecG ((((HC3.out (fun b => b = q6)).trans (HC4.out (fun b => b = q6)) (fun b hb => Or.inl hb)).trans HC5.out (fun b hb => Or.inl hb)).heap HO1.out (fun h => by have h : q1 = q6 := h; omega)) (by omega) (by unfold maxLen; omega)
                · exact own_vecG (((HC4.out (fun b => b = q6)).trans HC5.out (fun b hb => Or.inl hb)).heap HO5.out (fun h => by have h : q5 = q6 := h; omega)) (by omega) (by unfold maxLen; omega)
                · exact own_mono (HC5.out.own HO3.out (fun k hk h => by simp [Value.ownBlock] at hk; have h : k = q6 := h; omega)) (by omega)
                · refine ⟨?_, ?_, ?_, ?_, ?_, ?_⟩ <;> omega
                · exact ⟨by omega, by omega⟩
      · go_simp
        refine (HCL.out _ HB1.out).mono ?_
        rintro e x2 ⟨q3, cp, rfl, hown, hbC⟩
        obtain ⟨HB2, HO3, HC2, z2a, z2b, z2c⟩ := cl_step HB1.out hown hbC
        clear hown hbC
        go_wp2_with fail
        refine hK.out _ _ (HH.out _ HB2.out) (fun hHeld => ?_)
        clear hK K
        try simp only [Act.put, List.setIfInBounds_toArray, List.set_cons_zero, List.set_cons_succ]
        refine wpAnyH_ready (rs := [1, 5]) (by kernel_rfl) (by simp) (all_cons rfl rfl (fun K hK => ?_) (all_cons rfl rfl (fun K hK => ?_) (AllReadyH.nil)))
        · go_simp
          obtain ⟨x3, q1, hx, hq, HB3, HO1, HC3, z3a, z3b, z3c⟩ := mk_step HB2.out (.cells (vecL (fun _ => .int .i64 0) n).toArray 3)
          rw [hx, hq]
          clear hx hq
          refine hK.out _ _ (HH.out _ HB3.out) (fun hHeld => ?_)
          clear hK K
          try simp only [Act.put, List.setIfInBounds_toArray, List.set_cons_zero, List.set_cons_succ]
          refine rt 7 hHeld ?_
          refine wpAnyH_ready (rs := [5, 8]) (by kernel_rfl) (by simp) (all_cons rfl rfl (fun K hK => ?_) (all_cons rfl rfl (fun K hK => ?_) (AllReadyH.nil)))
          · go_simp
            obtain ⟨x4, q5, hx, hq, HB4, HO5, HC4, z4a, z4b, z4c⟩ := mk_step HB3.out (.cells (vecL (fun _ => .int .i64 0) n).toArray 3)
            rw [hx, hq]
            clear hx hq
            refine hK.out _ _ (HH.out _ HB4.out) (fun hHeld => ?_)
            clear hK K
            try simp only [Act.put, List.setIfInBounds_toArray, List.set_cons_zero, List.set_cons_succ]
            refine wpAnyH_ready (rs := [8]) (by kernel_rfl) (by simp) (all_cons rfl rfl (fun K hK => ?_) (AllReadyH.nil))
            · have hcell := cell_of_row _ q6 0 _ _ _ ((((HC2.out (fun _ => False)).trans (HC3.out (fun _ => False)) (fun b hb => Or.inl hb)).trans (HC4.out (fun _ => False)) (fun b hb => Or.inl hb)).heap HO6.out (fun h => h))
              have hfree := frozen_of_row _ q6 0 _ _ ((((HC2.out (fun _ => False)).trans (HC3.out (fun _ => False)) (fun b hb => Or.inl hb)).trans (HC4.out (fun _ => False)) (fun b hb => Or.inl hb)).heap HO6.out (fun h => h))
              obtain ⟨x5, hx, HB5, HS, HC5, z5a⟩ := st_step HB4.out ((((HC2.out (fun _ => False)).trans (HC3.out (fun _ => False)) (fun b hb => Or.inl hb)).trans (HC4.out (fun _ => False)) (fun b hb => Or.inl hb)).heap HO6.out (fun h => h)) (.slice (some ⟨q3, 0, none⟩) n cp) (by omega)
              go_simp
              clear hx hcell hfree
              refine hK.out _ _ (HH.out _ HB5.out) (fun hHeld => ?_)
              clear hK K
              try simp only [Act.put, List.setIfInBounds_toArray, List.set_cons_zero, List.set_cons_succ]
              refine rt 9 hHeld ?_
              refine reg_done (by kernel_rfl) ?_ _
              go_wp2_with fail
              go_meet
              case rel =>
                refine ⟨q6, q1, q5, q3, n, n, cp, rfl, rfl, rfl, ?_, HB5.out⟩
                refine ⟨HN2.out _ HB5.out, (Chg.refl (S := (fun _ => False))).heap HS.out (fun h => h), ?_, ?_, ?_, ?_, ?_⟩
                · exact own_vecG (((HC4.out (fun b => b = q6)).trans HC5.out (fun b hb => Or.inl hb)).heap HO1.out (fun h => by have h : q1 = q6 := h; omega)) (by omega) (by unfold maxLen; omega)
                · exact own_vecG (HC5.out.heap HO5.out (fun h => by have h : q5 = q6 := h; omega)) (by omega) (by unfold maxLen; omega)
                · exact own_mono ((((HC3.out (fun b => b = q6)).trans (HC4.out (fun b => b = q6)) (fun b hb => Or.inl hb)).trans HC5.out (fun b hb => Or.inl hb)).own HO3.out (fun k hk h => by simp [Value.ownBlock] at hk; have h : k = q6 := h; omega)) (by omega)
                · refine ⟨?_, ?_, ?_, ?_, ?_, ?_⟩ <;> omega
                · exact ⟨by omega, by omega⟩
          · have hcell := cell_of_row _ q6 0 _ _ _ (((HC2.out (fun _ => False)).trans (HC3.out (fun _ => False)) (fun b hb => Or.inl hb)).heap HO6.out (fun h => h))
            have hfree := frozen_of_row _ q6 0 _ _ (((HC2.out (fun _ => False)).trans (HC3.out (fun _ => False)) (fun b hb => Or.inl hb)).heap HO6.out (fun h => h))
            obtain ⟨x4, hx, HB4, HS, HC4, z4a⟩ := st_step HB3.out (((HC2.out (fun _ => False)).trans (HC3.out (fun _ => False)) (fun b hb => Or.inl hb)).heap HO6.out (fun h => h)) (.slice (some ⟨q3, 0, none⟩) n cp) (by omega)
            go_simp
            clear hx hcell hfree
            refine hK.out _ _ (HH.out _ HB4.out) (fun hHeld => ?_)
            clear hK K
            try simp only [Act.put, List.setIfInBounds_toArray, List.set_cons_zero, List.set_cons_succ]
            refine wpAnyH_ready (rs := [5]) (by kernel_rfl) (by simp) (all_cons rfl rfl (fun K hK => ?_) (AllReadyH.nil))
            · go_simp
              obtain ⟨x5, q5, hx, hq, HB5, HO5, HC5, z5a, z5b, z5c⟩ := mk_step HB4.out (.cells (vecL (fun _ => .int .i64 0) n).toArray 3)
              rw [hx, hq]
              clear hx hq
              refine hK.out _ _ (HH.out _ HB5.out) (fun hHeld => ?_)
              clear hK K
              try simp only [Act.put, List.setIfInBounds_toArray, List.set_cons_zero, List.set_cons_succ]
              refine rt 9 hHeld ?_
              refine reg_done (by kernel_rfl) ?_ _
              go_wp2_with fail
              go_meet
              case rel =>
                refine ⟨q6, q1, q5, q3, n, n, cp, rfl, rfl, rfl, ?_, HB5.out⟩
                refine ⟨HN2.out _ HB5.out, (HC5.out (fun _ => False)).heap HS.out (fun h => h), ?_, ?_, ?_, ?_, ?_⟩
                · exact own_vecG ((HC4.out.trans (HC5.out (fun b => b = q6)) (fun b hb => Or.inl hb)).heap HO1.out (fun h => by have h : q1 = q6 := h; omega)) (by omega) (by unfold maxLen; omega)
                · exact own_vecG ((Chg.refl (S := (fun b => b = q6))).heap HO5.out (fun h => by have h : q5 = q6 := h; omega)) (by omega) (by unfold maxLen; omega)
                · exact own_mono ((((HC3.out (fun b => b = q6)).trans HC4.out (fun b hb => Or.inl hb)).trans (HC5.out (fun b => b = q6)) (fun b hb => Or.inl hb)).own HO3.out (fun k hk h => by simp [Value.ownBlock] at hk; have h : k = q6 := h; omega)) (by omega)
                · refine ⟨?_, ?_, ?_, ?_, ?_, ?_⟩ <;> omega
                · exact ⟨by omega, by omega⟩
        · go_simp
          obtain ⟨x3, q5, hx, hq, HB3, HO5, HC3, z3a, z3b, z3c⟩ := mk_step HB2.out (.cells (vecL (fun _ => .int .i64 0) n).toArray 3)
          rw [hx, hq]
          clear hx hq
          refine hK.out _ _ (HH.out _ HB3.out) (fun hHeld => ?_)
          clear hK K
          try simp only [Act.put, List.setIfInBounds_toArray, List.set_cons_zero, List.set_cons_succ]
          refine wpAnyH_ready (rs := [1]) (by kernel_rfl) (by simp) (all_cons rfl rfl (fun K hK => ?_) (AllReadyH.nil))
          · go_simp
            obtain ⟨x4, q1, hx, hq, HB4, HO1, HC4, z4a, z4b, z4c⟩ := mk_step HB3.out (.cells (vecL (fun _ => .int .i64 0) n).toArray 3)
            rw [hx, hq]
            clear hx hq
            refine hK.out _ _ (HH.out _ HB4.out) (fun hHeld => ?_)
            clear hK K
            try simp only [Act.put, List.setIfInBounds_toArray, List.set_cons_zero, List.set_cons_succ]
            refine rt 7 hHeld ?_
            refine wpAnyH_ready (rs := [8]) (by kernel_rfl) (by simp) (all_cons rfl rfl (fun K hK => ?_) (AllReadyH.nil))
            · have hcell := cell_of_row _ q6 0 _ _ _ ((((HC2.out (fun _ => False)).trans (HC3.out (fun _ => False)) (fun b hb => Or.inl hb)).trans (HC4.out (fun _ => False)) (fun b hb => Or.inl hb)).heap HO6.out (fun h => h))
              have hfree := frozen_of_row _ q6 0 _ _ ((((HC2.out (fun _ => False)).trans (HC3.out (fun _ => False)) (fun b hb => Or.inl hb)).trans (HC4.out (fun _ => False)) (fun b hb => Or.inl hb)).heap HO6.out (fun h => h))
              obtain ⟨x5, hx, HB5, HS, HC5, z5a⟩ := st_step HB4.out ((((HC2.out (fun _ => False)).trans (HC3.out (fun _ => False)) (fun b hb => Or.inl hb)).trans (HC4.out (fun _ => False)) (fun b hb => Or.inl hb)).heap HO6.out (fun h => h)) (.slice (some ⟨q3, 0, none⟩) n cp) (by omega)
              go_simp
              clear hx hcell hfree
              refine hK.out _ _ (HH.out _ HB5.out) (fun hHeld => ?_)
              clear hK K
              try simp only [Act.put, List.setIfInBounds_toArray, List.set_cons_zero, List.set_cons_succ]
              refine rt 9 hHeld ?_
              refine reg_done (by kernel_rfl) ?_ _
              go_wp2_with fail
              go_meet
              case rel =>
                refine ⟨q6, q1, q5, q3, n, n, cp, rfl, rfl, rfl, ?_, HB5.out⟩
                refine ⟨HN2.out _ HB5.out, (Chg.refl (S := (fun _ => False))).heap HS.out (fun h => h), ?_, ?_, ?_, ?_, ?_⟩
                · exact own_vecG (HC5.out.heap HO1.out (fun h => by have h : q1 = q6 := h; omega)) (by omega) (by unfold maxLen; omega)
                · exact own_vecG (((HC4.out (fun b => b = q6)).trans HC5.out (fun b hb => Or.inl hb)).heap HO5.out (fun h => by have h : q5 = q6 := h; omega)) (by omega) (by unfold maxLen; omega)
                · exact own_mono ((((HC3.out (fun b => b = q6)).trans (HC4.out (fun b => b = q6)) (fun b hb => Or.inl hb)).trans HC5.out (fun b hb => Or.inl hb)).own HO3.out (fun k hk h => by simp [Value.ownBlock] at hk; have h : k = q6 := h; omega)) (by omega)
                · refine ⟨?_, ?_, ?_, ?_, ?_, ?_⟩ <;> omega
                · exact ⟨by omega, by omega⟩
      · go_simp
        obtain ⟨x2, q5, hx, hq, HB2, HO5, HC2, z2a, z2b, z2c⟩ := mk_step HB1.out (.cells (vecL (fun _ => .int .i64 0) n).toArray 3)
        rw [hx, hq]
        clear hx hq
        refine hK.out _ _ (HH.out _ HB2.out) (fun hHeld => ?_)
        clear hK K
        try simp only [Act.put, List.setIfInBounds_toArray, List.set_cons_zero, List.set_cons_succ]
        refine wpAnyH_ready (rs := [1, 3]) (by kernel_rfl) (by simp) (all_cons rfl rfl (fun K hK => ?_) (all_cons rfl rfl (fun K hK => ?_) (AllReadyH.nil)))
        · go_simp
          obtain ⟨x3, q1, hx, hq, HB3, HO1, HC3, z3a, z3b, z3c⟩ := mk_step HB2.out (.cells (vecL (fun _ => .int .i64 0) n).toArray 3)
          rw [hx, hq]
          clear hx hq
          refine hK.out _ _ (HH.out _ HB3.out) (fun hHeld => ?_)
          clear hK K
          try simp only [Act.put, List.setIfInBounds_toArray, List.set_cons_zero, List.set_cons_succ]
          refine wpAnyH_ready (rs := [3]) (by kernel_rfl) (by simp) (all_cons rfl rfl (fun K hK => ?_) (AllReadyH.nil))
          · go_simp
            refine (HCL.out _ HB3.out).mono ?_
            rintro e x4 ⟨q3, cp, rfl, hown, hbC⟩
            obtain ⟨HB4, HO3, HC4, z4a, z4b, z4c⟩ := cl_step HB3.out hown hbC
            clear hown hbC
            go_wp2_with fail
            refine hK.out _ _ (HH.out _ HB4.out) (fun hHeld => ?_)
            clear hK K
            try simp only [Act.put, List.setIfInBounds_toArray, List.set_cons_zero, List.set_cons_succ]
            refine rt 7 hHeld ?_
            refine wpAnyH_ready (rs := [8]) (by kernel_rfl) (by simp) (all_cons rfl rfl (fun K hK => ?_) (AllReadyH.nil))
            · have hcell := cell_of_row _ q6 0 _ _ _ ((((HC2.out (fun _ => False)).trans (HC3.out (fun _ => False)) (fun b hb => Or.inl hb)).trans (HC4.out (fun _ => False)) (fun b hb => Or.inl hb)).heap HO6.out (fun h => h))
              have hfree := frozen_of_row _ q6 0 _ _ ((((HC2.out (fun _ => False)).trans (HC3.out (fun _ => False)) (fun b hb => Or.inl hb)).trans (HC4.out (fun _ => False)) (fun b hb => Or.inl hb)).heap HO6.out (fun h => h))
              obtain ⟨x5, hx, HB5, HS, HC5, z5a⟩ := st_step HB4.out ((((HC2.out (fun _ => False)).trans (HC3.out (fun _ => False)) (fun b hb => Or.inl hb)).trans (HC4.out (fun _ => False)) (fun b hb => Or.inl hb)).heap HO6.out (fun h => h)) (.slice (some ⟨q3, 0, none⟩) n cp) (by omega)
              go_simp
              clear hx hcell hfree
              refine hK.out _ _ (HH.out _ HB5.out) (fun hHeld => ?_)
              clear hK K
              try simp only [Act.put, List.setIfInBounds_toArray, List.set_cons_zero, List.set_cons_succ]
              refine rt 9 hHeld ?_
              refine reg_done (by kernel_rfl) ?_ _
              go_wp2_with fail
              go_meet
              case rel =>
                refine ⟨q6, q1, q5, q3, n, n, cp, rfl, rfl, rfl, ?_, HB5.out⟩
                refine ⟨HN2.out _ HB5.out, (Chg.refl (S := (fun _ => False))).heap HS.out (fun h => h), ?_, ?_, ?_, ?_, ?_⟩
                · exact own_vecG (((HC4.out (fun b => b = q6)).trans HC5.out (fun b hb => Or.inl hb)).heap HO1.out (fun h => by have h : q1 = q6 := h; omega)) (by omega) (by unfold maxLen; omega)
                · exact own_vecG ((((HC3.out (fun b => b = q6)).trans (HC4.out (fun b => b = q6)) (fun b hb => Or.inl hb)).trans HC5.out (fun b hb => Or.inl hb)).heap HO5.out (fun h => by have h : q5 = q6 := h; omega)) (by omega) (by unfold maxLen; omega)
                · exact own_mono (HC5.out.own HO3.out (fun k hk h => by simp [Value.ownBlock] at hk; have h : k = q6 := h; omega)) (by omega)
                · refine ⟨?_, ?_, ?_, ?_, ?_, ?_⟩ <;> omega
                · exact ⟨by omega, by omega⟩
        · go_simp
          refine (HCL.out _ HB2.out).mono ?_
          rintro e x3 ⟨q3, cp, rfl, hown, hbC⟩
          obtain ⟨HB3, HO3, HC3, z3a, z3b, z3c⟩ := cl_step HB2.out hown hbC
          clear hown hbC
          go_wp2_with fail
          refine hK.out _ _ (HH.out _ HB3.out) (fun hHeld => ?_)
          clear hK K
          try simp only [Act.put, List.setIfInBounds_toArray, List.set_cons_zero, List.set_cons_succ]
          refine wpAnyH_ready (rs := [1]) (by kernel_rfl) (by simp) (all_cons rfl rfl (fun K hK => ?_) (AllReadyH.nil))
          · go_simp
            obtain ⟨x4, q1, hx, hq, HB4, HO1, HC4, z4a, z4b, z4c⟩ := mk_step HB3.out (.cells (vecL (fun _ => .int .i64 0) n).toArray 3)
            rw [hx, hq]
            clear hx hq
            refine hK.out _ _ (HH.out _ HB4.out) (fun hHeld => ?_)
            clear hK K
            try simp only [Act.put, List.setIfInBounds_toArray, List.set_cons_zero, List.set_cons_succ]
            refine rt 7 hHeld ?_
            refine wpAnyH_ready (rs := [8]) (by kernel_rfl) (by simp) (all_cons rfl rfl (fun K hK => ?_) (AllReadyH.nil))
            · have hcell := cell_of_row _ q6 0 _ _ _ ((((HC2.out (fun _ => False)).trans (HC3.out (fun _ => False)) (fun b hb => Or.inl hb)).trans (HC4.out (fun _ => False)) (fun b hb => Or.inl hb)).heap HO6.out (fun h => h))
              have hfree := frozen_of_row _ q6 0 _ _ ((((HC2.out (fun _ => False)).trans (HC3.out (fun _ => False)) (fun b hb => Or.inl hb)).trans (HC4.out (fun _ => False)) (fun b hb => Or.inl hb)).heap HO6.out (fun h => h))
              obtain ⟨x5, hx, HB5, HS, HC5, z5a⟩ := st_step HB4.out ((((HC2.out (fun _ => False)).trans (HC3.out (fun _ => False)) (fun b hb => Or.inl hb)).trans (HC4.out (fun _ => False)) (fun b hb => Or.inl hb)).heap HO6.out (fun h => h)) (.slice (some ⟨q3, 0, none⟩) n cp) (by omega)
              go_simp
              clear hx hcell hfree
              refine hK.out _ _ (HH.out _ HB5.out) (fun hHeld => ?_)
              clear hK K
              try simp only [Act.put, List.setIfInBounds_toArray, List.set_cons_zero, List.set_cons_succ]
              refine rt 9 hHeld ?_
              refine reg_done (by kernel_rfl) ?_ _
              go_wp2_with fail
              go_meet
              case rel =>
                refine ⟨q6, q1, q5, q3, n, n, cp, rfl, rfl, rfl, ?_, HB5.out⟩
                refine ⟨HN2.out _ HB5.out, (Chg.refl (S := (fun _ => False))).heap HS.out (fun h => h), ?_, ?_, ?_, ?_, ?_⟩
                · exact own_vecG (HC5.out.heap HO1.out (fun h => by have h : q1 = q6 := h; omega)) (by omega) (by unfold maxLen; omega)
                · exact own_vecG ((((HC3.out (fun b => b = q6)).trans (HC4.out (fun b => b = q6)) (fun b hb => Or.inl hb)).trans HC5.out (fun b hb => Or.inl hb)).heap HO5.out (fun h => by have h : q5 = q6 := h; omega)) (by omega) (by unfold maxLen; omega)
                · exact own_mono (((HC4.out (fun b => b = q6)).trans HC5.out (fun b hb => Or.inl hb)).own HO3.out (fun k hk h => by simp [Value.ownBlock] at hk; have h : k = q6 := h; omega)) (by omega)
                · refine ⟨?_, ?_, ?_, ?_, ?_, ?_⟩ <;> omega
                · exact ⟨by omega, by omega⟩
    -- END OF REGION 3
  case rest =>
    obtain ⟨br, qr, gn, g, c1, c2, c3, rfl, rfl, rfl, hst, hb⟩ := hcut
    have hbw : Below w.heap.size w wc := by
      have h1 : Below w.heap.size w w2 := by rw [← HW2.out]; exact HBW.out.alloc HBW.out.size _
      exact h1.trans (hb.mono h1.size)
    have hn63 : (n : Int) ≤ 1000001 := by omega
    clear hc2 hb HB0 HH HN2 HCL HRC hmk hr
    go_wp2_with fail
    go_loopw [26, 8] (fun i s8 wr => ∃ k : Nat, k ≤ n ∧ i = .int .i64 k ∧ RowsSt w.heap.size wr n bn br qr gn g c1 c2 c3 (fun j => if j < k then (j : Int) else 0) (fun _ => 0) (sy (symsT t)) ∧ Below w.heap.size w wr) (fun i _ _ => n - (intOf i).toNat)
    case atStart => exact ⟨0, Nat.zero_le _, rfl, hst.congr (fun i _ => by simp) (fun _ _ => rfl) (fun _ _ => rfl), hbw⟩
    case round =>
      clear hst hbw
      obtain ⟨k, hk, rfl, hst, hbw⟩ := hrel
      have hs := hbw.size
      by_cases hlt : k < n
      · obtain ⟨_, _, d3, _, _, d6, _, _⟩ := hst.cells
        have e3 := d3 k hlt
        have e6 := d6 k
        simp only [Nat.lt_irrefl, if_false] at e3
        have HST := Lib.hid hst
        have hq := (own_lt hst.rows (k := qr) rfl).1
        clear d3 d6 hst
        go_wp2_with fail
        go_roundw
        case rel =>
          refine ⟨k + 1, by omega, by go_num, (HST.out.setRows k k).congr (fun i _ => ?_) (fun _ _ => rfl) (fun _ _ => rfl), below_setQ hbw hs hq _⟩
          by_cases e : i = k
          · subst e; simp
          · rw [if_neg e]
            by_cases e2 : i < k
            · rw [if_pos e2, if_pos (by omega)]
            · rw [if_neg e2, if_neg (by omega)]
        case measure => simp [intOf]; omega
      · obtain rfl : k = n := by omega
        have hst := hst.congr (fr' := fun i => (((List.range k)[i]?.getD 0 : Nat) : Int)) (fun i hi => by simp [hi]) (fun _ _ => rfl) (fun _ _ => rfl)
        have HST := Lib.hid hst
        have HBW := Lib.hid hbw
        clear hst
        go_wp2_with fail
        go_loopw [7, 9] (fun v7 v9 wr => RoundSt w.heap.size w wr (symsT t) k bn br qr c1 v7 v9) (fun _ v9 wr => k + 1 - cellNat wr v9)
        case atStart =>
          have hbw := HBW.out
          have hs := hbw.size
          have hal := heap_alloc_new wr (.cells #[.int .i64 1] 3)
          have hst2 := HST.out.still (below_al wr (.cells #[.int .i64 1] 3))
          have l1 := (own_lt HST.out.rows (k := qr) rfl).2
          have l2 := (own_lt HST.out.next (k := gn) rfl).2
          have l3 := (own_lt HST.out.rank (k := g) rfl).2
          refine ⟨wr.heap.size, gn, g, c2, c3, 1, symsT t, _, List.range k, rfl, rfl, hal, hst2, rankOf_one (symsT_is (byteL_of hb)).nn, List.Perm.refl _, by omega, Or.inr rfl, ?_, by omega, by omega, by omega, hs, hbw.alloc hs _⟩
          intro i hi
          have := (symsT_range (byteL_of hb)) (sy (symsT t) i) (by rw [sy_in (by rw [HLS.out]; exact hi)]; exact List.getElem_mem _)
          omega
        case round =>
          clear hbw HST HBW hs hlt
          obtain ⟨wo, rfl⟩ : ∃ wo : World, wo = wr := ⟨_, rfl⟩
          obtain ⟨bw, gn, g, c2, c3, wide, rk, fn, r, rfl, rfl, hbx, hst, hrk, hp, hw0, hw1, hrm, hq1, hq2, hq3, hbB, hbw⟩ := hrel
          have hs := hbw.size
          have hrkl : rk.length = k := by rw [hrk.len]; exact HLS.out
          have hrl : r.length = k := by have := hp.length_eq; simpa using this
          have hwm : wide ≤ 1000001 := by omega
          have HMEA : Hid (cellNat wo (.pointer (some ⟨bw, 0, none⟩)) = wide) := cellNat_of (cell_of_row wo bw 0 _ _ _ hbx)
          -- the closures' boxes
          have hst2 := hst.still (below_al wo (.cells #[.func (.func 69) #[] #[.pointer (some ⟨bw, 0, none⟩), .pointer (some ⟨bn, 0, none⟩), .pointer (some ⟨br, 0, none⟩)]] 37))
          have hbx2 := below_heap (below_al wo (.cells #[.func (.func 69) #[] #[.pointer (some ⟨bw, 0, none⟩), .pointer (some ⟨bn, 0, none⟩), .pointer (some ⟨br, 0, none⟩)]] 37)) hbx
          have hbf := heap_alloc_new wo (.cells #[.func (.func 69) #[] #[.pointer (some ⟨bw, 0, none⟩), .pointer (some ⟨bn, 0, none⟩), .pointer (some ⟨br, 0, none⟩)]] 37)
          have hbw2 := hbw.alloc hs (.cells #[.func (.func 69) #[] #[.pointer (some ⟨bw, 0, none⟩), .pointer (some ⟨bn, 0, none⟩), .pointer (some ⟨br, 0, none⟩)]] 37)
          go_wp2_with fail
          have l1 := (own_lt hst.rows (k := qr) rfl)
          have l2 := (own_lt hst.next (k := gn) rfl)
          have l3 := (own_lt hst.rank (k := g) rfl)
          have l4 := (Array.getElem?_eq_some_iff.1 hst.nb).1
          have l5 := (Array.getElem?_eq_some_iff.1 hst.rb).1
          have l6 := (Array.getElem?_eq_some_iff.1 hbx).1
          generalize wo.alloc (.cells #[.func (.func 69) #[] #[.pointer (some ⟨bw, 0, none⟩), .pointer (some ⟨bn, 0, none⟩), .pointer (some ⟨br, 0, none⟩)]] 37) = w3 at *
          generalize wo.heap.size = bf at *
          have hrkb : ∀ i, -1 ≤ sy rk i ∧ sy rk i ≤ 1000000000 := by
            intro i
            by_cases hi : i < rk.length
            · have a1 := hrk.nn i hi
              have a2 := hrm i (by omega)
              omega
            · rw [sy_over (by omega)]; omega
          obtain ⟨d1, d2, d3, d4, d5, d6, d7, d8⟩ := hst2.cells
          have hsort := sort_rows (l := symsT t) (r := r) (capr := c1) (B := w.heap.size) ⟨by rw [cell_of_row w3 bw 0 _ _ _ hbx2]; rfl, by rw [hrkl]; exact d1, by rw [hrkl]; exact d2, fun i hi => d5 i (by omega)⟩
            (by rw [cell_of_row w3 bf 0 _ _ _ hbf]; rfl) hrk (by rw [HLS.out]; exact hp) (by rw [natV_vec hrl, hrl]; exact hst2.rows) ⟨hq1, hst.ne.2.2.2.1, hst.ne.2.2.2.2.2.2.1, by omega, fun e => hst.ne.2.1 e.symm⟩ (by rw [HLS.out]; exact hn0) (by rw [HLS.out]; omega) (by omega) hrkb
          rw [hrl] at hsort
          clear d1 d2 d3 d4 d5 d6 d7 d8
          refine hsort.mono ?_
          clear hsort
          rintro e w4 ⟨rfl, r', hsk, hl', hown', hchg⟩
          have hst4 := hst2.newRows hchg (fr' := fun i => ((r'[i]?.getD 0 : Nat) : Int)) (by rw [← natV_vec hl']; exact hown')
          have hbx4 := hchg.heap hbx2 (fun e => hq1 e)
          have hbf4 := hchg.heap hbf (fun e => by have e : bf = qr := e; omega)
          have hbw4 : Below w.heap.size w w4 := hbw2.trans (hchg.below (B := w.heap.size) (fun b h => by rw [h]; exact l1.1) hbw2.size)
          have hr'lt : ∀ i, i < k → r'[i]?.getD 0 < k := by
            intro i hi
            have h1 : i < r'.length := by omega
            have h2 := List.mem_range.1 (hsk.1.mem_iff.1 (List.getElem_mem h1))
            have h3 := HLS.out
            rw [getD_eq h1]; omega
          clear hown' hchg hst2 hbx2 hbf hbw2 hst hbx hp hrl l4 l5
          clear hrm
          obtain ⟨d1, d2, d3, d4, d5, d6, d7, d8⟩ := hst4.cells
          have e1 := d3 0 hn0
          have hr0 := hr'lt 0 hn0
          have e2 := d4 (r'[0]?.getD 0) hr0
          have e3 := d7 (r'[0]?.getD 0)
          have hst5 := hst4.setNext (r'[0]?.getD 0) 0
          have HST5 := Lib.hid hst5
          have HBX4 := Lib.hid hbx4
          have HBF4 := Lib.hid hbf4
          have HSK := Lib.hid hsk
          have HRT := Lib.hid hr'lt
          have HRK := Lib.hid hrk
          have HRKB := Lib.hid hrkb
          have HRKL := Lib.hid hrkl
          have HL' := Lib.hid hl'
          clear d1 d2 d3 d4 d5 d6 d7 d8 hst4 hst5 hbx4 hbf4 hsk hr'lt hrk hrkb hrkl hl'
          generalize hr0e : r'[0]?.getD 0 = r0 at *
          have HR0 := Lib.hid hr0e
          clear hr0e
          go_wp2_with fail
          obtain ⟨wq, rfl⟩ : ∃ wq : World, wq = w4 := ⟨_, rfl⟩
          go_loopw [12] (fun v12 wr => ∃ (j : Nat) (fn : Nat → Int), 1 ≤ j ∧ j ≤ k ∧ v12 = .int .i64 j ∧ RowsSt w.heap.size wr k bn br qr gn g c1 c2 c3 (fun i => ((r'[i]?.getD 0 : Nat) : Int)) fn (sy rk) ∧
            wr.heap[bw]? = some (.cells #[.int .i64 wide] 3 (0, 0)) ∧
            wr.heap[bf]? = some (.cells #[.func (.func 69) #[] #[.pointer (some ⟨bw, 0, none⟩), .pointer (some ⟨bn, 0, none⟩), .pointer (some ⟨br, 0, none⟩)]] 37 (0, 0)) ∧
            (∀ i, i < j → fn (r'[i]?.getD 0) = (cntR rk wide r' i : Int)) ∧ Below w.heap.size w wr) (fun v12 _ => k - (intOf v12).toNat)
          case atStart =>
            have hc : Chg (fun b => b = gn) wq (wq.setCell ⟨gn, r0, none⟩ (.int .i64 0)) := Chg.refl.setCell (S := fun b => b = gn) ⟨gn, r0, none⟩ (Or.inl rfl) _
            refine ⟨1, _, by omega, by omega, rfl, HST5.out, hc.heap HBX4.out (fun e => hq2 e), hc.heap HBF4.out (fun e => by have e : bf = gn := e; omega), ?_, hbw4.trans (hc.below (fun b h => by rw [h]; exact l2.1) hbw4.size)⟩
            intro i hi
            obtain rfl : i = 0 := by omega
            rw [HR0.out, if_pos rfl]; rfl
          case round =>
            clear hbw4 HST5 HBX4 HBF4 e1 e2 e3 hs hbw
            obtain ⟨j, fn, hj1, hj2, rfl, hst, hbx, hbf, hcnt, hbw⟩ := hrel
            have hs := hbw.size
            have HST := Lib.hid hst
            have HBX := Lib.hid hbx
            have HBF := Lib.hid hbf
            have HCNT := Lib.hid hcnt
            obtain ⟨d1, d2, d3, d4, d5, d6, d7, d8⟩ := hst.cells
            by_cases hlt : j < k
            · obtain ⟨i, rfl⟩ : ∃ i, j = i + 1 := ⟨j - 1, by omega⟩
              have e1 := d3 (i + 1) hlt
              have e2 := d3 i (by omega)
              have ha := HRT.out (i + 1) hlt
              have hb' := HRT.out i (by omega)
              have e3 := d4 (r'[i]?.getD 0) hb'
              have e4 := d4 (r'[i + 1]?.getD 0) ha
              have e5 := d7 (r'[i + 1]?.getD 0)
              have e6 : w.heap.size ≤ gn := l2.1
              clear d2 d3 d4 d5 d6 d7 d8 hst hbx hbf hcnt
              generalize hae : r'[i + 1]?.getD 0 = ra at *
              generalize hbe : r'[i]?.getD 0 = rb at *
              have HAE := Lib.hid hae
              have HBE := Lib.hid hbe
              clear hae hbe
              generalize hxe : fn rb = x at *
              generalize hye : fn ra = y at *
              have HXE := Lib.hid hxe
              have HYE := Lib.hid hye
              clear hxe hye
              have hx : x = (cntR rk wide r' i : Int) := by rw [← HXE.out, ← HBE.out]; exact HCNT.out i (by omega)
              have hxl := cntR_le rk wide r' i
              have hx0 : 0 ≤ x := by omega
              have hx1 : x ≤ 1000001 := by omega
              have HX := Lib.hid hx
              have hc6 : Chg (fun b => b = gn) wr (wr.setCell ⟨gn, ra, none⟩ (.int .i64 x)).drew := (Chg.refl.setCell (S := fun b => b = gn) ⟨gn, ra, none⟩ (Or.inl rfl) _).drew
              have HST6 : Hid (RowsSt w.heap.size (wr.setCell ⟨gn, ra, none⟩ (.int .i64 x)).drew k bn br qr gn g c1 c2 c3 (fun i => ((r'[i]?.getD 0 : Nat) : Int)) (fun z => if z = ra then x else fn z) (sy rk)) := (HST.out.setNext ra x).drewN 1
              have HBX6 := Lib.hid (hc6.heap HBX.out (fun e => hq2 e))
              have HBF6 := Lib.hid (hc6.heap HBF.out (fun e => by have e : bf = gn := e; omega))
              have HBW6 := Lib.hid (hbw.trans (hc6.below (B := w.heap.size) (fun b h => by rw [h]; exact l2.1) hbw.size))
              have hlast : cntR rk wide r' (i + 1) = cntR rk wide r' i + (if ordV rk wide rb ra = 0 then 0 else 1) := by rw [← HAE.out, ← HBE.out]; rfl
              have HLAST := Lib.hid hlast
              have hnd : ∀ z, z ≤ i → r'[z]?.getD 0 ≠ ra := by
                intro z hz e
                have hn : r'.Nodup := HSK.out.1.nodup_iff.2 List.nodup_range
                have h1 : z < r'.length := by have := HL'.out; omega
                have h2 : i + 1 < r'.length := by have := HL'.out; omega
                rw [← HAE.out, getD_eq h1, getD_eq h2] at e
                exact List.pairwise_iff_getElem.1 hn z (i + 1) h1 h2 (by omega) e
              have HND := Lib.hid hnd
              clear hlast hnd hx hxl hc6
              go_wp2_with fail
              go_region
              clear e1 e2 e3 e4 e5 d1
              generalize (wr.setCell ⟨gn, ra, none⟩ (.int .i64 x)).drew = w6 at *
              have HORD : Hid (∀ m, Calls Tryz.prog 70 #[.int .i64 rb, .int .i64 ra, .pointer (some ⟨br, 0, none⟩), .pointer (some ⟨bf, 0, none⟩)] (w6.drewN m) fun e w' => e = .returned (.int .i64 (ordV rk wide rb ra)) ∧ ∃ q, w' = w6.drewN q) := by
                intro m
                obtain ⟨d1, d2, d3, d4, d5, d6, d7, d8⟩ := HST6.out.cells
                have hat : RkAt w6 bw bn br g c3 wide rk := ⟨by rw [cell_of_row w6 bw 0 _ _ _ HBX6.out]; rfl, by rw [HRKL.out]; exact d1, by rw [HRKL.out]; exact d2, fun i hi => d5 i (by have := HRKL.out; omega)⟩
                refine (order_any (hat.drewN m) (by show w6.cell? _ = _; rw [cell_of_row w6 bf 0 _ _ _ HBF6.out]; rfl) rb ra (by have := HRKL.out; omega) (by have := HRKL.out; omega) (by have := HRKL.out; omega) (by omega) HRKB.out).mono ?_
                rintro e w' ⟨rfl, q, rfl⟩
                exact ⟨rfl, _, World.drewN_drewN _ _ _⟩
              obtain ⟨d1, d2, d3, d4, d5, d6, d7, d8⟩ := HST6.out.cells
              have e1 := d3 (i + 1) hlt
              have e2 := d3 i (by omega)
              rw [HAE.out] at e1
              rw [HBE.out] at e2
              clear d1 d2 d3 d4 d5 d6 d7 d8
              generalize ho : ordV rk wide rb ra = o at *
              have HO := Lib.hid ho
              clear ho
              by_cases hoz : o = 0
              · subst hoz
                go_wp2_with fail
                go_quiet ((go_at_call 70; exact HORD.out _))
                go_wp2_with fail
                go_roundw
                case rel =>
                  refine ⟨i + 2, _, by omega, by omega, by go_num, HST6.out.drewN _, HBX6.out, HBF6.out, ?_, below_dN HBW6.out _⟩
                  intro z hz
                  by_cases e : z ≤ i
                  · rw [if_neg (HND.out z e)]; exact HCNT.out z (by omega)
                  · obtain rfl : z = i + 1 := by omega
                    have h1 := HX.out
                    have h2 := HLAST.out
                    simp only [if_true, Nat.add_zero] at h2
                    rw [HAE.out, if_pos rfl, h2]; exact h1
                case measure => simp [intOf]; omega
              · have hob : (o != 0) = true := by simp [hoz]
                have HOZ := Lib.hid hoz
                clear hoz
                go_wp2_with fail
                go_quiet ((go_at_call 70; exact HORD.out _))
                have HST7 : Hid (RowsSt w.heap.size (w6.drewN nq) k bn br qr gn g c1 c2 c3 (fun i => ((r'[i]?.getD 0 : Nat) : Int)) (fun z => if z = ra then x else fn z) (sy rk)) := HST6.out.drewN nq
                have HBX7 : Hid ((w6.drewN nq).heap[bw]? = _) := HBX6.out
                have HBF7 : Hid ((w6.drewN nq).heap[bf]? = _) := HBF6.out
                have HBW7 := Lib.hid (below_dN HBW6.out nq)
                clear HORD e1 e2 HST6 HBX6 HBF6 HBW6
                generalize w6.drewN nq = w7 at *
                obtain ⟨d1, d2, d3, d4, d5, d6, d7, d8⟩ := HST7.out.cells
                have e1 := d3 (i + 1) hlt
                rw [HAE.out] at e1
                have e2 := d4 ra ha
                rw [if_pos rfl] at e2
                have e3 := d7 ra
                clear d1 d2 d3 d4 d5 d6 d7 d8
                go_wp2_with fail
                go_roundw
                case rel =>
                  have hc : Chg (fun b => b = gn) w7 (w7.setCell ⟨gn, ra, none⟩ (.int .i64 (x + 1))) := Chg.refl.setCell (S := fun b => b = gn) ⟨gn, ra, none⟩ (Or.inl rfl) _
                  refine ⟨i + 2, _, by omega, by omega, by go_num, HST7.out.setNext ra (x + 1), hc.heap HBX7.out (fun e => hq2 e), hc.heap HBF7.out (fun e => by have e : bf = gn := e; omega), ?_, HBW7.out.trans (hc.below (B := w.heap.size) (fun b h => by rw [h]; exact l2.1) HBW7.out.size)⟩
                  intro z hz
                  by_cases e : z ≤ i
                  · rw [if_neg (HND.out z e), if_neg (HND.out z e)]; exact HCNT.out z (by omega)
                  · obtain rfl : z = i + 1 := by omega
                    rw [HAE.out, if_pos rfl, HLAST.out, if_neg HOZ.out]
                    have := HX.out
                    omega
                case measure => simp [intOf]; omega
            · obtain rfl : j = k := by omega
              obtain ⟨i, rfl⟩ : ∃ i, j = i + 1 := ⟨j - 1, by omega⟩
              have hsw := hst.swap
              have hc : Chg (fun b => b = br) wr (wr.setCell ⟨br, 0, none⟩ (.slice (some ⟨gn, 0, none⟩) (i + 1) c2)) := Chg.refl.setCell (S := fun b => b = br) ⟨br, 0, none⟩ (Or.inl rfl) _
              have hbr : br ≠ bw := fun e => by
                have h1 := hst.rb
                rw [e, hbx] at h1
                injection h1 with h1; injection h1 with h1 h2 _
                exact absurd h2 (by decide)
              have HBX8 := Lib.hid (hc.heap hbx (fun e => hbr e.symm))
              have HBW8 := Lib.hid (hbw.trans (hc.below (B := w.heap.size) (fun b h => by rw [h]; exact hst.lo.2) hbw.size))
              have HSW := Lib.hid hsw
              have HRW := Lib.hid hst.rows
              have hrl := HRT.out i (by omega)
              have hm := hcnt i (by omega)
              have HFN := Lib.hid hcnt
              have hml := cntR_le rk wide r' i
              have d8' := d8 0
              obtain ⟨f1, f2, f3, f4, f5, f6, f7, f8⟩ := hsw.cells
              have e1 := f3 i (by omega)
              have e2 := f5 (r'[i]?.getD 0) hrl
              rw [hm] at e2
              clear hst hbx hbf hcnt hc hbr hsw d3 d4 d5 d6 d7 d8 f3 f4 f5 f6 f7 f8 hm
              generalize r'[i]?.getD 0 = rl at *
              generalize hme : cntR rk wide r' i = m at *
              have HM := Lib.hid hme
              clear hme
              by_cases hmi : m = i
              · have dm : ((m : Int) == (i : Int)) = true := by simp [hmi]
                have HMI := Lib.hid hmi
                clear hmi
                go_wp2_with fail
                go_quiet (fail)
                go_wp2_with fail
                go_ret
                have hrl := HL'.out
                refine ⟨r', rows_done HRK.out HSK.out (by rw [hrl]; show cntR rk wide r' i = i; have := HM.out; have := HMI.out; omega), _, rfl, ?_, below_dN HBW8.out _⟩
                rw [hrl, natV_vec hrl]
                exact (HSW.out.drewN nq).rows
              · have dm : ((m : Int) == (i : Int)) = false := by simp; omega
                have HMI := Lib.hid hmi
                clear hmi
                have hwz : (0 : Int) ≤ (wide : Int) := by omega
                have hwz1 : (wide : Int) ≤ 1000001 := by omega
                have hbq := cell_of_row _ bw 0 _ _ _ HBX8.out
                simp only [List.getElem?_toArray, List.getElem?_cons_zero] at hbq
                go_wp2_with fail
                go_quiet (fail)
                go_wp2_with fail
                go_roundw
                case rel =>
                  have hrl := HL'.out
                  have hls := HLS.out
                  have hsk := HSK.out
                  have hnn : Nn (symsT t) := (symsT_is (byteL_of hb)).nn
                  have hmore := rows_more hnn HRK.out hsk (by rw [hrl]; show cntR rk wide r' i ≠ i; have := HM.out; have := HMI.out; omega)
                  have hfn : ∀ z, z < i + 1 → fn (r'[z]?.getD 0) = (cntR rk wide r' z : Int) := HFN.out
                  have hrn : RankOf (symsT t) (wide + wide) ((List.range (i + 1)).map fn) := by
                    refine rank_next HRK.out hw0 hnn hsk (by simp [hls]) (fun z hz => ?_)
                    rw [list_sy fn (HRT.out z (by omega))]
                    exact hfn z (by omega)
                  have hz : (wr.setCell ⟨br, 0, none⟩ (.slice (some ⟨gn, 0, none⟩) (i + 1) c2)).heap.size = wr.heap.size := by simp [World.setCell]
                  have HS9 := (HSW.out.drewN nq).still (below_al _ (.cells #[.int .i64 ((wide : Int) * 2)] 3))
                  have z1 := (own_lt HSW.out.rows (k := qr) rfl).2
                  have z2 := (own_lt HSW.out.next (k := g) rfl).2
                  have z3 := (own_lt HSW.out.rank (k := gn) rfl).2
                  rw [hz] at z1 z2 z3
                  have hal := heap_alloc_new ((wr.setCell ⟨br, 0, none⟩ (.slice (some ⟨gn, 0, none⟩) (i + 1) c2)).drewN nq) (.cells #[.int .i64 ((wide : Int) * 2)] 3)
                  have hsz : ((wr.setCell ⟨br, 0, none⟩ (.slice (some ⟨gn, 0, none⟩) (i + 1) c2)).drewN nq).heap.size = wr.heap.size := hz
                  rw [hsz] at hal
                  have hB9 := below_dN HBW8.out nq
                  refine ⟨wr.heap.size, g, gn, c3, c2, wide + wide, (List.range (i + 1)).map fn, _, r', rfl, rfl, ?_, HS9.congr (fun _ _ => rfl) (fun _ _ => rfl) (fun z hz => (list_sy fn hz).symm), hrn, hls ▸ hsk.1, by omega, Or.inl (by omega), ?_, by omega, by omega, by omega, by have := HBW8.out.size; omega, hB9.alloc hB9.size _⟩
                  · have e : ((wide + wide : Nat) : Int) = (wide : Int) * 2 := by omega
                    rw [hal, e]
                  · intro z hz
                    rw [list_sy fn hz]
                    obtain ⟨y, hy, hy2⟩ := List.getElem_of_mem (hsk.1.mem_iff.2 (List.mem_range.2 (show z < (symsT t).length by omega)))
                    have h1 := hfn y (by omega)
                    rw [getD_eq hy, hy2] at h1
                    have h2 := cntR_le rk wide r' y
                    omega
                case measure =>
                  have hz : ((wr.setCell ⟨br, 0, none⟩ (.slice (some ⟨gn, 0, none⟩) (i + 1) c2)).drewN nq).heap.size = wr.heap.size := by show (wr.setCell _ _).heap.size = _; simp [World.setCell]
                  have hal := heap_alloc_new ((wr.setCell ⟨br, 0, none⟩ (.slice (some ⟨gn, 0, none⟩) (i + 1) c2)).drewN nq) (.cells #[.int .i64 ((wide : Int) * 2)] 3)
                  rw [hz] at hal
                  have h2 : cellNat _ (.pointer (some ⟨wr.heap.size, 0, none⟩)) = wide * 2 := cellNat_of (k := .i64) (cell_of_row _ wr.heap.size 0 _ _ _ hal)
                  rw [HMEA.out, h2]
                  have hmore := rows_more (symsT_is (byteL_of hb)).nn HRK.out HSK.out (by rw [HL'.out]; show cntR rk wide r' i ≠ i; have := HM.out; have := HMI.out; omega)
                  have := HLS.out
                  omega

end Go.Proofs.YtacoeohmdngnkaaGreatDoor

namespace Go.Proofs.YtacoeohmdngnkaaGreatDoor
set_option linter.unusedVariables false
set_option linter.unusedSimpArgs false
open Go.RowKit

/-- What is returned is a row of numbers of the call's own. -/
def GivesI (B : Nat) (w : World) (m : List Int) (e : Ending) (w' : World) : Prop := ∃ v, e = .returned v ∧ w'.ownsRow B 3 1 v m.length (m.map (Value.int .i64)) ∧ Below B w w'
/-- The transform of a text. -/
def LastPost (B : Nat) (w : World) (t : List Int) (e : Ending) (w' : World) : Prop := ∃ m, IsLast t m ∧ GivesI B w m e w'

/-- 'make([]int, 0, n)' -/
theorem make_cap (n : Nat) (h : n ≤ 1000000000) (w : World) : (Instr.makeSlice 22 (.int .i64 0) (.int .i64 (n : Int))).run Tryz.prog w = .ok (.slice (some ⟨w.heap.size, 0, none⟩) 0 n) (w.alloc (.cells (vecL (fun _ => .int .i64 0) n).toArray 3)) := by
  obtain ⟨i, hi, hiz, hsz, hby⟩ := info_parts Tryz.infoIntG
  have h2 := run_make (P := Tryz.prog) w 22 3 i (.int .i64 0) Tryz.underlying22 hi hiz .i64 .i64 0 (n : Int) (by omega) (by omega) (by rw [hby]; omega) (by omega)
  rw [h2, hsz, Int.toNat_natCast, Nat.mul_one]
  show Result.ok (Value.slice _ (0 : Int).toNat n) (w.alloc (.cells (madeCells #[.int .i64 0] n) 3)) = _
  rw [madeCells_oneG]; rfl
theorem own_cap {w : World} {q n base : Nat} {f : Nat → Value} {e : TypeId} (h : w.heap[q]? = some (.cells (vecL f n).toArray e (0, 0))) (hb : base ≤ q) (hn : n ≤ maxLen) : w.ownsRow base e 1 (.slice (some ⟨q, 0, none⟩) 0 n) 0 [] :=
  ⟨rfl, .inr ⟨q, n, (vecL f n).toArray, rfl, hb, h, Nat.zero_le _, hn, by simp [vecL_len], by simp⟩⟩

set_option maxHeartbeats 1600000 in
theorem last_any (a : Option Addr) (c : Nat) (t : List Int) (w : World) (hr : Reads w .u8 a t) (hb : Bytes t) (hl : t.length ≤ 1000000) :
    Calls Tryz.prog 27 #[.slice a t.length c] w (LastPost w.heap.size w t) := by
  have HR := Lib.hid hr
  have hls : (symsT t).length = t.length + 1 := symsT_len t
  have HLS := Lib.hid hls
  clear hls
  go_enter Tryz.func27, Tryz.ntmps27
  go_wp2_with fail
  have hb0 := below_al w (.cells #[.slice a t.length c] 24)
  refine (symAll1 w.heap.size 1 a c t _ (by simp) (by simp) (hr.below hb0) hb (by omega)).mono ?_
  rintro e w1 ⟨v, rfl, hown, hb1⟩
  obtain ⟨g0, cap0, rfl, hg1, hg2, _, _, hcell, _⟩ := own_some hown (by omega)
  have hbw : Below w.heap.size w w1 := hb0.trans (hb1.mono (by simp))
  have hrc : ∀ j, j < t.length + 1 → w1.cell? ⟨g0, j, none⟩ = some (.int .i64 (sy (symsT t) j)) := by
    intro j hj
    rw [hcell j hj]
    have e : t.map symV ++ [.int .i64 0] = (symsT t).map (Value.int .i64) := by simp [symsT, symV, Function.comp]
    rw [e, List.getElem?_map, List.getElem?_eq_getElem (by have := HLS.out; omega), sy_in (by have := HLS.out; omega)]; rfl
  have HRC : Hid (∀ W, Below w1.heap.size w1 W → ∀ j, j < t.length + 1 → W.cell? ⟨g0, j, none⟩ = some (.int .i64 (sy (symsT t) j))) := fun W hW j hj => (hW.cell (p := ⟨g0, j, none⟩) hg2).trans (hrc j hj)
  have HBW := Lib.hid hbw
  have hgb : g0 < w1.heap.size := hg2
  clear hown hcell hb0 hb1 hg1 hg2 hrc hr hbw
  obtain ⟨n, hn⟩ : ∃ n, t.length + 1 = n := ⟨_, rfl⟩
  have hn0 : 0 < n := by omega
  have hnm : n ≤ 1000001 := by omega
  have hmk := make_cap n (by omega)
  rw [hn] at HRC HLS ⊢
  have HN := Lib.hid hn
  clear hn
  go_wp2_with fail
  have hown : (w1.alloc (.cells (vecL (fun _ => .int .i64 0) n).toArray 3)).ownsRow w.heap.size 3 1 (.slice (some ⟨w1.heap.size, 0, none⟩) 0 n) 0 [] := own_cap (heap_alloc_new w1 _) HBW.out.size (by unfold maxLen; omega)
  have hbw2 := HBW.out.alloc HBW.out.size (.cells (vecL (fun _ => .int .i64 0) n).toArray 3)
  have HRC2 : Hid (∀ W, Below (w1.alloc (.cells (vecL (fun _ => .int .i64 0) n).toArray 3)).heap.size (w1.alloc (.cells (vecL (fun _ => .int .i64 0) n).toArray 3)) W → ∀ j, j < n → W.cell? ⟨g0, j, none⟩ = some (.int .i64 (sy (symsT t) j))) :=
    fun W hW => HRC.out W ((below_al w1 _).trans (hW.mono (by simp)))
  generalize w1.alloc (.cells (vecL (fun _ => .int .i64 0) n).toArray 3) = w2 at *
  generalize w1.heap.size = q0 at *
  have HO := Lib.hid hown
  have HB2 := Lib.hid hbw2
  have hs2 := hbw2.size
  have hq2 : q0 < w2.heap.size := (own_lt hown (k := q0) rfl).2
  have hrd : Reads w2 .u8 a t := by
    intro i hi
    obtain ⟨b, off, h1, h2, h3⟩ := HR.out i hi
    exact ⟨b, off, h1, by omega, fun j hj => (hbw2.cell (p := ⟨b, off + j, none⟩) h2).trans (h3 j hj)⟩
  clear hown hbw2
  refine (rows_any a c t w2 hrd hb hl).mono ?_
  rintro e w3 ⟨r, hrw, v, rfl, hown, hb3⟩
  have hrl : r.length = n := by rw [hrw.len]; exact HLS.out
  rw [hrl] at hown
  obtain ⟨g3, cap3, rfl, hg3a, hg3b, _, _, hc3, _⟩ := own_some hown hn0
  have h23 := hb3.size
  have HO3 := Lib.hid (own_below HO.out hb3 (fun k hk => (own_lt HO.out hk).2))
  have HB3 := Lib.hid (HB2.out.trans (hb3.mono hs2))
  have HC3 : Hid (∀ W, Below w3.heap.size w3 W → ∀ j, j < n → W.cell? ⟨g3, j, none⟩ = some (.int .i64 ((r[j]?.getD 0 : Nat) : Int)) ∧ W.cell? ⟨g0, (r[j]?.getD 0 + n - 1) % n, none⟩ = some (.int .i64 (sy (symsT t) ((r[j]?.getD 0 + n - 1) % n)))) := by
    intro W hW j hj
    refine ⟨(hW.cell (p := ⟨g3, j, none⟩) hg3b).trans ?_, HRC2.out W (hb3.trans (hW.mono hb3.size)) _ (Nat.mod_lt _ hn0)⟩
    rw [hc3 j hj, List.getElem?_map, List.getElem?_eq_getElem (by omega)]
    rfl
  have HLM : Hid (∀ k, k < n → (lastL (symsT t) r)[k]? = some (sy (symsT t) ((r[k]?.getD 0 + n - 1) % n))) := by
    intro k hk
    have h1 := HLS.out
    unfold lastL
    rw [List.getElem?_map, List.getElem?_eq_getElem (show k < r.length by omega), h1]
    simp
  have HIS : Hid (IsLast t (lastL (symsT t) r)) := ⟨byteL_of hb, r, hrw, rfl⟩
  have hml : (lastL (symsT t) r).length = n := by rw [lastL_len]; exact hrl
  have HML := Lib.hid hml
  have hrlt : ∀ k, k < n → r[k]?.getD 0 < n := by
    intro k hk
    have h1 : k < r.length := by omega
    have h2 := hrw.lt h1
    have h3 := HLS.out
    rw [getD_eq h1]; omega
  have HRL := Lib.hid hrlt
  clear hown hb3 hrw hc3 hrl hml hrlt HRC HRC2 HO hrd hb HBW HB2
  generalize lastL (symsT t) r = m at *
  go_wp2_with fail
  go_loopw [4, 16] (fun v i wr => ∃ k : Nat, k ≤ n ∧ i = .int .i64 k ∧ wr.ownsRow w.heap.size 3 1 v k ((m.take k).map (Value.int .i64)) ∧ Below w.heap.size w wr ∧ (∀ q, v.ownBlock = some q → q ≠ g3 ∧ q ≠ g0) ∧ g3 < wr.heap.size ∧ g0 < wr.heap.size ∧ ∀ j, j < n → wr.cell? ⟨g3, j, none⟩ = some (.int .i64 ((r[j]?.getD 0 : Nat) : Int)) ∧ wr.cell? ⟨g0, (r[j]?.getD 0 + n - 1) % n, none⟩ = some (.int .i64 (sy (symsT t) ((r[j]?.getD 0 + n - 1) % n)))) (fun _ i _ => n - (intOf i).toNat)
  case atStart => exact ⟨0, Nat.zero_le _, rfl, by simpa using HO3.out, HB3.out, (fun q hq => by simp [Value.ownBlock] at hq; omega), hg3b, by omega, HC3.out w3 (Below.refl _ _)⟩
  case round =>
    obtain ⟨k, hk, rfl, hown, hbw, hqs, hz1, hz2, hcs⟩ := hrel
    have hs := hbw.size
    by_cases hlt : k < n
    · obtain ⟨c1, c2⟩ := hcs k hlt
      have HCS := Lib.hid hcs
      have hx := HRL.out k hlt
      have hm := HLM.out k hlt
      have htk : m.take (k + 1) = m.take k ++ [sy (symsT t) ((r[k]?.getD 0 + n - 1) % n)] := by
        rw [List.take_add_one, hm]; rfl
      have HTK := Lib.hid htk
      clear hcs htk hm
      generalize r[k]?.getD 0 = x at *
      generalize hu : (x + n - 1) % n = u at *
      have hu2 : (((x : Int) + (n : Int) - 1) % (n : Int)) = (u : Int) := by
        have e : ((x + n - 1 : Nat) : Int) = (x : Int) + (n : Int) - 1 := by omega
        rw [← hu, ← e]; rfl
      have hun : u < n := by rw [← hu]; exact Nat.mod_lt _ hn0
      have HU := Lib.hid hu
      clear hu
      generalize sy (symsT t) u = y at *
      obtain ⟨a4, c4, rfl, _, _⟩ := own_slice hown
      have HQ := Lib.hid hqs
      have HOW := Lib.hid hown
      clear hqs
      go_wp2_with (at_builtin; refine wpList_pushL rfl _ _ 22 rfl w.heap.size 3 Tryz.infoIntG Tryz.underlying22 rfl _ _ _ rfl hown rfl rfl ?c1 ?c2 ?c3 ?_)
      case c1 => unfold maxLen; omega
      case c2 => omega
      case c3 => omega
      intro g cap w5 hown' hgrow hor hgl
      have hch : Below w.heap.size w w5 := hbw.grown hgrow hs (fun j hj => (HOW.out.lt j hj).1)
      have hcg : Chg (fun b => (Value.slice a4 k c4).ownBlock = some b) wr w5 := (Chg.refl (S := fun b => (Value.slice a4 k c4).ownBlock = some b)).grown hgrow (fun k hk => Or.inl hk)
      have HO5 : Hid (w5.ownsRow w.heap.size 3 1 (.slice (some ⟨g, 0, none⟩) (k + 1) cap) (k + 1) ((m.take (k + 1)).map (Value.int .i64))) := by
        show w5.ownsRow _ _ _ _ _ _
        rw [HTK.out, List.map_append, List.map_take]; exact hown'
      have HCH := Lib.hid hch
      have HC5 : Hid (∀ j, j < n → w5.cell? ⟨g3, j, none⟩ = some (.int .i64 ((r[j]?.getD 0 : Nat) : Int)) ∧ w5.cell? ⟨g0, (r[j]?.getD 0 + n - 1) % n, none⟩ = some (.int .i64 (sy (symsT t) ((r[j]?.getD 0 + n - 1) % n)))) := by
        intro j hj
        obtain ⟨k1, k2⟩ := HCS.out j hj
        exact ⟨hcg.cell k1 (fun e => (HQ.out _ e).1 rfl), hcg.cell k2 (fun e => (HQ.out _ e).2 rfl)⟩
      have HQ5 : Hid (g ≠ g3 ∧ g ≠ g0) := by
        rcases hor with e | e
        · exact HQ.out g e
        · exact ⟨by omega, by omega⟩
      have hsz := hcg.size
      clear hown hown' hgrow hor hch hcg
      go_wp2_with fail
      go_roundw
      case rel => exact ⟨k + 1, by omega, by go_num, HO5.out, HCH.out, (fun q hq => by simp [Value.ownBlock] at hq; rw [← hq]; exact HQ5.out), by omega, by omega, HC5.out⟩
      case measure => simp [intOf]; omega
    · obtain rfl : k = n := by omega
      rw [List.take_of_length_le (by rw [HML.out]; exact Nat.le_refl _)] at hown
      go_wp2_with fail
      go_ret
      exact ⟨m, HIS.out, _, rfl, by rw [HML.out]; exact hown, hbw⟩

/-- Two lists of numbers are one. -/
theorem same_ints (a b : Option Addr) (n k c d : Nat) (xs ys : List Int) (w : World) (hx : Reads w .i64 a xs) (hy : Reads w .i64 b ys) (hn : n = xs.length) (hk : k = ys.length) (hm : xs.length ≤ 1000000000) (hm2 : ys.length ≤ 1000000000) :
    Calls Tryz.prog 58 #[.slice a n c, .slice b k d] w fun e w' => e = .returned (.bool (decide (xs = ys))) ∧ ∃ q, w' = w.drewN q := by
  subst hn; subst hk
  have hE : Calls Tryz.prog 74 #[.slice a xs.length c, .slice b ys.length d] w fun e w' => e = .returned (.bool (decide (xs = ys))) ∧ ∃ q, w' = w.drewN q := by
    by_cases h0 : xs.length = 0
    · have e0 : xs = [] := List.eq_nil_of_length_eq_zero h0
      subst e0
      refine (Tryz.slices_Equal_int_empty a b c ys.length d w (by omega)).mono ?_
      rintro e w' ⟨rfl, rfl⟩
      refine ⟨ret_bool ?_, 0, rfl⟩
      cases ys <;> simp
    · by_cases hl : xs.length = ys.length
      · obtain ⟨b0, o0, rfl, _, hc0⟩ := hx.some (by omega)
        obtain ⟨b1, o1, rfl, _, hc1⟩ := hy.some (by omega)
        refine (Tryz.slices_Equal_int b0 o0 xs.length c b1 o1 ys.length d xs ys w (Nat.le_refl _) (Nat.le_refl _) (by omega) (by omega) (fun j hj => ?_) (fun j hj => ?_)).mono ?_
        · rw [hc0 j hj]; simp
        · rw [hc1 j hj]; simp
        · rintro e w' ⟨rfl, q, rfl⟩
          refine ⟨ret_bool ?_, q, rfl⟩
          rw [List.take_length, List.take_length]
          by_cases e : xs = ys <;> simp [e]
      · refine (Tryz.slices_Equal_int_lens a b xs.length c ys.length d w hl).mono ?_
        rintro e w' ⟨rfl, rfl⟩
        exact ⟨ret_bool (decide_eq_false (fun e => hl (by rw [e]))).symm, 0, rfl⟩
  generalize decide (xs = ys) = r at *
  go_enter Tryz.func58, Tryz.ntmps58
  go_wp2_with (go_at_call 74; refine hE.mono ?_; rintro e w' ⟨rfl, q, rfl⟩)
  go_ret
  exact ⟨rfl, q, rfl⟩

end Go.Proofs.YtacoeohmdngnkaaGreatDoor
