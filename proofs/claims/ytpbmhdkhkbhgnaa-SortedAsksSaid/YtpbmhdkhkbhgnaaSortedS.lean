/- slices.SortFunc with the closures of sorted.Rows. -/
import Derived.Test.YtpbmhdkhkbhgnaaSorted
import Derived.Test.YtpbmhdkhkbhgnaaShelf
import Derived.Shelf.SlSortCmp.Whole1
namespace Go.Proofs.Ytpbmhdkhkbhgnaa
set_option linter.unusedVariables false
set_option linter.unusedSimpArgs false
open Go.RowKit

theorem sortWorld_chg {α : Type} [Inhabited α] (enc : α → Value) (w : World) (blk m : Nat) (dk : Array α) (os : Array Obj) : Chg (fun b => b = blk) w (sortWorld enc w blk 0 m dk os) := by
  refine ⟨rfl, rfl, rfl, ?_, fun k hk hn => ?_⟩
  · show w.heap.size ≤ ((w.heap.modify blk _) ++ os).size
    simp
  · show ((w.heap.modify blk _) ++ os)[k]? = w.heap[k]?
    rw [Array.getElem?_append_left (by simpa using hk), Array.getElem?_modify, if_neg (fun e => hn e.symm)]
theorem sortWorld_own {α : Type} [Inhabited α] (enc : α → Value) {w : World} {blk n cap base : Nat} {e : TypeId} {xs : List Value} (h : w.ownsRow base e 1 (.slice (some ⟨blk, 0, none⟩) n cap) n xs) (m : Nat) (dk : Array α) (os : Array Obj) (hd : dk.size = n) :
    (sortWorld enc w blk 0 m dk os).ownsRow base e 1 (.slice (some ⟨blk, 0, none⟩) n cap) n (dk.toList.map enc) := by
  obtain ⟨h1, h2⟩ := h
  refine ⟨by simp [hd], ?_⟩
  rcases h2 with ⟨h, _⟩ | ⟨g', cap', cur, hv, hb, hg, hc, hm, hs, ht⟩
  · cases h
  · injection hv with e1 e2 e3
    simp only [Option.some.injEq, Addr.mk.injEq, and_true] at e1
    subst e1; subst e3
    refine .inr ⟨blk, cap, Go.Sort.putCells enc 0 dk cur, rfl, hb, ?_, hc, hm, by simpa [Go.Sort.putCells] using hs, ?_⟩
    · show ((w.heap.modify blk _) ++ os)[blk]? = _
      have hlt := (Array.getElem?_eq_some_iff.1 hg).1
      rw [Array.getElem?_append_left (by simpa using hlt), Array.getElem?_modify, if_pos rfl, hg]
      rfl
    · apply List.ext_getElem?
      intro i
      rw [List.getElem?_take]
      by_cases hi : i < n
      · rw [if_pos (by omega), Array.getElem?_toList, Go.Sort.putCells, Array.getElem?_mapIdx, Array.getElem?_eq_getElem (by omega)]
        simp [hd, hi, show i < dk.size by omega]
      · rw [if_neg (by omega), List.getElem?_eq_none (by simp; omega)]

/-- A place, as a value. -/
def natV (x : Nat) : Value := .int .i64 (x : Int)
theorem RkAt.chg {w w' : World} {S : Nat → Prop} {bw bn br g cap wide : Nat} {rk : List Int} (h : RkAt w bw bn br g cap wide rk) (hc : Chg S w w') (h1 : ¬ S bw) (h2 : ¬ S bn) (h3 : ¬ S br) (h4 : ¬ S g) : RkAt w' bw bn br g cap wide rk :=
  ⟨hc.cell h.wide h1, hc.cell h.n h2, hc.cell h.row h3, fun i hi => hc.cell (h.rd i hi) h4⟩

theorem sort_rows {B : Nat} {w : World} {bw bn br bf g cap wide qr capr : Nat} {l rk : List Int} {r : List Nat} (h : RkAt w bw bn br g cap wide rk)
    (hf : w.cell? ⟨bf, 0, none⟩ = some (.func (.func 55) #[] #[.pointer (some ⟨bw, 0, none⟩), .pointer (some ⟨bn, 0, none⟩), .pointer (some ⟨br, 0, none⟩)]))
    (hrk : RankOf l wide rk) (hp : r.Perm (List.range l.length)) (hown : w.ownsRow B 3 1 (.slice (some ⟨qr, 0, none⟩) r.length capr) r.length (r.map natV))
    (hq : bw ≠ qr ∧ bn ≠ qr ∧ br ≠ qr ∧ bf ≠ qr ∧ g ≠ qr) (h0 : 0 < l.length) (hl : l.length ≤ 1000000000) (hw : wide ≤ 1000000000) (hr : ∀ i, -1 ≤ sy rk i ∧ sy rk i ≤ 1000000000) :
    Calls Try.prog 57 #[.slice (some ⟨qr, 0, none⟩) r.length capr, .func (.func 56) #[] #[.pointer (some ⟨br, 0, none⟩), .pointer (some ⟨bf, 0, none⟩)]] w
      fun e w' => e = .returned (.tuple #[]) ∧ ∃ r' : List Nat, SortedK l (wide + wide) r' ∧ r'.length = r.length ∧ w'.ownsRow B 3 1 (.slice (some ⟨qr, 0, none⟩) r.length capr) r.length (r'.map natV) ∧ Chg (fun b => b = qr) w w' := by
  have hrl : r.length = l.length := by have := hp.length_eq; simpa using this
  have hin : ∀ x ∈ r, x < l.length := fun x hx => List.mem_range.1 (hp.mem_iff.1 hx)
  letI : Inhabited (Fin l.length) := ⟨⟨0, h0⟩⟩
  let d : Array (Fin l.length) := (r.attach.map fun x => ⟨x.1, hin x.1 x.2⟩).toArray
  have hdv : d.toList.map Fin.val = r := by
    show (r.attach.map _).map _ = r
    rw [List.map_map]
    exact List.attach_map_subtype_val r
  have hds : d.size = r.length := by rw [← Array.length_toList, ← List.length_map (f := Fin.val), hdv]
  have henc : d.toList.map (fun x : Fin l.length => natV x.1) = r.map natV := by
    have e := congrArg (List.map natV) hdv
    rw [List.map_map] at e
    exact e
  have hqlt := (own_lt hown (k := qr) rfl).2
  have hH : Go.Sort.Holds (fun x : Fin l.length => natV x.1) w qr 0 d := by
    intro j hj
    obtain ⟨g', cap', hv, _, _, _, _, hcell, hfr⟩ := own_some hown (by omega)
    injection hv with e1 _ _
    injection e1 with e1
    injection e1 with e1 _ _
    subst e1
    refine ⟨?_, hfr _⟩
    rw [Nat.zero_add, hcell j (by omega), ← henc, List.getElem?_map]
    simp [hj]
  have hcmp : CmpLays1 Try.prog 56 #[.pointer (some ⟨br, 0, none⟩), .pointer (some ⟨bf, 0, none⟩)] (fun x : Fin l.length => natV x.1) (fun x y => ordV rk wide x.1 y.1) qr 0 d.size w := by
    intro m os dk _ x y
    have hc := sortWorld_chg (fun x : Fin l.length => natV x.1) w qr m dk os
    have hx : x.1 < rk.length := by have := x.2; have := hrk.len; omega
    have hy : y.1 < rk.length := by have := y.2; have := hrk.len; omega
    refine (order_any (h.chg hc hq.1 hq.2.1 hq.2.2.1 hq.2.2.2.2) (hc.cell hf hq.2.2.2.1) x.1 y.1 hx hy (by rw [hrk.len]; exact hl) hw hr).mono ?_
    rintro e w' ⟨rfl, n, rfl⟩
    exact ⟨rfl, n, #[], by rw [Go.Sort.grow_empty]⟩
  have hlt : ∀ x y : Fin l.length, ltOf (fun x y : Fin l.length => ordV rk wide x.1 y.1) x y = true ↔ ltK l (wide + wide) x.1 y.1 := fun x y => by
    unfold ltOf; rw [decide_eq_true_eq, ordV_lt hrk]
  have hltf : ∀ x y : Fin l.length, ltOf (fun x y : Fin l.length => ordV rk wide x.1 y.1) x y = false ↔ ¬ ltK l (wide + wide) x.1 y.1 := fun x y => by
    rw [← hlt, Bool.not_eq_true]
  have hO : Go.Sort.SWO (ltOf (fun x y : Fin l.length => ordV rk wide x.1 y.1)) :=
    ⟨fun x => (hltf x x).2 ltK_irrefl, fun x y z a b => (hlt x z).2 (ltK_trans ((hlt x y).1 a) ((hlt y z).1 b)), fun x y z a b => (hltf x z).2 (fun k => by
      rcases ltK_tri l (wide + wide) x.1 y.1 with q | q | q
      · exact (hltf x y).1 a q
      · exact (hltf y z).1 b (eq_ltK q.symm k)
      · exact (hltf y z).1 b (ltK_trans q k))⟩
  have eg : ∀ args w, (callFunc 56 args).run Try.prog w = .ok (.enter 56 args) w := enters_of Try.func56 (by kernel_rfl) rfl
  have hcon := Try.slices_SortFunc (fun x : Fin l.length => natV x.1) (fun _ => rfl) (fun x y => ordV rk wide x.1 y.1) hO 56 #[.pointer (some ⟨br, 0, none⟩), .pointer (some ⟨bf, 0, none⟩)] qr 0 capr d w eg hcmp hH hqlt (by rw [hds]; omega)
  rw [hds] at hcon
  refine hcon.mono ?_
  rintro e w' ⟨rfl, d', n, os, hpi, hsi, rfl⟩
  have hd's : d'.size = r.length := by have := hpi.1; omega
  have hperm : (d'.toList.map Fin.val).Perm r := by
    have := hpi.2.2
    rw [Array.extract_eq_self_of_le (by omega), Array.extract_eq_self_of_le (by omega)] at this
    rw [← hdv]; exact this.map _
  refine ⟨rfl, d'.toList.map Fin.val, ⟨hperm.trans hp, List.pairwise_iff_getElem.2 (fun i j hi hj hij => ?_)⟩, by simp [hd's], ?_, sortWorld_chg _ _ _ _ _ _⟩
  · have hj' : j < d'.size := by simpa using hj
    have := hsi i j (Nat.zero_le _) hij (by omega)
    rw [hltf, getElem!_pos d' i (by omega), getElem!_pos d' j hj'] at this
    simpa using this
  · have := sortWorld_own (fun x : Fin l.length => natV x.1) hown n d' os hd's
    rw [List.map_map]; exact this

end Go.Proofs.Ytpbmhdkhkbhgnaa
