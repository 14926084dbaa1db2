/- The walk of BlockFull. -/
import Derived.Test.YticbfhbilfgoiaaDoorBlockL
namespace Go.Proofs.YticbfhbilfgoiaaDoor
set_option linter.unusedVariables false
set_option linter.unusedSimpArgs false
open Go.RowKit

theorem in_out {l : List Bool} {i : Nat} (h : i < l.length) : inL (outL l i) i (bitAt l i) = l := by
  apply List.ext_getElem?
  intro j
  have h1 : i ≤ (outL l i).length := by rw [outL_len h]; omega
  rw [inL_get h1, outL_get h, outL_get h]
  by_cases a : j < i
  · rw [if_pos a, if_pos a]
  · rw [if_neg a]
    by_cases b : j = i
    · subst b; rw [if_pos rfl, List.getElem?_eq_getElem h]; simp [bitAt, h]
    · rw [if_neg b, if_neg (by omega)]; congr 1; omega

set_option maxHeartbeats 3200000 in
set_option maxRecDepth 100000 in
theorem walk_BlockFull (w : World) (hT : BitTab w) (a0 : Option Addr) (c0 : Nat) (z0 : List Int) (w0 : ArgI .i64 w a0 c0 z0) (a1 : Int) (w1 : (Lit.int .i64 a1).wf = true) :
    Calls Tryd.prog 10 #[.slice a0 z0.length c0, .int .i64 a1] w fun e w' => e = .returned (.bool true) ∧ Below w.heap.size w w' := by
  have hrd := w0.reads
  have hzm := Nat.le_trans w0.le w0.max
  have HT := Lib.hid hT
  obtain ⟨n, hn, en⟩ := mod_nat a1 128 (by omega) (by omega)
  rw [show ((128 : Nat) : Int) = 128 from rfl] at en
  clear hT w0 w1
  go_enter Tryd.func10, Tryd.ntmps10
  go_wp2_with fail
  refine (lawBits_any a0 c0 z0 128 w hrd (by omega) hzm).mono ?_
  rintro e w1 ⟨l, hl, v, rfl, hown, hb1⟩
  go_wp2_with fail
  go_loopw [5] (fun v wr => ∃ l : List Bool, l.length ≤ 128 ∧ wr.ownsRow w.heap.size 4 1 v l.length (l.map Value.bool) ∧ Below w.heap.size w wr) (fun v _ => match v with | .slice _ n _ => 128 - n | _ => 0)
  case atStart => exact ⟨l, hl, hown, hb1⟩
  case round =>
    clear hl hown hb1 hrd
    obtain ⟨l, hl, hown, hb⟩ := hrel
    have hs := hb.size
    obtain ⟨a, c, rfl, _, _⟩ := own_slice hown
    by_cases hlt : l.length < 128
    · go_wp2_with (at_builtin; refine wpList_pushL rfl _ _ 40 rfl w.heap.size 4 Tryd.infoBoolR Tryd.underlying40 rfl _ _ _ rfl hown rfl rfl ?c1 ?c2 ?c3 ?_)
      case c1 => unfold maxLen; omega
      case c2 => omega
      case c3 => omega
      intro g cap w2 hown' hgrow hor hgl
      have hnx' : Below w.heap.size w w2 := hb.grown hgrow hs (fun j hj => (hown.lt j hj).1)
      generalize ((l.length : Int) % 3 == 0) = bv at *
      have HO : Hid (w2.ownsRow w.heap.size 4 1 (.slice (some ⟨g, 0, none⟩) (l.length + 1) cap) (l ++ [bv]).length ((l ++ [bv]).map Value.bool)) := by
        show w2.ownsRow _ _ _ _ _ _
        rw [List.length_append, List.map_append]; exact hown'
      clear hown hgrow hor hgl hown'
      go_wp2_with fail
      go_roundw
      case rel => exact ⟨l ++ [bv], by rw [List.length_append]; simp; omega, HO.out, hnx'⟩
      case measure => simp; omega
    · have h128 : l.length = 128 := by omega
      obtain ⟨g, cap, hv, _, hg1, hgc, hgm, hcells, hfz⟩ := own_some hown (by omega)
      injection hv with ha _ hcc
      subst ha
      have hrm := readsV_own hown
      have hx := hcells n (by omega)
      rw [List.getElem?_map, List.getElem?_eq_getElem (by omega)] at hx
      have e0 : bitAt l n = l[n] := by simp [bitAt, show n < l.length by omega]
      simp only [Option.map_some, ← e0] at hx
      have HX : Hid (∀ w', Below wr.heap.size wr w' → w'.cell? ⟨g, n, none⟩ = some (.bool (bitAt l n))) := fun w' h => (h.cell (p := ⟨g, n, none⟩) hg1).trans hx
      have HRM := Lib.hid hrm
      have HL := Lib.hid h128
      have hio := in_out (l := l) (i := n) (by omega)
      have HIO := Lib.hid hio
      have hol : (outL l n).length = 127 := by rw [outL_len (by omega), h128]
      have HOL := Lib.hid hol
      rw [h128]
      clear hown hrm hx hcells hfz e0 hcc h128 hlt hl hio hol
      go_wp2_with fail
      refine (new_blk (B := w.heap.size) l HL.out.symm HRM.out (by rw [HL.out]; omega) hs).mono ?_
      rintro e w3 ⟨rfl, hk, hb3⟩
      have HR3 := Lib.hid (HRM.out.below' hb3)
      have HX3 := Lib.hid (HX.out w3 hb3)
      have hbb := hb.trans (hb3.mono hs)
      have hss := hbb.size
      have hgw : wr.heap.size ≤ w3.heap.size := hb3.size
      have HX4 : Hid (∀ w', Below wr.heap.size w3 w' → w'.cell? ⟨g, n, none⟩ = some (.bool (bitAt l n)) ∧ ReadsV w' (some ⟨g, 0, none⟩) (l.map Value.bool)) :=
        fun w' h => ⟨(h.cell (p := ⟨g, n, none⟩) hg1).trans HX3.out, HR3.out.below h (fun ad e => by cases e; exact hg1)⟩
      have hk : BkAt wr.heap.size w3 wr.heap.size l := ⟨hk.1, Nat.le_refl _⟩
      clear hb hb3 HRM HX HX3 HR3
      generalize wr.heap.size = p at *
      go_wp2_with fail
      refine (blkInsert_full hk.1 HL.out n true).mono ?_
      rintro e w' ⟨rfl, rfl⟩
      go_wp2_with fail
      refine (del_at (B := p) (m := outL l n) (x := bitAt l n) hk hgw n rfl (by rw [HL.out]; exact hn) rfl rfl).mono ?_
      rintro e w4 ⟨rfl, hk4, hb4⟩
      have hs4 := Nat.le_trans hgw hb4.size
      clear hk
      go_wp2_with fail
      refine (ins_at (B := p) (m := l) hk4 hs4 n rfl (by rw [HOL.out]; omega) (by rw [HOL.out]; omega) HIO.out).mono ?_
      rintro e w5 ⟨rfl, hk5, hb5⟩
      have hb6 := hb4.trans hb5
      clear hk4 hb4 hb5 hs4
      have hb7 : Below w.heap.size w w5 := hbb.trans (hb6.mono hs)
      have hs7 := hb7.size
      obtain ⟨hx5, hr5⟩ := HX4.out w5 hb6
      have HK5 := Lib.hid hk5
      have HR5 := Lib.hid hr5
      have hp5 : p ≤ w5.heap.size := Nat.le_trans hgw hb6.size
      have HX5 : Hid (∀ w', Below w5.heap.size w5 w' → w'.cell? ⟨g, n, none⟩ = some (.bool (bitAt l n))) := fun w' h => (h.cell (p := ⟨g, n, none⟩) (by show g < _; omega)).trans hx5
      clear hk5 hr5 hx5 hb6 hbb hss HX4
      go_wp2_with fail
      refine (told2_any _ (HT.out.below' hb7)).mono ?_
      rintro e w6 ⟨rfl, hb8⟩
      have hx6 := HX5.out w6 hb8
      have HK6 := Lib.hid (HK5.out.below hb8)
      have HR6 := Lib.hid (HR5.out.below' hb8)
      have hb9 := hb7.trans (hb8.mono hs7)
      generalize bitAt l n = x at *
      clear hb7 hb8 hs7 HK5 HR5 HX5
      have hbx : (x == x) = true := by simp
      cases x
      all_goals
        go_wp2_with fail
        refine (blkAll HK6.out.1).mono ?_
        rintro e w7 ⟨v, rfl, hown, hb10⟩
        obtain ⟨a7, c7, rfl, _, _⟩ := own_slice hown
        have hrd7 := readsV_own hown
        have HR7 := Lib.hid (HR6.out.below' hb10)
        have hb11 := hb9.trans (hb10.mono hb9.size)
        have hsame := refSame_any a7 c7 l (some ⟨g, 0, none⟩) c l w7 hrd7 HR7.out (by rw [HL.out]; omega)
        rw [show decide (l = l) = true by simp, HL.out] at hsame
        have HSAME := Lib.hid hsame
        rw [HL.out]
        clear hown hrd7 hb10 hb9 hsame
        go_wp2_with fail
        refine HSAME.out.mono ?_
        rintro e w' ⟨rfl, m, rfl⟩
        go_wp2_with fail
        go_ret
        exact ⟨rfl, below_drewW hb11 m⟩

end Go.Proofs.YticbfhbilfgoiaaDoor
