/- The walk of WaveUndo. -/
import Derived.Test.YtcppgpjodfeigaaDoorZw10
namespace Go.Proofs.YtcppgpjodfeigaaDoor
set_option linter.unusedVariables false
set_option linter.unusedSimpArgs false
open Go.RowKit

set_option maxHeartbeats 6400000 in
set_option maxRecDepth 100000 in
theorem walk_WaveUndo (w : World) (hT : BitTab w) (a0 : Option Addr) (c0 : Nat) (z0 : List Int) (w0 : ArgI .i64 w a0 c0 z0) (few : Bool) (a2 : Option Addr) (c2 : Nat) (z2 : List Int) (w2 : ArgI .i64 w a2 c2 z2) (s : Int) (w3 : (Lit.int .i64 s).wf = true) :
    Calls Tryd.prog 14 #[.slice a0 z0.length c0, .bool few, .slice a2 z2.length c2, .int .i64 s] w fun e w' => e = .returned (.bool true) ∧ Below w.heap.size w w' := by
  have hrd := w0.reads
  have hzm := Nat.le_trans w0.le w0.max
  have HR2 := Lib.hid w2.reads
  have hz2 : z2.length ≤ 9223372036854775807 := Nat.le_trans w2.le w2.max
  have HT := Lib.hid hT
  have HTL := Lib.hid hT.lt
  have HSY := Lib.hid (law7Syms_any a0 c0 z0 150 few w hrd (by omega) hzm)
  obtain ⟨us, hus0, hus1, hus⟩ := u64r s
  obtain ⟨c, hc257, hcu⟩ : ∃ c : Nat, c < 257 ∧ us % 257 = (c : Int) := ⟨(us % 257).toNat, by omega, by omega⟩
  clear hT w0 w2 w3 hrd hzm
  go_enter Tryd.func14, Tryd.ntmps14
  go_wp2_with fail
  refine HSY.out.mono ?_
  rintro e w1 ⟨L, v, rfl, hll, hS, hown, hb1⟩
  obtain ⟨a, cc, rfl, hnil, had⟩ := own_slice hown
  have hl : L.length ≤ 150 := by omega
  have hrm := readsV_own hown
  have HNEW := Lib.hid (wvNew (c := cc) L hrm hS (by omega))
  have HRM := Lib.hid hrm
  have HSS := Lib.hid hS
  have hs1 := hb1.size
  have HAD : Hid (∀ ad, a = some ad → w.heap.size ≤ ad.block ∧ ad.block < w1.heap.size) := Lib.hid (fun ad h => by obtain ⟨g, rfl, h1, h2, _⟩ := had ad h; exact ⟨h1, h2⟩)
  clear hown hrm hS HSY hll had hnil
  go_wp2_with fail
  refine HNEW.out.mono ?_
  rintro e w2 ⟨p, rfl, hV, hb2⟩
  have hb12 : Below w.heap.size w w2 := hb1.trans (hb2.mono hs1)
  have HWR : Hid (WR w.heap.size (fun j => False ∨ (w.heap.size ≤ j ∧ j < w1.heap.size)) w2 w2 p L a L) := Lib.hid ⟨hV.base hs1, HRM.out.below' hb2, fun ad h => Or.inr (HAD.out ad h), HT.out.below' hb12, HTL.out, Chg.refl⟩
  have HB2 := Lib.hid hb12
  clear hV hb2 hb12 hb1 hs1 HNEW HRM HAD
  generalize (fun j => False ∨ (w.heap.size ≤ j ∧ j < w1.heap.size)) = X at *
  go_wp2_with fail
  refine (wvShapes HWR.out.v).mono ?_
  rintro e w3 ⟨v, ys, rfl, hr, hy, hb⟩
  obtain ⟨ga, gc, rfl, _, _⟩ := own_slice hr
  have hyl := shapes_len hy
  have hyle := nonL_le L
  rw [hyl]
  obtain ⟨ns, hns⟩ : ∃ ns, (nonL L 9).length = ns := ⟨_, rfl⟩
  rw [hns] at hyle ⊢
  have HNS := Lib.hid hns
  have HW3 : Hid (WR w.heap.size X w2 w3 p L a L) := Lib.hid (HWR.out.step (HWR.out.v.below hb) (Chg.of_below hb))
  clear hr hy hb hyl hns HWR
  go_wp2_with fail
  clear hcu
  go_loopw [14] (fun i wr => ∃ k : Nat, k ≤ z2.length ∧ i = .int .i64 k ∧ WR w.heap.size X w2 wr p L a L) (fun i _ => z2.length - (intOf i).toNat)
  case atStart => exact ⟨0, Nat.zero_le _, rfl, HW3.out⟩
  case round => as_aux_lemma =>
    clear HW3
    obtain ⟨k, hk, rfl, hW⟩ := hrel
    have HB : Hid (Below w.heap.size w wr) := Lib.hid (HB2.out.trans (exT_below hW.chg HB2.out.size))
    have HW := Lib.hid hW
    clear hW
    by_cases hlt : k < z2.length ∧ k < 15
    · obtain ⟨hlt, h15⟩ := hlt
      obtain ⟨b, off, rfl, hbl, hcells⟩ := HR2.out.some (by omega)
      have hcx := (HB.out.cell (p := ⟨b, off + k, none⟩) hbl).trans (hcells k hlt)
      generalize z2[k]?.getD 0 = x at *
      obtain ⟨u, hu0, hu1, hu⟩ := u64r x
      obtain ⟨kk, hkk, hkl⟩ : ∃ kk : Nat, u % ((L.length : Int) + 1) = (kk : Int) ∧ kk ≤ L.length := ⟨(u % ((L.length : Int) + 1)).toNat, by have := Int.emod_nonneg u (show (L.length : Int) + 1 ≠ 0 by omega); omega, by have := Int.emod_lt_of_pos u (show 0 < (L.length : Int) + 1 by omega); omega⟩
      clear hcells
      go_wp2_with fail
      refine (wvInsert HW.out.v HSS.out (by omega) kk c hkl hc257).mono ?_
      rintro e w4 ⟨rfl, hV, hc⟩
      have HW4 := Lib.hid (HW.out.step hV hc)
      clear hV hc HW hcx hkk
      go_wp2_with fail
      refine (wvDelete HW4.out.v (HSS.out.inL hc257) (by rw [inL_len hkl]; omega) kk c (atN_in hkl)).mono ?_
      rintro e w5 ⟨rfl, hV, hc⟩
      rw [outN_in hkl] at hV
      have HW5 := Lib.hid (HW4.out.step hV hc)
      clear hV hc HW4
      go_wp2_with fail
      go_roundw
      case rel => exact ⟨k + 1, by omega, by go_num, HW5.out⟩
      case measure => simp [intOf]; omega
    · have hor : ¬ k < z2.length ∨ (k < z2.length ∧ ¬ k < 15) := by omega
      have HTO := Lib.hid (told7_any wr HW.out.tab)
      clear hlt
      rcases hor with h1 | ⟨h1, h2⟩
      all_goals
        go_wp2_with fail
        refine HTO.out.mono ?_
        rintro e w4 ⟨rfl, hb4⟩
        have HB4 := Lib.hid (HB.out.trans (hb4.mono HB.out.size))
        have HW4 : Hid (WR w.heap.size X w2 w4 p L a L) := Lib.hid (HW.out.step (HW.out.v.below hb4) (Chg.of_below hb4))
        clear hb4 HW HB HTO
        go_wp2_with fail
        refine (wvAll HW4.out.v HSS.out (by omega)).mono ?_
        rintro e w5 ⟨g, rfl, hge, hrow, hV, hc⟩
        have HB5 := Lib.hid (HB4.out.trans (exT_below hc HW4.out.v.le))
        have HV5 := Lib.hid hV
        have HRA : Hid (ReadsV w5 a (L.map wsV)) := Lib.hid (HW4.out.r.chg hc (fun ad ha hk => hk.2 (HW4.out.ra ad ha)))
        have HSM := Lib.hid (refSameN_any (some ⟨g, 0, none⟩) a L.length cc L L w5 (readsV_block hrow) HRA.out (by omega))
        rw [show decide (L = L) = true by simp] at HSM
        clear hV hc hrow HB4 HW4
        go_wp2_with fail
        refine HSM.out.mono ?_
        rintro e w' ⟨rfl, n5, rfl⟩
        have HV6 := Lib.hid (HV5.out.drewN n5)
        have HB6 := Lib.hid (below_drewW HB5.out n5)
        generalize w5.drewN n5 = w6 at *
        clear HV5 HB5 HSM
        go_wp2_with fail
        refine (wvShapes HV6.out).mono ?_
        rintro e w7 ⟨v, ys, rfl, hr, hy, hb⟩
        obtain ⟨ga, gc, rfl, _, _⟩ := own_slice hr
        have hyl := shapes_len hy
        rw [hyl, HNS.out]
        have HB7 := Lib.hid (HB6.out.trans (hb.mono HB6.out.size))
        clear hr hy hb hyl
        go_wp2_with fail
        go_ret
        exact ⟨rfl, HB7.out⟩

end Go.Proofs.YtcppgpjodfeigaaDoor
