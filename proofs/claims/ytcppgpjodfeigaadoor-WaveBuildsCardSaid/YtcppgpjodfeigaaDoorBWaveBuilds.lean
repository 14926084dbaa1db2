/- The walk of WaveBuilds. -/
import Derived.Test.YtcppgpjodfeigaaDoorZw10
namespace Go.Proofs.YtcppgpjodfeigaaDoor
set_option linter.unusedVariables false
set_option linter.unusedSimpArgs false
open Go.RowKit

theorem inL_end {L : List Nat} {k s : Nat} (h : L[k]? = some s) : inL (L.take k) k s = L.take (k + 1) := by
  have hlt := (List.getElem?_eq_some_iff.1 h).1
  unfold inL
  rw [List.take_take, Nat.min_self, List.drop_of_length_le (by rw [List.length_take]; omega), List.take_add_one, h]
  rfl
theorem inL_ahead {L : List Nat} {k s : Nat} (hk : k < L.length) (h : L[L.length - 1 - k]? = some s) : inL (L.drop (L.length - k)) 0 s = L.drop (L.length - (k + 1)) := by
  unfold inL
  obtain ⟨hlt, e⟩ := List.getElem?_eq_some_iff.1 h
  rw [List.take_zero, List.drop_zero, List.nil_append, ← e]
  have e2 : L.length - (k + 1) = L.length - 1 - k := by omega
  rw [e2, List.drop_eq_getElem_cons hlt]
  congr 2
  omega
theorem Syms.take {L : List Nat} (h : Syms L) (k : Nat) : Syms (L.take k) := fun s hs => h s (List.mem_of_mem_take hs)
theorem Syms.drop {L : List Nat} (h : Syms L) (k : Nat) : Syms (L.drop k) := fun s hs => h s (List.mem_of_mem_drop hs)
theorem syms_nil : Syms [] := fun s hs => by simp at hs

/-- Three waves and the row of symbols. -/
structure W3R (B : Nat) (K : Nat → Prop) (w0 w : World) (pa : Nat) (La : List Nat) (pb : Nat) (Lb : List Nat) (pc : Nat) (Lc : List Nat) (a : Option Addr) (M : List Nat) : Prop where
  v : W3 B K w pa La pb Lb pc Lc
  r : ReadsV w a (M.map wsV)
  ra : ∀ ad, a = some ad → K ad.block
  b : Below B w0 w

set_option maxHeartbeats 6400000 in
set_option maxRecDepth 100000 in
theorem walk_WaveBuilds (w : World) (hT : BitTab w) (a0 : Option Addr) (c0 : Nat) (z0 : List Int) (w0 : ArgI .i64 w a0 c0 z0) (few : Bool) :
    Calls Tryd.prog 15 #[.slice a0 z0.length c0, .bool few] w fun e w' => e = .returned (.bool true) ∧ Below w.heap.size w w' := by
  have hrd := w0.reads
  have hzm := Nat.le_trans w0.le w0.max
  have HT := Lib.hid hT
  have HTL := Lib.hid hT.lt
  have HSY := Lib.hid (law7Syms_any a0 c0 z0 100 few w hrd (by omega) hzm)
  clear hT w0 hrd hzm
  go_enter Tryd.func15, Tryd.ntmps15
  go_wp2_with fail
  refine HSY.out.mono ?_
  rintro e w1 ⟨L, v, rfl, hll, hS, hown, hb1⟩
  obtain ⟨a, c, rfl, hnil, had⟩ := own_slice hown
  have hl : L.length ≤ 100 := by omega
  have hrm := readsV_own hown
  have HNEW := Lib.hid (wvNew (c := c) L hrm hS (by omega))
  have HRM := Lib.hid hrm
  have HSS := Lib.hid hS
  have hs1 := hb1.size
  have HAD : Hid (∀ ad, a = some ad → w.heap.size ≤ ad.block ∧ ad.block < w1.heap.size) := Lib.hid (fun ad h => by obtain ⟨g, rfl, h1, h2, _⟩ := had ad h; exact ⟨h1, h2⟩)
  clear hown hrm hS HSY hll had hnil
  go_wp2_with fail
  refine HNEW.out.mono ?_
  rintro e w2 ⟨pa, rfl, hVa, hb2⟩
  have HB1 := Lib.hid hb1
  have HB2 := Lib.hid hb2
  have HVA := Lib.hid hVa
  clear hVa hb2 hb1 hs1 HNEW
  go_wp2_with fail
  refine (wvNew (w := w2) (a := none) (c := 0) [] ReadsV.nil syms_nil (by decide)).mono ?_
  rintro e w3 ⟨pb, rfl, hVb, hb3⟩
  have HB3 := Lib.hid hb3
  have HVB := Lib.hid hVb
  clear hVb hb3
  go_wp2_with fail
  refine (wvNew (w := w3) (a := none) (c := 0) [] ReadsV.nil syms_nil (by decide)).mono ?_
  rintro e w4 ⟨pc, rfl, hVc, hb4⟩
  have HW3 : Hid (W3R w.heap.size (fun j => w.heap.size ≤ j ∧ j < w1.heap.size) w w4 pa L pb [] pc [] a L) := by
    have s1 := HB1.out.size
    have s2 := HB2.out.size
    have s3 := HB3.out.size
    have s4 := hb4.size
    refine ⟨⟨_, _, _, ((HVA.out.base s1).aside (Z := fun _ => False) (Chg.of_below HB3.out) (fun _ _ _ h => h)).aside (Z := fun _ => False) (Chg.of_below hb4) (fun _ _ _ h => h), (HVB.out.base (Nat.le_trans s1 s2)).aside (Z := fun _ => False) (Chg.of_below hb4) (fun _ _ _ h => h), hVc.base (Nat.le_trans s1 (Nat.le_trans s2 s3)), fun k h1 h2 => ?_, fun k h => ?_⟩, ((HRM.out.below' HB2.out).below' HB3.out).below' hb4, fun ad h => HAD.out ad h, ((HB1.out.trans (HB2.out.mono s1)).trans (HB3.out.mono (by omega))).trans (hb4.mono (by omega))⟩
    · by_cases g1 : k < w1.heap.size
      · exact ⟨Or.inl (Or.inl (Or.inl (Or.inr ⟨h1, g1⟩))), Or.inl (Or.inl (Or.inl (Or.inr ⟨h1, g1⟩))), Or.inl (Or.inl (Or.inr ⟨h1, by omega⟩))⟩
      · by_cases g2 : k < w2.heap.size
        · exact ⟨Or.inr (Or.inl (Or.inr ⟨h1, g2⟩)), Or.inr (Or.inr ⟨h1, by omega⟩), Or.inr (Or.inr ⟨h1, by omega⟩)⟩
        · by_cases g3 : k < w3.heap.size
          · exact ⟨Or.inl (Or.inl (Or.inr ⟨by omega, g3⟩)), Or.inr (Or.inr ⟨h1, g3⟩), Or.inr (Or.inr ⟨h1, g3⟩)⟩
          · exact ⟨Or.inl (Or.inr ⟨by omega, h2⟩), Or.inl (Or.inr ⟨by omega, h2⟩), Or.inl (Or.inr ⟨by omega, h2⟩)⟩
    · exact ⟨Or.inl (Or.inl (Or.inr h)), Or.inl (Or.inr ⟨h.1, by omega⟩), Or.inr ⟨h.1, by omega⟩⟩
  clear hVc hb4 HB1 HB2 HB3 HVA HVB HRM HAD
  generalize (fun j => w.heap.size ≤ j ∧ j < w1.heap.size) = K at *
  go_wp2_with fail
  go_loopw [12] (fun i wr => ∃ k : Nat, k ≤ L.length ∧ i = .int .i64 k ∧ W3R w.heap.size K w wr pa L pb (L.take k) pc (L.drop (L.length - k)) a L) (fun i _ => L.length - (intOf i).toNat)
  case atStart => exact ⟨0, Nat.zero_le _, rfl, by rw [List.take_zero, List.drop_of_length_le (by omega)]; exact HW3.out⟩
  case round => as_aux_lemma =>
    clear HW3
    obtain ⟨k, hk, rfl, hW⟩ := hrel
    have HW := Lib.hid hW
    clear hW
    by_cases hlt : k < L.length
    · obtain ⟨s, hs⟩ : ∃ s, L[k]? = some s := ⟨_, List.getElem?_eq_getElem hlt⟩
      obtain ⟨t, ht⟩ : ∃ t, L[L.length - 1 - k]? = some t := ⟨_, List.getElem?_eq_getElem (by omega)⟩
      have hs257 := HSS.out s (List.mem_of_getElem? hs)
      have ht257 := HSS.out t (List.mem_of_getElem? ht)
      have HK := Lib.hid hs
      have HQ := Lib.hid ht
      obtain ⟨b, off, rfl, hbl, hcell⟩ := HW.out.r.some (by rw [List.length_map]; omega)
      have hc1 : wr.cell? ⟨b, off + k, none⟩ = some (.int .i64 s) := hcell k _ (by rw [List.getElem?_map, hs]; rfl)
      have i0 : (0 : Int) ≤ (k : Int) := by omega
      have i1 : (k : Int) < (L.length : Int) := by omega
      clear hs ht hcell
      go_wp2_with fail
      refine (HW.out.v.rot.ins (HSS.out.take k) (by rw [List.length_take]; omega) k s (by rw [List.length_take]; omega) hs257).mono ?_
      rintro e w5 ⟨rfl, hV, hc⟩
      rw [inL_end HK.out] at hV
      have HW5 : Hid (W3R w.heap.size K w w5 pa L pb (L.take (k + 1)) pc (L.drop (L.length - k)) (some ⟨b, off, none⟩) L) := Lib.hid ⟨hV.rot.rot, HW.out.r.chg hc (fun ad ha hk => hk.2 (HW.out.ra ad ha)), HW.out.ra, HW.out.b.trans (exT_below hc HW.out.v.le)⟩
      clear hV hc HW hc1
      obtain ⟨q, hq⟩ : ∃ q : Nat, L.length - 1 - k = q := ⟨_, rfl⟩
      have hqi : (L.length : Int) - 1 - (k : Int) = (q : Int) := by omega
      have hql : q < L.length := by omega
      obtain ⟨b2, off2, hbe, hbl2, hcell2⟩ := HW5.out.r.some (by rw [List.length_map]; omega)
      cases hbe
      have hc2 : w5.cell? ⟨b, off + q, none⟩ = some (.int .i64 t) := hcell2 q _ (by rw [List.getElem?_map, ← hq, HQ.out]; rfl)
      have HQQ := Lib.hid hq
      clear hcell2 hq
      go_wp2_with fail
      refine (HW5.out.v.rot.rot.ins (HSS.out.drop _) (by rw [List.length_drop]; omega) 0 t (Nat.zero_le _) ht257).mono ?_
      rintro e w6 ⟨rfl, hV, hc⟩
      rw [inL_ahead hlt HQ.out] at hV
      have HW6 : Hid (W3R w.heap.size K w w6 pa L pb (L.take (k + 1)) pc (L.drop (L.length - (k + 1))) (some ⟨b, off, none⟩) L) := Lib.hid ⟨hV.rot, HW5.out.r.chg hc (fun ad ha hk => hk.2 (HW5.out.ra ad ha)), HW5.out.ra, HW5.out.b.trans (exT_below hc HW5.out.v.le)⟩
      clear hV hc HW5 hc2 hqi
      go_wp2_with fail
      go_roundw
      case rel => exact ⟨k + 1, by omega, by go_num, HW6.out⟩
      case measure => simp [intOf]; omega
    · obtain rfl : k = L.length := by omega
      have HTO := Lib.hid (told7_any wr (HT.out.below' HW.out.b))
      have HV : Hid (W3 w.heap.size K wr pa L pb L pc L) := by have := HW.out.v; rwa [List.take_length, Nat.sub_self, List.drop_zero] at this
      have HB := Lib.hid HW.out.b
      have HNL := Lib.hid (nonL_le L)
      clear HW
      go_wp2_with fail
      refine HTO.out.mono ?_
      rintro e w5 ⟨rfl, hb⟩
      have HB5 := Lib.hid (HB.out.trans (hb.mono HB.out.size))
      have HV5 := Lib.hid (HV.out.below hb)
      clear hb HB HV HTO
      go_wp2_with fail
      refine (HV5.out.all HSS.out (by omega)).mono ?_
      rintro e w6 ⟨g1, rfl, hr1, hV, hc⟩
      have HB6 := Lib.hid (HB5.out.trans (exT_below hc HV5.out.le))
      have HV6 := Lib.hid hV
      have HR1 := Lib.hid hr1
      clear hr1 hV hc HB5 HV5
      go_wp2_with fail
      refine (HV6.out.rot.all HSS.out (by omega)).mono ?_
      rintro e w7 ⟨g2, rfl, hr2, hV, hc⟩
      have HB7 := Lib.hid (HB6.out.trans (exT_below hc HV6.out.le))
      have HV7 : Hid (W3 w.heap.size K w7 pa L pb L pc L) := by
        obtain ⟨A1, A2, A3, q1, q2, q3, q4, q5⟩ := hV.rot.rot.ex
        exact ⟨A1, A2, A3, q1, q2, q3, q4, fun k hk => q5 k (Or.inl (Or.inl hk))⟩
      have hr1 : ReadsV w7 (some ⟨g1, 0, none⟩) (L.map wsV) := HR1.out.chg hc (fun ad ha hk => by cases ha; exact hk.2 (Or.inr rfl))
      have HSM := Lib.hid (refSameN_any (some ⟨g1, 0, none⟩) (some ⟨g2, 0, none⟩) L.length L.length L L w7 hr1 hr2 (by omega))
      rw [show decide (L = L) = true by simp] at HSM
      clear hV hc hr1 hr2 HR1 HB6 HV6
      go_wp2_with fail
      refine HSM.out.mono ?_
      rintro e w' ⟨rfl, n8, rfl⟩
      have HV8 := Lib.hid (HV7.out.drewN n8)
      have HB8 := Lib.hid (below_drewW HB7.out n8)
      generalize w7.drewN n8 = w8 at *
      clear HV7 HB7 HSM
      go_wp2_with fail
      refine (HV8.out.all HSS.out (by omega)).mono ?_
      rintro e w9 ⟨g3, rfl, hr1, hV, hc⟩
      have HB9 := Lib.hid (HB8.out.trans (exT_below hc HV8.out.le))
      have HV9 := Lib.hid hV
      have HR1 := Lib.hid hr1
      clear hr1 hV hc HB8 HV8
      go_wp2_with fail
      refine (HV9.out.rot.rot.all HSS.out (by omega)).mono ?_
      rintro e w10 ⟨g4, rfl, hr2, hV, hc⟩
      have HB10 := Lib.hid (HB9.out.trans (exT_below hc HV9.out.le))
      have HV10 : Hid (W3 w.heap.size K w10 pa L pb L pc L) := by
        obtain ⟨A1, A2, A3, q1, q2, q3, q4, q5⟩ := hV.rot.ex
        exact ⟨A1, A2, A3, q1, q2, q3, q4, fun k hk => q5 k (Or.inl (Or.inl hk))⟩
      have hr1 : ReadsV w10 (some ⟨g3, 0, none⟩) (L.map wsV) := HR1.out.chg hc (fun ad ha hk => by cases ha; exact hk.2 (Or.inr rfl))
      have HSM := Lib.hid (refSameN_any (some ⟨g3, 0, none⟩) (some ⟨g4, 0, none⟩) L.length L.length L L w10 hr1 hr2 (by omega))
      rw [show decide (L = L) = true by simp] at HSM
      clear hV hc hr1 hr2 HR1 HB9 HV9
      go_wp2_with fail
      refine HSM.out.mono ?_
      rintro e w' ⟨rfl, n11, rfl⟩
      have HV11 := Lib.hid (HV10.out.drewN n11)
      have HB11 := Lib.hid (below_drewW HB10.out n11)
      generalize w10.drewN n11 = w11 at *
      clear HV10 HB10 HSM
      go_wp2_with fail
      refine (HV11.out.shapes).mono ?_
      rintro e w12 ⟨ga, gc, rfl, hV, hb⟩
      have HB12 := Lib.hid (HB11.out.trans (hb.mono HB11.out.size))
      have HV12 := Lib.hid hV
      have hnl := HNL.out
      obtain ⟨ns, hns⟩ : ∃ ns, (nonL L 9).length = ns := ⟨_, rfl⟩
      rw [hns] at hnl ⊢
      have HNS := Lib.hid hns
      clear hV hb HB11 HV11 hns
      go_wp2_with fail
      refine (HV12.out.rot.shapes).mono ?_
      rintro e w13 ⟨ga, gc, rfl, hV, hb⟩
      have HB13 := Lib.hid (HB12.out.trans (hb.mono HB12.out.size))
      have HV13 := Lib.hid hV.rot.rot
      rw [HNS.out]
      clear hV hb HB12 HV12
      go_wp2_with fail
      refine (HV13.out.shapes).mono ?_
      rintro e w14 ⟨ga, gc, rfl, hV, hb⟩
      have HB14 := Lib.hid (HB13.out.trans (hb.mono HB13.out.size))
      have HV14 := Lib.hid hV
      rw [HNS.out]
      clear hV hb HB13 HV13
      go_wp2_with fail
      refine (HV14.out.rot.rot.shapes).mono ?_
      rintro e w15 ⟨ga, gc, rfl, hV, hb⟩
      have HB15 := Lib.hid (HB14.out.trans (hb.mono HB14.out.size))
      rw [HNS.out]
      clear hV hb HB14 HV14
      go_wp2_with fail
      go_ret
      exact ⟨rfl, HB15.out⟩

end Go.Proofs.YtcppgpjodfeigaaDoor
