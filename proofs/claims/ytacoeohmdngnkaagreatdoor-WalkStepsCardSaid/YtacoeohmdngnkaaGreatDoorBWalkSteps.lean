/- The walk of WalkSteps. -/
import Derived.Test.YtacoeohmdngnkaaGreatDoorZk8
import Derived.Deep.DeepCutAuto
import Derived.Deep.CutBlock
import Derived.Deep.CutRange
namespace Go.Proofs.YtacoeohmdngnkaaGreatDoor
set_option linter.unusedVariables false
set_option linter.unusedSimpArgs false
open Go.RowKit

theorem u8_in (x : Int) (h0 : 0 ≤ x) (h1 : x < 256) : IntKind.i64.wrap x = x := IntWalk.i64_in _ (by omega)

set_option maxHeartbeats 6400000 in
set_option maxRecDepth 100000 in
theorem walk_WalkSteps (w : World) (hT : BitTab w) (a0 : Option Addr) (c0 : Nat) (z0 : List Int) (w0 : ArgI .i64 w a0 c0 z0) (few : Bool) :
    Calls Tryz.prog 5 #[.slice a0 z0.length c0, .bool few] w fun e w' => e = .returned (.bool true) ∧ Below w.heap.size w w' := by
  have hrd := w0.reads
  have hzm := Nat.le_trans w0.le w0.max
  have HT := Lib.hid hT
  have HTX := Lib.hid (lawText_any a0 c0 z0 80 few w hrd (by omega) hzm)
  clear hT w0 hrd hzm
  go_enter Tryz.func5, Tryz.ntmps5
  go_wp2_with fail
  refine HTX.out.mono ?_
  rintro e w1 ⟨ta, tc, t, rfl, hbt, htl, hot, hb1⟩
  have HNEW := Lib.hid (wkNew_any ta tc t rfl (own_reads hot) hbt (by omega))
  have HOT := Lib.hid hot
  have HB1 := Lib.hid hb1
  clear hot hb1 HTX hbt
  go_wp2_with fail
  refine HNEW.out.mono ?_
  rintro e w2 ⟨p, r, L, rfl, hR, hk, hb2⟩
  have HR := Lib.hid hR
  have HB2 := Lib.hid (HB1.out.trans (hb2.mono HB1.out.size))
  have HW2 := Lib.hid (WkL.start HOT.out HB1.out HT.out hk hb2)
  generalize (fun j => False ∨ (w.heap.size ≤ j ∧ j < w1.heap.size)) = X at *
  clear hR hk hb2 HNEW HOT HB1
  go_wp2_with fail
  refine (wlAll HW2.out HR.out (by omega)).mono ?_
  rintro e w3 ⟨g, rfl, hrow, hw3, hb3, _⟩
  have HB3 := Lib.hid (HB2.out.trans hb3)
  have HW3 := Lib.hid hw3
  have HROW := Lib.hid hrow
  clear hrow hw3 hb3 HB2 HW2
  have hstart : (t.length : Int) - 1 = ((t.length : Nat) : Int) - 1 := rfl
  go_wp2_with fail
  go_loopw [7, 9] (fun x i wr => ∃ k j : Nat, k ≤ t.length ∧ j ≤ t.length ∧ i = .int .i64 ((k : Int) - 1) ∧ x = .int .i64 j ∧ ro r j = k ∧ WkL w.heap.size (fun k => X k ∨ k = g) w3 wr p L ta t) (fun _ i _ => (intOf i + 1).toNat)
  case atStart => exact ⟨t.length, 0, Nat.le_refl _, Nat.zero_le _, rfl, rfl, HR.out.zero, HW3.out⟩
  case round => as_aux_lemma =>
    clear HW3
    obtain ⟨k, j, hk, hj, rfl, rfl, hro, hW⟩ := hrel
    have HW := Lib.hid hW
    obtain ⟨s, hs, hs257⟩ := HR.out.get hj
    have hsy := HR.out.sym hs
    rw [hro] at hsy
    have hrow := HROW.out.chg hW.chg (fun ad ha hs => by cases ha; exact hs.2 (Or.inr rfl))
    obtain ⟨b, off, hbe, _, hcell⟩ := hrow.some (by rw [List.length_map, HR.out.len]; omega)
    cases hbe
    have hcj : wr.cell? ⟨g, 0 + j, none⟩ = some (.int .i64 s) := hcell j _ (by rw [List.getElem?_map, hs]; rfl)
    rw [Nat.zero_add] at hcj
    have j0 : (0 : Int) ≤ (j : Int) := by omega
    have j1 : (j : Int) < (t.length : Int) + 1 := by omega
    have HRO := Lib.hid hro
    have HS := Lib.hid hs
    clear hW hrow hcell hro hs
    by_cases hk0 : 0 < k
    · obtain ⟨n, rfl⟩ : ∃ n, k = n + 1 := ⟨k - 1, by omega⟩
      have e1 : ((n + 1 : Nat) : Int) - 1 = (n : Int) := by omega
      rw [show n + 1 + t.length = n + (t.length + 1) by omega, Nat.add_mod_right, Nat.mod_eq_of_lt (by omega), symsT_sy (by omega)] at hsy
      have hbn := HR.out.byte _ (List.getElem_mem (show n < t.length by omega))
      obtain ⟨tb, toff, rfl, htb, htc⟩ := HW.out.r.some (by omega)
      have hct : wr.cell? ⟨tb, toff + n, none⟩ = some (.int .u8 ((s : Int) - 1)) := by
        rw [htc n (by omega), List.getElem?_eq_getElem (by omega), Option.getD_some, hsy]
        congr 2
        omega
      have hw1 : IntKind.i64.wrap ((s : Int) - 1) = (s : Int) - 1 := IntWalk.i64_in _ (by omega)
      have hw2 : IntKind.i64.wrap ((s : Int) - 1 + 1) = (s : Int) := by rw [show (s : Int) - 1 + 1 = (s : Int) by omega]; exact IntWalk.i64_in _ (by omega)
      have hw3 : IntKind.i64.wrap (s : Int) = (s : Int) := IntWalk.i64_in _ (by omega)
      have hss : ((s : Int) != (s : Int)) = false := by simp
      have dj : decide ((t.length : Int) + 1 ≤ (j : Int)) = false := decide_eq_false (by omega)
      have dj0 : decide ((j : Int) < 0) = false := decide_eq_false (by omega)
      have n0 : (0 : Int) ≤ (n : Int) := by omega
      have n1 : (n : Int) < (t.length : Int) := by omega
      have B0 : Hid (wr.drew.cell? ⟨g, j, none⟩ = some (.int .i64 s) ∧ wr.drew.cell? ⟨tb, toff + n, none⟩ = some (.int .u8 ((s : Int) - 1))) := Lib.hid ⟨hcj, hct⟩
      rw [e1]
      clear hsy hbn htc htb hcj hct e1
      go_upto_region 9 with fail
      -- REGION st
      refine reg_start (fun w' => w'.cell? ⟨g, j, none⟩ = some (.int .i64 s) ∧ w'.cell? ⟨tb, toff + n, none⟩ = some (.int .u8 ((s : Int) - 1))) (by kernel_rfl) (B0.out) (fun hHeld => ?_)
      refine rt 0 hHeld ?_
      refine rt 1 hHeld ?_
      refine rt 2 hHeld ?_
      refine rt 3 hHeld ?_
      refine rt 4 hHeld ?_
      refine rt 5 hHeld ?_
      refine rt 6 hHeld ?_
      refine rt 7 hHeld ?_
      refine rt 8 hHeld ?_
      refine rt 9 hHeld ?_
      refine rt 10 hHeld ?_
      refine rt 11 hHeld ?_
      refine rt 12 hHeld ?_
      refine rt 13 hHeld ?_
      refine rt 14 hHeld ?_
      refine rt 15 hHeld ?_
      refine rt 16 hHeld ?_
      refine rt 17 hHeld ?_
      refine rt 18 hHeld ?_
      refine rt 19 hHeld ?_
      refine rt 20 hHeld ?_
      refine reg_done (by kernel_rfl) ?_ _
      -- END OF REGION st
      have HWD := Lib.hid (HW.out.drewN 1)
      have hBK := wlBack HWD.out HR.out (by omega) hj
      rw [HRO.out] at hBK
      have HBK := Lib.hid hBK
      clear hHeld B0 hw1 hw2 hw3 hss dj dj0 hBK HW
      go_wp2_with fail
      refine HBK.out.mono ?_
      rintro e w4 ⟨j', rfl, hj', hro', hw4⟩
      have HW4 := Lib.hid hw4
      have HRO' : Hid (ro r j' = n) := Lib.hid (by rw [hro', show n + 1 + t.length = n + (t.length + 1) by omega, Nat.add_mod_right, Nat.mod_eq_of_lt (by omega)])
      clear hw4 hro' HBK
      go_wp2_with fail
      go_roundw
      case rel => exact ⟨n, j', by omega, hj', rfl, rfl, HRO'.out, HW4.out⟩
      case measure => simp [intOf]
    · obtain rfl : k = 0 := by omega
      rw [Nat.zero_add, Nat.mod_eq_of_lt (by omega), symsT_end] at hsy
      obtain rfl : s = 0 := by omega
      have d1 : decide ((0 : Int) ≤ ((0 : Nat) : Int) - 1) = false := by decide
      have hst0 : ∃ st, strOfNums t = st := ⟨_, rfl⟩
      obtain ⟨st, hst⟩ := hst0
      have HST := Lib.hid hst
      have hstl : (strOfNums t).size ≤ 100000 := by rw [strOfNums_size]; omega
      have HLR : Hid (∀ W, Calls Tryz.prog 10 #[.string st] W (LastPost W.heap.size W t)) := Lib.hid (fun W => by
        have := ref6Last_any (strOfNums t) W hstl
        rw [tOfS_of HR.out.byte] at this
        rw [← hst]; exact this)
      have HMK : Hid (∀ w', WkL w.heap.size (fun k => X k ∨ k = g) w3 w' p L ta t → (w'.cell? ⟨g, j, none⟩ = some (.int .i64 ((0 : Nat) : Int)) ∧ (convert 24 9 (.slice ta t.length tc)).run Tryz.prog w' = .ok (.string st) w') ∧ WkL w.heap.size (fun k => X k ∨ k = g) w3 w' p L ta t) := Lib.hid (fun w' h => by
        have hrow := HROW.out.chg h.chg (fun ad ha hs => by cases ha; exact hs.2 (Or.inr rfl))
        obtain ⟨b, off, hbe, _, hcell⟩ := hrow.some (by rw [List.length_map, HR.out.len]; omega)
        cases hbe
        have hc := hcell j _ (by rw [List.getElem?_map, HS.out]; rfl)
        rw [Nat.zero_add] at hc
        refine ⟨⟨hc, ?_⟩, h⟩
        rw [← hst]
        exact conv_str (c := tc) Tryz.underlying24 Tryz.underlying5 Tryz.underlying9 h.r)
      have B1 := Lib.hid (HMK.out _ (HW.out.drewN 1))
      have hseq : (st.toList == st.toList) = true := by simp
      have dj1 : decide ((j : Int) < (t.length : Int) + 1) = true := decide_eq_true j1
      have dj0 : decide ((0 : Int) ≤ (j : Int)) = true := decide_eq_true j0
      clear hsy hcj hk hst hstl hs257 HRO
      go_upto_region 12 with fail
      -- REGION en
      refine reg_start (fun w' => (w'.cell? ⟨g, j, none⟩ = some (.int .i64 ((0 : Nat) : Int)) ∧ (convert 24 9 (.slice ta t.length tc)).run Tryz.prog w' = .ok (.string st) w') ∧ WkL w.heap.size (fun k => X k ∨ k = g) w3 w' p L ta t) (by kernel_rfl) (B1.out) (fun hHeld => ?_)
      refine reg_loud (i := 0) rfl (by kernel_rfl) rfl (fun K hK => ?_)
      go_simp
      ((refine (told10_any _ hHeld.2.tab).mono ?_))
      rintro e w6 ⟨rfl, hb6⟩
      refine hK.out _ _ (HMK.out _ (hHeld.2.below hb6)) (fun hNew => ?_)
      clear hK K hHeld
      have hHeld := hNew
      clear hNew
      try simp only [Act.put, List.setIfInBounds_toArray, List.set_cons_zero, List.set_cons_succ]
      refine rt 1 hHeld ?_
      refine rt 2 hHeld ?_
      refine rt 3 hHeld ?_
      refine rt 4 hHeld ?_
      refine rt 5 hHeld ?_
      refine rt 6 hHeld ?_
      refine rt 7 hHeld ?_
      refine rt 8 hHeld ?_
      refine rt 9 hHeld ?_
      refine rt 10 hHeld ?_
      refine rt 11 hHeld ?_
      refine rt 12 hHeld ?_
      refine rt 13 hHeld ?_
      refine rt 14 hHeld ?_
      refine rt 15 hHeld ?_
      refine rt 16 hHeld ?_
      refine rt 17 hHeld ?_
      refine rt 18 hHeld ?_
      refine rt 19 hHeld ?_
      refine rt 22 hHeld ?_
      refine rt 23 hHeld ?_
      refine reg_loud (i := 20) rfl (by kernel_rfl) rfl (fun K hK => ?_)
      go_simp
      ((refine (wkText hHeld.2.k HR.out (by omega)).mono ?_))
      rintro e w6 ⟨va, vc, rfl, ho6, hk6, hc6⟩
      have hcv := conv_str (P := Tryz.prog) (c := vc) Tryz.underlying24 Tryz.underlying5 Tryz.underlying9 (own_reads ho6)
      rw [HST.out] at hcv
      refine hK.out _ _ (HMK.out _ (hHeld.2.step (hk6.mono (fun k hk => Or.inl hk)) hc6)) (fun hNew => ?_)
      clear hK K hHeld
      have hHeld := hNew
      clear hNew
      try simp only [Act.put, List.setIfInBounds_toArray, List.set_cons_zero, List.set_cons_succ]
      refine reg_loud (i := 21) rfl (by kernel_rfl) rfl (fun K hK => ?_)
      go_simp
      refine hK.out _ _ (hHeld) (fun hNew => ?_)
      clear hK K hHeld
      have hHeld := hNew
      clear hNew
      try simp only [Act.put, List.setIfInBounds_toArray, List.set_cons_zero, List.set_cons_succ]
      refine rt 24 hHeld ?_
      refine rt 25 hHeld ?_
      refine rt 26 hHeld ?_
      refine rt 27 hHeld ?_
      refine rt 29 hHeld ?_
      refine rt 30 hHeld ?_
      refine reg_loud (i := 28) rfl (by kernel_rfl) rfl (fun K hK => ?_)
      go_simp
      ((refine (wkAll hHeld.2.k (by rw [HR.out.len]; omega)).mono ?_))
      rintro e w7 ⟨g7, rfl, hrow7, hge7, hk7, hc7⟩
      have HR7 := Lib.hid (readsN (readsV_block hrow7))
      clear hrow7 hge7
      refine hK.out _ _ (HMK.out _ (hHeld.2.step (hk7.mono (fun k hk => Or.inl hk)) hc7)) (fun hNew => ?_)
      clear hK K hHeld
      have hHeld := hNew
      clear hNew
      try simp only [Act.put, List.setIfInBounds_toArray, List.set_cons_zero, List.set_cons_succ]
      refine reg_loud (i := 31) rfl (by kernel_rfl) rfl (fun K hK => ?_)
      go_simp
      ((refine (HLR.out _).mono ?_))
      rintro e w8 ⟨m8, hm8, v8, rfl, ho8, hb8⟩
      obtain ⟨a8, c8, rfl, _, _⟩ := own_slice ho8
      have HSM := Lib.hid (refSame_len (some ⟨g7, 0, none⟩) a8 L.length m8.length L.length c8 (intL L) m8 w8 (HR7.out.below hb8) (own_reads ho8) (by rw [intL_len]) rfl (by rw [intL_len, HR.out.len]; omega))
      rw [show sameI (intL L) m8 = true from decide_eq_true (HR.out.isLast.same hm8)] at HSM
      clear ho8 hm8
      refine hK.out _ _ (HMK.out _ (hHeld.2.below hb8)) (fun hNew => ?_)
      clear hK K hHeld
      have hHeld := hNew
      clear hNew
      try simp only [Act.put, List.setIfInBounds_toArray, List.set_cons_zero, List.set_cons_succ]
      refine reg_loud (i := 32) rfl (by kernel_rfl) rfl (fun K hK => ?_)
      go_simp
      ((refine HSM.out.mono ?_))
      rintro e w9 ⟨rfl, n9, rfl⟩
      refine hK.out _ _ (HMK.out _ (hHeld.2.drewN n9)) (fun hNew => ?_)
      clear hK K hHeld
      have hHeld := hNew
      clear hNew
      try simp only [Act.put, List.setIfInBounds_toArray, List.set_cons_zero, List.set_cons_succ]
      refine rt 33 hHeld ?_
      refine rt 34 hHeld ?_
      refine reg_done (by kernel_rfl) ?_ _
      -- END OF REGION en
      have HBF := Lib.hid (HB3.out.trans (exT_below hHeld.2.chg HB3.out.size))
      clear hHeld B1 HW HROW
      go_wp2_with fail
      go_ret
      exact ⟨rfl, HBF.out⟩

end Go.Proofs.YtacoeohmdngnkaaGreatDoor
