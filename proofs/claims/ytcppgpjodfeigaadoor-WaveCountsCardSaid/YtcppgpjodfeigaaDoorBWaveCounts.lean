/- The walk of WaveCounts. -/
import Derived.Test.YtcppgpjodfeigaaDoorZw9
import Derived.Test.YtcppgpjodfeigaaDoorZw10
namespace Go.Proofs.YtcppgpjodfeigaaDoor
set_option linter.unusedVariables false
set_option linter.unusedSimpArgs false
open Go.RowKit

set_option maxHeartbeats 6400000 in
set_option maxRecDepth 100000 in
theorem walk_WaveCounts (w : World) (hT : BitTab w) (a0 : Option Addr) (c0 : Nat) (z0 : List Int) (w0 : ArgI .i64 w a0 c0 z0) (few : Bool) (at_ : Int) (w1 : (Lit.int .i64 at_).wf = true) :
    Calls Tryd.prog 13 #[.slice a0 z0.length c0, .bool few, .int .i64 at_] w fun e w' => e = .returned (.bool true) ∧ Below w.heap.size w w' := by
  have hrd := w0.reads
  have hzm := Nat.le_trans w0.le w0.max
  have HT := Lib.hid hT
  have HTL := Lib.hid hT.lt
  have HSY := Lib.hid (law7Syms_any a0 c0 z0 100 few w hrd (by omega) hzm)
  obtain ⟨u, hu0, hu1, hu⟩ := u64r at_
  clear hT w0 w1 hrd hzm
  go_enter Tryd.func13, Tryd.ntmps13
  go_wp2_with fail
  refine HSY.out.mono ?_
  rintro e w1 ⟨L, v, rfl, hll, hS, hown, hb1⟩
  obtain ⟨a, c, rfl, hnil, had⟩ := own_slice hown
  have hl : L.length ≤ 100 := by omega
  have hrm := readsV_own hown
  have HNEW := Lib.hid (wvNew (c := c) L hrm hS (by omega))
  have HRM := Lib.hid hrm
  have HSS := Lib.hid hS
  have hs1 := hb1.size
  have HAD : Hid (∀ ad, a = some ad → w.heap.size ≤ ad.block ∧ ad.block < w1.heap.size) := Lib.hid (fun ad h => by obtain ⟨g, rfl, h1, h2, _⟩ := had ad h; exact ⟨h1, h2⟩)
  clear hown hrm hS HSY hll had hnil
  go_wp2_with fail
  refine HNEW.out.mono ?_
  rintro e w2 ⟨p, rfl, hV, hb2⟩
  have hb12 : Below w.heap.size w w2 := hb1.trans (hb2.mono hs1)
  have HWR : Hid (WR w.heap.size (fun j => False ∨ (w.heap.size ≤ j ∧ j < w1.heap.size)) w2 w2 p L a L) := Lib.hid ⟨hV.base hs1, HRM.out.below' hb2, fun ad h => Or.inr (HAD.out ad h), HT.out.below' hb12, HTL.out, Chg.refl⟩
  have HB2 := Lib.hid hb12
  clear hV hb2 hb12 hb1 hs1 HNEW HRM HAD
  generalize (fun j => False ∨ (w.heap.size ≤ j ∧ j < w1.heap.size)) = X at *
  obtain ⟨kk, hkk, hkl⟩ : ∃ kk : Nat, u % ((L.length : Int) + 1) = (kk : Int) ∧ kk ≤ L.length := ⟨(u % ((L.length : Int) + 1)).toNat, by have := Int.emod_nonneg u (show (L.length : Int) + 1 ≠ 0 by omega); omega, by have := Int.emod_lt_of_pos u (show 0 < (L.length : Int) + 1 by omega); omega⟩
  go_wp2_with fail
  go_loopw [11, 12] (fun v i wr => ∃ m : Nat, m ≤ 257 ∧ v = .int .i64 (sumR L kk m : Nat) ∧ i = .int .i64 m ∧ WR w.heap.size X w2 wr p L a L) (fun _ i _ => 257 - (intOf i).toNat)
  case atStart => exact ⟨0, Nat.zero_le _, rfl, rfl, HWR.out⟩
  case round => as_aux_lemma =>
    clear HWR hkk
    obtain ⟨m, hm, rfl, rfl, hW⟩ := hrel
    have hsl : sumR L kk m ≤ kk := sumR_le kk m
    by_cases hm257 : m < 257
    · have HW := Lib.hid hW
      clear hW
      go_wp2_with fail
      refine (wvRank HW.out.v HSS.out (by omega) kk m hm257).mono ?_
      rintro e w4 ⟨rfl, hV, hc⟩
      have H4 := Lib.hid (HW.out.step hV hc)
      rw [Int.toNat_natCast]
      have hrk : rankS L kk m ≤ kk := by unfold rankS; exact Nat.le_trans (List.count_le_length) (by rw [List.length_take]; omega)
      have HLST := Lib.hid (fun h => selS_last (L := L) (s := m) hkl h)
      obtain ⟨r, hr⟩ : ∃ r, rankS L kk m = r := ⟨_, rfl⟩
      rw [hr] at hrk HLST ⊢
      have HRR := Lib.hid hr
      clear hV hc HW hr
      obtain rfl | hr0 : r = 0 ∨ 0 < r := by omega
      · go_wp2_with fail
        refine (wvSelect H4.out.v H4.out.tab H4.out.tl HSS.out (by omega) _ m hm257).mono ?_
        rintro e w5 ⟨rfl, hV, hc⟩
        have HW5 := Lib.hid (H4.out.step hV hc)
        clear hV hc H4
        obtain ⟨q, hq⟩ : ∃ q, selS L (0 : Int) m = q := ⟨_, rfl⟩
        rw [hq]
        by_cases hq0 : 0 ≤ q
        · obtain ⟨K, rfl⟩ := Int.eq_ofNat_of_zero_le hq0
          have hKk : kk ≤ K := selS_ge (s := m) (by rw [HRR.out]; exact hq)
          have dK : decide ((K : Int) < (kk : Int)) = false := decide_eq_false (by omega)
          have dK2 : decide (K < kk) = false := decide_eq_false (by omega)
          have HQ := Lib.hid hq
          clear hq hq0 hKk
          go_wp2_with fail
          refine (wvSelect HW5.out.v HW5.out.tab HW5.out.tl HSS.out (by omega) _ m hm257).mono ?_
          rintro e w6 ⟨rfl, hV, hc⟩
          have HW6 := Lib.hid (HW5.out.step hV hc)
          rw [HQ.out]
          clear hV hc HW5
          go_wp2_with fail
          go_roundw
          case rel => exact ⟨m + 1, by omega, by rw [sumR_succ, HRR.out]; go_num, by go_num, HW6.out⟩
          case measure => simp [intOf]; omega
        · have dq : decide (0 ≤ q) = false := decide_eq_false hq0
          clear hq
          go_wp2_with fail
          go_roundw
          case rel => exact ⟨m + 1, by omega, by rw [sumR_succ, HRR.out]; go_num, by go_num, HW5.out⟩
          case measure => simp [intOf]; omega
      · obtain ⟨K1, hK1, hK1k⟩ := HLST.out hr0
        have HK1 := Lib.hid hK1
        have d1 : decide ((kk : Int) ≤ (K1 : Int)) = false := decide_eq_false (by omega)
        have d2 : decide (kk ≤ K1) = false := decide_eq_false (by omega)
        have d3 : decide ((0 : Int) < (r : Int)) = true := decide_eq_true (by omega)
        clear hK1
        go_wp2_with fail
        refine (wvSelect H4.out.v H4.out.tab H4.out.tl HSS.out (by omega) _ m hm257).mono ?_
        rintro e w7 ⟨rfl, hV, hc⟩
        have H7 := Lib.hid (H4.out.step hV hc)
        rw [HK1.out]
        clear hV hc H4
        go_wp2_with fail
        refine (wvSelect H7.out.v H7.out.tab H7.out.tl HSS.out (by omega) _ m hm257).mono ?_
        rintro e w5 ⟨rfl, hV, hc⟩
        have HW5 := Lib.hid (H7.out.step hV hc)
        clear hV hc H7
        obtain ⟨q, hq⟩ : ∃ q, selS L (r : Int) m = q := ⟨_, rfl⟩
        rw [hq]
        by_cases hq0 : 0 ≤ q
        · obtain ⟨K, rfl⟩ := Int.eq_ofNat_of_zero_le hq0
          have hKk : kk ≤ K := selS_ge (s := m) (by rw [HRR.out]; exact hq)
          have dK : decide ((K : Int) < (kk : Int)) = false := decide_eq_false (by omega)
          have dK2 : decide (K < kk) = false := decide_eq_false (by omega)
          have HQ := Lib.hid hq
          clear hq hq0 hKk
          go_wp2_with fail
          refine (wvSelect HW5.out.v HW5.out.tab HW5.out.tl HSS.out (by omega) _ m hm257).mono ?_
          rintro e w6 ⟨rfl, hV, hc⟩
          have HW6 := Lib.hid (HW5.out.step hV hc)
          rw [HQ.out]
          clear hV hc HW5
          go_wp2_with fail
          go_roundw
          case rel => exact ⟨m + 1, by omega, by rw [sumR_succ, HRR.out]; go_num, by go_num, HW6.out⟩
          case measure => simp [intOf]; omega
        · have dq : decide (0 ≤ q) = false := decide_eq_false hq0
          clear hq
          go_wp2_with fail
          go_roundw
          case rel => exact ⟨m + 1, by omega, by rw [sumR_succ, HRR.out]; go_num, by go_num, HW5.out⟩
          case measure => simp [intOf]; omega
    · obtain rfl : m = 257 := by omega
      have hbn : Below w.heap.size w2 wr := exT_below hW.chg HB2.out.size
      have hbw := HB2.out.trans hbn
      have HTO := Lib.hid (told7_any wr hW.tab)
      have HBW := Lib.hid hbw
      have HSM := Lib.hid (sumR_all HSS.out hkl)
      rw [HSM.out]
      clear hW hbn hbw
      go_wp2_with fail
      refine HTO.out.mono ?_
      rintro e w9 ⟨rfl, hb9⟩
      have hb := HBW.out.trans (hb9.mono HBW.out.size)
      go_wp2_with fail
      go_ret
      exact ⟨rfl, hb⟩

end Go.Proofs.YtcppgpjodfeigaaDoor
