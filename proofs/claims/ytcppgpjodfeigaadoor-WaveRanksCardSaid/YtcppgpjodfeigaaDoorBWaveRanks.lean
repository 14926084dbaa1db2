/- The walk of WaveRanks. -/
import Derived.Test.YtcppgpjodfeigaaDoorZw9
namespace Go.Proofs.YtcppgpjodfeigaaDoor
set_option linter.unusedVariables false
set_option linter.unusedSimpArgs false
open Go.RowKit

set_option maxHeartbeats 6400000 in
set_option maxRecDepth 100000 in
theorem walk_WaveRanks (w : World) (hT : BitTab w) (a0 : Option Addr) (c0 : Nat) (z0 : List Int) (w0 : ArgI .i64 w a0 c0 z0) (few : Bool) :
    Calls Tryd.prog 12 #[.slice a0 z0.length c0, .bool few] w fun e w' => e = .returned (.bool true) ∧ Below w.heap.size w w' := by
  have hrd := w0.reads
  have hzm := Nat.le_trans w0.le w0.max
  have HT := Lib.hid hT
  have HTL := Lib.hid hT.lt
  have HSY := Lib.hid (law7Syms_any a0 c0 z0 120 few w hrd (by omega) hzm)
  clear hT w0 hrd hzm
  go_enter Tryd.func12, Tryd.ntmps12
  go_wp2_with fail
  refine HSY.out.mono ?_
  rintro e w1 ⟨L, v, rfl, hll, hS, hown, hb1⟩
  obtain ⟨a, c, rfl, hnil, had⟩ := own_slice hown
  have hl : L.length ≤ 120 := by omega
  have hrm := readsV_own hown
  have HNEW := Lib.hid (wvNew (c := c) L hrm hS (by omega))
  have HRM := Lib.hid hrm
  have HSS := Lib.hid hS
  have hs1 := hb1.size
  have HAD : Hid (∀ ad, a = some ad → w.heap.size ≤ ad.block ∧ ad.block < w1.heap.size) := Lib.hid (fun ad h => by obtain ⟨g, rfl, h1, h2, _⟩ := had ad h; exact ⟨h1, h2⟩)
  clear hown hrm hS HSY hll had hnil
  go_wp2_with fail
  refine HNEW.out.mono ?_
  rintro e w2 ⟨p, rfl, hV, hb2⟩
  have hb12 : Below w.heap.size w w2 := hb1.trans (hb2.mono hs1)
  have HWR : Hid (WR w.heap.size (fun j => False ∨ (w.heap.size ≤ j ∧ j < w1.heap.size)) w2 w2 p L a L) := Lib.hid ⟨hV.base hs1, HRM.out.below' hb2, fun ad h => Or.inr (HAD.out ad h), HT.out.below' hb12, HTL.out, Chg.refl⟩
  have HB2 := Lib.hid hb12
  clear hV hb2 hb12 hb1 hs1 HNEW HRM HAD
  generalize (fun j => False ∨ (w.heap.size ≤ j ∧ j < w1.heap.size)) = X at *
  go_wp2_with fail
  go_loopw [8] (fun i wr => ∃ k : Nat, k ≤ L.length ∧ i = .int .i64 k ∧ WR w.heap.size X w2 wr p L a L) (fun i _ => L.length - (intOf i).toNat)
  case atStart => exact ⟨0, Nat.zero_le _, rfl, HWR.out⟩
  case round => as_aux_lemma =>
    clear HWR
    obtain ⟨k, hk, rfl, hW⟩ := hrel
    by_cases hlt : k < L.length
    · obtain ⟨s, hs⟩ : ∃ s, L[k]? = some s := ⟨_, List.getElem?_eq_getElem hlt⟩
      have hs257 := HSS.out s (List.mem_of_getElem? hs)
      have HK := Lib.hid hs
      have HW := Lib.hid hW
      have i0 : (0 : Int) ≤ (k : Int) := by omega
      have i1 : (k : Int) < (L.length : Int) := by omega
      clear hW hs
      go_wp2_with fail
      refine (wvGet HW.out.v HSS.out (by omega) k s HK.out).mono ?_
      rintro e w3 ⟨rfl, hV, hc⟩
      have HW3 := Lib.hid (HW.out.step hV hc)
      obtain ⟨b, off, rfl, hc3⟩ := HW3.out.cell HK.out
      clear hV hc HW
      go_wp2_with fail
      refine (wvRank HW3.out.v HSS.out (by omega) k s hs257).mono ?_
      rintro e w4 ⟨rfl, hV, hc⟩
      have HW4 := Lib.hid (HW3.out.step hV hc)
      obtain ⟨b', off', hbe, hc4⟩ := HW4.out.cell HK.out
      cases hbe
      rw [Int.toNat_natCast]
      clear hV hc HW3 hc3
      go_wp2_with fail
      refine (wvSelect HW4.out.v HW4.out.tab HW4.out.tl HSS.out (by omega) _ s hs257).mono ?_
      rintro e w5 ⟨rfl, hV, hc⟩
      have HW5 := Lib.hid (HW4.out.step hV hc)
      rw [selS_rank HK.out]
      have hrl : rankS L k s ≤ k := by unfold rankS; exact Nat.le_trans (List.count_le_length) (by rw [List.length_take]; omega)
      have hrs : rankS L (k + 1) s = rankS L k s + 1 := by rw [rankS_succ s hlt, if_pos HK.out]
      have HRS := Lib.hid hrs
      clear hV hc HW4 hc4 hrs
      go_wp2_with fail
      refine (wvRank HW5.out.v HSS.out (by omega) _ s hs257).mono ?_
      rintro e w6 ⟨rfl, hV, hc⟩
      have HW6 := Lib.hid (HW5.out.step hV hc)
      rw [show ((k : Int) + 1).toNat = k + 1 by omega, HRS.out]
      clear hV hc HW5 HRS
      go_wp2_with fail
      go_roundw
      case rel => exact ⟨k + 1, by omega, by go_num, HW6.out⟩
      case measure => simp [intOf]; omega
    · obtain rfl : k = L.length := by omega
      have hbn : Below w.heap.size w2 wr := exT_below hW.chg HB2.out.size
      have hbw := HB2.out.trans hbn
      have HTO := Lib.hid (told7_any wr hW.tab)
      have HBW := Lib.hid hbw
      clear hW hbn hbw
      go_wp2_with fail
      refine HTO.out.mono ?_
      rintro e w9 ⟨rfl, hb9⟩
      have hb := HBW.out.trans (hb9.mono HBW.out.size)
      go_wp2_with fail
      go_ret
      exact ⟨rfl, hb⟩

end Go.Proofs.YtcppgpjodfeigaaDoor
