/- The walk of WalkFirst. -/
import Derived.Test.YtacoeohmdngnkaaDoorZk9
namespace Go.Proofs.YtacoeohmdngnkaaDoor
set_option linter.unusedVariables false
set_option linter.unusedSimpArgs false
open Go.RowKit

set_option maxHeartbeats 6400000 in
set_option maxRecDepth 100000 in
theorem walk_WalkFirst (w : World) (hT : BitTab w) (a0 : Option Addr) (c0 : Nat) (z0 : List Int) (w0 : ArgI .i64 w a0 c0 z0) (few : Bool) :
    Calls Tryd.prog 5 #[.slice a0 z0.length c0, .bool few] w fun e w' => e = .returned (.bool true) ∧ Below w.heap.size w w' := by
  have hrd := w0.reads
  have hzm := Nat.le_trans w0.le w0.max
  have HT := Lib.hid hT
  have HTX := Lib.hid (lawText_any a0 c0 z0 80 few w hrd (by omega) hzm)
  clear hT w0 hrd hzm
  go_enter Tryd.func5, Tryd.ntmps5
  go_wp2_with fail
  refine HTX.out.mono ?_
  rintro e w1 ⟨ta, tc, t, rfl, hbt, htl, hot, hb1⟩
  have HNEW := Lib.hid (wkNew_any ta tc t rfl (own_reads hot) hbt (by omega))
  have HOT := Lib.hid hot
  have HB1 := Lib.hid hb1
  clear hot hb1 HTX hbt
  go_wp2_with fail
  refine HNEW.out.mono ?_
  rintro e w2 ⟨p, r, L, rfl, hR, hk, hb2⟩
  have HR := Lib.hid hR
  have HB2 := Lib.hid (HB1.out.trans (hb2.mono HB1.out.size))
  have HW2 := Lib.hid (WkL.start HOT.out HB1.out HT.out hk hb2)
  generalize (fun j => False ∨ (w.heap.size ≤ j ∧ j < w1.heap.size)) = X at *
  clear hR hk hb2 HNEW HOT HB1
  go_wp2_with fail
  refine (wlLen HW2.out HR.out).mono ?_
  rintro e w' ⟨rfl, rfl⟩
  go_wp2_with fail
  refine (wlAll HW2.out HR.out (by omega)).mono ?_
  rintro e w3 ⟨g, rfl, hrow, hw3, hb3, _⟩
  have HB3 := Lib.hid (HB2.out.trans hb3)
  have HW3 := Lib.hid hw3
  have HROW := Lib.hid hrow
  clear hrow hw3 hb3 HB2 HW2
  go_wp2_with fail
  go_loopw [8, 9] (fun v i wr => ∃ k a : Nat, k ≤ t.length + 1 ∧ i = .int .i64 k ∧ v = .int .i64 a ∧ (∀ j, k ≤ j → j ≤ t.length → a ≤ frow t r j) ∧ WkL w.heap.size (fun k => X k ∨ k = g) w3 wr p L ta t) (fun _ i _ => t.length + 1 - (intOf i).toNat)
  case atStart => exact ⟨0, 0, Nat.zero_le _, rfl, rfl, fun j _ _ => Nat.zero_le _, HW3.out⟩
  case round => as_aux_lemma =>
    clear HW3
    obtain ⟨k, a, hk, rfl, rfl, ha, hW⟩ := hrel
    have HW := Lib.hid hW
    have HA := Lib.hid ha
    clear hW ha
    by_cases hlt : k ≤ t.length
    · have i1 : (k : Int) < ((t.length + 1 : Nat) : Int) := by omega
      have d1 : decide ((k : Int) < ((t.length + 1 : Nat) : Int)) = true := decide_eq_true i1
      have hak := HA.out k (Nat.le_refl _) hlt
      have HRI := Lib.hid (fun j (h1 : k + 1 ≤ j) (h2 : j ≤ t.length) => HR.out.rise (show k ≤ j by omega) h2)
      obtain ⟨s, hs⟩ : ∃ s, frow t r k = s := ⟨_, rfl⟩
      have HFI := Lib.hid (wlFirst HW.out HR.out (by omega) hlt)
      have HON := Lib.hid (wlOn HW.out HR.out (by omega) hlt)
      have hs257 := (HR.out.frowI hlt).2
      rw [hs] at hak HFI HRI HON hs257
      have dsa : decide ((s : Int) < (a : Int)) = false := decide_eq_false (by omega)
      have dsa2 : decide (s < a) = false := decide_eq_false (by omega)
      clear hs
      go_wp2_with fail
      refine (wlLen HW.out HR.out).mono ?_
      rintro e w' ⟨rfl, rfl⟩
      go_wp2_with fail
      refine HFI.out.mono ?_
      rintro e w' ⟨rfl, rfl⟩
      go_wp2_with fail
      refine HON.out.mono ?_
      rintro e w4 ⟨j, rfl, hj, _, hLj, hw4⟩
      have HW4 := Lib.hid hw4
      have hrow4 := HROW.out.chg hw4.chg (fun ad ha hs => by cases ha; exact hs.2 (Or.inr rfl))
      obtain ⟨b, off, hbe, _, hcell⟩ := hrow4.some (by rw [List.length_map, HR.out.len]; omega)
      cases hbe
      have hcj : w4.cell? ⟨g, 0 + j, none⟩ = some (.int .i64 s) := hcell j _ (by rw [List.getElem?_map, hLj]; rfl)
      rw [Nat.zero_add] at hcj
      have j0 : (0 : Int) ≤ (j : Int) := by omega
      have j1 : (j : Int) < (t.length : Int) + 1 := by omega
      have dj : decide ((t.length : Int) + 1 ≤ (j : Int)) = false := decide_eq_false (by omega)
      have dj2 : decide (t.length + 1 ≤ j) = false := decide_eq_false (by omega)
      clear hw4 hrow4 hcell hLj HON HFI HW
      go_wp2_with fail
      clear hcj
      go_roundw
      case rel => exact ⟨k + 1, s, by omega, by go_num, rfl, HRI.out, HW4.out⟩
      case measure => simp [intOf]; omega
    · obtain rfl : k = t.length + 1 := by omega
      have d1 : decide (((t.length + 1 : Nat) : Int) < ((t.length + 1 : Nat) : Int)) = false := by simp
      have HBW := Lib.hid (HB3.out.trans (exT_below HW.out.chg HB3.out.size))
      have HTO := Lib.hid (told10_any wr HW.out.tab)
      have hz : frow t r 0 = 0 := by
        have h1 := (HR.out.frowI (i := 0) (Nat.zero_le _)).1
        rw [HR.out.zero, symsT_end] at h1
        omega
      have HZ := Lib.hid hz
      clear hz HA hk
      go_wp2_with fail
      refine (wlLen HW.out HR.out).mono ?_
      rintro e w' ⟨rfl, rfl⟩
      go_wp2_with fail
      refine HTO.out.mono ?_
      rintro e w5 ⟨rfl, hb5⟩
      have HW5 := Lib.hid (HW.out.below hb5)
      have HB5 := Lib.hid (HBW.out.trans (hb5.mono HBW.out.size))
      have hf := wlFirst HW5.out HR.out (by omega) (i := 0) (Nat.zero_le _)
      rw [HZ.out] at hf
      have HF := Lib.hid hf
      clear hb5 hf HW HBW HTO
      go_wp2_with fail
      refine HF.out.mono ?_
      rintro e w' ⟨rfl, rfl⟩
      go_wp2_with fail
      refine (wkFirst_no HW5.out.k (Or.inl (by decide))).mono ?_
      rintro e w' ⟨rfl, rfl⟩
      go_wp2_with fail
      refine (wkOn_no HW5.out.k (Or.inl (by decide))).mono ?_
      rintro e w' ⟨rfl, rfl⟩
      go_wp2_with fail
      go_ret
      exact ⟨rfl, HB5.out⟩

end Go.Proofs.YtacoeohmdngnkaaDoor
