/- The walk of PermRaw. -/
import Derived.Test.YtpbmhdkhkbhgnaaZp5
namespace Go.Proofs.Ytpbmhdkhkbhgnaa
set_option linter.unusedVariables false
set_option linter.unusedSimpArgs false
open Go.RowKit

theorem aL_rep (n : Nat) (x : Int) : aL (List.replicate n (-1)) x = -1 := by
  rcases aL_spec (List.replicate n (-1)) x with ⟨i, _, _, h3, h4⟩ | ⟨h, _⟩
  · rw [gL_rep] at h3; omega
  · exact h
theorem raw_add (a b : Int) : addC (List.replicate 10 (-1)) 10 a b = if 0 ≤ a ∧ a < 10 ∧ 0 ≤ b ∧ b < 10 then 0 else 2 := by
  unfold addC
  rw [gL_rep, aL_rep, List.length_replicate]
  rfl
theorem raw_row {L : List Int} (hl : L.length = 10) (a : Int) : rowB L a = (decide (0 ≤ a) && decide (a < 10)) := by unfold rowB; rw [hl]; rfl

set_option maxHeartbeats 12800000 in
set_option maxRecDepth 100000 in
theorem walk_PermRaw (w : World) (n : Int) (w0 : (Lit.int .i64 n).wf = true) (a : Int) (w1 : (Lit.int .i64 a).wf = true) (b : Int) (w2 : (Lit.int .i64 b).wf = true) :
    Calls Try.prog 13 #[.int .i64 n, .int .i64 a, .int .i64 b] w fun e w' => e = .returned (.bool true) ∧ Below w.heap.size w w' := by
  clear w0 w1 w2
  have hN : (0 ≤ n ∧ n ≤ 2147483648) ∨ n < 0 ∨ 2147483648 < n := by omega
  rcases hN with hn | hn | hn
  all_goals
    first
      | have e1 : decide (0 ≤ n) = true := decide_eq_true (by omega)
      | have e1 : decide (0 ≤ n) = false := decide_eq_false (by omega)
    first
      | have e2 : decide (n ≤ 2147483648) = true := decide_eq_true (by omega)
      | have e2 : decide (n ≤ 2147483648) = false := decide_eq_false (by omega)
    go_enter Try.func13, Try.ntmps13
    go_wp2_with fail
    first
      | ((with_reducible refine (pNew_bad _ n (by omega) _).mono ?_))
      | ((with_reducible refine (pNew_bad _ (-1 - n) (by omega) _).mono ?_))
    clear hn e1 e2
    rintro e w' ⟨rfl, rfl⟩
    go_wp2_with fail
    refine (new_o 10 rfl (by omega)).mono ?_
    rintro e w1 ⟨p, rfl, h1, hb1⟩
    have HP := Lib.hid h1
    have HB := Lib.hid hb1
    clear h1 hb1
    have hA : (0 ≤ a ∧ a < 10) ∨ a < 0 ∨ 10 ≤ a := by omega
    have hB : (0 ≤ b ∧ b < 10) ∨ b < 0 ∨ 10 ≤ b := by omega
    rcases hA with ha | ha | ha <;> rcases hB with hb | hb | hb
    all_goals as_aux_lemma =>
      first
        | have d1 : decide (0 ≤ a) = true := decide_eq_true (by omega)
        | have d1 : decide (0 ≤ a) = false := decide_eq_false (by omega)
      first
        | have d2 : decide (a < 10) = true := decide_eq_true (by omega)
        | have d2 : decide (a < 10) = false := decide_eq_false (by omega)
      first
        | have d3 : decide (0 ≤ b) = true := decide_eq_true (by omega)
        | have d3 : decide (0 ≤ b) = false := decide_eq_false (by omega)
      first
        | have d4 : decide (b < 10) = true := decide_eq_true (by omega)
        | have d4 : decide (b < 10) = false := decide_eq_false (by omega)
      first
        | have hx : addC (List.replicate 10 (-1)) 10 a b = 0 := by rw [raw_add, if_pos (by omega)]
        | have hx : addC (List.replicate 10 (-1)) 10 a b = 2 := by rw [raw_add, if_neg (by omega)]
      obtain ⟨L1, hL1⟩ : ∃ L1, addL (List.replicate 10 (-1)) 10 a b = L1 := ⟨_, rfl⟩
      have hl1 : L1.length = 10 := by rw [← hL1, addL_len, List.length_replicate]
      have hra := raw_row hl1 a
      have hrb := raw_row hl1 b
      rw [d1, d2] at hra
      rw [d3, d4] at hrb
      obtain ⟨L2, hL2⟩ : ∃ L2, moveL L1 a b = L2 := ⟨_, rfl⟩
      have hl2 : L2.length = 10 := by rw [← hL2, moveL_len]; exact hl1
      have hra2 := raw_row hl2 a
      rw [d1, d2] at hra2
      first
        | have hy : okC (rowB L1 a && rowB L1 b) = 0 := by rw [hra, hrb]; rfl
        | have hy : okC (rowB L1 a && rowB L1 b) = 2 := by rw [hra, hrb]; rfl
      first
        | have hz : okC (rowB L2 a) = 0 := by rw [hra2]; rfl
        | have hz : okC (rowB L2 a) = 2 := by rw [hra2]; rfl
      have hpb : posB 10 b = (decide (0 ≤ b) && decide (b < 10)) := rfl
      rw [d3, d4] at hpb
      first
        | have hv : okC (posB 10 b) = 0 := by rw [hpb]; rfl
        | have hv : okC (posB 10 b) = 2 := by rw [hpb]; rfl
      have HX := Lib.hid hx
      have HY := Lib.hid hy
      have HZ := Lib.hid hz
      have HV := Lib.hid hv
      have HL1 := Lib.hid hL1
      have HL2 := Lib.hid hL2
      clear hx hy hz hv hL1 hL2 hl1 hl2 hra hrb hra2 hpb ha hb
      go_wp2_with fail
      refine (add_o HP.out (by omega) HX.out HL1.out).mono ?_
      rintro e w2 ⟨rfl, h2, hb2⟩
      have HP2 := Lib.hid h2
      have HB2 := Lib.hid (HB.out.trans hb2)
      clear h2 hb2
      go_wp2_with fail
      refine (rowMove_o HP2.out HY.out HL2.out).mono ?_
      rintro e w3 ⟨rfl, h3, hb3⟩
      have HP3 := Lib.hid h3
      have HB3 := Lib.hid (HB2.out.trans hb3)
      clear h3 hb3
      go_wp2_with fail
      refine (told11_any _).mono ?_
      rintro e w4 ⟨rfl, hb4⟩
      have HP4 := Lib.hid (HP3.out.below hb4)
      have HB4 := Lib.hid (HB3.out.trans (hb4.mono HB3.out.size))
      clear hb4
      go_wp2_with fail
      refine (rowOut_o HP4.out HZ.out rfl).mono ?_
      rintro e w5 ⟨rfl, h5, hb5⟩
      have HP5 := Lib.hid h5
      have HB5 := Lib.hid (HB4.out.trans hb5)
      clear h5 hb5
      go_wp2_with fail
      refine (posOut_o HP5.out HV.out rfl rfl).mono ?_
      rintro e w6 ⟨rfl, h6, hb6⟩
      have HB6 := Lib.hid (HB5.out.trans hb6)
      clear h6 hb6
      go_wp2_with fail
      go_ret
      exact ⟨rfl, HB6.out⟩

end Go.Proofs.Ytpbmhdkhkbhgnaa
