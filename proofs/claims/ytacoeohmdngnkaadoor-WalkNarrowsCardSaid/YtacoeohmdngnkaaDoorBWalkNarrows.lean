/- The walk of WalkNarrows. -/
import Derived.Test.YtacoeohmdngnkaaDoorZk9
import Derived.Deep.DeepCutAuto
import Derived.Deep.CutBlock
import Derived.Deep.CutRange
namespace Go.Proofs.YtacoeohmdngnkaaDoor
set_option linter.unusedVariables false
set_option linter.unusedSimpArgs false
open Go.RowKit

/-- How many rows were left so far. -/
def narS (L : List Nat) (lo hi m : Nat) : Nat := ((List.range m).map (fun s => nar L hi s - nar L lo s)).sum
theorem narS_succ (L : List Nat) (lo hi m : Nat) : narS L lo hi (m + 1) = narS L lo hi m + (nar L hi m - nar L lo m) := by
  unfold narS; rw [List.range_succ, List.map_append, List.sum_append]; simp
def endS (L : List Nat) (hi : Nat) : Nat → Nat
  | 0 => 0
  | s + 1 => nar L hi s
theorem endS_le (L : List Nat) (lo hi s : Nat) : endS L hi s ≤ nar L lo s := by
  cases s with
  | zero => exact Nat.zero_le _
  | succ s => exact nar_next L lo hi s
theorem narS_all {L : List Nat} (hL : ∀ s ∈ L, s < 257) {lo hi : Nat} (h : lo ≤ hi) (hh : hi ≤ L.length) : narS L lo hi 257 = hi - lo := by
  have h1 := nar_sum L h 257
  rw [sumR_all hL hh, sumR_all hL (show lo ≤ L.length by omega)] at h1
  unfold narS
  omega
theorem narS_le (L : List Nat) {lo hi : Nat} (h : lo ≤ hi) (hh : hi ≤ L.length) (m : Nat) : narS L lo hi m ≤ hi := by
  have h1 := nar_sum L h m
  have h2 := sumR_le (L := L) hi m
  unfold narS
  omega

set_option maxHeartbeats 6400000 in
set_option maxRecDepth 100000 in
theorem walk_WalkNarrows (w : World) (hT : BitTab w) (a0 : Option Addr) (c0 : Nat) (z0 : List Int) (w0 : ArgI .i64 w a0 c0 z0) (few : Bool) (a : Int) (w2 : (Lit.int .i64 a).wf = true) (b : Int) (w3 : (Lit.int .i64 b).wf = true) :
    Calls Tryd.prog 3 #[.slice a0 z0.length c0, .bool few, .int .i64 a, .int .i64 b] w fun e w' => e = .returned (.bool true) ∧ Below w.heap.size w w' := by
  have hrd := w0.reads
  have hzm := Nat.le_trans w0.le w0.max
  have HT := Lib.hid hT
  have HTX := Lib.hid (lawText_any a0 c0 z0 60 few w hrd (by omega) hzm)
  obtain ⟨u, hu0, hu1, hu⟩ := u64r a
  obtain ⟨v, hv0, hv1, hv⟩ := u64r b
  clear hT w0 w2 w3 hrd hzm
  go_enter Tryd.func3, Tryd.ntmps3
  go_wp2_with fail
  refine HTX.out.mono ?_
  rintro e w1 ⟨ta, tc, t, rfl, hbt, htl, hot, hb1⟩
  have HNEW := Lib.hid (wkNew_any ta tc t rfl (own_reads hot) hbt (by omega))
  have HOT := Lib.hid hot
  have HB1 := Lib.hid hb1
  clear hot hb1 HTX hbt
  go_wp2_with fail
  refine HNEW.out.mono ?_
  rintro e w2 ⟨p, r, L, rfl, hR, hk, hb2⟩
  have HR := Lib.hid hR
  have HB2 := Lib.hid (HB1.out.trans (hb2.mono HB1.out.size))
  have HW2 := Lib.hid (WkL.start HOT.out HB1.out HT.out hk hb2)
  generalize (fun j => False ∨ (w.heap.size ≤ j ∧ j < w1.heap.size)) = X at *
  clear hR hk hb2 HNEW HOT HB1
  obtain ⟨x, hx, hxl⟩ : ∃ x : Nat, u % ((t.length : Int) + 2) = (x : Int) ∧ x ≤ t.length + 1 := ⟨(u % ((t.length : Int) + 2)).toNat, by have := Int.emod_nonneg u (show (t.length : Int) + 2 ≠ 0 by omega); omega, by have := Int.emod_lt_of_pos u (show 0 < (t.length : Int) + 2 by omega); omega⟩
  obtain ⟨y, hy, hyl⟩ : ∃ y : Nat, v % ((t.length : Int) + 2) = (y : Int) ∧ y ≤ t.length + 1 := ⟨(v % ((t.length : Int) + 2)).toNat, by have := Int.emod_nonneg v (show (t.length : Int) + 2 ≠ 0 by omega); omega, by have := Int.emod_lt_of_pos v (show 0 < (t.length : Int) + 2 by omega); omega⟩
  have hw1 : IntKind.i64.wrap ((t.length : Int) + 2) = (t.length : Int) + 2 := IntWalk.i64_in _ (by omega)
  have hw2 : IntKind.u64.wrap ((t.length : Int) + 2) = (t.length : Int) + 2 := by rw [IntKind.wrap_u64]; omega
  have hx3 : u.tmod ((t.length : Int) + 2) = (x : Int) := by rw [Int.tmod_eq_emod_of_nonneg hu0, hx]
  have hy3 : v.tmod ((t.length : Int) + 2) = (y : Int) := by rw [Int.tmod_eq_emod_of_nonneg hv0, hy]
  have hx4 : IntKind.u64.wrap (x : Int) = (x : Int) := by rw [IntKind.wrap_u64]; omega
  have hy4 : IntKind.u64.wrap (y : Int) = (y : Int) := by rw [IntKind.wrap_u64]; omega
  have hx5 : IntKind.i64.wrap (x : Int) = (x : Int) := IntWalk.i64_in _ (by omega)
  have hy5 : IntKind.i64.wrap (y : Int) = (y : Int) := IntWalk.i64_in _ (by omega)
  have hne : ((t.length : Int) + 2 == 0) = false := by rw [beq_eq_false_iff_ne]; omega
  have hne2 : ((t.length : Int) + 2 = 0) = False := eq_false (by omega)
  go_upto_region 5 with fail
  -- REGION ends
  refine reg_start (fun _ => True) (by kernel_rfl) (trivial) (fun hHeld => ?_)
  refine rt 0 hHeld ?_
  refine rt 1 hHeld ?_
  refine rt 2 hHeld ?_
  refine rt 3 hHeld ?_
  refine rt 4 hHeld ?_
  refine rt 5 hHeld ?_
  refine rt 6 hHeld ?_
  refine rt 7 hHeld ?_
  refine rt 8 hHeld ?_
  refine rt 9 hHeld ?_
  refine rt 10 hHeld ?_
  refine rt 11 hHeld ?_
  refine rt 12 hHeld ?_
  refine rt 13 hHeld ?_
  refine rt 14 hHeld ?_
  refine rt 15 hHeld ?_
  refine rt 16 hHeld ?_
  refine rt 17 hHeld ?_
  refine reg_done (by kernel_rfl) ?_ _
  -- END OF REGION ends
  clear hw1 hw2 hx3 hy3 hx4 hy4 hx5 hy5 hne hne2 hx hy hHeld
  go_upto_if 45 with fail
  go_cut [11, 12] from 27 to 100 (fun vl vh wx => ∃ lo hi : Nat, vl = .int .i64 lo ∧ vh = .int .i64 hi ∧ lo ≤ hi ∧ hi ≤ t.length + 1 ∧ wx = w2.drew)
  case first => as_aux_lemma =>
    by_cases hxy : y < x
    · have d : decide ((y : Int) < (x : Int)) = true := decide_eq_true (by omega)
      have d2 : decide (y < x) = true := decide_eq_true hxy
      go_wp2_with fail
      go_meet
      case rel => exact ⟨y, x, rfl, rfl, by omega, hxl, rfl⟩
    · have d : decide ((y : Int) < (x : Int)) = false := decide_eq_false (by omega)
      have d2 : decide (y < x) = false := decide_eq_false hxy
      go_wp2_with fail
      go_meet
      case rel => exact ⟨x, y, rfl, rfl, by omega, hyl, rfl⟩
  case rest => as_aux_lemma =>
    obtain ⟨lo, hi, rfl, rfl, hlh, hhn, rfl⟩ := hcut
    have HW3 : Hid (WkL w.heap.size X w2.drew w2.drew p L ta t) := Lib.hid (HW2.out.drewN 1).rebase
    have HB3 : Hid (Below w.heap.size w w2.drew) := Lib.hid (below_drewW HB2.out 1)
    clear HW2 HB2
    generalize w2.drew = w3 at *
    go_wp2_with fail
    go_loopw [13, 14, 15] (fun v e i wr => ∃ s : Nat, s ≤ 257 ∧ i = .int .i64 s ∧ v = .int .i64 (narS L lo hi s : Nat) ∧ e = .int .i64 (endS L hi s : Nat) ∧ WkL w.heap.size X w3 wr p L ta t) (fun _ _ i _ => 257 - (intOf i).toNat)
    case atStart => exact ⟨0, Nat.zero_le _, rfl, rfl, rfl, HW3.out⟩
    case round => as_aux_lemma =>
      clear HW3
      obtain ⟨s, hs, rfl, rfl, rfl, hW⟩ := hrel
      have HW := Lib.hid hW
      clear hW
      have hLn : Hid (L.length = t.length + 1) := Lib.hid HR.out.len
      by_cases hlt : s < 257
      · have HNA := Lib.hid (wlNarrow HW.out HR.out (by omega) hlh hhn hlt)
        have h1 := endS_le L lo hi s
        have h2 := nar_mono L hlh s
        have h3 : nar L hi s ≤ t.length + 1 := by have := nar_le L hi s; have := hLn.out; omega
        have h4 := narS_le L hlh (by have := hLn.out; omega) s
        have HSU := Lib.hid (narS_succ L lo hi s)
        have HEN := Lib.hid (show endS L hi (s + 1) = nar L hi s from rfl)
        generalize nar L lo s = x1 at *
        generalize nar L hi s = y1 at *
        generalize narS L lo hi s = sm at *
        generalize endS L hi s = en at *
        have d1 : decide ((x1 : Int) < (en : Int)) = false := decide_eq_false (by omega)
        have d2 : decide (x1 < en) = false := decide_eq_false (by omega)
        have d3 : decide ((y1 : Int) < (x1 : Int)) = false := decide_eq_false (by omega)
        have d4 : decide (y1 < x1) = false := decide_eq_false (by omega)
        have d5 : decide ((t.length : Int) + 1 < (y1 : Int)) = false := decide_eq_false (by omega)
        go_wp2_with fail
        refine HNA.out.mono ?_
        rintro e w4 ⟨rfl, hw4⟩
        have HW4 := Lib.hid hw4
        clear hw4 HNA HW
        go_wp2_with fail
        go_roundw
        case rel => exact ⟨s + 1, by omega, by go_num, by rw [HSU.out]; congr 1; omega, by rw [HEN.out], HW4.out⟩
        case measure => simp [intOf]; omega
      · obtain rfl : s = 257 := by omega
        have hall := narS_all HR.out.syms hlh (by have := hLn.out; omega)
        rw [hall]
        have HNA := Lib.hid (wlNarrow HW.out HR.out (by omega) (lo := lo) (hi := lo) (s := 98) (Nat.le_refl _) (by omega) (by decide))
        have hlo := nar_le L lo 98
        generalize nar L lo 98 = x1 at *
        clear hall
        go_wp2_with fail
        refine HNA.out.mono ?_
        rintro e w4 ⟨rfl, hw4⟩
        have HBW := Lib.hid (HB3.out.trans (exT_below hw4.chg HB3.out.size))
        have HTO := Lib.hid (told10_any w4 hw4.tab)
        clear hw4 HNA HW
        have hsub : (((hi - lo : Nat)) : Int) = (hi : Int) - (lo : Int) := by omega
        go_wp2_with fail
        refine HTO.out.mono ?_
        rintro e w5 ⟨rfl, hb5⟩
        have HB5 := Lib.hid (HBW.out.trans (hb5.mono HBW.out.size))
        go_wp2_with fail
        go_ret
        exact ⟨rfl, HB5.out⟩

end Go.Proofs.YtacoeohmdngnkaaDoor
