/- The walk of WalkRound. -/
import Derived.Test.YtacoeohmdngnkaaDoorZk9
namespace Go.Proofs.YtacoeohmdngnkaaDoor
set_option linter.unusedVariables false
set_option linter.unusedSimpArgs false
open Go.RowKit

theorem pos_ne {n q m k : Nat} (hmk : m < k) (hk : k ≤ n) : (q + k * n) % (n + 1) ≠ (q + m * n) % (n + 1) := by
  intro e
  obtain ⟨d, rfl⟩ : ∃ d, k = m + d := ⟨k - m, by omega⟩
  have h1 : q + (m + d) * n + d = q + m * n + d * (n + 1) := by rw [Nat.add_mul, Nat.mul_add]; omega
  have h2 : (q + (m + d) * n + d) % (n + 1) = (q + m * n) % (n + 1) := by rw [h1, Nat.add_mul_mod_self_right]
  rw [Nat.add_mod, e, Nat.mod_eq_of_lt (by omega : d < n + 1)] at h2
  have h3 := Nat.mod_lt (q + m * n) (show 0 < n + 1 by omega)
  generalize (q + m * n) % (n + 1) = x at *
  rcases Nat.lt_or_ge (x + d) (n + 1) with hc | hc
  · rw [Nat.mod_eq_of_lt hc] at h2; omega
  · rw [Nat.mod_eq_sub_mod hc, Nat.mod_eq_of_lt (by omega)] at h2; omega
theorem pos_step {n q k : Nat} : ((q + k * n) % (n + 1) + n) % (n + 1) = (q + (k + 1) * n) % (n + 1) := by
  rw [Nat.mod_add_mod, Nat.add_mul, Nat.one_mul, Nat.add_assoc]
theorem pos_full {n q : Nat} (hq : q ≤ n) : (q + (n + 1) * n) % (n + 1) = q := by
  rw [Nat.add_mul_mod_self_left, Nat.mod_eq_of_lt (by omega)]
theorem zero81 (w : World) : (zeroValue 33).run Tryd.prog w = .ok (.agg (vecL (fun _ => .bool false) 81).toArray) w := by kernel_rfl

set_option maxHeartbeats 6400000 in
set_option maxRecDepth 100000 in
theorem walk_WalkRound (w : World) (hT : BitTab w) (a0 : Option Addr) (c0 : Nat) (z0 : List Int) (w0 : ArgI .i64 w a0 c0 z0) (few : Bool) (row : Int) (w2 : (Lit.int .i64 row).wf = true) :
    Calls Tryd.prog 4 #[.slice a0 z0.length c0, .bool few, .int .i64 row] w fun e w' => e = .returned (.bool true) ∧ Below w.heap.size w w' := by
  have hrd := w0.reads
  have hzm := Nat.le_trans w0.le w0.max
  have HT := Lib.hid hT
  have HTX := Lib.hid (lawText_any a0 c0 z0 80 few w hrd (by omega) hzm)
  obtain ⟨u, hu0, hu1, hu⟩ := u64r row
  clear hT w0 w2 hrd hzm
  go_enter Tryd.func4, Tryd.ntmps4
  go_wp2_with fail
  refine HTX.out.mono ?_
  rintro e w1 ⟨ta, tc, t, rfl, hbt, htl, hot, hb1⟩
  have HNEW := Lib.hid (wkNew_any ta tc t rfl (own_reads hot) hbt (by omega))
  have HOT := Lib.hid hot
  have HB1 := Lib.hid hb1
  clear hot hb1 HTX hbt
  go_wp2_with fail
  refine HNEW.out.mono ?_
  rintro e w2 ⟨p, r, L, rfl, hR, hk, hb2⟩
  have HR := Lib.hid hR
  have HB2 := Lib.hid (HB1.out.trans (hb2.mono HB1.out.size))
  have HW2 := Lib.hid (WkL.start HOT.out HB1.out HT.out hk hb2)
  generalize (fun j => False ∨ (w.heap.size ≤ j ∧ j < w1.heap.size)) = X at *
  have HTQ : Hid (∀ ad, ta = some ad → ad.block < w2.heap.size) := Lib.hid (fun ad h => by
    obtain ⟨a', c', hv, _, had⟩ := own_slice HOT.out
    injection hv with q1 _ _
    subst q1
    obtain ⟨g, rfl, _, h2, _⟩ := had ad h
    exact Nat.lt_of_lt_of_le h2 hb2.size)
  clear hR hk hb2 HNEW HOT HB1
  obtain ⟨kk, hkk, hkl⟩ : ∃ kk : Nat, u % ((t.length : Int) + 1) = (kk : Int) ∧ kk ≤ t.length := ⟨(u % ((t.length : Int) + 1)).toNat, by have := Int.emod_nonneg u (show (t.length : Int) + 1 ≠ 0 by omega); omega, by have := Int.emod_lt_of_pos u (show 0 < (t.length : Int) + 1 by omega); omega⟩
  have hz := zero81
  obtain ⟨V0, hV⟩ : ∃ V0, vecL (fun _ => Value.bool false) 81 = V0 := ⟨_, rfl⟩
  rw [hV] at hz
  have hbA := below_al w2 (.cells V0.toArray 33)
  have hlA : w2.heap.size < (w2.alloc (.cells V0.toArray 33)).heap.size := by simp
  have HWA := Lib.hid (HW2.out.keep hbA (Nat.le_refl _) hlA)
  have HHA : Hid ((w2.alloc (.cells V0.toArray 33)).heap[w2.heap.size]? = some (.cells (vecL (fun _ => .bool false) 81).toArray 33 (0, 0))) := Lib.hid (by rw [hV]; exact heap_alloc_new w2 _)
  have HBA := Lib.hid (HB2.out.trans (hbA.mono HB2.out.size))
  clear hbA hlA hV
  go_wp2_with fail
  refine (wlLen HW2.out HR.out).mono ?_
  rintro e w' ⟨rfl, rfl⟩
  go_wp2_with fail
  clear hkk hz
  generalize w2.alloc (.cells V0.toArray 33) = wA at *
  have HQB : Hid (w.heap.size ≤ w2.heap.size) := Lib.hid HB2.out.size
  clear HW2 HB2
  generalize w2.heap.size = q at *
  go_loopw [11, 12] (fun x i wr => ∃ (k j : Nat) (V : Nat → Bool), k ≤ t.length + 1 ∧ i = .int .i64 k ∧ x = .int .i64 j ∧ j ≤ t.length ∧ ro r j = (ro r kk + k * t.length) % (t.length + 1) ∧ wr.heap[q]? = some (.cells (vecL (fun i => .bool (V i)) 81).toArray 33 (0, 0)) ∧ (∀ i, i ≤ t.length → V i = true → ∃ m, m < k ∧ ro r i = (ro r kk + m * t.length) % (t.length + 1)) ∧ (∃ wb, WkL w.heap.size (fun k => X k ∨ k = q) wb wr p L ta t) ∧ Below w.heap.size w wr) (fun _ i _ => t.length + 1 - (intOf i).toNat)
  case atStart => exact ⟨0, kk, fun _ => false, Nat.zero_le _, rfl, rfl, hkl, by rw [Nat.zero_mul, Nat.add_zero, Nat.mod_eq_of_lt (by have := HR.out.roLt hkl; omega)], HHA.out, (fun i _ h => by cases h), ⟨_, HWA.out⟩, HBA.out⟩
  case round => as_aux_lemma =>
    clear HWA HHA HBA
    obtain ⟨k, j, V, hk, rfl, rfl, hj, hro, hq, hV, ⟨wb, hW⟩, hb⟩ := hrel
    have HW := Lib.hid hW
    have HB := Lib.hid hb
    have HRO := Lib.hid hro
    have HQ := Lib.hid hq
    have HV := Lib.hid hV
    clear hW hb hro hq hV
    by_cases hlt : k ≤ t.length
    · have hvj : V j = false := by
        cases hv : V j with
        | false => rfl
        | true =>
          obtain ⟨m, hm, he⟩ := HV.out j hj hv
          exact absurd (HRO.out.symm.trans he) (pos_ne hm hlt)
      have hcj : wr.cell? ⟨q, j, none⟩ = some (.bool false) := by
        rw [cell_of_row wr q j _ _ _ HQ.out, List.getElem?_toArray, vecL_get (by omega), hvj]
      have j81 : (j : Int) < 81 := by omega
      have j0 : (0 : Int) ≤ (j : Int) := by omega
      have jn : decide ((t.length : Int) < (j : Int)) = false := decide_eq_false (by omega)
      have jn2 : decide (t.length < j) = false := decide_eq_false (by omega)
      have HW0 := Lib.hid HW.out.rebase
      have HBK := Lib.hid (wlBack HW0.out HR.out (by omega) hj)
      clear HW
      go_wp2_with fail
      refine HBK.out.mono ?_
      rintro e w4 ⟨j1, rfl, hj1, hr1, hw4⟩
      have HW4 := Lib.hid hw4
      have HR1 := Lib.hid hr1
      have HON := Lib.hid (wlOn HW4.out HR.out (by omega) hj1)
      clear hw4 hr1 HBK
      go_wp2_with fail
      refine HON.out.mono ?_
      rintro e w5 ⟨j2, rfl, hj2, hr2, _, hw5⟩
      have hjj : j2 = j := by
        refine HR.out.inj hj2 hj ?_
        rw [hr2, HR1.out, on_step (HR.out.roLt hj)]
      subst hjj
      have HW5 := Lib.hid hw5
      have HQ5 := Lib.hid (hw5.chg.heap HQ.out (fun hs => hs.2 (Or.inr rfl)))
      have HB5 := Lib.hid (HB.out.trans (exT_below hw5.chg HW0.out.k.le))
      have fz5 := frozen_of_row w5 q j2 _ _ HQ5.out
      have cj5 : w5.cell? ⟨q, j2, none⟩ = some (.bool false) := by
        rw [cell_of_row w5 q j2 _ _ _ HQ5.out, List.getElem?_toArray, vecL_get (by omega), hvj]
      have hc6 : Chg (fun b => b = q) w5 (w5.setCell ⟨q, j2, none⟩ (.bool true)) := Chg.refl.setCell (S := fun b => b = q) ⟨q, j2, none⟩ (Or.inl rfl) _
      have HC6 := Lib.hid hc6
      have HQ6 : Hid ((w5.setCell ⟨q, j2, none⟩ (.bool true)).heap[q]? = some (.cells (vecL (fun i => .bool (if i = j2 then true else V i)) 81).toArray 33 (0, 0))) := Lib.hid (by
        rw [heap_setCell_same w5 q j2 _ _ _ HQ5.out, List.setIfInBounds_toArray, vecL_set]
        rw [vecL_congr (g := fun i => .bool (if i = j2 then true else V i)) (fun i hi => by
          by_cases e : i = j2
          · rw [if_pos e, if_pos e]
          · rw [if_neg e, if_neg e])])
      have HW6 : Hid (WkL w.heap.size (fun k => X k ∨ k = q) (w5.setCell ⟨q, j2, none⟩ (.bool true)) (w5.setCell ⟨q, j2, none⟩ (.bool true)) p L ta t) := Lib.hid (hw5.store (Or.inr rfl) hc6 (hc6.reads hw5.r (fun ad ha e => by have := HTQ.out ad ha; omega)) HQB.out)
      have HB6 : Hid (Below w.heap.size w (w5.setCell ⟨q, j2, none⟩ (.bool true))) := Lib.hid (HB5.out.trans (hc6.below (fun b hb => by rw [hb]; exact HQB.out) HB5.out.size))
      clear hw5 hr2 hc6 HON HW4 hcj HQ HW5 HQ5 HB5
      go_wp2_with fail
      clear fz5 cj5
      generalize w5.setCell ⟨q, j2, none⟩ (.bool true) = w6 at *
      refine (wlBack HW6.out HR.out (by omega) hj).mono ?_
      rintro e w7 ⟨j3, rfl, hj3, hr3, hw7⟩
      have HW7 := Lib.hid hw7
      have HQ7 := Lib.hid (hw7.chg.heap HQ6.out (fun hs => hs.2 (Or.inr rfl)))
      have HB7 := Lib.hid (HB6.out.trans (exT_below hw7.chg HW6.out.k.le))
      have HR3 : Hid (ro r j3 = (ro r kk + (k + 1) * t.length) % (t.length + 1)) := Lib.hid (by rw [hr3, HRO.out, pos_step])
      have HV3 : Hid (∀ i, i ≤ t.length → (if i = j2 then true else V i) = true → ∃ m, m < k + 1 ∧ ro r i = (ro r kk + m * t.length) % (t.length + 1)) := Lib.hid (fun i hi h => by
        by_cases e : i = j2
        · subst e; exact ⟨k, by omega, HRO.out⟩
        · rw [if_neg e] at h
          obtain ⟨m, hm, he⟩ := HV.out i hi h
          exact ⟨m, by omega, he⟩)
      clear hw7 hr3 HW6 HQ6 HB6 HRO HV hvj HR1
      go_wp2_with fail
      go_roundw
      case rel => exact ⟨k + 1, j3, fun i => if i = j2 then true else V i, by omega, by go_num, rfl, hj3, HR3.out, HQ7.out, HV3.out, ⟨_, HW7.out⟩, HB7.out⟩
      case measure => simp [intOf]; omega
    · obtain rfl : k = t.length + 1 := by omega
      have hjk : j = kk := HR.out.inj hj hkl (by rw [HRO.out, pos_full (HR.out.roLt hkl)])
      subst hjk
      have HTO := Lib.hid (told10_any wr HW.out.tab)
      clear HRO HQ HV
      go_wp2_with fail
      refine HTO.out.mono ?_
      rintro e w5 ⟨rfl, hb5⟩
      have HB5 := Lib.hid (HB.out.trans (hb5.mono HB.out.size))
      go_wp2_with fail
      go_ret
      exact ⟨rfl, HB5.out⟩

end Go.Proofs.YtacoeohmdngnkaaDoor
