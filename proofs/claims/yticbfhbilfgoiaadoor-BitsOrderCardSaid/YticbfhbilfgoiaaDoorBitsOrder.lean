/- The walk of BitsOrder. -/
import Derived.Test.YticbfhbilfgoiaaDoorBitsL
import Derived.Test.YticbfhbilfgoiaaDoorVec
namespace Go.Proofs.YticbfhbilfgoiaaDoor
set_option linter.unusedVariables false
set_option linter.unusedSimpArgs false
open Go.RowKit

theorem zero64 (w : World) : (zeroValue 23).run Tryd.prog w = .ok (.agg (vecL (fun i => .bool false) 64).toArray) w := by kernel_rfl

set_option maxHeartbeats 1600000 in
set_option maxRecDepth 100000 in
theorem walk_BitsOrder (w : World) (hT : BitTab w) (a0 : Int) (w0 : (Lit.int .u64 a0).wf = true) :
    Calls Tryd.prog 3 #[.int .u64 a0] w fun e w' => e = .returned (.bool true) ∧ Below w.heap.size w w' := by
  obtain ⟨x, rfl, hx⟩ := u64_nat w0
  have hnx := not_run hx
  have hnl := notW_lt x
  have htot := pc_not hx 64 (Nat.le_refl _)
  have HTOT := Lib.hid htot
  have HT := Lib.hid hT
  have hp := pc_le x 64
  have hz := zero64
  have hV0 : (vecL (fun i => .bool false) 64).toArray = (vecL (fun i => .bool (seen x 0 i)) 64).toArray := by simp only [seen_zero]
  have HV0 := Lib.hid hV0
  clear htot hT w0 hV0
  generalize hV : (vecL (fun i => .bool false) 64).toArray = V at *
  have hq : (w.alloc (.cells V 23)).heap[w.heap.size]? = some (.cells (vecL (fun i => .bool (seen x 0 i)) 64).toArray 23 (0, 0)) := (heap_alloc_new w (.cells V 23)).trans (by rw [HV0.out])
  have hb := below_alloc w (.cells V 23)
  have HQ := Lib.hid hq
  clear hq HV0 hV
  have hQl : w.heap.size < (w.alloc (.cells V 23)).heap.size := by simp
  go_enter Tryd.func3, Tryd.ntmps3
  go_wp2_with fail
  refine (count_one x _ _ _ _ (by simp [go_sem]) hx).mono ?_
  rintro e w' ⟨rfl, rfl⟩
  have hb := hb.alloc (by omega) (.cells #[.int .u64 x] 22)
  have hq := below_heap (below_alloc (w.alloc (.cells V 23)) (.cells #[.int .u64 x] 22)) HQ.out
  obtain ⟨n, hn⟩ : ∃ n, pc x 64 = n := ⟨_, rfl⟩
  rw [hn] at hp HTOT ⊢
  have HN := Lib.hid hn
  generalize (w.alloc (.cells V 23)).alloc (.cells #[.int .u64 x] 22) = w2 at *
  have hQB : w.heap.size ≤ w.heap.size := Nat.le_refl _
  obtain ⟨Q, hQ⟩ : ∃ Q, w.heap.size = Q := ⟨_, rfl⟩
  have hQB : w.heap.size ≤ Q := by omega
  have HQE := Lib.hid hQ
  rw [hQ] at hq
  clear hn HQ hz hQl hQ
  go_wp2_with fail
  rw [HQE.out]
  go_loopw [5] (fun i wr => ∃ j : Nat, j ≤ 64 ∧ i = .int .i64 j ∧ wr.heap[Q]? = some (.cells (vecL (fun i => .bool (seen x j i)) 64).toArray 23 (0, 0)) ∧ Below w.heap.size w wr) (fun i _ => 64 - (intOf i).toNat)
  case atStart => exact ⟨0, Nat.zero_le _, rfl, hq, hb⟩
  case round =>
    clear hq hb
    obtain ⟨j, hj, rfl, hq, hb⟩ := hrel
    have hs := hb.size
    by_cases hlt : j < 64
    · obtain ⟨k, hk, hno, hstep, hyes, hnot⟩ := place_at hx hlt
      rw [HN.out] at hyes hnot
      have HSTEP := Lib.hid hstep
      have HNO := Lib.hid hno
      have HYES := Lib.hid hyes
      have HNOT := Lib.hid hnot
      have HQ := Lib.hid hq
      have d0 : decide ((k : Int) < 0) = false := by simp
      have d1 : decide (63 < (k : Int)) = false := by simp; omega
      clear hstep hno hyes hnot hq
      have fin : ∀ w' : World, Below w.heap.size w w' → w'.heap[Q]? = some (.cells (vecL (fun i => .bool (seen x j i)) 64).toArray 23 (0, 0)) →
          (w'.setCell ⟨Q, k, none⟩ (.bool true)).heap[Q]? = some (.cells (vecL (fun i => .bool (seen x (j + 1) i)) 64).toArray 23 (0, 0)) ∧ Below w.heap.size w (w'.setCell ⟨Q, k, none⟩ (.bool true)) := by
        intro w' hb' hq'
        refine ⟨?_, below_setQ hb' hb'.size hQB _⟩
        rw [vec_set hq']
        congr 3
        refine vecL_congr (fun i hi => ?_)
        rw [HSTEP.out i hi]
        by_cases e : i = k <;> simp [e]
      have FIN := Lib.hid fin
      clear fin
      by_cases hjn : j < n
      · have dj : decide ((n : Int) ≤ (j : Int)) = false := by simp; omega
        go_wp2_with fail
        refine (select_lit (Y := (k : Int)) x _ hx (HT.out.below' hb) rfl (HYES.out hjn)).mono ?_
        rintro e w3 ⟨rfl, hb2⟩
        have hq := below_heap hb2 HQ.out
        have hb := hb.trans (hb2.mono hs)
        have hs := hb.size
        have HQ3 := Lib.hid hq
        have hc := vec_cell hq hk
        rw [HNO.out] at hc
        have hfz : w3.frozen? ⟨Q, k, none⟩ = false := frozen_of_row w3 Q k _ _ hq
        clear hb2 hq
        go_wp2_with fail
        go_roundw
        case rel => exact ⟨j + 1, by omega, by go_num, (FIN.out _ hb HQ3.out).1, (FIN.out _ hb HQ3.out).2⟩
        case measure => simp [intOf]; omega
      · have dj : decide ((n : Int) ≤ (j : Int)) = true := by simp; omega
        go_wp2_with fail
        refine (select_lit (Y := -1) x _ hx (HT.out.below' hb) rfl (sel_none (Or.inr (by rw [HN.out]; omega)))).mono ?_
        rintro e w3 ⟨rfl, hb2⟩
        have hq := below_heap hb2 HQ.out
        have hb := hb.trans (hb2.mono hs)
        have hs := hb.size
        have HQ3 := Lib.hid hq
        clear hb2 hq
        go_wp2_with fail
        refine (select_lit (Y := (k : Int)) (notW x) _ hnl (HT.out.below' hb) rfl (HNOT.out (by omega))).mono ?_
        rintro e w4 ⟨rfl, hb2⟩
        have hq := below_heap hb2 HQ3.out
        have hb := hb.trans (hb2.mono hs)
        have hs := hb.size
        have HQ4 := Lib.hid hq
        have hc := vec_cell hq hk
        rw [HNO.out] at hc
        have hfz : w4.frozen? ⟨Q, k, none⟩ = false := frozen_of_row w4 Q k _ _ hq
        clear hb2 hq
        go_wp2_with fail
        go_roundw
        case rel => exact ⟨j + 1, by omega, by go_num, (FIN.out _ hb HQ4.out).1, (FIN.out _ hb HQ4.out).2⟩
        case measure => simp [intOf]; omega
    · clear hq
      go_wp2_with fail
      refine (told1_any _ (HT.out.below' hb)).mono ?_
      rintro e w3 ⟨rfl, hb2⟩
      go_wp2_with fail
      go_ret
      exact ⟨rfl, hb.trans (hb2.mono hs)⟩

end Go.Proofs.YticbfhbilfgoiaaDoor
