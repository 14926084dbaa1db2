/- The walk of BitsPlaces. -/
import Derived.Test.YticbfhbilfgoiaaDoorBitsL
namespace Go.Proofs.YticbfhbilfgoiaaDoor
set_option linter.unusedVariables false
set_option linter.unusedSimpArgs false
open Go.RowKit

set_option maxHeartbeats 1600000 in
set_option maxRecDepth 100000 in
theorem walk_BitsPlaces (w : World) (hT : BitTab w) (a0 : Int) (w0 : (Lit.int .u64 a0).wf = true) :
    Calls Tryd.prog 6 #[.int .u64 a0] w fun e w' => e = .returned (.bool true) ∧ Below w.heap.size w w' := by
  obtain ⟨x, rfl, hx⟩ := u64_nat w0
  have hnx := not_run hx
  have hnl := notW_lt x
  have htot := pc_not hx 64 (Nat.le_refl _)
  have HTOT := Lib.hid htot
  have HT := Lib.hid hT
  have hp := pc_le x 64
  clear htot hT w0
  go_enter Tryd.func6, Tryd.ntmps6
  go_wp2_with fail
  refine (count_one x _ _ _ _ (by simp [go_sem]) hx).mono ?_
  rintro e w' ⟨rfl, rfl⟩
  have hb := below_alloc w (.cells #[.int .u64 x] 22)
  obtain ⟨n, hn⟩ : ∃ n, pc x 64 = n := ⟨_, rfl⟩
  rw [hn] at hp HTOT ⊢
  have HN := Lib.hid hn
  clear hn
  generalize w.alloc (.cells #[.int .u64 x] 22) = w1 at *
  go_wp2_with fail
  go_loopw [4, 5] (fun v i wr => ∃ j : Nat, j ≤ n ∧ i = .int .i64 j ∧ (∃ a : Int, v = .int .i64 a ∧ (a = -1 ∨ ∃ m : Nat, a = m ∧ pc x m < j)) ∧ Below w.heap.size w wr) (fun _ i _ => n - (intOf i).toNat)
  case atStart => exact ⟨0, Nat.zero_le _, rfl, ⟨-1, rfl, Or.inl rfl⟩, hb⟩
  case round =>
    obtain ⟨j, hj, rfl, ⟨a, rfl, ha⟩, hb⟩ := hrel
    have hs := hb.size
    by_cases hlt : j < n
    · obtain ⟨k, hk, hbit, hpk, hsel⟩ := sel_some (w := x) (j := j) (by rw [HN.out]; exact hlt)
      have hak : decide ((k : Int) ≤ a) = false := by
        rcases ha with rfl | ⟨m, rfl, hm⟩
        · simp; omega
        · have : ¬ k ≤ m := fun h => by have := pc_mono x h; omega
          simp; omega
      have hand : bits .and .u64 ((x : Int) / 2 ^ k) 1 = 1 := by
        have := bitk_walk hx hk
        rw [hbit] at this; simpa using this
      have hpk1 : pc x (k + 1) = j + 1 := by rw [pc_succ, hbit, hpk]; rfl
      have HS := Lib.hid hsel
      have HP := Lib.hid hpk
      have HP1 := Lib.hid hpk1
      clear hsel hpk hpk1 ha hbit
      go_wp2_with fail
      refine (select_lit (Y := (k : Int)) x _ hx (HT.out.below' hb) rfl HS.out).mono ?_
      rintro e w2 ⟨rfl, hb2⟩
      have hb := hb.trans (hb2.mono hs)
      have hs := hb.size
      clear hb2
      go_wp2_with fail
      refine (rank_lit (Y := (j : Int)) x _ hx rfl (by rw [show min ((k : Int)).toNat 64 = k by omega, HP.out])).mono ?_
      rintro e w3 ⟨rfl, hb2⟩
      have hb := hb.trans (hb2.mono hs)
      have hs := hb.size
      clear hb2
      go_wp2_with fail
      refine (rank_lit (Y := (j : Int) + 1) x _ hx rfl (by rw [show min ((k : Int) + 1).toNat 64 = k + 1 by omega, HP1.out]; simp)).mono ?_
      rintro e w4 ⟨rfl, hb2⟩
      have hb := hb.trans (hb2.mono hs)
      have hs := hb.size
      clear hb2
      go_wp2_with fail
      go_roundw
      case rel => exact ⟨j + 1, by omega, by go_num, ⟨k, rfl, Or.inr ⟨k, rfl, by rw [HP.out]; omega⟩⟩, hb⟩
      case measure => simp [intOf]; omega
    · obtain rfl : j = n := by omega
      go_wp2_with fail
      refine (told1_any _ (HT.out.below' hb)).mono ?_
      rintro e w2 ⟨rfl, hb2⟩
      have hb := hb.trans (hb2.mono hs)
      have hs := hb.size
      clear hb2
      go_wp2_with fail
      refine (select_lit (Y := -1) x _ hx (HT.out.below' hb) rfl (sel_none (Or.inr (by rw [HN.out]; omega)))).mono ?_
      rintro e w3 ⟨rfl, hb2⟩
      have hb := hb.trans (hb2.mono hs)
      have hs := hb.size
      clear hb2
      go_wp2_with fail
      refine (select_lit (Y := -1) x _ hx (HT.out.below' hb) rfl (sel_none (Or.inl (by omega)))).mono ?_
      rintro e w4 ⟨rfl, hb2⟩
      have hb := hb.trans (hb2.mono hs)
      have hs := hb.size
      clear hb2
      go_wp2_with fail
      refine (rank_lit (Y := (j : Int)) x _ hx rfl (by rw [show min ((64 : Int)).toNat 64 = 64 by omega, HN.out])).mono ?_
      rintro e w5 ⟨rfl, hb2⟩
      have hb := hb.trans (hb2.mono hs)
      have hs := hb.size
      clear hb2
      go_wp2_with fail
      refine (count_lit (Y := 64) [x, notW x] _ rfl (by exact reads_cells (xs := [(x : Int), (notW x : Int)]) (heap_alloc_new _ _)) (by simp [hx, hnl]) (by simp) (by simp [pcs, HN.out]; have := HTOT.out; omega)).mono ?_
      rintro e w' ⟨rfl, rfl⟩
      go_wp2_with fail
      go_ret
      exact ⟨rfl, hb.alloc hs _⟩

end Go.Proofs.YticbfhbilfgoiaaDoor
