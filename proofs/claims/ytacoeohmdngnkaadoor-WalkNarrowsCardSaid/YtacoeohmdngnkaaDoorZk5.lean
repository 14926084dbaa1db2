/- Lemmas and contracts under the claims of this seat: Contract of slices.Reverse at bytes. The listed table, as a walk reads it. -/
import Derived.Test.YtacoeohmdngnkaaDoorZk3
import Derived.Deep.DeepCutAuto
import Derived.Deep.CutBlock
import Derived.Deep.CutRange
import Derived.Test.YtacoeohmdngnkaaDoorRows
import Derived.Test.YtacoeohmdngnkaaDoorZk1
import Derived.Lib.LaidTab
import Derived.Lay
import Derived.LaidSub
import Derived.MakeChecks
import Derived.SevenTiedAt
import Derived.JoinedOf
import Derived.ProofKit
import Derived.OpenShut
import Derived.ChangeVars
import Derived.Test.YtacoeohmdngnkaaDoorZk4

namespace Go.Proofs.YtacoeohmdngnkaaDoor
set_option linter.unusedVariables false
set_option linter.unusedSimpArgs false
open Go.RowKit

/-- What Reverse has turned so far. -/
def revF (f : Nat → Value) (n k i : Nat) : Value := if i < k ∨ n - 1 - k < i then f (n - 1 - i) else f i
theorem revF_zero (f : Nat → Value) (n : Nat) : vecL f n = vecL (revF f n 0) n := vecL_congr (fun i hi => by unfold revF; rw [if_neg (by omega)])
theorem revF_step (f : Nat → Value) {n k : Nat} (h : k < n - 1 - k) : vecL (fun i => if i = n - 1 - k then f k else (fun i => if i = k then f (n - 1 - k) else revF f n k i) i) n = vecL (revF f n (k + 1)) n := vecL_congr (fun i hi => by
  unfold revF
  by_cases e1 : i = n - 1 - k
  · rw [if_pos e1, if_pos (by omega)]; congr 1; omega
  · rw [if_neg e1]
    by_cases e2 : i = k
    · simp only []
      rw [if_pos e2, if_pos (by omega), e2]
    · simp only []
      rw [if_neg e2]
      by_cases e3 : i < k ∨ n - 1 - k < i
      · rw [if_pos e3, if_pos (by omega)]
      · rw [if_neg e3, if_neg (by omega)])
theorem revF_done (f : Nat → Value) {n k : Nat} (h : ¬ k < n - 1 - k) : vecL (revF f n k) n = vecL (fun i => f (n - 1 - i)) n := vecL_congr (fun i hi => by
  unfold revF
  by_cases e : i < k ∨ n - 1 - k < i
  · rw [if_pos e]
  · rw [if_neg e]; congr 1; omega)

theorem rev_nil (a : Option Addr) (cap : Nat) (w : World) : Calls Tryd.prog 63 #[.slice a 0 cap] w fun e w' => e = .returned (.tuple #[]) ∧ w = w' := by
  go_enter Tryd.func63, Tryd.ntmps63
  go_wp2_with fail
  refine wp_loop_rounds 1 ?_
  rw [rounds_succ]
  go_wp2_with fail
  go_end0
  exact ⟨rfl, rfl⟩

set_option maxHeartbeats 3200000 in
set_option maxRecDepth 100000 in
theorem rev_any {w : World} {B g n cap : Nat} {F : Nat → Int} (hown : w.ownsRow B 5 1 (.slice (some ⟨g, 0, none⟩) n cap) n (vecL (fun i => .int .u8 (F i)) n)) (hn : 0 < n) (hm : n ≤ 1000000) :
    Calls Tryd.prog 63 #[.slice (some ⟨g, 0, none⟩) n cap] w fun e w' => e = .returned (.tuple #[]) ∧ w'.ownsRow B 5 1 (.slice (some ⟨g, 0, none⟩) n cap) n (vecL (fun i => .int .u8 (F (n - 1 - i))) n) ∧ Chg (fun b => b = g) w w' := by
  have HO := Lib.hid (by rw [revF_zero] at hown; exact hown : w.ownsRow B 5 1 (.slice (some ⟨g, 0, none⟩) n cap) n (vecL (revF (fun i => .int .u8 (F i)) n 0) n))
  clear hown
  go_enter Tryd.func63, Tryd.ntmps63
  go_wp2_with fail
  go_loopw [2, 3] (fun i j wr => ∃ k : Nat, k ≤ n ∧ i = .int .i64 k ∧ j = .int .i64 ((n : Int) - 1 - k) ∧ wr.ownsRow B 5 1 (.slice (some ⟨g, 0, none⟩) n cap) n (vecL (revF (fun i => .int .u8 (F i)) n k) n) ∧ Chg (fun b => b = g) w wr) (fun i _ _ => n - (intOf i).toNat)
  case atStart => exact ⟨0, Nat.zero_le _, rfl, by simp, HO.out, Chg.refl⟩
  case round => as_aux_lemma =>
    clear HO
    obtain ⟨k, hk, rfl, rfl, hown, hc⟩ := hrel
    have HO := Lib.hid hown
    have HC := Lib.hid hc
    clear hown hc
    by_cases hlt : k < n - 1 - k
    · obtain ⟨j, hj⟩ : ∃ j : Nat, n - 1 - k = j := ⟨_, rfl⟩
      have hji : (n : Int) - 1 - (k : Int) = (j : Int) := by omega
      have hjn : j < n := by omega
      have hkj : k < j := by omega
      have cj : wr.cell? ⟨g, j, none⟩ = some (.int .u8 (F j)) := by
        have := own_vcell HO.out hjn
        rw [this]; unfold revF; rw [if_neg (by omega)]
      have ck : wr.cell? ⟨g, k, none⟩ = some (.int .u8 (F k)) := by
        have := own_vcell HO.out (show k < n by omega)
        rw [this]; unfold revF; rw [if_neg (by omega)]
      have hfz := own_vfree HO.out
      have HSTEP : Hid (((wr.setCell ⟨g, k, none⟩ (.int .u8 (F j))).setCell ⟨g, j, none⟩ (.int .u8 (F k))).ownsRow B 5 1 (.slice (some ⟨g, 0, none⟩) n cap) n (vecL (revF (fun i => .int .u8 (F i)) n (k + 1)) n)) := Lib.hid (by
        have h1 := own_vset (own_vset HO.out k (.int .u8 (F j))) j (.int .u8 (F k))
        rw [← hj] at h1 ⊢
        rw [revF_step (fun i => .int .u8 (F i)) hlt] at h1
        exact h1)
      have HCH : Hid (Chg (fun b => b = g) w ((wr.setCell ⟨g, k, none⟩ (.int .u8 (F j))).setCell ⟨g, j, none⟩ (.int .u8 (F k)))) := Lib.hid ((HC.out.setCell (S := fun b => b = g) ⟨g, k, none⟩ (Or.inl rfl) _).setCell (S := fun b => b = g) ⟨g, j, none⟩ (Or.inl rfl) _)
      have i0 : (0 : Int) ≤ (k : Int) := by omega
      have i1 : (k : Int) < (n : Int) := by omega
      have i2 : (0 : Int) ≤ (j : Int) := by omega
      have i3 : (j : Int) < (n : Int) := by omega
      have hjk : j + k + 1 = n := by omega
      rw [hji]
      clear hlt hj hji HO HC
      generalize F j = vj at *
      generalize F k = vk at *
      go_upto_region 3 with fail
      -- REGION rev
      refine reg_start (fun _ => True) (by kernel_rfl) (trivial) (fun hHeld => ?_)
      refine rt 0 hHeld ?_
      refine rt 1 hHeld ?_
      refine rt 2 hHeld ?_
      refine rt 3 hHeld ?_
      refine rt 4 hHeld ?_
      refine rt 5 hHeld ?_
      refine rt 6 hHeld ?_
      refine rt 8 hHeld ?_
      refine rt 9 hHeld ?_
      refine rt 10 hHeld ?_
      refine reg_loud2 (i := 7) (j := 11) rfl rfl (by kernel_rfl) rfl rfl (fun K hK => ?brv7) (fun K hK => ?brv11)
      case brv7 => 
        go_simp
        refine hK.out _ _ (trivial) (fun hNew => ?_)
        clear hK K hHeld
        have hHeld := hNew
        clear hNew
        try simp only [Act.put, List.setIfInBounds_toArray, List.set_cons_zero, List.set_cons_succ]
        refine reg_loud (i := 11) rfl (by kernel_rfl) rfl (fun K hK => ?_)
        go_simp
        refine hK.out _ _ (trivial) (fun hNew => ?_)
        clear hK K hHeld
        have hHeld := hNew
        clear hNew
        try simp only [Act.put, List.setIfInBounds_toArray, List.set_cons_zero, List.set_cons_succ]
        refine rt 12 hHeld ?_
        refine reg_loud (i := 13) rfl (by kernel_rfl) rfl (fun K hK => ?_)
        go_simp
        refine hK.out _ _ (trivial) (fun hNew => ?_)
        clear hK K hHeld
        have hHeld := hNew
        clear hNew
        try simp only [Act.put, List.setIfInBounds_toArray, List.set_cons_zero, List.set_cons_succ]
        refine rt 14 hHeld ?_
        refine reg_loud (i := 15) rfl (by kernel_rfl) rfl (fun K hK => ?_)
        go_simp
        refine hK.out _ _ (trivial) (fun hNew => ?_)
        clear hK K hHeld
        have hHeld := hNew
        clear hNew
        try simp only [Act.put, List.setIfInBounds_toArray, List.set_cons_zero, List.set_cons_succ]
        refine reg_done (by kernel_rfl) ?_ _
        go_wp2_with fail
        go_roundw
        case rel => exact ⟨k + 1, by omega, by go_num, by congr 1; omega, HSTEP.out, HCH.out.drew⟩
        case measure => simp [intOf]; omega
      case brv11 => 
        go_simp
        refine hK.out _ _ (trivial) (fun hNew => ?_)
        clear hK K hHeld
        have hHeld := hNew
        clear hNew
        try simp only [Act.put, List.setIfInBounds_toArray, List.set_cons_zero, List.set_cons_succ]
        refine reg_loud (i := 7) rfl (by kernel_rfl) rfl (fun K hK => ?_)
        go_simp
        refine hK.out _ _ (trivial) (fun hNew => ?_)
        clear hK K hHeld
        have hHeld := hNew
        clear hNew
        try simp only [Act.put, List.setIfInBounds_toArray, List.set_cons_zero, List.set_cons_succ]
        refine rt 12 hHeld ?_
        refine reg_loud (i := 13) rfl (by kernel_rfl) rfl (fun K hK => ?_)
        go_simp
        refine hK.out _ _ (trivial) (fun hNew => ?_)
        clear hK K hHeld
        have hHeld := hNew
        clear hNew
        try simp only [Act.put, List.setIfInBounds_toArray, List.set_cons_zero, List.set_cons_succ]
        refine rt 14 hHeld ?_
        refine reg_loud (i := 15) rfl (by kernel_rfl) rfl (fun K hK => ?_)
        go_simp
        refine hK.out _ _ (trivial) (fun hNew => ?_)
        clear hK K hHeld
        have hHeld := hNew
        clear hNew
        try simp only [Act.put, List.setIfInBounds_toArray, List.set_cons_zero, List.set_cons_succ]
        refine reg_done (by kernel_rfl) ?_ _
        go_wp2_with fail
        go_roundw
        case rel => exact ⟨k + 1, by omega, by go_num, by congr 1; omega, HSTEP.out, HCH.out.drew⟩
        case measure => simp [intOf]; omega
      -- END OF REGION rev
    · have HD := Lib.hid (revF_done (fun i => .int .u8 (F i)) hlt)
      have hd : decide ((k : Int) < (n : Int) - 1 - (k : Int)) = false := decide_eq_false (by omega)
      go_wp2_with fail
      go_end0
      exact ⟨rfl, by have := HO.out; rw [HD.out] at this; exact this, HC.out⟩

end Go.Proofs.YtacoeohmdngnkaaDoor

namespace Go.Proofs.YtacoeohmdngnkaaDoor

def laidTab : List (String × DataW Unit) := [("math/bits.deBruijn64tab", Rows.laid_math_bits_deBruijn64tab)]
theorem tab_data : (Rows.laid_math_bits_deBruijn64tab : DataW Unit) = Lib.tabData .u8 (Lib.deBruijn64tab.map Int.ofNat) := rfl
theorem bitTab_of {W : World} (hL : laidMetH Tryd.prog laidTab W) : BitTab W := by
  rw [MakeChecks.laidMetH_plain _ _ _ (by kernel_rfl)] at hL
  have hL' : laidMet Tryd.prog [("math/bits.deBruijn64tab", Lib.tabData .u8 (Lib.deBruijn64tab.map Int.ofNat))] W := by rw [← tab_data]; exact hL
  have hg : Tryd.prog.globalNamed "math/bits.deBruijn64tab" = some 0 := by kernel_rfl
  have hT := Lib.tabIs_of_head hg (t := 126) (by kernel_rfl) Tryd.underlying126 Tryd.underlying5 (by kernel_rfl) (by kernel_rfl) hL'
  intro j hj
  rw [hT.cell hg j (by simpa using hj)]
  simp [List.getD_eq_getElem?_getD, List.getElem?_eq_getElem hj]

end Go.Proofs.YtacoeohmdngnkaaDoor
