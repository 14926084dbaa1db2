/- Contracts of the reference's In and Out, Put and Cut. -/
import Derived.Test.YticbfhbilfgoiaaDoorRef1
namespace Go.Proofs.YticbfhbilfgoiaaDoor
set_option linter.unusedVariables false
set_option linter.unusedSimpArgs false
open Go.RowKit

set_option maxHeartbeats 1600000 in
theorem refOut_any (a : Option Addr) (c : Nat) (l : List Bool) (k : Nat) (w : World) (hr : ReadsV w a (l.map Value.bool)) (hk : k < l.length) (hc : l.length ≤ c) (hcm : c ≤ maxLen) (hl : l.length ≤ 1000000) (hnil : a = none → l.length = 0 ∧ c = 0) :
    Calls Tryd.prog 34 #[.slice a l.length c, .int .i64 k] w (GivesB w.heap.size w (outL l k)) := by
  have hs1 := fun (w : World) => run_sliceTo (P := Tryd.prog) (w := w) (t := 40) (a := a) (len := l.length) (cap := c) (k := k) Tryd.underlying40 (by kernel_rfl) (by omega)
  have hs2 : ∀ (w : World), (Instr.slice 40 (.slice a l.length c) (some (.int .i64 ((k : Int) + 1))) none none).run Tryd.prog w = .ok (.slice (offA a (k + 1) c) (l.length - (k + 1)) (c - (k + 1))) w :=
    fun w => run_sliceFrom (P := Tryd.prog) (w := w) (t := 40) (a := a) (len := l.length) (cap := c) (k := k + 1) Tryd.underlying40 (by kernel_rfl) (by omega)
  have HNIL := Lib.hid (offA_nil (k := k + 1) hnil)
  have HN0 : Hid (a = none → k = 0 ∧ c = 0) := fun h => by have := hnil h; omega
  have hrt : ReadsV w a ((l.take k).map Value.bool) := by rw [List.map_take]; exact hr.take k
  have HRT : Hid (∀ w', Below w.heap.size w w' → ReadsV w' a ((l.take k).map Value.bool)) := fun w' hb => hrt.below' hb
  have HRD : Hid (∀ w', Below w.heap.size w w' → ReadsV w' (offA a (k + 1) c) ((l.drop (k + 1)).map Value.bool)) := fun w' hb => by rw [List.map_drop]; exact (hr.below' hb).drop (by simpa using hc)
  have hb0 := below_alloc w (.cells #[] 4)
  have hown0 : (w.alloc (.cells #[] 4)).ownsRow w.heap.size 4 1 (.slice (some ⟨w.heap.size, 0, none⟩) 0 0) 0 [] := own_zero (Nat.le_refl _) (heap_alloc_new _ _)
  have HL := Lib.hid hl
  have HO0 := Lib.hid hown0
  have HB0 := Lib.hid hb0
  clear hnil hr hrt hown0 hb0
  go_enter Tryd.func34, Tryd.ntmps34
  go_wp2_with (at_builtin; refine wpList_appendL rfl _ _ 40 rfl w.heap.size 4 Tryd.infoBoolR Tryd.underlying40 rfl _ 0 _ rfl HO0.out a k c ((l.take k).map Value.bool) rfl (by simp; omega) HN0.out (HRT.out _ HB0.out).hnews (oneB _) (by unfold maxLen; omega) (by omega) HB0.out.size ?_)
  intro a1 c1 w1 hown hgrow _
  have hb1 : Below w.heap.size w w1 := HB0.out.grown hgrow HB0.out.size (fun j hj => by simp [Value.ownBlock] at hj; omega)
  have HB1 := Lib.hid hb1
  have hown1 : w1.ownsRow w.heap.size 4 1 (.slice a1 k c1) k ((l.take k).map Value.bool) := by simpa using hown
  have HOWN := Lib.hid hown1
  clear hown hown1 hgrow hb1
  go_wp2_with (at_builtin; refine wpList_appendL rfl _ _ 40 rfl w.heap.size 4 Tryd.infoBoolR Tryd.underlying40 rfl _ k _ rfl HOWN.out (offA a (k + 1) c) (l.length - (k + 1)) (c - (k + 1)) ((l.drop (k + 1)).map Value.bool) rfl (by simp) HNIL.out (HRD.out _ HB1.out).hnews (oneB _) (by unfold maxLen; omega) (by omega) HB1.out.size ?_)
  intro a2 c2 w2 hown2 hgrow2 _
  have hb2 : Below w.heap.size w w2 := HB1.out.grown hgrow2 HB1.out.size (fun j hj => (own_lt HOWN.out hj).1)
  have HB2 := Lib.hid hb2
  have HO2 := Lib.hid hown2
  clear hown2 hgrow2 hb2
  go_wp2_with fail
  go_ret
  refine ⟨_, rfl, ?_, HB2.out⟩
  have := HO2.out
  rw [show (outL l k).map Value.bool = List.take k (List.map Value.bool l) ++ List.drop (k + 1) (List.map Value.bool l) by simp [outL]]
  rw [show (outL l k).length = k + (l.length - (k + 1)) by rw [outL_len hk]; omega]
  exact this

set_option maxHeartbeats 1600000 in
theorem refIn_any (a : Option Addr) (c : Nat) (l : List Bool) (k : Nat) (b : Bool) (w : World) (hr : ReadsV w a (l.map Value.bool)) (hk : k ≤ l.length) (hc : l.length ≤ c) (hcm : c ≤ maxLen) (hl : l.length ≤ 1000000) (hnil : a = none → l.length = 0 ∧ c = 0) :
    Calls Tryd.prog 31 #[.slice a l.length c, .int .i64 k, .bool b] w (GivesB w.heap.size w (inL l k b)) := by
  have hs1 := fun (w : World) => run_sliceTo (P := Tryd.prog) (w := w) (t := 40) (a := a) (len := l.length) (cap := c) (k := k) Tryd.underlying40 (by kernel_rfl) (by omega)
  have hs2 := fun (w : World) => run_sliceFrom (P := Tryd.prog) (w := w) (t := 40) (a := a) (len := l.length) (cap := c) (k := k) Tryd.underlying40 (by kernel_rfl) (by omega)
  have HNIL := Lib.hid (offA_nil (k := k) hnil)
  have HN0 : Hid (a = none → k = 0 ∧ c = 0) := fun h => by have := hnil h; omega
  have hrt : ReadsV w a ((l.take k).map Value.bool) := by rw [List.map_take]; exact hr.take k
  have HRT : Hid (∀ w', Below w.heap.size w w' → ReadsV w' a ((l.take k).map Value.bool)) := fun w' hb => hrt.below' hb
  have HRD : Hid (∀ w', Below w.heap.size w w' → ReadsV w' (offA a k c) ((l.drop k).map Value.bool)) := fun w' hb => by rw [List.map_drop]; exact (hr.below' hb).drop (by simpa using hc)
  have hb0 := below_alloc w (.cells #[] 4)
  have hown0 : (w.alloc (.cells #[] 4)).ownsRow w.heap.size 4 1 (.slice (some ⟨w.heap.size, 0, none⟩) 0 0) 0 [] := own_zero (Nat.le_refl _) (heap_alloc_new _ _)
  have HL := Lib.hid hl
  have HO0 := Lib.hid hown0
  have HB0 := Lib.hid hb0
  clear hnil hr hrt hown0 hb0
  go_enter Tryd.func31, Tryd.ntmps31
  go_wp2_with (at_builtin; refine wpList_appendL rfl _ _ 40 rfl w.heap.size 4 Tryd.infoBoolR Tryd.underlying40 rfl _ 0 _ rfl HO0.out a k c ((l.take k).map Value.bool) rfl (by simp; omega) HN0.out (HRT.out _ HB0.out).hnews (oneB _) (by unfold maxLen; omega) (by omega) HB0.out.size ?_)
  intro a1 c1 w1 hown hgrow _
  have hb1 : Below w.heap.size w w1 := HB0.out.grown hgrow HB0.out.size (fun j hj => by simp [Value.ownBlock] at hj; omega)
  have hown1 : w1.ownsRow w.heap.size 4 1 (.slice a1 k c1) k ((l.take k).map Value.bool) := by simpa using hown
  have HB1 := Lib.hid hb1
  have HOWN := Lib.hid hown1
  clear hown hown1 hgrow hb1
  go_wp2_with fail
  have hs1b := HB1.out.drew.size
  have HB1A : Hid (Below w.heap.size w (w1.drew.alloc (.cells #[.bool b] 4))) := HB1.out.drew.alloc hs1b _
  have HOWN2 : Hid ((w1.drew.alloc (.cells #[.bool b] 4)).ownsRow w.heap.size 4 1 (.slice a1 k c1) k ((l.take k).map Value.bool)) := World.ownsRow.alloc (w := w1.drew) HOWN.out _
  have HNEW : Hid (∀ p, some (⟨w1.heap.size, 0, none⟩ : Addr) = some p → ∀ j u, [Value.bool b][j]? = some u → (w1.drew.alloc (.cells #[.bool b] 4)).cell? (p.add j) = some u) :=
    (readsV_block (xs := [.bool b]) (heap_alloc_new w1.drew _)).hnews
  refine reg_start (fun _ => True) (by kernel_rfl) (trivial) (fun hHeld => ?_)
  refine reg_take (i := 0) (v := ?v0) rfl (by kernel_rfl) rfl hHeld ?y0 ?r0
  case y0 => (intro w hSw; (try dsimp only at hSw); go_simp; all_goals with_reducible rfl)
  try simp only [Act.put, List.setIfInBounds_toArray, List.set_cons_zero, List.set_cons_succ]
  refine reg_take (i := 1) (v := ?v1) rfl (by kernel_rfl) rfl hHeld ?y1 ?r1
  case y1 => (intro w hSw; (try dsimp only at hSw); go_simp; all_goals with_reducible rfl)
  try simp only [Act.put, List.setIfInBounds_toArray, List.set_cons_zero, List.set_cons_succ]
  refine reg_take (i := 4) (v := ?v4) rfl (by kernel_rfl) rfl hHeld ?y4 ?r4
  case y4 => (intro w hSw; (try dsimp only at hSw); go_simp; all_goals with_reducible rfl)
  try simp only [Act.put, List.setIfInBounds_toArray, List.set_cons_zero, List.set_cons_succ]
  refine reg_take (i := 5) (v := ?v5) rfl (by kernel_rfl) rfl hHeld ?y5 ?r5
  case y5 => (intro w hSw; (try dsimp only at hSw); go_simp; all_goals with_reducible rfl)
  try simp only [Act.put, List.setIfInBounds_toArray, List.set_cons_zero, List.set_cons_succ]
  refine reg_take (i := 6) (v := ?v6) rfl (by kernel_rfl) rfl hHeld ?y6 ?r6
  case y6 => (intro w hSw; (try dsimp only at hSw); go_simp; all_goals with_reducible rfl)
  try simp only [Act.put, List.setIfInBounds_toArray, List.set_cons_zero, List.set_cons_succ]
  refine reg_loud (i := 2) rfl (by kernel_rfl) rfl (fun K hK => ?_)
  go_simp
  refine hK.out _ _ (trivial) (fun hNew => ?_)
  clear hK K hHeld
  have hHeld := hNew
  clear hNew
  try simp only [Act.put, List.setIfInBounds_toArray, List.set_cons_zero, List.set_cons_succ]
  refine reg_loud (i := 3) rfl (by kernel_rfl) rfl (fun K hK => ?_)
  refine wp_appendL _ _ 40 rfl w.heap.size 4 Tryd.infoBoolR Tryd.underlying40 rfl _ k _ rfl HOWN2.out (some ⟨w1.heap.size, 0, none⟩) 1 1 [.bool b] rfl rfl (fun h => by cases h) HNEW.out (oneB [b]) (by unfold maxLen; omega) (by omega) HB1A.out.size ?_
  intro a2 c2 w2 hown2 hgrow2 _
  have hb2 : Below w.heap.size w w2 := HB1A.out.grown hgrow2 HB1A.out.size (fun j hj => (own_lt HOWN2.out hj).1)
  have HB2 := Lib.hid hb2
  have HO2 := Lib.hid hown2
  clear hown2 hgrow2 hb2
  refine hK.out _ _ (trivial) (fun hNew => ?_)
  clear hK K hHeld
  have hHeld := hNew
  clear hNew
  try simp only [Act.put, List.setIfInBounds_toArray, List.set_cons_zero, List.set_cons_succ]
  refine reg_loud (i := 7) rfl (by kernel_rfl) rfl (fun K hK => ?_)
  refine wp_appendL _ _ 40 rfl w.heap.size 4 Tryd.infoBoolR Tryd.underlying40 rfl _ (k + 1) _ rfl HO2.out (offA a k c) (l.length - k) (c - k) ((l.drop k).map Value.bool) rfl (by simp) HNIL.out (HRD.out w2 (HB2.out)).hnews (oneB _) (by unfold maxLen; omega) (by omega) HB2.out.size ?_
  intro a3 c3 w3 hown3 hgrow3 _
  have hb3 : Below w.heap.size w w3 := HB2.out.grown hgrow3 HB2.out.size (fun j hj => (own_lt HO2.out hj).1)
  have HB3 := Lib.hid hb3
  have HO3 := Lib.hid hown3
  clear hown3 hgrow3 hb3
  refine hK.out _ _ (trivial) (fun hNew => ?_)
  clear hK K hHeld
  have hHeld := hNew
  clear hNew
  try simp only [Act.put, List.setIfInBounds_toArray, List.set_cons_zero, List.set_cons_succ]
  refine reg_take (i := 8) (v := ?v8) rfl (by kernel_rfl) rfl hHeld ?y8 ?r8
  case y8 => (intro w hSw; (try dsimp only at hSw); go_simp; all_goals with_reducible rfl)
  try simp only [Act.put, List.setIfInBounds_toArray, List.set_cons_zero, List.set_cons_succ]
  refine reg_done (by kernel_rfl) ?_ _
  go_wp2_with fail
  go_ret
  refine ⟨_, rfl, ?_, HB3.out⟩
  have := HO3.out
  rw [show (inL l k b).map Value.bool = (l.take k).map Value.bool ++ [.bool b] ++ (l.drop k).map Value.bool by simp [inL]]
  rw [show (inL l k b).length = k + 1 + (l.length - k) by rw [inL_len hk]; omega]
  exact this

theorem refPut_bad (x : Nat) (k : Int) (b : Bool) (w : World) (h : k < 0 ∨ 64 ≤ k) :
    Calls Tryd.prog 18 #[.int .u64 x, .int .i64 k, .bool b] w fun e w' => e = .returned (.tuple #[.int .u64 x, .bool false]) ∧ w = w' := by
  rcases h with h | h
  all_goals
    go_enter Tryd.func18, Tryd.ntmps18
    go_wp2_with fail
    go_ret2
    exact ⟨rfl, rfl⟩
theorem refCut_bad (x : Nat) (k : Int) (b : Bool) (w : World) (h : k < 0 ∨ 64 ≤ k) :
    Calls Tryd.prog 20 #[.int .u64 x, .int .i64 k, .bool b] w fun e w' => e = .returned (.tuple #[.int .u64 x, .bool false]) ∧ w = w' := by
  rcases h with h | h
  all_goals
    go_enter Tryd.func20, Tryd.ntmps20
    go_wp2_with fail
    go_ret2
    exact ⟨rfl, rfl⟩

theorem word_in (x k : Nat) (b : Bool) (hk : k < 64) : wordOf (fun i => (inL (bitsL x 64) k b)[i]?.getD false) 64 = putW x k b := by
  refine wordOf_congr (fun i hi => ?_)
  rw [inL_get (by rw [bitsL_len]; omega)]
  split
  · rw [bitsL_get hi]; rfl
  · split
    · rfl
    · rw [bitsL_get (by omega)]; rfl
theorem word_out (x k : Nat) (b : Bool) (hk : k < 64) : wordOf (fun i => (outL (bitsL x 64) k ++ [b])[i]?.getD false) 64 = cutW x k b := by
  refine wordOf_congr (fun i hi => ?_)
  have hl : (outL (bitsL x 64) k).length = 63 := by rw [outL_len (by rw [bitsL_len]; omega), bitsL_len]
  rw [List.getElem?_append, hl]
  by_cases h63 : i < 63
  · rw [if_pos h63, outL_get (by rw [bitsL_len]; omega)]
    split
    · rw [bitsL_get hi]; rfl
    · rw [bitsL_get (by omega), if_neg (by omega)]; rfl
  · have : i = 63 := by omega
    subst this
    simp
    intro h; omega

theorem refPut_good (x k : Nat) (b : Bool) (w : World) (hx : x < 2 ^ 64) (hk : k < 64) :
    Calls Tryd.prog 18 #[.int .u64 x, .int .i64 k, .bool b] w fun e w' => e = .returned (.tuple #[.int .u64 (putW x k b), .bool (x.testBit 63)]) ∧ Below w.heap.size w w' := by
  have hwi := word_in x k b hk
  have HWI := Lib.hid hwi
  clear hwi
  go_enter Tryd.func18, Tryd.ntmps18
  go_wp2_with fail
  refine (refList_any x _ hx).mono ?_
  rintro e w1 ⟨v, rfl, hown, hb1⟩
  obtain ⟨a, c, rfl, hnil, _⟩ := own_slice hown
  have hlen : (bitsL x 64).length = 64 := bitsL_len x 64
  have hrd := readsV_own hown
  have hs1 := hb1.size
  have hcap : (bitsL x 64).length ≤ c ∧ c ≤ maxLen := by
    obtain ⟨g, cap, hv, _, _, h1, h2, _⟩ := own_some hown (by rw [hlen]; omega)
    injection hv with _ _ e3
    subst e3; exact ⟨h1, h2⟩
  have HNIL : Hid (a = none → (bitsL x 64).length = 0 ∧ c = 0) := fun h => hnil h
  have HLEN := Lib.hid hlen
  have HC := Lib.hid hcap
  have HRD := Lib.hid hrd
  have HB1 := Lib.hid hb1
  clear hnil hlen hcap hrd hown hb1
  go_wp2_with fail
  refine (refIn_any a c (bitsL x 64) k b _ HRD.out (by rw [HLEN.out]; omega) HC.out.1 HC.out.2 (by rw [HLEN.out]; omega) HNIL.out).mono ?_
  rintro e w2 ⟨v, rfl, hown, hb2⟩
  obtain ⟨a2, c2, rfl, _, _⟩ := own_slice hown
  have hrd := readsV_own hown
  have hln : (inL (bitsL x 64) k b).length = 65 := by rw [inL_len (by rw [HLEN.out]; omega), HLEN.out]
  have HB2 : Hid (Below w.heap.size w w2) := HB1.out.trans (hb2.mono hs1)
  have HR2 := Lib.hid hrd
  have HLN := Lib.hid hln
  clear hown hrd hln hb2
  go_wp2_with fail
  refine (refWord_any a2 c2 (inL (bitsL x 64) k b) _ HR2.out (by rw [HLN.out]; omega)).mono ?_
  rintro e w' ⟨rfl, rfl⟩
  rw [HLN.out, show min 65 64 = 64 from rfl, HWI.out]
  go_wp2_with fail
  refine (refBit_any x 63 _ hx (by omega)).mono ?_
  rintro e w' ⟨rfl, rfl⟩
  go_wp2_with fail
  go_ret2
  exact ⟨rfl, HB2.out⟩

theorem refCut_good (x k : Nat) (b : Bool) (w : World) (hx : x < 2 ^ 64) (hk : k < 64) :
    Calls Tryd.prog 20 #[.int .u64 x, .int .i64 k, .bool b] w fun e w' => e = .returned (.tuple #[.int .u64 (cutW x k b), .bool (x.testBit k)]) ∧ Below w.heap.size w w' := by
  have hwi := word_out x k b hk
  have HWI := Lib.hid hwi
  clear hwi
  go_enter Tryd.func20, Tryd.ntmps20
  go_wp2_with fail
  refine (refList_any x _ hx).mono ?_
  rintro e w1 ⟨v, rfl, hown, hb1⟩
  obtain ⟨a, c, rfl, hnil, _⟩ := own_slice hown
  have hlen : (bitsL x 64).length = 64 := bitsL_len x 64
  have hrd := readsV_own hown
  have hs1 := hb1.size
  have hcap : (bitsL x 64).length ≤ c ∧ c ≤ maxLen := by
    obtain ⟨g, cap, hv, _, _, h1, h2, _⟩ := own_some hown (by rw [hlen]; omega)
    injection hv with _ _ e3
    subst e3; exact ⟨h1, h2⟩
  have HNIL : Hid (a = none → (bitsL x 64).length = 0 ∧ c = 0) := fun h => hnil h
  have HLEN := Lib.hid hlen
  have HC := Lib.hid hcap
  have HRD := Lib.hid hrd
  have HB1 := Lib.hid hb1
  clear hnil hlen hcap hrd hown hb1
  go_wp2_with fail
  refine (refOut_any a c (bitsL x 64) k _ HRD.out (by rw [HLEN.out]; omega) HC.out.1 HC.out.2 (by rw [HLEN.out]; omega) HNIL.out).mono ?_
  rintro e w2 ⟨v, rfl, hown, hb2⟩
  have hb2 := HB1.out.trans (hb2.mono hs1)
  have hs2 := hb2.size
  have hln : (outL (bitsL x 64) k).length = 63 := by rw [outL_len (by rw [HLEN.out]; omega), HLEN.out]
  have hown' : w2.ownsRow w.heap.size 4 1 v 63 ((outL (bitsL x 64) k).map Value.bool) := by rw [hln] at hown; exact own_mono hown hs1
  clear hown
  have HB2 := Lib.hid hb2
  have HO := Lib.hid hown'
  have HLN := Lib.hid hln
  clear hb2 hown' hln
  go_wp2_with (at_builtin; refine wpList_push rfl _ _ 40 rfl w.heap.size 4 Tryd.infoBoolR Tryd.underlying40 rfl _ _ _ rfl HO.out rfl rfl ?c1 ?c2 ?c3 ?_)
  case c1 => unfold maxLen; omega
  case c2 => omega
  case c3 => omega
  intro v' w3 hown3 hgrow
  have hb3 : Below w.heap.size w w3 := HB2.out.grown hgrow hs2 (fun j hj => (HO.out.lt j hj).1)
  obtain ⟨a3, c3, rfl, _, _⟩ := own_slice hown3
  have hrd := readsV_own hown3
  have e1 : (outL (bitsL x 64) k).map Value.bool ++ [.bool b] = (outL (bitsL x 64) k ++ [b]).map Value.bool := by simp
  rw [e1] at hrd
  have e2 : (outL (bitsL x 64) k ++ [b]).length = 64 := by rw [List.length_append, HLN.out]; rfl
  have HB3 := Lib.hid hb3
  have HR3 := Lib.hid hrd
  have HE2 := Lib.hid e2
  clear hown3 hgrow hb3 hrd e1 e2
  have hwd := refWord_any a3 c3 (outL (bitsL x 64) k ++ [b]) w3 HR3.out (by rw [HE2.out]; omega)
  rw [HE2.out, show min 64 64 = 64 from rfl, HWI.out] at hwd
  have HWD := Lib.hid hwd
  clear hwd
  go_wp2_with fail
  refine (HWD.out).mono ?_
  rintro e w' ⟨rfl, rfl⟩
  go_wp2_with fail
  refine (refBit_any x k _ hx hk).mono ?_
  rintro e w' ⟨rfl, rfl⟩
  go_wp2_with fail
  go_ret2
  exact ⟨rfl, HB3.out⟩

end Go.Proofs.YticbfhbilfgoiaaDoor
