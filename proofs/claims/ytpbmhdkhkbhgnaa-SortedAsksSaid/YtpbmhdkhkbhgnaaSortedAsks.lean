/- The walk of SortedAsks. -/
import Derived.Test.YtpbmhdkhkbhgnaaRef6K
import Derived.Test.YtpbmhdkhkbhgnaaReg
namespace Go.Proofs.Ytpbmhdkhkbhgnaa
set_option linter.unusedVariables false
set_option linter.unusedSimpArgs false
open Go.RowKit

theorem refSame_yes (a b : Option Addr) (n m c d : Nat) (xs ys : List Int) (w : World) (hx : Reads w .i64 a xs) (hy : Reads w .i64 b ys) (hn : n = xs.length) (hm : m = ys.length) (hmx : xs.length ≤ 9223372036854775806) (he : xs = ys) :
    Calls Try.prog 22 #[.slice a n c, .slice b m d] w fun e w' => e = .returned (.bool true) ∧ ∃ k, w' = w.drewN k := by
  refine (refSame_len a b n m c d xs ys w hx hy hn hm hmx).mono ?_
  rintro e w' ⟨rfl, h⟩
  exact ⟨ret_bool (decide_eq_true he), h⟩
theorem same_yes (a : Option Addr) (c : Nat) (xs : List Int) (w : World) (hx : Reads w .i64 a xs) (hm : xs.length ≤ 1000000000) :
    Calls Try.prog 19 #[.slice a xs.length c, .slice a xs.length c] w fun e w' => e = .returned (.bool true) ∧ ∃ k, w' = w.drewN k := by
  refine (same_ints a a xs.length xs.length c c xs xs w hx hx rfl rfl hm hm).mono ?_
  rintro e w' ⟨rfl, h⟩
  exact ⟨ret_bool (decide_eq_true rfl), h⟩

set_option maxHeartbeats 6400000 in
set_option maxRecDepth 100000 in
theorem walk_SortedAsks (w : World) (a0 : Option Addr) (c0 : Nat) (z0 : List Int) (w0 : ArgI .i64 w a0 c0 z0) (a1 : Bool) (a2 : Option Addr) (c2 : Nat) (z2 : List Int) (w2 : ArgI .i64 w a2 c2 z2) :
    Calls Try.prog 4 #[.slice a0 z0.length c0, .bool a1, .slice a2 z2.length c2] w fun e w' => e = .returned (.bool true) ∧ Below w.heap.size w w' := by
  have hrd := w0.reads
  have hzm := Nat.le_trans w0.le w0.max
  have hrd2 := w2.reads
  have hzm2 := Nat.le_trans w2.le w2.max
  clear w0 w2
  by_cases hlong : 40 < z2.length
  · have d1 : decide (40 < (z2.length : Int)) = true := decide_eq_true (by omega)
    unfold maxLen at hzm2
    go_enter Try.func4, Try.ntmps4
    go_wp2_with fail
    refine (told9_any _).mono ?_
    rintro e w2 ⟨rfl, hb2⟩
    go_wp2_with fail
    go_ret
    exact ⟨rfl, hb2⟩
  have d1 : decide (40 < (z2.length : Int)) = false := decide_eq_false (by omega)
  have hz2 : z2.length ≤ 40 := by omega
  go_enter Try.func4, Try.ntmps4
  go_wp2_with fail
  refine (lawText_any a0 c0 z0 100 a1 w hrd (by omega) hzm).mono ?_
  rintro e w1 ⟨ta, tc, t, rfl, hbt, htl, hot, hb1⟩
  have hs1 := hb1.size
  have HOT := Lib.hid hot
  have HRD2 := Lib.hid (hrd2.below hb1)
  clear hot hrd hrd2 d1 hlong
  go_wp2_with fail
  refine (back_any a2 c2 z2 _ HRD2.out (by omega)).mono ?_
  rintro e w3 ⟨v, ok, rfl, hb3, hyes, hno⟩
  have HRD3 := Lib.hid (HRD2.out.below hb3)
  have HOT3 := Lib.hid (own_below HOT.out hb3 (fun k hk => (own_lt HOT.out hk).2))
  have HB3 := Lib.hid (hb1.trans (hb3.mono hs1))
  have HYES := Lib.hid hyes
  have HNO := Lib.hid hno
  clear hb1 hb3 HRD2 HOT hyes hno
  go_wp2_with fail
  refine (ref6Back_any a2 c2 z2.length z2 w3 rfl HRD3.out (by omega)).mono ?_
  rintro e wx ⟨s, is, rfl, hbx, hyes', hno'⟩
  have hsx := HB3.out.size
  have HBX := Lib.hid (HB3.out.trans (hbx.mono hsx))
  have HOT4 := Lib.hid (own_below HOT3.out hbx (fun k hk => (own_lt HOT3.out hk).2))
  have HRM : Hid (∀ W, Below wx.heap.size wx W → Reads W .i64 a2 z2) := fun W hW => (HRD3.out.below hbx).below hW
  have HRT : Hid (∀ W, Below wx.heap.size wx W → Reads W .u8 ta t) := fun W hW => (own_reads HOT4.out).below hW
  have HCT : Hid (∀ W, Below wx.heap.size wx W → (convert 23 9 (.slice ta t.length tc)).run Try.prog W = .ok (.string (strOfNums t)) W) := fun W hW =>
    conv_str (xs := t) (c := tc) Try.underlying23 Try.underlying5 Try.underlying9 (HRT.out W hW)
  have hbl : ByteL t := byteL_of hbt
  have hst : (strOfNums t).size ≤ 100000 := by rw [← tOfS_len, tOfS_of hbl]; omega
  have HRR : Hid (∀ W, Calls Try.prog 23 #[.string (strOfNums t)] W (RowsPost W.heap.size W (symsT t))) := fun W => by
    have := ref6Rows_any (strOfNums t) W hst
    rwa [tOfS_of hbl] at this
  have HLR : Hid (∀ W, Calls Try.prog 25 #[.string (strOfNums t)] W (LastPost W.heap.size W t)) := fun W => by
    have := ref6Last_any (strOfNums t) W hst
    rwa [tOfS_of hbl] at this
  obtain ⟨ba, bn, bc, hv, his, HCB⟩ : ∃ ba bn bc, v = .slice ba bn bc ∧ is = ok ∧ Hid (∀ W, Below wx.heap.size wx W → (convert 23 9 (.slice ba bn bc)).run Try.prog W = .ok (.string s) W) := by
    cases ok
    · obtain ⟨hv, hn⟩ := HNO.out rfl
      cases is
      · obtain ⟨hs, _⟩ := hno' rfl
        refine ⟨none, 0, 0, hv, rfl, fun W _ => ?_⟩
        rw [hs]
        exact conv_str (xs := []) (c := 0) Try.underlying23 Try.underlying5 Try.underlying9 (fun i hi => by simp at hi)
      · exact absurd (hyes' rfl).1 (hn _)
    · obtain ⟨hy, hov⟩ := HYES.out rfl
      cases is
      · exact absurd hy ((hno' rfl).2 _)
      · obtain ⟨_, hs⟩ := hyes' rfl
        obtain ⟨ba, bc, hv, _, _⟩ := own_slice hov
        subst hv
        refine ⟨ba, _, bc, rfl, rfl, fun W hW => ?_⟩
        rw [hs]
        exact conv_str (xs := textOf z2) (c := bc) Try.underlying23 Try.underlying5 Try.underlying9 (((own_reads hov).below hbx).below hW)
  subst hv
  subst his
  generalize strOfNums t = st at *
  have KEEP : Hid (∀ W, Below wx.heap.size wx W → (convert 23 9 (.slice ta t.length tc)).run Try.prog W = .ok (.string st) W ∧ (convert 23 9 (.slice ba bn bc)).run Try.prog W = .ok (.string s) W ∧ Below wx.heap.size wx W) :=
    fun W hW => ⟨HCT.out W hW, HCB.out W hW, hW⟩
  clear hbx hyes' hno' HYES HNO HRD3 HOT3 HOT4 HCT HCB HB3 hbl hst
  go_upto_region 6 with fail
  -- REGION
  refine reg_start (fun w' => (convert 23 9 (.slice ta t.length tc)).run Try.prog w' = .ok (.string st) w' ∧ (convert 23 9 (.slice ba bn bc)).run Try.prog w' = .ok (.string s) w' ∧ Below wx.heap.size wx w') (by kernel_rfl) (KEEP.out _ (Below.refl _ _).drew) (fun hHeld => ?_)
  refine reg_loud (i := 0) rfl (by kernel_rfl) rfl (fun K hK => ?_)
  go_simp
  refine (told9_any _).mono ?_
  rintro e w2 ⟨rfl, hb2⟩
  go_wp2_with fail
  refine hK.out _ _ (KEEP.out _ (hHeld.2.2.trans (Below.mono hb2 hHeld.2.2.size))) (fun hNew => ?_)
  clear hK K hHeld
  have hHeld := hNew
  clear hNew
  try simp only [Act.put, List.setIfInBounds_toArray, List.set_cons_zero, List.set_cons_succ]
  refine reg_take (i := 1) (v := ?v1) rfl (by kernel_rfl) rfl hHeld ?y1 ?r1
  case y1 => (intro w hSw; (try dsimp only at hSw); go_simp; all_goals with_reducible rfl)
  try simp only [Act.put, List.setIfInBounds_toArray, List.set_cons_zero, List.set_cons_succ]
  refine reg_take (i := 2) (v := ?v2) rfl (by kernel_rfl) rfl hHeld ?y2 ?r2
  case y2 => (intro w hSw; (try dsimp only at hSw); go_simp; all_goals with_reducible rfl)
  try simp only [Act.put, List.setIfInBounds_toArray, List.set_cons_zero, List.set_cons_succ]
  refine reg_take (i := 4) (v := ?v4) rfl (by kernel_rfl) rfl hHeld ?y4 ?r4
  case y4 => (intro w hSw; (try dsimp only at hSw); go_simp; all_goals with_reducible rfl)
  try simp only [Act.put, List.setIfInBounds_toArray, List.set_cons_zero, List.set_cons_succ]
  refine reg_take (i := 5) (v := ?v5) rfl (by kernel_rfl) rfl hHeld ?y5 ?r5
  case y5 => (intro w hSw; (try dsimp only at hSw); go_simp; all_goals with_reducible rfl)
  try simp only [Act.put, List.setIfInBounds_toArray, List.set_cons_zero, List.set_cons_succ]
  refine reg_loud (i := 3) rfl (by kernel_rfl) rfl (fun K hK => ?_)
  go_simp
  refine (rows_at ta tc t rfl (HRT.out _ hHeld.2.2) hbt (by omega)).mono ?_
  rintro e w2 ⟨ra, rc, r, rfl, hr, hor, hb2⟩
  go_wp2_with fail
  refine hK.out _ _ (KEEP.out _ (hHeld.2.2.trans (Below.mono hb2 hHeld.2.2.size))) (fun hNew => ?_)
  clear hK K hHeld
  have hHeld := hNew
  clear hNew
  try simp only [Act.put, List.setIfInBounds_toArray, List.set_cons_zero, List.set_cons_succ]
  refine reg_loud (i := 6) rfl (by kernel_rfl) rfl (fun K hK => ?_)
  go_simp
  refine (HRR.out _).mono ?_
  rintro e w2 ⟨r', hr', v, rfl, hor', hb2⟩
  obtain ⟨ra', rc', rfl, _, _⟩ := own_slice hor'
  have hrr := rows_unique hr hr'
  have hrl : (natL r).length = t.length + 1 := by rw [natL_len, hr.len, symsT_len]
  have hrd1 := (own_readsN hor).below hb2
  have hrd2 := own_readsN hor'
  go_wp2_with fail
  refine hK.out _ _ (KEEP.out _ (hHeld.2.2.trans (Below.mono hb2 hHeld.2.2.size))) (fun hNew => ?_)
  clear hK K hHeld
  have hHeld := hNew
  clear hNew
  try simp only [Act.put, List.setIfInBounds_toArray, List.set_cons_zero, List.set_cons_succ]
  refine reg_loud (i := 7) rfl (by kernel_rfl) rfl (fun K hK => ?_)
  go_simp
  refine (refSame_yes _ _ _ _ _ _ (natL r) (natL r') _ hrd1 hrd2 hrl.symm (natL_len _).symm (by omega) (by rw [hrr])).mono ?_
  rintro e w2 ⟨rfl, nd, rfl⟩
  clear hr hr' hor hor' hrr hrl hrd1 hrd2
  go_wp2_with fail
  refine hK.out _ _ (KEEP.out _ (below_dN hHeld.2.2 _)) (fun hNew => ?_)
  clear hK K hHeld
  have hHeld := hNew
  clear hNew
  try simp only [Act.put, List.setIfInBounds_toArray, List.set_cons_zero, List.set_cons_succ]
  refine reg_take (i := 8) (v := ?v8) rfl (by kernel_rfl) rfl hHeld ?y8 ?r8
  case y8 => (intro w hSw; (try dsimp only at hSw); go_simp; all_goals with_reducible rfl)
  try simp only [Act.put, List.setIfInBounds_toArray, List.set_cons_zero, List.set_cons_succ]
  refine reg_take (i := 9) (v := ?v9) rfl (by kernel_rfl) rfl hHeld ?y9 ?r9
  case y9 => (intro w hSw; (try dsimp only at hSw); go_simp; all_goals with_reducible rfl)
  try simp only [Act.put, List.setIfInBounds_toArray, List.set_cons_zero, List.set_cons_succ]
  refine reg_take (i := 10) (v := ?v10) rfl (by kernel_rfl) rfl hHeld ?y10 ?r10
  case y10 => (intro w hSw; (try dsimp only at hSw); go_simp; all_goals with_reducible rfl)
  try simp only [Act.put, List.setIfInBounds_toArray, List.set_cons_zero, List.set_cons_succ]
  refine reg_take (i := 12) (v := ?v12) rfl (by kernel_rfl) rfl hHeld ?y12 ?r12
  case y12 => (intro w hSw; (try dsimp only at hSw); go_simp; all_goals with_reducible rfl)
  try simp only [Act.put, List.setIfInBounds_toArray, List.set_cons_zero, List.set_cons_succ]
  refine reg_take (i := 13) (v := ?v13) rfl (by kernel_rfl) rfl hHeld ?y13 ?r13
  case y13 => (intro w hSw; (try dsimp only at hSw); go_simp; all_goals with_reducible rfl)
  try simp only [Act.put, List.setIfInBounds_toArray, List.set_cons_zero, List.set_cons_succ]
  refine reg_loud (i := 11) rfl (by kernel_rfl) rfl (fun K hK => ?_)
  go_simp
  refine (last_at ta tc t rfl (HRT.out _ hHeld.2.2) hbt (by omega)).mono ?_
  rintro e w2 ⟨la, lc, l, rfl, hl, hol, hb2⟩
  go_wp2_with fail
  refine hK.out _ _ (KEEP.out _ (hHeld.2.2.trans (Below.mono hb2 hHeld.2.2.size))) (fun hNew => ?_)
  clear hK K hHeld
  have hHeld := hNew
  clear hNew
  try simp only [Act.put, List.setIfInBounds_toArray, List.set_cons_zero, List.set_cons_succ]
  refine reg_loud (i := 14) rfl (by kernel_rfl) rfl (fun K hK => ?_)
  go_simp
  refine (HLR.out _).mono ?_
  rintro e w2 ⟨l', hl', v, rfl, hol', hb2⟩
  obtain ⟨la', lc', rfl, _, _⟩ := own_slice hol'
  have hll := hl.same hl'
  have hln : l.length = t.length + 1 := hl.len
  have hld1 := (own_reads hol).below hb2
  have hld2 := own_reads hol'
  go_wp2_with fail
  refine hK.out _ _ (KEEP.out _ (hHeld.2.2.trans (Below.mono hb2 hHeld.2.2.size))) (fun hNew => ?_)
  clear hK K hHeld
  have hHeld := hNew
  clear hNew
  try simp only [Act.put, List.setIfInBounds_toArray, List.set_cons_zero, List.set_cons_succ]
  refine reg_loud (i := 15) rfl (by kernel_rfl) rfl (fun K hK => ?_)
  go_simp
  refine (refSame_yes _ _ _ _ _ _ l l' _ hld1 hld2 hln.symm rfl (by omega) hll).mono ?_
  rintro e w2 ⟨rfl, nd2, rfl⟩
  clear hl hl' hol hol' hll hln hld1 hld2
  go_wp2_with fail
  refine hK.out _ _ (KEEP.out _ (below_dN hHeld.2.2 _)) (fun hNew => ?_)
  clear hK K hHeld
  have hHeld := hNew
  clear hNew
  try simp only [Act.put, List.setIfInBounds_toArray, List.set_cons_zero, List.set_cons_succ]
  refine reg_take (i := 16) (v := ?v16) rfl (by kernel_rfl) rfl hHeld ?y16 ?r16
  case y16 => (intro w hSw; (try dsimp only at hSw); go_simp; all_goals with_reducible rfl)
  try simp only [Act.put, List.setIfInBounds_toArray, List.set_cons_zero, List.set_cons_succ]
  refine reg_take (i := 17) (v := ?v17) rfl (by kernel_rfl) rfl hHeld ?y17 ?r17
  case y17 => (intro w hSw; (try dsimp only at hSw); go_simp; all_goals with_reducible rfl)
  try simp only [Act.put, List.setIfInBounds_toArray, List.set_cons_zero, List.set_cons_succ]
  refine reg_take (i := 18) (v := ?v18) rfl (by kernel_rfl) rfl hHeld ?y18 ?r18
  case y18 => (intro w hSw; (try dsimp only at hSw); go_simp; all_goals with_reducible rfl)
  try simp only [Act.put, List.setIfInBounds_toArray, List.set_cons_zero, List.set_cons_succ]
  refine reg_take (i := 19) (v := ?v19) rfl (by kernel_rfl) rfl hHeld ?y19 ?r19
  case y19 => (intro w hSw; (try dsimp only at hSw); go_simp; all_goals with_reducible rfl)
  try simp only [Act.put, List.setIfInBounds_toArray, List.set_cons_zero, List.set_cons_succ]
  refine reg_take (i := 20) (v := ?v20) rfl (by kernel_rfl) rfl hHeld ?y20 ?r20
  case y20 => (intro w hSw; (try dsimp only at hSw); go_simp; all_goals with_reducible rfl)
  try simp only [Act.put, List.setIfInBounds_toArray, List.set_cons_zero, List.set_cons_succ]
  refine reg_take (i := 21) (v := ?v21) rfl (by kernel_rfl) rfl hHeld ?y21 ?r21
  case y21 => (intro w hSw; (try dsimp only at hSw); go_simp; all_goals with_reducible rfl)
  try simp only [Act.put, List.setIfInBounds_toArray, List.set_cons_zero, List.set_cons_succ]
  refine reg_take (i := 22) (v := ?v22) rfl (by kernel_rfl) rfl hHeld ?y22 ?r22
  case y22 => (intro w hSw; (try dsimp only at hSw); go_simp; all_goals with_reducible rfl)
  try simp only [Act.put, List.setIfInBounds_toArray, List.set_cons_zero, List.set_cons_succ]
  refine reg_take (i := 23) (v := ?v23) rfl (by kernel_rfl) rfl hHeld ?y23 ?r23
  case y23 => (intro w hSw; (try dsimp only at hSw); go_simp; all_goals with_reducible rfl)
  try simp only [Act.put, List.setIfInBounds_toArray, List.set_cons_zero, List.set_cons_succ]
  refine reg_take (i := 24) (v := ?v24) rfl (by kernel_rfl) rfl hHeld ?y24 ?r24
  case y24 => (intro w hSw; (try dsimp only at hSw); go_simp; all_goals with_reducible rfl)
  try simp only [Act.put, List.setIfInBounds_toArray, List.set_cons_zero, List.set_cons_succ]
  refine reg_take (i := 25) (v := ?v25) rfl (by kernel_rfl) rfl hHeld ?y25 ?r25
  case y25 => (intro w hSw; (try dsimp only at hSw); go_simp; all_goals with_reducible rfl)
  try simp only [Act.put, List.setIfInBounds_toArray, List.set_cons_zero, List.set_cons_succ]
  refine reg_take (i := 26) (v := ?v26) rfl (by kernel_rfl) rfl hHeld ?y26 ?r26
  case y26 => (intro w hSw; (try dsimp only at hSw); go_simp; all_goals with_reducible rfl)
  try simp only [Act.put, List.setIfInBounds_toArray, List.set_cons_zero, List.set_cons_succ]
  refine reg_take (i := 27) (v := ?v27) rfl (by kernel_rfl) rfl hHeld ?y27 ?r27
  case y27 => (intro w hSw; (try dsimp only at hSw); go_simp; all_goals with_reducible rfl)
  try simp only [Act.put, List.setIfInBounds_toArray, List.set_cons_zero, List.set_cons_succ]
  refine reg_take (i := 28) (v := ?v28) rfl (by kernel_rfl) rfl hHeld ?y28 ?r28
  case y28 => (intro w hSw; (try dsimp only at hSw); go_simp; all_goals with_reducible rfl)
  try simp only [Act.put, List.setIfInBounds_toArray, List.set_cons_zero, List.set_cons_succ]
  refine reg_take (i := 29) (v := ?v29) rfl (by kernel_rfl) rfl hHeld ?y29 ?r29
  case y29 => (intro w hSw; (try dsimp only at hSw); go_simp; all_goals with_reducible rfl)
  try simp only [Act.put, List.setIfInBounds_toArray, List.set_cons_zero, List.set_cons_succ]
  refine reg_take (i := 30) (v := ?v30) rfl (by kernel_rfl) rfl hHeld ?y30 ?r30
  case y30 => (intro w hSw; (try dsimp only at hSw); go_simp; all_goals with_reducible rfl)
  try simp only [Act.put, List.setIfInBounds_toArray, List.set_cons_zero, List.set_cons_succ]
  refine reg_loud (i := 31) rfl (by kernel_rfl) rfl (fun K hK => ?_)
  go_simp
  refine (same_yes a2 c2 z2 _ (HRM.out _ hHeld.2.2) (by omega)).mono ?_
  rintro e w2 ⟨rfl, nd3, rfl⟩
  go_wp2_with fail
  refine hK.out _ _ (KEEP.out _ (by rw [← World.drewN_drewN]; exact below_dN hHeld.2.2 _)) (fun hNew => ?_)
  clear hK K hHeld
  have hHeld := hNew
  clear hNew
  try simp only [Act.put, List.setIfInBounds_toArray, List.set_cons_zero, List.set_cons_succ]
  refine reg_take (i := 32) (v := ?v32) rfl (by kernel_rfl) rfl hHeld ?y32 ?r32
  case y32 => (intro w hSw; (try dsimp only at hSw); go_simp; all_goals with_reducible rfl)
  try simp only [Act.put, List.setIfInBounds_toArray, List.set_cons_zero, List.set_cons_succ]
  refine reg_take (i := 33) (v := ?v33) rfl (by kernel_rfl) rfl hHeld ?y33 ?r33
  case y33 => (intro w hSw; (try dsimp only at hSw); go_simp; all_goals with_reducible rfl)
  try simp only [Act.put, List.setIfInBounds_toArray, List.set_cons_zero, List.set_cons_succ]
  refine reg_done (by kernel_rfl) ?_ _
  -- END
  go_wp2_with fail
  go_ret
  exact ⟨rfl, HBX.out.trans (hHeld.2.2.mono HBX.out.size)⟩

end Go.Proofs.Ytpbmhdkhkbhgnaa
