/- The walk of SortedAhead. -/
import Derived.Test.YtpbmhdkhkbhgnaaSortedX
namespace Go.Proofs.Ytpbmhdkhkbhgnaa
set_option linter.unusedVariables false
set_option linter.unusedSimpArgs false
open Go.RowKit

set_option maxHeartbeats 3200000 in
set_option maxRecDepth 100000 in
theorem walk_SortedAhead (w : World) (a0 : Option Addr) (c0 : Nat) (z0 : List Int) (w0 : ArgI .i64 w a0 c0 z0) (a1 : Bool) (a2 : Int) (w2 : (Lit.int .u8 a2).wf = true) :
    Calls Try.prog 3 #[.slice a0 z0.length c0, .bool a1, .int .u8 a2] w fun e w' => e = .returned (.bool true) ∧ Below w.heap.size w w' := by
  have hrd := w0.reads
  have hzm := Nat.le_trans w0.le w0.max
  obtain ⟨hc0, hc1⟩ := bounds_u8 w2
  clear w0 w2
  go_enter Try.func3, Try.ntmps3
  go_wp2_with fail
  refine (lawText_any a0 c0 z0 50 a1 w hrd (by omega) hzm).mono ?_
  rintro e w1 ⟨ta, tc, t, rfl, hbt, htl, hot, hb1⟩
  have hs1 := hb1.size
  have HOT := Lib.hid hot
  clear hot hrd
  go_wp2_with fail
  refine (rows_at ta tc t rfl (own_reads HOT.out) hbt (by omega)).mono ?_
  rintro e w2 ⟨ra, rc, r, rfl, hr, hor, hb2⟩
  have HR := Lib.hid hr
  have HOR := Lib.hid hor
  have HB2 := Lib.hid (hb1.trans (hb2.mono hs1))
  have HOT2 := Lib.hid (own_below HOT.out hb2 (fun k hk => (own_lt HOT.out hk).2))
  have hs2 := HB2.out.size
  clear hr hor hb1 hb2 HOT
  obtain ⟨_, _, hte, hnil, _⟩ := own_slice HOT2.out
  injection hte with e1 e2 e3
  subst e1; subst e3
  have HNIL := Lib.hid hnil
  have hown2 := own_lit (e := 5) (base := w2.heap.size) (n := 1) [.int .u8 a2] w2 rfl (Nat.le_refl _) (by unfold maxLen; omega)
  have HO := Lib.hid hown2
  have HRT : Hid (ReadsV (w2.alloc (.cells #[.int .u8 a2] 5)) ta (t.map (Value.int .u8))) := (readsV_own HOT2.out).below' (below_al w2 _)
  clear hnil hown2 e2
  go_wp2_with (at_builtin; refine wpList_appendL rfl _ _ 23 rfl w2.heap.size 5 Try.infoU8 Try.underlying23 rfl _ 1 _ rfl HO.out ta t.length tc (t.map (Value.int .u8)) rfl (by simp) HNIL.out HRT.out.hnews (oneI .u8 _) (by unfold maxLen; omega) (by omega) (by simp) ?_)
  intro a3 c3 w3 hown3 hgrow3 _
  have hb3 : Below w2.heap.size w2 w3 := ((Below.refl _ _).alloc (Nat.le_refl _) _).grown hgrow3 (by simp) (fun j hj => by simp [Value.ownBlock] at hj; omega)
  have HD : Hid (Reads w3 .u8 a3 ([a2] ++ t)) := by
    have e : Value.int .u8 a2 :: t.map (Value.int .u8) = ([a2] ++ t).map (Value.int .u8) := rfl
    rw [e] at hown3
    exact own_reads hown3
  have hbd : Bytes ([a2] ++ t) := bytes_appendG (bytes_one (by omega) (by omega)) hbt
  have HBD := Lib.hid hbd
  have HB3 := Lib.hid (HB2.out.trans (hb3.mono hs2))
  have HOR3 := Lib.hid (own_below HOR.out hb3 (fun k hk => (own_lt HOR.out hk).2))
  have hdl : ([a2] ++ t).length = 1 + t.length := by simp; omega
  have HDL := Lib.hid hdl
  clear hown3 hgrow3 hb3 HO HRT HOT2 HNIL HOR HB2 hbd hdl
  go_wp2_with fail
  refine (rows_at a3 c3 ([a2] ++ t) HDL.out.symm HD.out HBD.out (by rw [HDL.out]; omega)).mono ?_
  rintro e w4 ⟨ba, bc, b, rfl, hbr, hob, hb4⟩
  rw [HDL.out] at hob
  have hlen : b.length = 1 + t.length + 1 := by rw [hbr.len, symsT_len, HDL.out]
  have hblt : ∀ k (hk : k < b.length), b[k] < 1 + t.length + 1 := fun k hk => by have := hbr.lt hk; rw [symsT_len, HDL.out] at this; exact this
  have hlate : r = lateL b 1 (1 + t.length + 1) := by
    rw [symsT_append] at hbr
    have h2 := rows_behind hbr
    rw [lateL_all hlen]
    exact rows_unique HR.out h2
  have HL := Lib.hid hlen
  have HBL := Lib.hid hblt
  have HLA := Lib.hid hlate
  have HOB := Lib.hid hob
  have HB4 := Lib.hid (HB3.out.trans (hb4.mono HB3.out.size))
  have HOR4 := Lib.hid (own_below HOR3.out hb4 (fun k hk => (own_lt HOR3.out hk).2))
  rw [HDL.out]
  clear hlen hblt hlate hob hb4 hbr HOR3 HB3 HD HBD
  obtain ⟨n, hn⟩ : ∃ n, 1 + t.length + 1 = n := ⟨_, rfl⟩
  have hn2 : n = t.length + 2 := by omega
  rw [hn] at HL HBL HLA HOB ⊢
  have HN := Lib.hid hn2
  have hnm : n ≤ 52 := by omega
  clear hn hn2
  go_wp2_with fail
  obtain ⟨W, hW⟩ : ∃ W, W = w4 := ⟨_, rfl⟩
  go_loopw [10, 11] (fun v i wr => ∃ k : Nat, k ≤ n ∧ i = .int .i64 k ∧ wr.ownsRow w4.heap.size 3 1 v (lateL b 1 k).length ((lateL b 1 k).map natV) ∧ Below w4.heap.size w4 wr) (fun _ i _ => n - (intOf i).toNat)
  case atStart => exact ⟨0, Nat.zero_le _, rfl, World.ownsRow_nil _ _ _ _, Below.refl _ _⟩
  case round =>
    clear hW W
    obtain ⟨k, hk, rfl, hown, hb⟩ := hrel
    have hs := hb.size
    obtain ⟨va, vc, rfl, _, _⟩ := own_slice hown
    by_cases hlt : k < n
    · obtain ⟨g, cap, hv, _, hg1, _, _, hcell, _⟩ := own_some HOB.out (by omega)
      injection hv with ha _ hc
      subst ha
      have hkl : k < b.length := by have := HL.out; omega
      have hc1' := (hb.cell (p := ⟨g, k, none⟩) hg1).trans (hcell k hlt)
      rw [List.getElem?_map, List.getElem?_eq_getElem hkl] at hc1'
      have hc2' : wr.cell? ⟨g, k, none⟩ = some (.int .i64 (b[k] : Int)) := hc1'
      have hbk := HBL.out k hkl
      have hstep := lateL_succ (u := 1) hkl
      have hll := lateL_len b 1 k
      have HST := Lib.hid hstep
      have HOW := Lib.hid hown
      clear hcell hc1' hstep hc
      generalize b[k] = x at *
      clear hkl
      by_cases hx : 1 ≤ x
      · have d1 : decide (0 < x) = true := by simp; omega
        have d2 : 0 < x := by omega
        go_wp2_with (at_builtin; refine wpList_push rfl _ _ 22 rfl w4.heap.size 3 Try.infoIntG Try.underlying22 rfl _ _ _ rfl HOW.out rfl rfl (by unfold maxLen; omega) (by omega) (by omega) ?_)
        intro v' w5 hown' hgrow
        have HCH := Lib.hid (hb.grown hgrow hs (fun j hj => (HOW.out.lt j hj).1))
        have HO5 : Hid (w5.ownsRow w4.heap.size 3 1 v' (lateL b 1 (k + 1)).length ((lateL b 1 (k + 1)).map natV)) := by
          show w5.ownsRow _ _ _ _ _ _
          rw [HST.out, if_pos hx, List.length_append, List.map_append]
          have e : ((x - 1 : Nat) : Int) = (x : Int) - 1 := by omega
          show w5.ownsRow _ _ _ _ ((lateL b 1 k).length + 1) ((lateL b 1 k).map natV ++ [.int .i64 ((x - 1 : Nat) : Int)])
          rw [e]; exact hown'
        clear hown hown' hgrow
        go_wp2_with fail
        go_roundw
        case rel => exact ⟨k + 1, by omega, by go_num, HO5.out, HCH.out⟩
        case measure => simp [intOf]; omega
      · obtain rfl : x = 0 := by omega
        have hc3' : wr.cell? ⟨g, k, none⟩ = some (.int .i64 0) := hc2'
        clear hc2'
        go_wp2_with fail
        go_roundw
        case rel => exact ⟨k + 1, by omega, by go_num, by rw [HST.out, if_neg hx, List.append_nil]; exact HOW.out, hb⟩
        case measure => simp [intOf]; omega
    · obtain rfl : k = n := by omega
      rw [← HLA.out] at hown
      have hrl : r.length = t.length + 1 := by rw [HR.out.len, symsT_len]
      rw [hrl] at hown
      have hll : (lateL b 1 k).length = t.length + 1 := by rw [← HLA.out]; exact hrl
      rw [hll]
      have HOW := Lib.hid hown
      have HBW := Lib.hid (HB4.out.trans (hb.mono HB4.out.size))
      have HORW := Lib.hid (own_below HOR4.out hb (fun k hk => (own_lt HOR4.out hk).2))
      have hsb := HBW.out.size
      have HRL := Lib.hid hrl
      clear hown hb hll hrl
      go_wp2_with fail
      refine (told9_any _).mono ?_
      rintro e w6 ⟨rfl, hb6⟩
      have h1 := (own_readsN HORW.out).below hb6
      have h2 := (own_readsN HOW.out).below hb6
      have hln : (natL r).length = t.length + 1 := by rw [natL_len]; exact HRL.out
      have hsame := same_ints ra va (t.length + 1) (t.length + 1) rc vc (natL r) (natL r) w6 h1 h2 hln.symm hln.symm (by omega) (by omega)
      rw [decide_eq_true rfl] at hsame
      have HSM := Lib.hid hsame
      have HBX := Lib.hid (HBW.out.trans (hb6.mono hsb))
      have ek : (k : Int) = (t.length : Int) + 1 + 1 := by have := HN.out; omega
      have dk : ((k : Int) == (t.length : Int) + 1 + 1) = true := by simp [ek]
      clear h1 h2 hln hsame hb6 ek
      go_wp2_with fail
      refine HSM.out.mono ?_
      rintro e w7 ⟨rfl, q, rfl⟩
      go_wp2_with fail
      go_ret
      exact ⟨rfl, below_dN HBX.out q⟩

end Go.Proofs.Ytpbmhdkhkbhgnaa
