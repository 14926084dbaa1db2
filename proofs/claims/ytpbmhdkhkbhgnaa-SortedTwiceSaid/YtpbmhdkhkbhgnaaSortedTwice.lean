/- The walk of SortedTwice. -/
import Derived.Test.YtpbmhdkhkbhgnaaSortedX
namespace Go.Proofs.Ytpbmhdkhkbhgnaa
set_option linter.unusedVariables false
set_option linter.unusedSimpArgs false
open Go.RowKit

set_option maxHeartbeats 3200000 in
set_option maxRecDepth 100000 in
theorem walk_SortedTwice (w : World) (a0 : Option Addr) (c0 : Nat) (z0 : List Int) (w0 : ArgI .i64 w a0 c0 z0) :
    Calls Try.prog 7 #[.slice a0 z0.length c0] w fun e w' => e = .returned (.bool true) ∧ Below w.heap.size w w' := by
  have hrd := w0.reads
  have hzm := Nat.le_trans w0.le w0.max
  clear w0
  go_enter Try.func7, Try.ntmps7
  go_wp2_with fail
  refine (lawText_any a0 c0 z0 40 true w hrd (by omega) hzm).mono ?_
  rintro e w1 ⟨ta, tc, t, rfl, hbt, htl, hot, hb1⟩
  have hs1 := hb1.size
  have HOT := Lib.hid hot
  clear hot hrd
  by_cases hshort : t.length < 1
  · have d1 : decide (t.length < 1) = true := decide_eq_true (by omega)
    obtain rfl : t = [] := List.eq_nil_of_length_eq_zero (by omega)
    go_wp2_with fail
    refine (told9_any _).mono ?_
    rintro e w2 ⟨rfl, hb2⟩
    go_wp2_with fail
    go_ret
    exact ⟨rfl, hb1.trans (hb2.mono hs1)⟩
  have d1 : decide (t.length < 1) = false := decide_eq_false (by omega)
  obtain ⟨_, _, hte, hnil, _⟩ := own_slice HOT.out
  injection hte with e1 e2 e3
  subst e1; subst e3
  have HNIL := Lib.hid hnil
  have HZ : Hid ((w1.alloc (.cells #[] 5)).ownsRow w1.heap.size 5 1 (.slice (some ⟨w1.heap.size, 0, none⟩) 0 0) 0 []) := own_zero (Nat.le_refl _) (heap_alloc_new _ _)
  have HRT : Hid (ReadsV (w1.alloc (.cells #[] 5)) ta (t.map (Value.int .u8))) := (readsV_own HOT.out).below' (below_al w1 _)
  have hta : ∀ ad, ta = some ad → ad.block < w1.heap.size := by
    intro ad h
    obtain ⟨_, _, hv, _, hx⟩ := own_slice HOT.out
    injection hv with e1 _ _
    obtain ⟨g, rfl, _, h2, _⟩ := hx ad (by rw [← e1]; exact h)
    exact h2
  have HTA := Lib.hid hta
  clear hnil e2 hta
  go_wp2_with (at_builtin; refine wpList_appendL rfl _ _ 23 rfl w1.heap.size 5 Try.infoU8 Try.underlying23 rfl _ 0 _ rfl HZ.out ta t.length tc (t.map (Value.int .u8)) rfl (by simp) HNIL.out HRT.out.hnews (oneI .u8 _) (by unfold maxLen; omega) (by omega) (by simp) ?_)
  intro a3 c3 w3 hown3 hgrow3 _
  have HB3 : Hid (Below w1.heap.size w1 w3) := ((Below.refl _ _).alloc (Nat.le_refl _) _).grown hgrow3 (by simp) (fun j hj => by simp [Value.ownBlock] at hj; omega)
  have HO3 : Hid (w3.ownsRow w1.heap.size 5 1 (.slice a3 t.length c3) t.length (t.map (Value.int .u8))) := by
    show w3.ownsRow _ _ _ _ _ _
    simpa using hown3
  have HRT3 : Hid (ReadsV w3 ta (t.map (Value.int .u8))) := (readsV_own HOT.out).below' HB3.out
  clear hown3 hgrow3 HZ HRT
  have hs3 := HB3.out.size
  go_wp2_with (at_builtin; refine wpList_appendL rfl _ _ 23 rfl w1.heap.size 5 Try.infoU8 Try.underlying23 rfl _ t.length _ rfl HO3.out ta t.length tc (t.map (Value.int .u8)) rfl (by simp) HNIL.out HRT3.out.hnews (oneI .u8 _) (by unfold maxLen; omega) (by omega) hs3 ?_)
  intro a4 c4 w4 hown4 hgrow4 _
  have HB4 : Hid (Below w1.heap.size w1 w4) := HB3.out.grown hgrow4 hs3 (fun j hj => (own_lt HO3.out hj).1)
  have HD : Hid (Reads w4 .u8 a4 (t ++ t)) := by
    rw [← List.map_append] at hown4
    have hl : (t ++ t).length = t.length + t.length := by simp
    have h := own_reads hown4
    exact h
  have hbd : Bytes (t ++ t) := bytes_appendG hbt hbt
  have HBD := Lib.hid hbd
  have HOT4 := Lib.hid (own_below HOT.out HB4.out (fun k hk => (own_lt HOT.out hk).2))
  have HBW4 := Lib.hid (hb1.trans (HB4.out.mono hs1))
  have hdl : (t ++ t).length = t.length + t.length := by simp
  have HDL := Lib.hid hdl
  clear hown4 hgrow4 HO3 HRT3 HNIL HTA HB3 HB4 HOT hbd hdl hb1
  have hs4 := HBW4.out.size
  go_wp2_with fail
  refine (rows_at ta tc t rfl (own_reads HOT4.out) hbt (by omega)).mono ?_
  rintro e w5 ⟨ra, rc, r, rfl, hr, hor, hb5⟩
  have HR := Lib.hid hr
  have HOR := Lib.hid hor
  have HD5 := Lib.hid (HD.out.below hb5)
  have HB5 := Lib.hid (HBW4.out.trans (hb5.mono hs4))
  clear hr hor hb5 HD HOT4 HBW4 hs4
  go_wp2_with fail
  refine (rows_at a4 c4 (t ++ t) HDL.out.symm HD5.out HBD.out (by rw [HDL.out]; omega)).mono ?_
  rintro e w6 ⟨ba, bc, b, rfl, hbr, hob, hb6⟩
  rw [HDL.out] at hob
  have hlen : b.length = t.length + t.length + 1 := by rw [hbr.len, symsT_len, HDL.out]
  have hblt : ∀ k (hk : k < b.length), b[k] < t.length + t.length + 1 := fun k hk => by have := hbr.lt hk; rw [symsT_len, HDL.out] at this; exact this
  have hlate : r = lateL b t.length (t.length + t.length + 1) := by
    rw [symsT_append] at hbr
    have h2 := rows_behind hbr
    rw [List.length_map] at h2
    rw [lateL_all hlen]
    exact rows_unique HR.out h2
  have HL := Lib.hid hlen
  have HBL := Lib.hid hblt
  have HLA := Lib.hid hlate
  have HOB := Lib.hid hob
  have HB4 := Lib.hid (HB5.out.trans (hb6.mono HB5.out.size))
  have HOR4 := Lib.hid (own_below HOR.out hb6 (fun k hk => (own_lt HOR.out hk).2))
  rw [HDL.out]
  clear hlen hblt hlate hob hb6 hbr HOR HB5 HD5 HBD
  obtain ⟨n, hn⟩ : ∃ n, t.length + t.length + 1 = n := ⟨_, rfl⟩
  rw [hn] at HL HBL HLA HOB ⊢
  have HN := Lib.hid hn
  have hnm : n ≤ 81 := by omega
  have htn : t.length < n := by omega
  clear hn
  obtain ⟨u, hu⟩ : ∃ u, t.length = u := ⟨_, rfl⟩
  rw [hu] at htn HLA
  have HU := Lib.hid hu
  rw [hu]
  clear hu
  go_wp2_with fail
  go_loopw [7, 8] (fun v i wr => ∃ k : Nat, k ≤ n ∧ i = .int .i64 k ∧ wr.ownsRow w6.heap.size 3 1 v (lateL b u k).length ((lateL b u k).map natV) ∧ Below w6.heap.size w6 wr) (fun _ i _ => n - (intOf i).toNat)
  case atStart => exact ⟨0, Nat.zero_le _, rfl, World.ownsRow_nil _ _ _ _, Below.refl _ _⟩
  case round =>
    obtain ⟨k, hk, rfl, hown, hb⟩ := hrel
    have hs := hb.size
    obtain ⟨va, vc, rfl, _, _⟩ := own_slice hown
    by_cases hlt : k < n
    · obtain ⟨g, cap, hv, _, hg1, _, _, hcell, _⟩ := own_some HOB.out (by omega)
      injection hv with ha _ hc
      subst ha
      have hkl : k < b.length := by have := HL.out; omega
      have hc1' := (hb.cell (p := ⟨g, k, none⟩) hg1).trans (hcell k hlt)
      rw [List.getElem?_map, List.getElem?_eq_getElem hkl] at hc1'
      have hc2' : wr.cell? ⟨g, k, none⟩ = some (.int .i64 (b[k] : Int)) := hc1'
      have hbk := HBL.out k hkl
      have hstep := lateL_succ (u := u) hkl
      have hll := lateL_len b u k
      have HST := Lib.hid hstep
      have HOW := Lib.hid hown
      clear hcell hc1' hstep hc
      generalize b[k] = x at *
      clear hkl
      by_cases hx : u ≤ x
      · have d1 : decide (u ≤ x) = true := decide_eq_true (by omega)
        go_wp2_with (at_builtin; refine wpList_push rfl _ _ 22 rfl w6.heap.size 3 Try.infoIntG Try.underlying22 rfl _ _ _ rfl HOW.out rfl rfl (by unfold maxLen; omega) (by omega) (by omega) ?_)
        intro v' w7 hown' hgrow
        have HCH := Lib.hid (hb.grown hgrow hs (fun j hj => (HOW.out.lt j hj).1))
        have HO5 : Hid (w7.ownsRow w6.heap.size 3 1 v' (lateL b u (k + 1)).length ((lateL b u (k + 1)).map natV)) := by
          show w7.ownsRow _ _ _ _ _ _
          rw [HST.out, if_pos hx, List.length_append, List.map_append]
          have e : ((x - u : Nat) : Int) = (x : Int) - (u : Int) := by omega
          show w7.ownsRow _ _ _ _ ((lateL b u k).length + 1) ((lateL b u k).map natV ++ [.int .i64 ((x - u : Nat) : Int)])
          rw [e]; exact hown'
        clear hown hown' hgrow
        go_wp2_with fail
        go_roundw
        case rel => exact ⟨k + 1, by omega, by go_num, HO5.out, HCH.out⟩
        case measure => simp [intOf]; omega
      · have d1 : decide (u ≤ x) = false := decide_eq_false (by omega)
        go_wp2_with fail
        go_roundw
        case rel => exact ⟨k + 1, by omega, by go_num, by rw [HST.out, if_neg hx, List.append_nil]; exact HOW.out, hb⟩
        case measure => simp [intOf]; omega
    · obtain rfl : k = n := by omega
      rw [← HLA.out] at hown
      have hrl : r.length = u + 1 := by rw [HR.out.len, symsT_len, HU.out]
      rw [hrl] at hown
      have hll : (lateL b u k).length = u + 1 := by rw [← HLA.out]; exact hrl
      rw [hll]
      have HOW := Lib.hid hown
      have HBW := Lib.hid (HB4.out.trans (hb.mono HB4.out.size))
      have HORW := Lib.hid (own_below HOR4.out hb (fun k hk => (own_lt HOR4.out hk).2))
      have hsb := HBW.out.size
      have HRL := Lib.hid hrl
      clear hown hb hll hrl
      go_wp2_with fail
      refine (told9_any _).mono ?_
      rintro e w7 ⟨rfl, hb6⟩
      have hor := HORW.out
      rw [HU.out] at hor
      have h1 := (own_readsN hor).below hb6
      have h2 := (own_readsN HOW.out).below hb6
      have hln : (natL r).length = u + 1 := by rw [natL_len]; exact HRL.out
      have hsame := refSame_len ra va (u + 1) (u + 1) rc vc (natL r) (natL r) w7 h1 h2 hln.symm hln.symm (by omega)
      rw [show sameI (natL r) (natL r) = true from decide_eq_true rfl] at hsame
      have HSM := Lib.hid hsame
      have HBX := Lib.hid (HBW.out.trans (hb6.mono hsb))
      clear h1 h2 hln hsame hb6 hor
      go_wp2_with fail
      refine HSM.out.mono ?_
      rintro e w8 ⟨rfl, q, rfl⟩
      go_wp2_with fail
      go_ret
      exact ⟨rfl, below_dN HBX.out q⟩

end Go.Proofs.Ytpbmhdkhkbhgnaa
