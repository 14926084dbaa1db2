/- The walk of BlockPlays. -/
import Derived.Test.YtacoeohmdngnkaaDoorZb2
import Derived.Test.YtacoeohmdngnkaaDoorZb1
import Derived.Deep.DeepCutAuto
import Derived.Deep.CutBlock
import Derived.Deep.CutRange
namespace Go.Proofs.YtacoeohmdngnkaaDoor
set_option linter.unusedVariables false
set_option linter.unusedSimpArgs false
open Go.RowKit

set_option maxHeartbeats 12800000 in
set_option maxRecDepth 100000 in
theorem walk_BlockPlays (w : World) (hT : BitTab w) (a0 : Option Addr) (c0 : Nat) (z0 : List Int) (w0 : ArgI .i64 w a0 c0 z0) (a1 : Option Addr) (c1 : Nat) (z1 : List (Int × Int × Bool)) (w1 : ArgO w a1 c1 z1) :
    Calls Tryd.prog 6 #[.slice a0 z0.length c0, .slice a1 z1.length c1] w fun e w' => e = .returned (.bool true) ∧ Below w.heap.size w w' := by
  have hrd := w0.reads
  have hzm := Nat.le_trans w0.le w0.max
  have HRO := Lib.hid w1.reads
  have HWF := Lib.hid w1.wf
  have hz1 : z1.length ≤ c1 := w1.le
  have hc1 : c1 ≤ 9223372036854775807 := w1.max
  have HT := Lib.hid hT
  clear hT w0 w1
  go_enter Tryd.func6, Tryd.ntmps6
  go_wp2_with fail
  refine (lawBits_any a0 c0 z0 140 w hrd (by omega) hzm).mono ?_
  rintro e w1 ⟨l, hl, v, rfl, hown, hb1⟩
  have hs1 := hb1.size
  obtain ⟨a, c, rfl, hrm, _, _, _⟩ := own_row hown
  have HOWN := Lib.hid hown
  have HRM := Lib.hid hrm
  clear hown hrm hrd
  by_cases h128 : 128 < l.length
  · have hd : decide ((128 : Int) < (l.length : Int)) = true := by simp; omega
    go_wp2_with fail
    refine (blkNew_full _ _ _ _ h128).mono ?_
    rintro e w' ⟨rfl, rfl⟩
    go_wp2_with fail
    refine (told2_any _ (HT.out.below' hb1)).mono ?_
    rintro e w2 ⟨rfl, hb2⟩
    go_wp2_with fail
    go_ret
    exact ⟨rfl, hb1.trans (hb2.mono hs1)⟩
  · have hd : decide ((128 : Int) < (l.length : Int)) = false := by simp; omega
    go_wp2_with fail
    refine (new_blk (B := w.heap.size) l rfl HRM.out (by omega) hs1).mono ?_
    rintro e w2 ⟨rfl, hk, hb2⟩
    have hb := hb1.trans (hb2.mono hs1)
    have hs2 := hb.size
    have HO2 := Lib.hid (own_below HOWN.out hb2 (fun k hk => (own_lt HOWN.out hk).2))
    generalize w1.heap.size = p at *
    clear hb1 hb2 HOWN HRM hs1
    by_cases h60 : 60 < z1.length
    · have hd2 : decide ((60 : Int) < (z1.length : Int)) = true := by simp; omega
      go_wp2_with fail
      refine (told2_any _ (HT.out.below' hb)).mono ?_
      rintro e w3 ⟨rfl, hb3⟩
      go_wp2_with fail
      go_ret
      exact ⟨rfl, hb.trans (hb3.mono hs2)⟩
    · have hd2 : decide ((60 : Int) < (z1.length : Int)) = false := by simp; omega
      go_wp2_with fail
      go_loopw [5, 8] (fun v i wr => ∃ (k : Nat) (m : List Bool), k ≤ z1.length ∧ m.length ≤ 128 ∧ i = .int .i64 k ∧ BkAt w.heap.size wr p m ∧ wr.ownsRow w.heap.size 4 1 v m.length (m.map Value.bool) ∧ Below w.heap.size w wr) (fun _ i _ => z1.length - (intOf i).toNat)
      case atStart => exact ⟨0, l, Nat.zero_le _, by omega, rfl, hk, HO2.out, hb⟩
      case round =>
        clear hk HO2 hb hs2 hd hd2
        obtain ⟨k, m, hkz, hm, rfl, hk, hown, hb⟩ := hrel
        have hs := hb.size
        by_cases hlt : k < z1.length
        · obtain ⟨b, off, rfl, hbl, hcells⟩ := HRO.out k hlt
          obtain ⟨x0, x1, x2⟩ := hcells k hlt
          have x0 := (hb.cell (p := ⟨b, off + k * 3, none⟩) hbl).trans x0
          have x1 := (hb.cell (p := ⟨b, off + k * 3 + 1, none⟩) hbl).trans x1
          have x2 := (hb.cell (p := ⟨b, off + k * 3 + 2, none⟩) hbl).trans x2
          have hwf := HWF.out k hlt
          generalize (z1[k]?.getD default).1 = kd at *
          generalize (z1[k]?.getD default).2.1 = Ki at *
          generalize (z1[k]?.getD default).2.2 = bt at *
          have hK : -9223372036854775808 ≤ Ki ∧ Ki ≤ 9223372036854775807 := by
            simp [Lit.wf, IntKind.min, IntKind.max, IntKind.signed, IntKind.bits] at hwf; omega
          obtain ⟨hK0, hK1⟩ := hK
          obtain ⟨n, hn8, hn⟩ := and7 kd
          obtain ⟨a, c, rfl, _, hlc, hcm, hnil⟩ := own_row hown
          have HNIL := Lib.hid hnil
          have HPL : Hid (PlIn w.heap.size (wr.alloc (.cells #[.int .i64 kd, .int .i64 Ki, .bool bt] 45)) p m (.slice a m.length c) m wr.heap.size kd Ki bt) :=
            ⟨hk.below (below_alloc _ _), hown.alloc _, heap_alloc_new _ _, hs⟩
          have HBA : Hid (Below w.heap.size w (wr.alloc (.cells #[.int .i64 kd, .int .i64 Ki, .bool bt] 45))) := hb.alloc hs _
          clear hcells hwf hk hown hb hs hnil
          go_upto_block 2 with fail
          generalize wr.alloc (.cells #[.int .i64 kd, .int .i64 Ki, .bool bt] 45) = w4 at *
          generalize wr.heap.size = q at *
          clear x0 x1 x2
          go_cut [5] from 51 to 219 (fun v wx => ∃ (a' : Option Addr) (c' : Nat) (m' : List Bool), v = .slice a' m'.length c' ∧ m'.length ≤ 128 ∧ PlIn w.heap.size wx p m' (.slice a' m'.length c') m' q kd Ki bt ∧ Below w.heap.size w wx)
          case first => as_aux_lemma =>
            obtain ⟨g0, g1, g2⟩ := HPL.out.cells
            by_cases h4 : n < 4
            · have d4 : decide ((n : Int) < 4) = true := by simp; omega
              by_cases hfull : m.length = 128
              · as_aux_lemma =>
                have da : decide (128 ≤ (m.length : Int)) = true := by simp; omega
                have HFULL := Lib.hid hfull
                clear hfull
                go_wp2_with fail
                obtain ⟨g0, g1, g2⟩ := HPL.out.cells
                refine (blkInsert_full HPL.out.bk.1 HFULL.out Ki bt).mono ?_
                rintro e w' ⟨rfl, rfl⟩
                go_wp2_with fail
                go_meet
                case rel => exact ⟨a, c, m, rfl, hm, HPL.out, HBA.out⟩
              · have hlt128 : m.length < 128 := by omega
                have da : decide (128 ≤ (m.length : Int)) = false := by simp; omega
                clear hfull
                by_cases hin : 0 ≤ Ki ∧ Ki ≤ m.length
                · as_aux_lemma =>
                  obtain ⟨nK, hnK⟩ := Int.eq_ofNat_of_zero_le hin.1
                  have hnm : nK ≤ m.length := by omega
                  have db : decide (Ki < 0) = false := by simp; omega
                  have dc : decide ((m.length : Int) < Ki) = false := by simp; omega
                  have HNK := Lib.hid hnK
                  clear hin hnK
                  go_wp2_with fail
                  refine (ins_pl HPL.out HBA.out.size nK HNK.out hlt128 hnm).mono ?_
                  rintro e w5 ⟨rfl, hp5, hb5⟩
                  have HP5 := Lib.hid hp5
                  have HB5 := Lib.hid (HBA.out.trans hb5)
                  obtain ⟨g0, g1, g2⟩ := hp5.cells
                  clear hp5 hb5
                  go_wp2_with fail
                  have hin := refIn_any a c m nK bt w5 (readsV_own HP5.out.own) hnm hlc hcm (by omega) HNIL.out
                  have HIN := Lib.hid hin
                  clear hin
                  rw [HNK.out]
                  refine HIN.out.mono ?_
                  rintro e w6 ⟨v6, rfl, ho6, hb6⟩
                  have HP6 := Lib.hid (HP5.out.row HB5.out.size ho6 hb6)
                  have HB6 := Lib.hid (HB5.out.trans (hb6.mono HB5.out.size))
                  obtain ⟨a6, c6, rfl, _, _, _, _⟩ := own_row HP6.out.own
                  obtain ⟨g0, g1, g2⟩ := HP6.out.cells
                  clear ho6 hb6 HIN
                  go_wp2_with fail
                  go_meet
                  case rel => exact ⟨a6, c6, (inL m nK bt), rfl, by rw [inL_len hnm]; omega, HP6.out, HB6.out⟩
                · as_aux_lemma =>
                  have hor : Ki < 0 ∨ ((m.length : Int) < Ki ∧ decide (Ki < 0) = false) := by
                    by_cases h : Ki < 0
                    · exact Or.inl h
                    · exact Or.inr ⟨by omega, by simp; omega⟩
                  have hrange : Ki < 0 ∨ (m.length : Int) < Ki := by omega
                  have HRG := Lib.hid hrange
                  clear hin hrange
                  rcases hor with h | ⟨h, h'⟩
                  all_goals
                    go_wp2_with fail
                    obtain ⟨g0, g1, g2⟩ := HPL.out.cells
                    refine (blkInsert_range HPL.out.bk.1 hlt128 Ki HRG.out bt).mono ?_
                    rintro e w' ⟨rfl, rfl⟩
                    go_wp2_with fail
                    go_meet
                    case rel => exact ⟨a, c, m, rfl, hm, HPL.out, HBA.out⟩
            · have d4 : decide ((n : Int) < 4) = false := by simp; omega
              by_cases h6 : n < 6
              · have d6 : decide ((n : Int) < 6) = true := by simp; omega
                by_cases hin : 0 ≤ Ki ∧ Ki < m.length
                · as_aux_lemma =>
                  obtain ⟨nK, hnK⟩ := Int.eq_ofNat_of_zero_le hin.1
                  have hnm : nK < m.length := by omega
                  have HNK := Lib.hid hnK
                  clear hin hnK
                  go_wp2_with fail
                  refine (del_pl HPL.out HBA.out.size nK HNK.out hnm).mono ?_
                  rintro e w5 ⟨rfl, hp5, hb5⟩
                  have HP5 := Lib.hid hp5
                  have HB5 := Lib.hid (HBA.out.trans hb5)
                  obtain ⟨g0, g1, g2⟩ := hp5.cells
                  clear hp5 hb5
                  have hge := refGets a c m nK w5 (readsV_own HP5.out.own) hnm
                  rw [← HNK.out] at hge
                  have HGE := Lib.hid hge
                  have hou := refOut_any a c m nK w5 (readsV_own HP5.out.own) hnm hlc hcm (by omega) HNIL.out
                  rw [← HNK.out] at hou
                  have HOU := Lib.hid hou
                  clear hge hou
                  go_wp2_with fail
                  refine HGE.out.mono ?_
                  rintro e w' ⟨rfl, rfl⟩
                  generalize bitAt m nK = bb at *
                  cases bb
                  all_goals
                    go_wp2_with fail
                    refine HOU.out.mono ?_
                    rintro e w6 ⟨v6, rfl, ho6, hb6⟩
                    have HP6 := Lib.hid (HP5.out.row HB5.out.size ho6 hb6)
                    have HB6 := Lib.hid (HB5.out.trans (hb6.mono HB5.out.size))
                    obtain ⟨a6, c6, rfl, _, _, _, _⟩ := own_row HP6.out.own
                    obtain ⟨g0, g1, g2⟩ := HP6.out.cells
                    clear ho6 hb6
                    go_wp2_with fail
                    go_meet
                    case rel => exact ⟨a6, c6, (outL m nK), rfl, by rw [outL_len hnm]; omega, HP6.out, HB6.out⟩
                · as_aux_lemma =>
                  have HRG : Hid (Ki < 0 ∨ (m.length : Int) ≤ Ki) := by show _ ∨ _; omega
                  clear hin
                  go_wp2_with fail
                  obtain ⟨g0, g1, g2⟩ := HPL.out.cells
                  refine (blkDelete_bad HPL.out.bk.1 Ki HRG.out).mono ?_
                  rintro e w' ⟨rfl, rfl⟩
                  go_wp2_with fail
                  refine (refGets_bad a m.length c Ki _ HRG.out).mono ?_
                  rintro e w' ⟨rfl, rfl⟩
                  go_wp2_with fail
                  go_meet
                  case rel => exact ⟨a, c, m, rfl, hm, HPL.out, HBA.out⟩
              · have d6 : decide ((n : Int) < 6) = false := by simp; omega
                by_cases h66 : n = 6
                · as_aux_lemma =>
                  have dn6 : ((n : Int) == 6) = true := by rw [h66]; rfl
                  clear hn h4 h6 h66 hn8
                  go_wp2_with fail
                  refine (blkSplit HPL.out.bk.1).mono ?_
                  rintro e w5 ⟨qh, rfl, hqh, hq5, hp5, hc5⟩
                  have HP5 := Lib.hid (HPL.out.keep hc5 (fun b hb => by rw [hb]; exact ⟨_, HPL.out.bk.1.2⟩) ⟨hp5, HPL.out.bk.2⟩)
                  have HB5 := Lib.hid (HBA.out.trans (hc5.below (B := w.heap.size) (fun b hb => by rw [hb]; exact HPL.out.bk.2) HBA.out.size))
                  have HQ5 := Lib.hid hq5
                  have HQB : Hid (w.heap.size ≤ qh) := Nat.le_trans HBA.out.size hqh
                  have HPQ : Hid (p ≠ qh) := fun e => by have := HPL.out.bk.1.lt; omega
                  have hl1 : m.length / 2 = (m.take (m.length / 2)).length := by rw [List.length_take]; omega
                  have hl2 : m.length - m.length / 2 = (m.drop (m.length / 2)).length := by simp
                  have hll : (m.take (m.length / 2)).length + (m.drop (m.length / 2)).length ≤ 128 := by rw [← hl1, ← hl2]; omega
                  have hcat : m.take (m.length / 2) ++ m.drop (m.length / 2) = m := List.take_append_drop _ _
                  have e2 : IntKind.i64.wrap ((m.length : Int) / 2) = ((m.length / 2 : Nat) : Int) := by rw [IntWalk.i64_in] <;> omega
                  have hh : m.length / 2 ≤ m.length := Nat.div_le_self _ _
                  have hs1 := fun (w : World) => run_sliceTo (P := Tryd.prog) (w := w) (t := 39) (a := a) (len := m.length) (cap := c) (k := m.length / 2) Tryd.underlying39 (by kernel_rfl) (by omega)
                  have hs2 := fun (w : World) => run_sliceFrom (P := Tryd.prog) (w := w) (t := 39) (a := a) (len := m.length) (cap := c) (k := m.length / 2) Tryd.underlying39 (by kernel_rfl) (by omega)
                  generalize m.length / 2 = h2 at *
                  have HPD : Hid (PlIn w.heap.size w5.drew p (m.take h2) (.slice a m.length c) m q kd Ki bt) := ⟨⟨HP5.out.bk.1, HP5.out.bk.2⟩, HP5.out.own, HP5.out.o, HP5.out.hq⟩
                  have HQD : Hid (IsBlock w5.drew qh (m.drop h2)) := HQ5.out
                  have HBD : Hid (Below w.heap.size w w5.drew) := HB5.out.drew
                  have HRT : Hid (ReadsV w5.drew a ((m.take h2).map Value.bool)) := by
                    have := (readsV_own HPD.out.own).take h2
                    rw [← List.map_take] at this; exact this
                  have HRR : Hid (ReadsV w5.drew (offA a h2 c) ((m.drop h2).map Value.bool)) := by
                    have := (readsV_own HPD.out.own).drop (k := h2) (cap := c) (by simpa using hlc)
                    rw [← List.map_drop] at this; exact this
                  have HL1 := Lib.hid hl1
                  have HL2 := Lib.hid hl2
                  have HLL := Lib.hid hll
                  have HCAT := Lib.hid hcat
                  clear hqh hq5 hp5 hc5 hl1 hl2 hll hcat
                  go_wp2_with fail
                  refine reg_start (fun w' => w'.cell? ⟨q, 1, none⟩ = some (.int .i64 Ki)) (by kernel_rfl) (HPD.out.cells.2.1) (fun hHeld => ?_)
                  refine rt 0 hHeld ?_
                  refine rt 1 hHeld ?_
                  refine rt 2 hHeld ?_
                  refine rt 3 hHeld ?_
                  refine rt 4 hHeld ?_
                  refine rt 5 hHeld ?_
                  refine rt 6 hHeld ?_
                  refine rt 7 hHeld ?_
                  refine rt 8 hHeld ?_
                  refine rt 9 hHeld ?_
                  refine rt 10 hHeld ?_
                  refine reg_loud (i := 11) rfl (by kernel_rfl) rfl (fun K hK => ?_)
                  go_simp
                  refine (same_lit (m.take h2) HL1.out HPD.out.bk.1 (HT.out.below' HBD.out) a Ki HRT.out hK1).mono ?_
                  rintro e w6 ⟨rfl, hb6⟩
                  have HP6 := Lib.hid (HPD.out.below hb6)
                  have HQ6 := Lib.hid (HQD.out.below' hb6)
                  have HB6 := Lib.hid (HBD.out.trans (hb6.mono HBD.out.size))
                  have HRR6 := Lib.hid (HRR.out.below' hb6)
                  clear hb6
                  go_wp2_with fail
                  refine hK.out _ _ (HP6.out.cells.2.1) (fun hNew => ?_)
                  clear hK K hHeld
                  have hHeld := hNew
                  clear hNew
                  try simp only [Act.put, List.setIfInBounds_toArray, List.set_cons_zero, List.set_cons_succ]
                  refine rt 12 hHeld ?_
                  refine rt 13 hHeld ?_
                  refine rt 14 hHeld ?_
                  refine rt 15 hHeld ?_
                  refine rt 16 hHeld ?_
                  refine rt 17 hHeld ?_
                  refine rt 18 hHeld ?_
                  refine rt 19 hHeld ?_
                  refine rt 20 hHeld ?_
                  refine rt 21 hHeld ?_
                  refine rt 22 hHeld ?_
                  refine reg_loud (i := 23) rfl (by kernel_rfl) rfl (fun K hK => ?_)
                  go_simp
                  refine (same_lit (m.drop h2) HL2.out HQ6.out (HT.out.below' HB6.out) _ Ki HRR6.out hK1).mono ?_
                  rintro e w7 ⟨rfl, hb7⟩
                  have HP7 := Lib.hid (HP6.out.below hb7)
                  have HQ7 := Lib.hid (HQ6.out.below' hb7)
                  have HB7 := Lib.hid (HB6.out.trans (hb7.mono HB6.out.size))
                  clear hb7
                  go_wp2_with fail
                  refine hK.out _ _ (HP7.out.cells.2.1) (fun hNew => ?_)
                  clear hK K hHeld
                  have hHeld := hNew
                  clear hNew
                  try simp only [Act.put, List.setIfInBounds_toArray, List.set_cons_zero, List.set_cons_succ]
                  refine rt 24 hHeld ?_
                  refine rt 25 hHeld ?_
                  refine rt 26 hHeld ?_
                  refine rt 27 hHeld ?_
                  refine rt 28 hHeld ?_
                  refine reg_loud (i := 29) rfl (by kernel_rfl) rfl (fun K hK => ?_)
                  go_simp
                  refine (blkJoin HP7.out.bk.1 HQ7.out HPQ.out HLL.out).mono ?_
                  rintro e w8 ⟨rfl, hp8, hq8, hc8⟩
                  rw [HCAT.out] at hp8
                  have HP8 := Lib.hid (HP7.out.keep hc8 (fun b hb => by rcases hb with rfl | rfl; exact ⟨_, HP7.out.bk.1.2⟩; exact ⟨_, HQ7.out.2⟩) ⟨hp8, HP7.out.bk.2⟩)
                  have HQ8 := Lib.hid hq8
                  have HB8 := Lib.hid (HB7.out.trans (hc8.below (B := w.heap.size) (fun b hb => by rcases hb with rfl | rfl; exact HP7.out.bk.2; exact HQB.out) HB7.out.size))
                  clear hp8 hq8 hc8
                  go_wp2_with fail
                  refine hK.out _ _ (HP8.out.cells.2.1) (fun hNew => ?_)
                  clear hK K hHeld
                  have hHeld := hNew
                  clear hNew
                  try simp only [Act.put, List.setIfInBounds_toArray, List.set_cons_zero, List.set_cons_succ]
                  refine rt 30 hHeld ?_
                  refine rt 31 hHeld ?_
                  refine rt 32 hHeld ?_
                  refine rt 33 hHeld ?_
                  refine reg_loud (i := 34) rfl (by kernel_rfl) rfl (fun K hK => ?_)
                  go_simp
                  refine (blkLen HQ8.out).mono ?_
                  rintro e w' ⟨rfl, rfl⟩
                  go_wp2_with fail
                  refine hK.out _ _ (HP8.out.cells.2.1) (fun hNew => ?_)
                  clear hK K hHeld
                  have hHeld := hNew
                  clear hNew
                  try simp only [Act.put, List.setIfInBounds_toArray, List.set_cons_zero, List.set_cons_succ]
                  refine rt 35 hHeld ?_
                  refine rt 36 hHeld ?_
                  refine reg_done (by kernel_rfl) ?_ _
                  obtain ⟨g0, g1, g2⟩ := HP8.out.cells
                  clear hs1 hs2 e2 hHeld
                  go_wp2_with fail
                  go_meet
                  case rel => exact ⟨a, c, m, rfl, hm, HP8.out, HB8.out⟩
                · as_aux_lemma =>
                  have h77 : n = 7 := by omega
                  have dn6 : ((n : Int) == 6) = false := by rw [h77]; rfl
                  clear hn h4 h6 h66 hn8 h77
                  obtain ⟨z, hz60, ez⟩ := mod_nat Ki 60 (by omega) (by omega)
                  rw [show ((60 : Nat) : Int) = 60 from rfl] at ez
                  have hmk := make_bools z (by omega)
                  have hrl : (List.replicate z false).length = z := List.length_replicate
                  have HRL := Lib.hid hrl
                  have hvr : (vecL (fun _ => .bool false) z) = (List.replicate z false).map Value.bool := by
                    rw [List.map_replicate]
                    apply List.ext_getElem?
                    intro i
                    by_cases h : i < z
                    · rw [vecL_get h, List.getElem?_replicate, if_pos h]
                    · rw [List.getElem?_eq_none (by rw [vecL_len]; omega), List.getElem?_replicate, if_neg h]
                  have hrz : ReadsV (w4.alloc (.cells (vecL (fun _ => .bool false) z).toArray 4)) (some ⟨w4.heap.size, 0, none⟩) ((List.replicate z false).map Value.bool) := by
                    rw [← hvr]
                    exact readsV_block (T := 4) (heap_alloc_new w4 _)
                  have HRZ := Lib.hid hrz
                  have HPM := Lib.hid (HPL.out.below (below_alloc _ (.cells (vecL (fun _ => .bool false) z).toArray 4)))
                  have HBM := Lib.hid (HBA.out.alloc HBA.out.size (.cells (vecL (fun _ => .bool false) z).toArray 4))
                  clear hrl hvr hrz
                  go_wp2_with fail
                  generalize w4.alloc (.cells (vecL (fun _ => .bool false) z).toArray 4) = w5 at *
                  clear HPL HBA
                  have hnb := new_blk (B := w.heap.size) (List.replicate z false) HRL.out.symm HRZ.out (by rw [HRL.out]; omega) HBM.out.size (c := z)
                  refine hnb.mono ?_
                  rintro e w6 ⟨rfl, hq6, hb6⟩
                  have HP6 := Lib.hid (HPM.out.below hb6)
                  have HB6 := Lib.hid (HBM.out.trans (hb6.mono HBM.out.size))
                  have HQ6 := Lib.hid hq6
                  have HPQ : Hid (p ≠ w5.heap.size) := fun e => by have := HPM.out.bk.1.lt; omega
                  clear hnb hq6 hb6 hmk HRZ HPM HBM
                  generalize w5.heap.size = qh at *
                  go_wp2_with fail
                  refine (blkLen HQ6.out.1).mono ?_
                  rintro e w' ⟨rfl, rfl⟩
                  rw [HRL.out]
                  by_cases hfit : m.length + z ≤ 128
                  · as_aux_lemma =>
                    have df : decide ((m.length : Int) + (z : Int) ≤ 128) = true := by simp; omega
                    go_wp2_with fail
                    refine (blkJoin HP6.out.bk.1 HQ6.out.1 HPQ.out (by rw [HRL.out]; exact hfit)).mono ?_
                    rintro e w7 ⟨rfl, hp7, hq7, hc7⟩
                    have HP7 := Lib.hid (HP6.out.keep hc7 (fun b hb => by rcases hb with rfl | rfl; exact ⟨_, HP6.out.bk.1.2⟩; exact ⟨_, HQ6.out.1.2⟩) ⟨hp7, HP6.out.bk.2⟩)
                    have HB7 := Lib.hid (HB6.out.trans (hc7.below (B := w.heap.size) (fun b hb => by rcases hb with rfl | rfl; exact HP6.out.bk.2; exact HQ6.out.2) HB6.out.size))
                    have HZ : Hid ((w7.alloc (.cells #[] 4)).ownsRow w7.heap.size 4 1 (.slice (some ⟨w7.heap.size, 0, none⟩) 0 0) 0 []) := own_zero (Nat.le_refl _) (heap_alloc_new _ _)
                    have HRM : Hid (ReadsV (w7.alloc (.cells #[] 4)) a (m.map Value.bool)) := (readsV_own HP7.out.own).below' (below_alloc _ _)
                    clear hp7 hq7 hc7
                    go_wp2_with (at_builtin; refine wpList_appendL rfl _ _ 39 rfl w7.heap.size 4 Tryd.infoBoolR Tryd.underlying39 rfl _ 0 _ rfl HZ.out a m.length c (m.map Value.bool) rfl (by simp) HNIL.out HRM.out.hnews (oneB _) (by unfold maxLen; omega) (by omega) (by simp) ?_)
                    intro a8 c8 w8 hown8 hgrow8 _
                    have HB8 : Hid (Below w7.heap.size w7 w8) := ((Below.refl _ _).alloc (Nat.le_refl _) _).grown hgrow8 (by simp) (fun j hj => by simp [Value.ownBlock] at hj; omega)
                    have HO8 : Hid (w8.ownsRow w7.heap.size 4 1 (.slice a8 m.length c8) m.length (m.map Value.bool)) := by
                      show w8.ownsRow _ _ _ _ _ _
                      simpa using hown8
                    have hs8 := HB8.out.size
                    clear hown8 hgrow8 HZ HRM
                    go_wp2_with (at_builtin; refine wpList_appendM rfl _ _ 39 3 rfl w7.heap.size 4 Tryd.infoBoolR Tryd.underlying39 Tryd.underlying3 rfl rfl _ m.length _ rfl HO8.out z rfl (by omega) hs8 ?_)
                    intro v9 w9 hown9 hgrow9
                    have hb9 : Below w7.heap.size w7 w9 := HB8.out.grown hgrow9 hs8 (fun j hj => (own_lt HO8.out hj).1)
                    have ho9 : w9.ownsRow w7.heap.size 4 1 v9 (m ++ List.replicate z false).length ((m ++ List.replicate z false).map Value.bool) := by
                      rw [List.length_append, HRL.out, List.map_append, List.map_replicate]; exact hown9
                    have HP9 := Lib.hid (HP7.out.row HB7.out.size ho9 hb9)
                    have HB9 := Lib.hid (HB7.out.trans (hb9.mono HB7.out.size))
                    obtain ⟨a9, c9, rfl, _, _, _, _⟩ := own_row HP9.out.own
                    obtain ⟨g0, g1, g2⟩ := HP9.out.cells
                    clear hown9 hgrow9 hb9 ho9 HO8 HB8 hs8
                    go_wp2_with fail
                    go_meet
                    case rel => exact ⟨a9, c9, (m ++ List.replicate z false), rfl, by rw [List.length_append, HRL.out]; omega, HP9.out, HB9.out⟩
                  · as_aux_lemma =>
                    have df : decide ((m.length : Int) + (z : Int) ≤ 128) = false := by simp; omega
                    go_wp2_with fail
                    refine (blkJoin_full HP6.out.bk.1 HQ6.out.1 HPQ.out (by rw [HRL.out]; omega)).mono ?_
                    rintro e w7 ⟨rfl, nd, rfl⟩
                    have HP7 := Lib.hid (HP6.out.below (below_drewW (Below.refl w6.heap.size w6) nd))
                    have HB7 : Hid (Below w.heap.size w (w6.drewN nd)) := below_drewW HB6.out nd
                    generalize w6.drewN nd = w7 at *
                    obtain ⟨g0, g1, g2⟩ := HP7.out.cells
                    go_wp2_with fail
                    go_meet
                    case rel => exact ⟨a, c, m, rfl, hm, HP7.out, HB7.out⟩
          case rest => as_aux_lemma =>
            obtain ⟨a6, c6, m6, rfl, hm6, hp6, hb6⟩ := hcut
            have HP6 := Lib.hid hp6
            have HB6 := Lib.hid hb6
            obtain ⟨g0, g1, g2⟩ := HP6.out.cells
            clear hp6 hb6 HPL HBA hn hn8 HNIL
            go_wp2_with fail
            refine (same_any HP6.out.bk.1 (HT.out.below' HB6.out) a6 c6 Ki (readsV_own HP6.out.own) hK1).mono ?_
            rintro e wF ⟨rfl, hbF⟩
            have HPF := Lib.hid (HP6.out.below hbF)
            have hbG := HB6.out.trans (hbF.mono HB6.out.size)
            clear hbF
            go_wp2_with fail
            go_roundw
            case rel => exact ⟨k + 1, m6, by omega, hm6, by go_num, HPF.out.bk, HPF.out.own, hbG⟩
            case measure => simp [intOf]; omega
        · have hd3 : decide ((k : Int) < (z1.length : Int)) = false := by simp; omega
          go_wp2_with fail
          refine (told2_any _ (HT.out.below' hb)).mono ?_
          rintro e w3 ⟨rfl, hb3⟩
          go_wp2_with fail
          go_ret
          exact ⟨rfl, hb.trans (hb3.mono hs)⟩

end Go.Proofs.YtacoeohmdngnkaaDoor
