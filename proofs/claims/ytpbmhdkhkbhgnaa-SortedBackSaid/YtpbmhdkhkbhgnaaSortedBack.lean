/- The walk of SortedBack. -/
import Derived.Test.YtpbmhdkhkbhgnaaSortedWrong
import Derived.Test.YtpbmhdkhkbhgnaaSortedRises
namespace Go.Proofs.Ytpbmhdkhkbhgnaa
set_option linter.unusedVariables false
set_option linter.unusedSimpArgs false
open Go.RowKit

theorem strOfNums_inj {x y : List Int} (hx : Bytes x) (hy : Bytes y) (h : strOfNums x = strOfNums y) : x = y := by
  have e : (x.map fun n => UInt8.ofNat n.toNat) = y.map fun n => UInt8.ofNat n.toNat := by rw [← strOfNums_data, ← strOfNums_data, h]
  have hl : x.length = y.length := by simpa using congrArg List.length e
  apply List.ext_getElem hl
  intro i h1 h2
  have h3 := congrArg (fun l => l[i]?) e
  simp only [List.getElem?_map, List.getElem?_eq_getElem h1, List.getElem?_eq_getElem h2, Option.map_some, Option.some.injEq] at h3
  have b1 := hx i h1
  have b2 := hy i h2
  rw [getD_eq h1] at b1
  rw [getD_eq h2] at b2
  have h4 := congrArg UInt8.toNat h3
  rw [UInt8.toNat_ofNat', UInt8.toNat_ofNat', Nat.mod_eq_of_lt (by omega), Nat.mod_eq_of_lt (by omega)] at h4
  omega
theorem cnt_take_succ {m : List Int} {k : Nat} (h : k < m.length) (s : Int) : cnt (m.take (k + 1)) s = cnt (m.take k) s + (if sy m k = s then 1 else 0) := by
  rw [List.take_succ_eq_append_getElem h, cnt_snoc, sy_in h]
theorem cnt_take_le (m : List Int) (k : Nat) (s : Int) : cnt (m.take k) s ≤ k := by
  unfold cnt
  have := List.countP_le_length (p := fun x => x == s) (l := m.take k)
  rw [List.length_take] at this
  omega

set_option maxHeartbeats 6400000 in
set_option maxRecDepth 100000 in
theorem walk_SortedBack (w : World) (a0 : Option Addr) (c0 : Nat) (z0 : List Int) (w0 : ArgI .i64 w a0 c0 z0) (a1 : Bool) (a2 : Int) (w2 : (Lit.int .i64 a2).wf = true) (a3 : Int) (w3 : (Lit.int .i64 a3).wf = true) :
    Calls Try.prog 6 #[.slice a0 z0.length c0, .bool a1, .int .i64 a2, .int .i64 a3] w fun e w' => e = .returned (.bool true) ∧ Below w.heap.size w w' := by
  have hrd := w0.reads
  have hzm := Nat.le_trans w0.le w0.max
  obtain ⟨u, hu0, hu1, hu⟩ : ∃ u : Int, 0 ≤ u ∧ u < 18446744073709551616 ∧ IntKind.u64.wrap a2 = u := ⟨IntKind.u64.wrap a2, by rw [IntKind.wrap_u64]; omega, by rw [IntKind.wrap_u64]; omega, rfl⟩
  obtain ⟨u2, hv0, hv1, hv⟩ : ∃ u : Int, 0 ≤ u ∧ u < 18446744073709551616 ∧ IntKind.u64.wrap a3 = u := ⟨IntKind.u64.wrap a3, by rw [IntKind.wrap_u64]; omega, by rw [IntKind.wrap_u64]; omega, rfl⟩
  have HU := Lib.hid hu
  have HV := Lib.hid hv
  clear w0 w2 w3 hu hv
  go_enter Try.func6, Try.ntmps6
  go_wp2_with fail
  refine (lawText_any a0 c0 z0 80 a1 w hrd (by omega) hzm).mono ?_
  rintro e w1 ⟨ta, tc, t, rfl, hbt, htl, hot, hb1⟩
  have hs1 := hb1.size
  have HOT := Lib.hid hot
  clear hot hrd
  go_wp2_with fail
  refine (last_at ta tc t rfl (own_reads HOT.out) hbt (by omega)).mono ?_
  rintro e w2 ⟨ma, mc, m, rfl, hm, hom, hb2⟩
  have hml : m.length = t.length + 1 := hm.len
  have HM := Lib.hid hm
  have HML := Lib.hid hml
  have HOM := Lib.hid hom
  have HOT2 := Lib.hid (own_below HOT.out hb2 (fun k hk => (own_lt HOT.out hk).2))
  have HB2 := Lib.hid (hb1.trans (hb2.mono hs1))
  clear hm hml hom hb1 hb2 HOT
  go_wp2_with fail
  refine (back_yes HM.out ma mc HML.out.symm (own_reads HOM.out) (by have := HML.out; omega)).mono ?_
  rintro e w3 ⟨ba, bc, rfl, hob, hb3⟩
  have HOM3 := Lib.hid (own_below HOM.out hb3 (fun k hk => (own_lt HOM.out hk).2))
  have HOT3 := Lib.hid (own_below HOT2.out hb3 (fun k hk => (own_lt HOT2.out hk).2))
  have HB3 := Lib.hid (HB2.out.trans (hb3.mono HB2.out.size))
  have hcv1 : (convert 23 9 (.slice ba t.length bc)).run Try.prog w3 = .ok (.string (strOfNums t)) w3 := conv_str (xs := t) (c := bc) Try.underlying23 Try.underlying5 Try.underlying9 (own_reads hob)
  have hcv2 : (convert 23 9 (.slice ta t.length tc)).run Try.prog w3 = .ok (.string (strOfNums t)) w3 := conv_str (xs := t) (c := tc) Try.underlying23 Try.underlying5 Try.underlying9 (own_reads HOT3.out)
  generalize hst : strOfNums t = st at *
  have HST := Lib.hid hst
  have hz := zero257
  clear hst hob hb3 HOM HOT2 HB2
  generalize hV : vecL (fun _ => Value.int .i64 0) 257 = V at *
  go_wp2_with fail
  clear hcv1 hcv2 hz
  have hq := heap_alloc_new w3 (.cells V.toArray 37)
  have hal := below_al w3 (.cells V.toArray 37)
  have hb4 := below_al (w3.alloc (.cells V.toArray 37)) (.cells #[.slice ta t.length tc] 23)
  have hal2 : Below w3.heap.size w3 ((w3.alloc (.cells V.toArray 37)).alloc (.cells #[.slice ta t.length tc] 23)) := hal.trans (hb4.mono (by simp))
  have hcell0 : ((w3.alloc (.cells V.toArray 37)).alloc (.cells #[.slice ta t.length tc] 23)).cell? ⟨w3.heap.size + 1, 0, none⟩ = some (.slice ta t.length tc) := by
    have h := heap_alloc_new (w3.alloc (.cells V.toArray 37)) (.cells #[.slice ta t.length tc] 23)
    rw [World.size_alloc] at h
    rw [cell_of_row _ (w3.heap.size + 1) 0 _ _ _ h]; rfl
  refine (symAll1 (w3.heap.size + 1) 1 ta tc t _ (by simp) hcell0 ((own_reads HOT3.out).below hal2) hbt (by omega)).mono ?_
  rintro e w4 ⟨v, rfl, hol, hb5⟩
  obtain ⟨gl, capl, rfl, hgl1, hgl2, _, _, hlc, _⟩ := own_some hol (by omega)
  have HQ : Hid (w4.heap[w3.heap.size]? = some (.cells (vecL (fun s => .int .i64 ((cnt (m.take 0) (s : Int) : Int) - (cnt ((symsT t).take 0) (s : Int) : Int))) 257).toArray 37 (0, 0))) := by
    show _ = _
    have e : vecL (fun (s : Nat) => Value.int .i64 ((cnt (m.take 0) (s : Int) : Int) - (cnt ((symsT t).take 0) (s : Int) : Int))) 257 = V := by rw [← hV]; exact vecL_congr (fun i _ => by simp [cnt])
    rw [e]
    exact below_heap hb5 (below_heap hb4 hq)
  have hba4 : Below w3.heap.size w3 w4 := hal2.trans (hb5.mono (by simp; omega))
  have HBA4 := Lib.hid hba4
  have HB4 := Lib.hid (HB3.out.trans (hba4.mono HB3.out.size))
  obtain ⟨gm, capm, hvm, hgmb, hgm1, _, _, hmc, _⟩ := own_some HOM3.out (by omega)
  injection hvm with hx1 _ hx3
  subst hx1; subst hx3
  have hgm3 : gm < w3.heap.size := hgm1
  have HMC : Hid (∀ W, Below w3.heap.size w3 W → ∀ i, i < t.length + 1 → W.cell? ⟨gm, i, none⟩ = some (.int .i64 (sy m i))) := by
    intro W hW i hi
    have := HML.out
    rw [(hW.cell (p := ⟨gm, i, none⟩) hgm3).trans (hmc i hi), List.getElem?_map, List.getElem?_eq_getElem (by omega), sy_in (by omega)]; rfl
  have HLC : Hid (∀ W, Below w4.heap.size w4 W → ∀ i, i < t.length + 1 → W.cell? ⟨gl, i, none⟩ = some (.int .i64 (sy (symsT t) i))) := by
    intro W hW i hi
    have e : t.map symV ++ [.int .i64 0] = (symsT t).map (Value.int .i64) := by simp [symsT, symV, Function.comp]
    have hl := symsT_len t
    rw [(hW.cell (p := ⟨gl, i, none⟩) hgl2).trans (hlc i hi), e, List.getElem?_map, List.getElem?_eq_getElem (by omega), sy_in (by omega)]; rfl
  have hQl : w3.heap.size < gl := by simp at hgl1; omega
  have hQ4 : w3.heap.size < w4.heap.size := by omega
  have hQB : w.heap.size ≤ w3.heap.size := HB3.out.size
  have hml := HML.out
  have hll : (symsT t).length = t.length + 1 := symsT_len t
  have HRG : Hid (∀ i, i < t.length + 1 → 0 ≤ sy m i ∧ sy m i < 257) := fun i hi => HM.out.range _ (by rw [sy_in (by omega)]; exact List.getElem_mem _)
  have HRL : Hid (∀ i, i < t.length + 1 → 0 ≤ sy (symsT t) i ∧ sy (symsT t) i < 257) := fun i hi => symsT_range (byteL_of hbt) _ (by rw [sy_in (by omega)]; exact List.getElem_mem _)
  have HLL := Lib.hid hll
  clear hq hal hb4 hal2 hol hlc hb5 hba4 hmc hgl1 hV hml hll hgm1
  obtain ⟨Q, hQ⟩ : ∃ Q, w3.heap.size = Q := ⟨_, rfl⟩
  rw [hQ] at HQ hQl hQ4 hQB hgm3
  obtain ⟨n, hn⟩ : ∃ n, t.length + 1 = n := ⟨_, rfl⟩
  have hn0 : 0 < n := by omega
  have hn81 : n ≤ 81 := by omega
  rw [hn] at HMC HLC HML HOM3 HRG HRL HLL
  clear hcell0
  go_upto_region 8 with fail
  have HN := Lib.hid hn
  have HQE := Lib.hid hQ
  clear hn hQ
  go_wp2_with fail
  go_loopw [15] (fun i wr => ∃ k : Nat, k ≤ n ∧ i = .int .i64 k ∧ wr.heap[Q]? = some (.cells (vecL (fun s => .int .i64 ((cnt (m.take k) (s : Int) : Int) - (cnt ((symsT t).take k) (s : Int) : Int))) 257).toArray 37 (0, 0)) ∧ Below Q w4 wr ∧ Chg (fun b => b = Q) w4 wr) (fun i _ => n - (intOf i).toNat)
  case atStart => exact ⟨0, Nat.zero_le _, rfl, HQ.out, Below.refl _ _, Chg.refl⟩
  case round =>
    obtain ⟨k, hk, rfl, hq, hbq, hcq⟩ := hrel
    by_cases hlt : k < n
    · have e1 := (hcq.cell (HMC.out w4 HBA4.out k hlt) (fun e => by have e : gm = Q := e; omega))
      have e2 := (hcq.cell (HLC.out w4 (Below.refl _ _) k hlt) (fun e => by have e : gl = Q := e; omega))
      obtain ⟨x, hx⟩ := Int.eq_ofNat_of_zero_le (HRG.out k hlt).1
      obtain ⟨y, hy⟩ := Int.eq_ofNat_of_zero_le (HRL.out k hlt).1
      have hx2 := (HRG.out k hlt).2
      have hy2 := (HRL.out k hlt).2
      rw [hx] at e1 hx2
      rw [hy] at e2 hy2
      have hx3 : x < 257 := by omega
      have hy3 : y < 257 := by omega
      have e3 := vec_cell hq hx3
      have e4 := vec_cell hq hy3
      have e5 : ∀ j, wr.frozen? ⟨Q, j, none⟩ = false := fun j => frozen_of_row wr Q j _ _ hq
      have f1 := e5 x
      have f2 := e5 y
      have b1 := cnt_take_le m k (x : Int)
      have b2 := cnt_take_le (symsT t) k (x : Int)
      have b3 := cnt_take_le m k (y : Int)
      have b4 := cnt_take_le (symsT t) k (y : Int)
      have s1 : ∀ s : Nat, cnt (m.take (k + 1)) (s : Int) = cnt (m.take k) (s : Int) + (if x = s then 1 else 0) := fun s => by
        rw [cnt_take_succ (by have := HML.out; omega), hx]
        by_cases e : x = s
        · subst e; simp
        · rw [if_neg e, if_neg (by omega)]
      have s2 : ∀ s : Nat, cnt ((symsT t).take (k + 1)) (s : Int) = cnt ((symsT t).take k) (s : Int) + (if y = s then 1 else 0) := fun s => by
        rw [cnt_take_succ (by have := HLL.out; omega), hy]
        by_cases e : y = s
        · subst e; simp
        · rw [if_neg e, if_neg (by omega)]
      have S1 := Lib.hid s1
      have S2 := Lib.hid s2
      have HQK := Lib.hid hq
      clear s1 s2 hq e5 hx hy hx2 hy2
      have hc2 : ∀ (p q : Int), Chg (fun b => b = Q) w4 ((wr.setCell ⟨Q, x, none⟩ (.int .i64 p)).setCell ⟨Q, y, none⟩ (.int .i64 q)) := fun p q => (hcq.setCell ⟨Q, x, none⟩ (Or.inl rfl) _).setCell ⟨Q, y, none⟩ (Or.inl rfl) _
      have HC2 := Lib.hid hc2
      have hv2 : ∀ (p q : Int), p = (cnt (m.take k) (x : Int) : Int) - (cnt ((symsT t).take k) (x : Int) : Int) + 1 → q = (if y = x then p else (cnt (m.take k) (y : Int) : Int) - (cnt ((symsT t).take k) (y : Int) : Int)) - 1 →
          ((wr.setCell ⟨Q, x, none⟩ (.int .i64 p)).setCell ⟨Q, y, none⟩ (.int .i64 q)).heap[Q]? = some (.cells (vecL (fun s => .int .i64 ((cnt (m.take (k + 1)) (s : Int) : Int) - (cnt ((symsT t).take (k + 1)) (s : Int) : Int))) 257).toArray 37 (0, 0)) := by
        intro p q hp hq
        rw [vec_set (vec_set HQK.out (.int .i64 p)) (.int .i64 q)]
        congr 3
        refine vecL_congr (fun s _ => ?_)
        have ix : (if x = s then (1 : Nat) else 0) = if s = x then 1 else 0 := by
          by_cases e : s = x
          · rw [if_pos e, if_pos e.symm]
          · rw [if_neg e, if_neg (fun h => e h.symm)]
        have iy : (if y = s then (1 : Nat) else 0) = if s = y then 1 else 0 := by
          by_cases e : s = y
          · rw [if_pos e, if_pos e.symm]
          · rw [if_neg e, if_neg (fun h => e h.symm)]
        rw [S1.out s, S2.out s, ix, iy]
        by_cases ey : s = y
        · by_cases ex : s = x
          · rw [if_pos ey, if_pos ex, if_pos ey, hq, if_pos (by omega), hp, ← ex]; congr 1; omega
          · rw [if_pos ey, if_neg ex, if_pos ey, hq, if_neg (by omega), ← ey]; congr 1; omega
        · by_cases ex : s = x
          · rw [if_neg ey, if_pos ex, if_pos ex, if_neg ey, hp, ← ex]; congr 1; omega
          · rw [if_neg ey, if_neg ex, if_neg ex, if_neg ey]; congr 1
      have HV2 := Lib.hid hv2
      clear hc2 hv2 HQK
      generalize hcx : (cnt (m.take k) (x : Int) : Int) - (cnt ((symsT t).take k) (x : Int) : Int) = X at *
      generalize hcy : (cnt (m.take k) (y : Int) : Int) - (cnt ((symsT t).take k) (y : Int) : Int) = Y at *
      have hX : -81 ≤ X ∧ X ≤ 81 := by omega
      have hY : -81 ≤ Y ∧ Y ≤ 81 := by omega
      obtain ⟨hX0, hX1⟩ := hX
      obtain ⟨hY0, hY1⟩ := hY
      clear hcx hcy b1 b2 b3 b4
      have dd : decide ((256 : Int) < (x : Int)) = false := decide_eq_false (by omega)
      have dd2 : decide ((x : Int) < 0) = false := decide_eq_false (by omega)
      by_cases hxy : y = x
      · subst hxy
        have hv := HV2.out (X + 1) (X + 1 - 1) rfl (by rw [if_pos rfl])
        rw [show X + 1 - 1 = X by omega] at hv
        have HVV := Lib.hid hv
        have HCC := Lib.hid (HC2.out (X + 1) X)
        clear hv e4
        go_wp2_with fail
        go_roundw
        case rel => exact ⟨k + 1, by omega, by go_num, HVV.out, HCC.out.below (fun b h => by rw [h]; exact Nat.le_refl _) (by omega), HCC.out⟩
        case measure => simp [intOf]; omega
      · have HVV := Lib.hid (HV2.out (X + 1) (Y - 1) rfl (by rw [if_neg hxy]))
        have HCC := Lib.hid (HC2.out (X + 1) (Y - 1))
        have hxy2 : ¬ x = y := fun e => hxy e.symm
        go_wp2_with fail
        go_roundw
        case rel => exact ⟨k + 1, by omega, by go_num, HVV.out, HCC.out.below (fun b h => by rw [h]; exact Nat.le_refl _) (by omega), HCC.out⟩
        case measure => simp [intOf]; omega
    · obtain rfl : k = n := by omega
      have hsum : ∀ s : Nat, (cnt (m.take k) (s : Int) : Int) - (cnt ((symsT t).take k) (s : Int) : Int) = 0 := by
        intro s
        rw [List.take_of_length_le (by rw [HML.out]; exact Nat.le_refl _), List.take_of_length_le (by rw [HLL.out]; exact Nat.le_refl _)]
        have : cnt m (s : Int) = cnt (symsT t) (s : Int) := HM.out.perm.countP_eq _
        omega
      rw [vecL_congr (g := fun _ => .int .i64 0) (fun i _ => by rw [hsum i])] at hq
      have HQZ := Lib.hid hq
      have HBW := Lib.hid (HB4.out.trans (hbq.mono hQB))
      have HB3W := Lib.hid ((HQE.out ▸ HBA4.out : Below Q w3 w4).trans hbq)
      clear hq hsum hcq hbq
      go_wp2_with fail
      go_loop [16] (fun i => ∃ j : Nat, j ≤ 257 ∧ i = .int .i64 j) (fun i => 257 - (intOf i).toNat)
      case atStart => exact ⟨0, by omega, rfl⟩
      case round =>
        obtain ⟨j, hj, rfl⟩ := hrel
        by_cases hlt : j < 257
        · have e1 := vec_cell HQZ.out hlt
          go_wp2_with fail
          go_round
          case rel => exact ⟨j + 1, by omega, by go_num⟩
          case measure => simp [intOf]; omega
        · obtain rfl : j = 257 := by omega
          rw [show ((257 : Nat) : Int) = 257 from rfl]
          have hu := HU.out
          have hv := HV.out
          obtain ⟨kk, hkk⟩ : ∃ kk : Nat, u % (k : Int) = (kk : Int) := ⟨(u % (k : Int)).toNat, by have := Int.emod_nonneg u (show (k : Int) ≠ 0 by omega); omega⟩
          have hkn : kk < k := by
            have := Int.emod_lt_of_pos u (show (0 : Int) < (k : Int) by omega)
            omega
          obtain ⟨xv, hxv⟩ : ∃ xv : Nat, u2 % 257 = (xv : Int) := ⟨(u2 % 257).toNat, by omega⟩
          have hownm := own_below HOM3.out HB3W.out (fun j hj => by simp [Value.ownBlock] at hj; omega)
          have HRM : Hid (ReadsV (wr.alloc (.cells #[] 3)) (some ⟨gm, 0, none⟩) (m.map (Value.int .i64))) := (readsV_own hownm).below' (below_al wr _)
          have HZ : Hid ((wr.alloc (.cells #[] 3)).ownsRow wr.heap.size 3 1 (.slice (some ⟨wr.heap.size, 0, none⟩) 0 0) 0 []) := own_zero (Nat.le_refl _) (heap_alloc_new _ _)
          have HOTW := Lib.hid (own_below HOT3.out (HB3W.out.mono (by have := HQE.out; omega) : Below w3.heap.size w3 wr) (fun j hj => (own_lt HOT3.out hj).2))
          have hgmw : gm < wr.heap.size := by have := HB3W.out.size; have := HQE.out; omega
          have hml := HML.out
          clear hownm hml HOM3
          go_wp2_with (at_builtin; refine wpList_appendL rfl _ _ 22 rfl wr.heap.size 3 Try.infoIntG Try.underlying22 rfl _ 0 _ rfl HZ.out (some ⟨gm, 0, none⟩) k mc (m.map (Value.int .i64)) rfl (by simp [HML.out]) (fun h => by cases h) HRM.out.hnews (oneI .i64 _) (by unfold maxLen; omega) (by omega) (by simp) ?_)
          intro xa xc w5 hown5 hgrow5 _
          have hb5 : Below wr.heap.size wr w5 := ((Below.refl _ _).alloc (Nat.le_refl _) _).grown hgrow5 (by simp) (fun j hj => by simp [Value.ownBlock] at hj; omega)
          have hox : w5.ownsRow wr.heap.size 3 1 (.slice xa k xc) k (m.map (Value.int .i64)) := by simpa using hown5
          obtain ⟨g, cap, hv5, hgb, hg1, hgc, hgm5, hcell, hfr⟩ := own_some hox (by omega)
          injection hv5 with ha hb hc
          subst ha; subst hc
          have hmk : kk < m.length := by rw [HML.out]; exact hkn
          have e1 : w5.cell? ⟨g, kk, none⟩ = some (.int .i64 (sy m kk)) := by
            rw [hcell kk hkn, List.getElem?_map, List.getElem?_eq_getElem hmk, sy_in hmk]; rfl
          have e2 := hfr kk
          have hset := own_set hox kk (.int .i64 (xv : Int))
          rw [← List.map_set] at hset
          have HSET := Lib.hid hset
          have hbw5 := HBW.out.trans (hb5.mono HBW.out.size)
          have hbs : Below w.heap.size w (w5.setCell ⟨g, kk, none⟩ (.int .i64 (xv : Int))) := below_setQ hbw5 hbw5.size (by have := HBW.out.size; omega) _
          have HB6 := Lib.hid hbs
          have hch6 : Below wr.heap.size wr (w5.setCell ⟨g, kk, none⟩ (.int .i64 (xv : Int))) := below_setQ hb5 hb5.size hgb _
          have HM6 : Hid ((w5.setCell ⟨g, kk, none⟩ (.int .i64 (xv : Int))).cell? ⟨gm, kk, none⟩ = some (.int .i64 (sy m kk))) := (hch6.cell (p := ⟨gm, kk, none⟩) hgmw).trans (HMC.out wr (by have := HQE.out; exact HB3W.out.mono (by omega)) kk hkn)
          have HT6 := Lib.hid (own_below HOTW.out hch6 (fun j hj => (own_lt HOTW.out hj).2))
          clear hown5 hgrow5 hox hcell hfr hset hbw5 hbs hch6 hb5 hb HRM HZ HOTW
          go_wp2_with fail
          clear e1 e2 hkk hxv hu hv
          generalize w5.setCell ⟨g, kk, none⟩ (.int .i64 (xv : Int)) = w6 at *
          have HXL : Hid ((m.set kk (xv : Int)).length = k) := by show _ = _; rw [List.length_set]; exact HML.out
          have HXR6 : Hid (Reads w6 .i64 (some ⟨g, 0, none⟩) (m.set kk (xv : Int))) := own_reads HSET.out
          have HX6 : Hid (w6.cell? ⟨g, kk, none⟩ = some (.int .i64 (xv : Int)) ∧ g < w6.heap.size ∧ gm < w6.heap.size) := by
            obtain ⟨g', cap', hv', _, hg', _, _, hcell', _⟩ := own_some HSET.out (by omega)
            injection hv' with h1 _ _; injection h1 with h1; injection h1 with h1 _ _
            subst h1
            refine ⟨?_, hg', World.block_lt_of_cell? w6 _ HM6.out⟩
            rw [hcell' kk hkn, List.getElem?_map, List.getElem?_eq_getElem (by rw [List.length_set]; exact hmk)]
            simp
          have HSM : Hid (sy m kk = (xv : Int) → m.set kk (xv : Int) = m) := fun e => by
            apply List.ext_getElem?
            intro j
            rw [List.getElem?_set]
            by_cases ej : kk = j
            · subst ej; rw [if_pos rfl, if_pos hmk, List.getElem?_eq_getElem hmk, ← sy_in hmk, e]
            · rw [if_neg ej]
          have HSN : Hid (sy m kk ≠ (xv : Int) → m.set kk (xv : Int) ≠ m) := fun e h => by
            have h2 := congrArg (fun l => l[kk]?) h
            rw [sy_in hmk] at e
            simp [hmk] at h2
            exact e h2.symm
          generalize hxk : (xv : Int) = xk at *
          generalize hmkv : sy m kk = mk at *
          clear hxk hmkv
          generalize m.set kk xk = x at *
          have hkeep : ∀ (W7 : World) (ca : Option Addr) (cn cc : Nat) (cl : List Int), Below w6.heap.size w6 W7 → Reads W7 .u8 ca cl → cn = cl.length → ∀ W, Below W7.heap.size W7 W → (W.cell? ⟨g, kk, none⟩ = some (.int .i64 xk) ∧ W.cell? ⟨gm, kk, none⟩ = some (.int .i64 mk)) ∧
              ((convert 23 9 (.slice ca cn cc)).run Try.prog W = .ok (.string (strOfNums cl)) W ∧ (convert 23 9 (.slice ta t.length tc)).run Try.prog W = .ok (.string (strOfNums t)) W) := by
            intro W7 ca cn cc cl h7 hr hn W hW
            subst hn
            have h8 : Below w6.heap.size w6 W := h7.trans (hW.mono h7.size)
            exact ⟨⟨(h8.cell (p := ⟨g, kk, none⟩) HX6.out.2.1).trans HX6.out.1, (h8.cell (p := ⟨gm, kk, none⟩) HX6.out.2.2).trans HM6.out⟩,
              conv_str (xs := cl) (c := cc) Try.underlying23 Try.underlying5 Try.underlying9 (hr.below hW),
              conv_str (xs := t) (c := tc) Try.underlying23 Try.underlying5 Try.underlying9 ((own_reads HT6.out).below h8)⟩
          have HKEEP := Lib.hid hkeep
          have hbd := HB6.out.size
          clear hkeep
          by_cases hex : ∃ cl, IsLast cl x
          · obtain ⟨cl, hcl⟩ := hex
            have HIS := Lib.hid hcl
            have hcb := bytes_byteL hcl.1
            have HCB := Lib.hid hcb
            have hcln : cl.length ≤ 81 := by have := hcl.len; have := HXL.out; omega
            refine (back_yes hcl _ _ HXL.out.symm HXR6.out (by rw [HXL.out]; omega)).mono ?_
            rintro e w7 ⟨ca, cc, rfl, hoc, hb7⟩
            have HKP := Lib.hid (HKEEP.out w7 ca cl.length cc cl hb7 (own_reads hoc) rfl)
            have HCR := Lib.hid (own_reads hoc)
            have HXR7 := Lib.hid (HXR6.out.below hb7)
            have HB7 := Lib.hid (HB6.out.trans (hb7.mono hbd))
            clear hcl hoc hb7 hcb HXR6 HKEEP
            by_cases hkx : mk = xk
            · have hxm := HSM.out hkx
              have hct : cl = t := HIS.out.unique (hxm ▸ HM.out)
              have hkp := HKP.out
              rw [show strOfNums cl = strOfNums t by rw [hct], ← hkx] at hkp
              have KEEP := Lib.hid hkp
              clear hkp hxm hct hkx HKP HM6 HX6 HSM HSN
              generalize strOfNums t = st2 at *
              go_wp2_with fail
              -- R e
              refine reg_start (fun w' => (w'.cell? ⟨g, kk, none⟩ = some (.int .i64 mk) ∧ w'.cell? ⟨gm, kk, none⟩ = some (.int .i64 mk)) ∧ ((convert 23 9 (.slice ca cl.length cc)).run Try.prog w' = .ok (.string st2) w' ∧ (convert 23 9 (.slice ta t.length tc)).run Try.prog w' = .ok (.string st2) w')) (by kernel_rfl) (KEEP.out _ (Below.refl _ _).drew) (fun hHeld => ?_)
              refine reg_loud (i := 0) rfl (by kernel_rfl) rfl (fun K hK => ?_)
              go_simp
              refine (told9_any _).mono ?_
              rintro e w8 ⟨rfl, hb8⟩
              have HK8 : Hid (Below w7.heap.size w7 w8) := ((Below.refl _ _).drew : Below w7.heap.size w7 w7.drew).trans hb8
              clear hb8
              go_wp2_with fail
              refine hK.out _ _ (KEEP.out _ HK8.out) (fun hNew => ?_)
              clear hK K hHeld
              have hHeld := hNew
              clear hNew
              try simp only [Act.put, List.setIfInBounds_toArray, List.set_cons_zero, List.set_cons_succ]
              refine reg_take (i := 1) (v := ?ve1) rfl (by kernel_rfl) rfl hHeld ?ye1 ?re1
              case ye1 => (intro w hSw; (try dsimp only at hSw); go_simp; all_goals with_reducible rfl)
              try simp only [Act.put, List.setIfInBounds_toArray, List.set_cons_zero, List.set_cons_succ]
              refine reg_take (i := 2) (v := ?ve2) rfl (by kernel_rfl) rfl hHeld ?ye2 ?re2
              case ye2 => (intro w hSw; (try dsimp only at hSw); go_simp; all_goals with_reducible rfl)
              try simp only [Act.put, List.setIfInBounds_toArray, List.set_cons_zero, List.set_cons_succ]
              refine reg_take (i := 3) (v := ?ve3) rfl (by kernel_rfl) rfl hHeld ?ye3 ?re3
              case ye3 => (intro w hSw; (try dsimp only at hSw); go_simp; all_goals with_reducible rfl)
              try simp only [Act.put, List.setIfInBounds_toArray, List.set_cons_zero, List.set_cons_succ]
              refine reg_take (i := 4) (v := ?ve4) rfl (by kernel_rfl) rfl hHeld ?ye4 ?re4
              case ye4 => (intro w hSw; (try dsimp only at hSw); go_simp; all_goals with_reducible rfl)
              try simp only [Act.put, List.setIfInBounds_toArray, List.set_cons_zero, List.set_cons_succ]
              refine reg_take (i := 5) (v := ?ve5) rfl (by kernel_rfl) rfl hHeld ?ye5 ?re5
              case ye5 => (intro w hSw; (try dsimp only at hSw); go_simp; all_goals with_reducible rfl)
              try simp only [Act.put, List.setIfInBounds_toArray, List.set_cons_zero, List.set_cons_succ]
              refine reg_take (i := 7) (v := ?ve7) rfl (by kernel_rfl) rfl hHeld ?ye7 ?re7
              case ye7 => (intro w hSw; (try dsimp only at hSw); go_simp; all_goals with_reducible rfl)
              try simp only [Act.put, List.setIfInBounds_toArray, List.set_cons_zero, List.set_cons_succ]
              refine reg_loud (i := 6) rfl (by kernel_rfl) rfl (fun K hK => ?_)
              go_simp
              refine (last_at ca cc cl rfl (HCR.out.below HK8.out) HCB.out (by omega)).mono ?_
              rintro e w9 ⟨la, lc, m9, rfl, hm9, ho9, hb9⟩
              have HK9 := Lib.hid (HK8.out.trans (hb9.mono HK8.out.size))
              have HM9 : Hid (m9 = x) := hm9.same HIS.out
              have HR9 := Lib.hid (own_reads ho9)
              have HL9 := Lib.hid hm9.len
              clear hm9 ho9 hb9
              go_wp2_with fail
              refine hK.out _ _ (KEEP.out _ HK9.out) (fun hNew => ?_)
              clear hK K hHeld
              have hHeld := hNew
              clear hNew
              try simp only [Act.put, List.setIfInBounds_toArray, List.set_cons_zero, List.set_cons_succ]
              refine reg_loud (i := 8) rfl (by kernel_rfl) rfl (fun K hK => ?_)
              go_simp
              refine (same_ints la (some ⟨g, 0, none⟩) (cl.length + 1) k lc _ m9 x w9 HR9.out (HXR7.out.below HK9.out) HL9.out.symm HXL.out.symm (by have := HL9.out; omega) (by have := HXL.out; omega)).mono ?_
              rintro e w' ⟨rfl, q9, rfl⟩
              rw [decide_eq_true HM9.out]
              have HK10 := Lib.hid (below_dN HK9.out q9)
              go_wp2_with fail
              refine hK.out _ _ (KEEP.out _ HK10.out) (fun hNew => ?_)
              clear hK K hHeld
              have hHeld := hNew
              clear hNew
              try simp only [Act.put, List.setIfInBounds_toArray, List.set_cons_zero, List.set_cons_succ]
              refine reg_take (i := 9) (v := ?ve9) rfl (by kernel_rfl) rfl hHeld ?ye9 ?re9
              case ye9 => (intro w hSw; (try dsimp only at hSw); go_simp; all_goals with_reducible rfl)
              try simp only [Act.put, List.setIfInBounds_toArray, List.set_cons_zero, List.set_cons_succ]
              refine reg_take (i := 10) (v := ?ve10) rfl (by kernel_rfl) rfl hHeld ?ye10 ?re10
              case ye10 => (intro w hSw; (try dsimp only at hSw); go_simp; all_goals with_reducible rfl)
              try simp only [Act.put, List.setIfInBounds_toArray, List.set_cons_zero, List.set_cons_succ]
              refine reg_take (i := 11) (v := ?ve11) rfl (by kernel_rfl) rfl hHeld ?ye11 ?re11
              case ye11 => (intro w hSw; (try dsimp only at hSw); go_simp; all_goals with_reducible rfl)
              try simp only [Act.put, List.setIfInBounds_toArray, List.set_cons_zero, List.set_cons_succ]
              refine reg_take (i := 12) (v := ?ve12) rfl (by kernel_rfl) rfl hHeld ?ye12 ?re12
              case ye12 => (intro w hSw; (try dsimp only at hSw); go_simp; all_goals with_reducible rfl)
              try simp only [Act.put, List.setIfInBounds_toArray, List.set_cons_zero, List.set_cons_succ]
              refine reg_take (i := 13) (v := ?ve13) rfl (by kernel_rfl) rfl hHeld ?ye13 ?re13
              case ye13 => (intro w hSw; (try dsimp only at hSw); go_simp; all_goals with_reducible rfl)
              try simp only [Act.put, List.setIfInBounds_toArray, List.set_cons_zero, List.set_cons_succ]
              refine reg_take (i := 14) (v := ?ve14) rfl (by kernel_rfl) rfl hHeld ?ye14 ?re14
              case ye14 => (intro w hSw; (try dsimp only at hSw); go_simp; all_goals with_reducible rfl)
              try simp only [Act.put, List.setIfInBounds_toArray, List.set_cons_zero, List.set_cons_succ]
              refine reg_take (i := 15) (v := ?ve15) rfl (by kernel_rfl) rfl hHeld ?ye15 ?re15
              case ye15 => (intro w hSw; (try dsimp only at hSw); go_simp; all_goals with_reducible rfl)
              try simp only [Act.put, List.setIfInBounds_toArray, List.set_cons_zero, List.set_cons_succ]
              refine reg_take (i := 16) (v := ?ve16) rfl (by kernel_rfl) rfl hHeld ?ye16 ?re16
              case ye16 => (intro w hSw; (try dsimp only at hSw); go_simp; all_goals with_reducible rfl)
              try simp only [Act.put, List.setIfInBounds_toArray, List.set_cons_zero, List.set_cons_succ]
              refine reg_take (i := 17) (v := ?ve17) rfl (by kernel_rfl) rfl hHeld ?ye17 ?re17
              case ye17 => (intro w hSw; (try dsimp only at hSw); go_simp; all_goals with_reducible rfl)
              try simp only [Act.put, List.setIfInBounds_toArray, List.set_cons_zero, List.set_cons_succ]
              refine reg_take (i := 18) (v := ?ve18) rfl (by kernel_rfl) rfl hHeld ?ye18 ?re18
              case ye18 => (intro w hSw; (try dsimp only at hSw); go_simp; all_goals with_reducible rfl)
              try simp only [Act.put, List.setIfInBounds_toArray, List.set_cons_zero, List.set_cons_succ]
              refine reg_take (i := 19) (v := ?ve19) rfl (by kernel_rfl) rfl hHeld ?ye19 ?re19
              case ye19 => (intro w hSw; (try dsimp only at hSw); go_simp; all_goals with_reducible rfl)
              try simp only [Act.put, List.setIfInBounds_toArray, List.set_cons_zero, List.set_cons_succ]
              refine reg_take (i := 20) (v := ?ve20) rfl (by kernel_rfl) rfl hHeld ?ye20 ?re20
              case ye20 => (intro w hSw; (try dsimp only at hSw); go_simp; all_goals with_reducible rfl)
              try simp only [Act.put, List.setIfInBounds_toArray, List.set_cons_zero, List.set_cons_succ]
              refine reg_take (i := 21) (v := ?ve21) rfl (by kernel_rfl) rfl hHeld ?ye21 ?re21
              case ye21 => (intro w hSw; (try dsimp only at hSw); go_simp; all_goals with_reducible rfl)
              try simp only [Act.put, List.setIfInBounds_toArray, List.set_cons_zero, List.set_cons_succ]
              refine reg_take (i := 22) (v := ?ve22) rfl (by kernel_rfl) rfl hHeld ?ye22 ?re22
              case ye22 => (intro w hSw; (try dsimp only at hSw); go_simp; all_goals with_reducible rfl)
              try simp only [Act.put, List.setIfInBounds_toArray, List.set_cons_zero, List.set_cons_succ]
              refine reg_take (i := 23) (v := ?ve23) rfl (by kernel_rfl) rfl hHeld ?ye23 ?re23
              case ye23 => (intro w hSw; (try dsimp only at hSw); go_simp; all_goals with_reducible rfl)
              try simp only [Act.put, List.setIfInBounds_toArray, List.set_cons_zero, List.set_cons_succ]
              refine reg_take (i := 24) (v := ?ve24) rfl (by kernel_rfl) rfl hHeld ?ye24 ?re24
              case ye24 => (intro w hSw; (try dsimp only at hSw); go_simp; all_goals with_reducible rfl)
              try simp only [Act.put, List.setIfInBounds_toArray, List.set_cons_zero, List.set_cons_succ]
              refine reg_take (i := 25) (v := ?ve25) rfl (by kernel_rfl) rfl hHeld ?ye25 ?re25
              case ye25 => (intro w hSw; (try dsimp only at hSw); go_simp; all_goals with_reducible rfl)
              try simp only [Act.put, List.setIfInBounds_toArray, List.set_cons_zero, List.set_cons_succ]
              refine reg_take (i := 26) (v := ?ve26) rfl (by kernel_rfl) rfl hHeld ?ye26 ?re26
              case ye26 => (intro w hSw; (try dsimp only at hSw); go_simp; all_goals with_reducible rfl)
              try simp only [Act.put, List.setIfInBounds_toArray, List.set_cons_zero, List.set_cons_succ]
              refine reg_take (i := 27) (v := ?ve27) rfl (by kernel_rfl) rfl hHeld ?ye27 ?re27
              case ye27 => (intro w hSw; (try dsimp only at hSw); go_simp; all_goals with_reducible rfl)
              try simp only [Act.put, List.setIfInBounds_toArray, List.set_cons_zero, List.set_cons_succ]
              refine reg_take (i := 28) (v := ?ve28) rfl (by kernel_rfl) rfl hHeld ?ye28 ?re28
              case ye28 => (intro w hSw; (try dsimp only at hSw); go_simp; all_goals with_reducible rfl)
              try simp only [Act.put, List.setIfInBounds_toArray, List.set_cons_zero, List.set_cons_succ]
              refine reg_take (i := 29) (v := ?ve29) rfl (by kernel_rfl) rfl hHeld ?ye29 ?re29
              case ye29 => (intro w hSw; (try dsimp only at hSw); go_simp; all_goals with_reducible rfl)
              try simp only [Act.put, List.setIfInBounds_toArray, List.set_cons_zero, List.set_cons_succ]
              refine reg_take (i := 30) (v := ?ve30) rfl (by kernel_rfl) rfl hHeld ?ye30 ?re30
              case ye30 => (intro w hSw; (try dsimp only at hSw); go_simp; all_goals with_reducible rfl)
              try simp only [Act.put, List.setIfInBounds_toArray, List.set_cons_zero, List.set_cons_succ]
              refine reg_take (i := 31) (v := ?ve31) rfl (by kernel_rfl) rfl hHeld ?ye31 ?re31
              case ye31 => (intro w hSw; (try dsimp only at hSw); go_simp; all_goals with_reducible rfl)
              try simp only [Act.put, List.setIfInBounds_toArray, List.set_cons_zero, List.set_cons_succ]
              refine reg_take (i := 32) (v := ?ve32) rfl (by kernel_rfl) rfl hHeld ?ye32 ?re32
              case ye32 => (intro w hSw; (try dsimp only at hSw); go_simp; all_goals with_reducible rfl)
              try simp only [Act.put, List.setIfInBounds_toArray, List.set_cons_zero, List.set_cons_succ]
              refine reg_take (i := 33) (v := ?ve33) rfl (by kernel_rfl) rfl hHeld ?ye33 ?re33
              case ye33 => (intro w hSw; (try dsimp only at hSw); go_simp; all_goals with_reducible rfl)
              try simp only [Act.put, List.setIfInBounds_toArray, List.set_cons_zero, List.set_cons_succ]
              refine reg_take (i := 34) (v := ?ve34) rfl (by kernel_rfl) rfl hHeld ?ye34 ?re34
              case ye34 => (intro w hSw; (try dsimp only at hSw); go_simp; all_goals with_reducible rfl)
              try simp only [Act.put, List.setIfInBounds_toArray, List.set_cons_zero, List.set_cons_succ]
              refine reg_skip (i := 35) rfl (by kernel_rfl) rfl hHeld ?_
              try simp only [Act.put, List.setIfInBounds_toArray, List.set_cons_zero, List.set_cons_succ]
              refine reg_skip (i := 36) rfl (by kernel_rfl) rfl hHeld ?_
              try simp only [Act.put, List.setIfInBounds_toArray, List.set_cons_zero, List.set_cons_succ]
              refine reg_skip (i := 37) rfl (by kernel_rfl) rfl hHeld ?_
              try simp only [Act.put, List.setIfInBounds_toArray, List.set_cons_zero, List.set_cons_succ]
              refine reg_skip (i := 38) rfl (by kernel_rfl) rfl hHeld ?_
              try simp only [Act.put, List.setIfInBounds_toArray, List.set_cons_zero, List.set_cons_succ]
              refine reg_skip (i := 39) rfl (by kernel_rfl) rfl hHeld ?_
              try simp only [Act.put, List.setIfInBounds_toArray, List.set_cons_zero, List.set_cons_succ]
              refine reg_skip (i := 40) rfl (by kernel_rfl) rfl hHeld ?_
              try simp only [Act.put, List.setIfInBounds_toArray, List.set_cons_zero, List.set_cons_succ]
              refine reg_skip (i := 41) rfl (by kernel_rfl) rfl hHeld ?_
              try simp only [Act.put, List.setIfInBounds_toArray, List.set_cons_zero, List.set_cons_succ]
              refine reg_skip (i := 42) rfl (by kernel_rfl) rfl hHeld ?_
              try simp only [Act.put, List.setIfInBounds_toArray, List.set_cons_zero, List.set_cons_succ]
              refine reg_skip (i := 43) rfl (by kernel_rfl) rfl hHeld ?_
              try simp only [Act.put, List.setIfInBounds_toArray, List.set_cons_zero, List.set_cons_succ]
              refine reg_take (i := 44) (v := ?ve44) rfl (by kernel_rfl) rfl hHeld ?ye44 ?re44
              case ye44 => (intro w hSw; (try dsimp only at hSw); go_simp; all_goals with_reducible rfl)
              try simp only [Act.put, List.setIfInBounds_toArray, List.set_cons_zero, List.set_cons_succ]
              refine reg_take (i := 45) (v := ?ve45) rfl (by kernel_rfl) rfl hHeld ?ye45 ?re45
              case ye45 => (intro w hSw; (try dsimp only at hSw); go_simp; all_goals with_reducible rfl)
              try simp only [Act.put, List.setIfInBounds_toArray, List.set_cons_zero, List.set_cons_succ]
              refine reg_take (i := 46) (v := ?ve46) rfl (by kernel_rfl) rfl hHeld ?ye46 ?re46
              case ye46 => (intro w hSw; (try dsimp only at hSw); go_simp; all_goals with_reducible rfl)
              try simp only [Act.put, List.setIfInBounds_toArray, List.set_cons_zero, List.set_cons_succ]
              refine reg_done (by kernel_rfl) ?_ _
              -- END R e
              go_wp2_with fail
              go_ret
              exact ⟨rfl, below_dN (HB7.out.trans (HK9.out.mono HB7.out.size)) q9⟩
            · have hxm := HSN.out hkx
              have hct : cl ≠ t := fun e => hxm (HIS.out.same (e ▸ HM.out))
              have hss : strOfNums cl ≠ strOfNums t := fun e => hct (strOfNums_inj HCB.out hbt e)
              have hdx : (xk == mk) = false := beq_eq_false_iff_ne.2 (fun e => hkx e.symm)
              have KEEP := HKP
              clear hxm hct hkx HKP HM6 HX6 HSM HSN
              generalize strOfNums t = st2 at *
              generalize strOfNums cl = sc at *
              have hds : (sc.toList == st2.toList) = false := by
                rw [beq_eq_false_iff_ne, ByteArray.toList_eq, ByteArray.toList_eq]
                intro e
                exact hss (by cases sc; cases st2; congr 1; exact Array.ext' e)
              go_wp2_with fail
              -- R d
              refine reg_start (fun w' => (w'.cell? ⟨g, kk, none⟩ = some (.int .i64 xk) ∧ w'.cell? ⟨gm, kk, none⟩ = some (.int .i64 mk)) ∧ ((convert 23 9 (.slice ca cl.length cc)).run Try.prog w' = .ok (.string sc) w' ∧ (convert 23 9 (.slice ta t.length tc)).run Try.prog w' = .ok (.string st2) w')) (by kernel_rfl) (KEEP.out _ (Below.refl _ _).drew) (fun hHeld => ?_)
              refine reg_loud (i := 0) rfl (by kernel_rfl) rfl (fun K hK => ?_)
              go_simp
              refine (told9_any _).mono ?_
              rintro e w8 ⟨rfl, hb8⟩
              have HK8 : Hid (Below w7.heap.size w7 w8) := ((Below.refl _ _).drew : Below w7.heap.size w7 w7.drew).trans hb8
              clear hb8
              go_wp2_with fail
              refine hK.out _ _ (KEEP.out _ HK8.out) (fun hNew => ?_)
              clear hK K hHeld
              have hHeld := hNew
              clear hNew
              try simp only [Act.put, List.setIfInBounds_toArray, List.set_cons_zero, List.set_cons_succ]
              refine reg_take (i := 1) (v := ?vd1) rfl (by kernel_rfl) rfl hHeld ?yd1 ?rd1
              case yd1 => (intro w hSw; (try dsimp only at hSw); go_simp; all_goals with_reducible rfl)
              try simp only [Act.put, List.setIfInBounds_toArray, List.set_cons_zero, List.set_cons_succ]
              refine reg_take (i := 2) (v := ?vd2) rfl (by kernel_rfl) rfl hHeld ?yd2 ?rd2
              case yd2 => (intro w hSw; (try dsimp only at hSw); go_simp; all_goals with_reducible rfl)
              try simp only [Act.put, List.setIfInBounds_toArray, List.set_cons_zero, List.set_cons_succ]
              refine reg_take (i := 3) (v := ?vd3) rfl (by kernel_rfl) rfl hHeld ?yd3 ?rd3
              case yd3 => (intro w hSw; (try dsimp only at hSw); go_simp; all_goals with_reducible rfl)
              try simp only [Act.put, List.setIfInBounds_toArray, List.set_cons_zero, List.set_cons_succ]
              refine reg_take (i := 4) (v := ?vd4) rfl (by kernel_rfl) rfl hHeld ?yd4 ?rd4
              case yd4 => (intro w hSw; (try dsimp only at hSw); go_simp; all_goals with_reducible rfl)
              try simp only [Act.put, List.setIfInBounds_toArray, List.set_cons_zero, List.set_cons_succ]
              refine reg_take (i := 5) (v := ?vd5) rfl (by kernel_rfl) rfl hHeld ?yd5 ?rd5
              case yd5 => (intro w hSw; (try dsimp only at hSw); go_simp; all_goals with_reducible rfl)
              try simp only [Act.put, List.setIfInBounds_toArray, List.set_cons_zero, List.set_cons_succ]
              refine reg_take (i := 7) (v := ?vd7) rfl (by kernel_rfl) rfl hHeld ?yd7 ?rd7
              case yd7 => (intro w hSw; (try dsimp only at hSw); go_simp; all_goals with_reducible rfl)
              try simp only [Act.put, List.setIfInBounds_toArray, List.set_cons_zero, List.set_cons_succ]
              refine reg_loud (i := 6) rfl (by kernel_rfl) rfl (fun K hK => ?_)
              go_simp
              refine (last_at ca cc cl rfl (HCR.out.below HK8.out) HCB.out (by omega)).mono ?_
              rintro e w9 ⟨la, lc, m9, rfl, hm9, ho9, hb9⟩
              have HK9 := Lib.hid (HK8.out.trans (hb9.mono HK8.out.size))
              have HM9 : Hid (m9 = x) := hm9.same HIS.out
              have HR9 := Lib.hid (own_reads ho9)
              have HL9 := Lib.hid hm9.len
              clear hm9 ho9 hb9
              go_wp2_with fail
              refine hK.out _ _ (KEEP.out _ HK9.out) (fun hNew => ?_)
              clear hK K hHeld
              have hHeld := hNew
              clear hNew
              try simp only [Act.put, List.setIfInBounds_toArray, List.set_cons_zero, List.set_cons_succ]
              refine reg_loud (i := 8) rfl (by kernel_rfl) rfl (fun K hK => ?_)
              go_simp
              refine (same_ints la (some ⟨g, 0, none⟩) (cl.length + 1) k lc _ m9 x w9 HR9.out (HXR7.out.below HK9.out) HL9.out.symm HXL.out.symm (by have := HL9.out; omega) (by have := HXL.out; omega)).mono ?_
              rintro e w' ⟨rfl, q9, rfl⟩
              rw [decide_eq_true HM9.out]
              have HK10 := Lib.hid (below_dN HK9.out q9)
              go_wp2_with fail
              refine hK.out _ _ (KEEP.out _ HK10.out) (fun hNew => ?_)
              clear hK K hHeld
              have hHeld := hNew
              clear hNew
              try simp only [Act.put, List.setIfInBounds_toArray, List.set_cons_zero, List.set_cons_succ]
              refine reg_take (i := 9) (v := ?vd9) rfl (by kernel_rfl) rfl hHeld ?yd9 ?rd9
              case yd9 => (intro w hSw; (try dsimp only at hSw); go_simp; all_goals with_reducible rfl)
              try simp only [Act.put, List.setIfInBounds_toArray, List.set_cons_zero, List.set_cons_succ]
              refine reg_take (i := 10) (v := ?vd10) rfl (by kernel_rfl) rfl hHeld ?yd10 ?rd10
              case yd10 => (intro w hSw; (try dsimp only at hSw); go_simp; all_goals with_reducible rfl)
              try simp only [Act.put, List.setIfInBounds_toArray, List.set_cons_zero, List.set_cons_succ]
              refine reg_take (i := 11) (v := ?vd11) rfl (by kernel_rfl) rfl hHeld ?yd11 ?rd11
              case yd11 => (intro w hSw; (try dsimp only at hSw); go_simp; all_goals with_reducible rfl)
              try simp only [Act.put, List.setIfInBounds_toArray, List.set_cons_zero, List.set_cons_succ]
              refine reg_take (i := 12) (v := ?vd12) rfl (by kernel_rfl) rfl hHeld ?yd12 ?rd12
              case yd12 => (intro w hSw; (try dsimp only at hSw); go_simp; all_goals with_reducible rfl)
              try simp only [Act.put, List.setIfInBounds_toArray, List.set_cons_zero, List.set_cons_succ]
              refine reg_take (i := 13) (v := ?vd13) rfl (by kernel_rfl) rfl hHeld ?yd13 ?rd13
              case yd13 => (intro w hSw; (try dsimp only at hSw); go_simp; all_goals with_reducible rfl)
              try simp only [Act.put, List.setIfInBounds_toArray, List.set_cons_zero, List.set_cons_succ]
              refine reg_take (i := 14) (v := ?vd14) rfl (by kernel_rfl) rfl hHeld ?yd14 ?rd14
              case yd14 => (intro w hSw; (try dsimp only at hSw); go_simp; all_goals with_reducible rfl)
              try simp only [Act.put, List.setIfInBounds_toArray, List.set_cons_zero, List.set_cons_succ]
              refine reg_take (i := 15) (v := ?vd15) rfl (by kernel_rfl) rfl hHeld ?yd15 ?rd15
              case yd15 => (intro w hSw; (try dsimp only at hSw); go_simp; all_goals with_reducible rfl)
              try simp only [Act.put, List.setIfInBounds_toArray, List.set_cons_zero, List.set_cons_succ]
              refine reg_take (i := 16) (v := ?vd16) rfl (by kernel_rfl) rfl hHeld ?yd16 ?rd16
              case yd16 => (intro w hSw; (try dsimp only at hSw); go_simp; all_goals with_reducible rfl)
              try simp only [Act.put, List.setIfInBounds_toArray, List.set_cons_zero, List.set_cons_succ]
              refine reg_take (i := 17) (v := ?vd17) rfl (by kernel_rfl) rfl hHeld ?yd17 ?rd17
              case yd17 => (intro w hSw; (try dsimp only at hSw); go_simp; all_goals with_reducible rfl)
              try simp only [Act.put, List.setIfInBounds_toArray, List.set_cons_zero, List.set_cons_succ]
              refine reg_take (i := 18) (v := ?vd18) rfl (by kernel_rfl) rfl hHeld ?yd18 ?rd18
              case yd18 => (intro w hSw; (try dsimp only at hSw); go_simp; all_goals with_reducible rfl)
              try simp only [Act.put, List.setIfInBounds_toArray, List.set_cons_zero, List.set_cons_succ]
              refine reg_take (i := 19) (v := ?vd19) rfl (by kernel_rfl) rfl hHeld ?yd19 ?rd19
              case yd19 => (intro w hSw; (try dsimp only at hSw); go_simp; all_goals with_reducible rfl)
              try simp only [Act.put, List.setIfInBounds_toArray, List.set_cons_zero, List.set_cons_succ]
              refine reg_take (i := 20) (v := ?vd20) rfl (by kernel_rfl) rfl hHeld ?yd20 ?rd20
              case yd20 => (intro w hSw; (try dsimp only at hSw); go_simp; all_goals with_reducible rfl)
              try simp only [Act.put, List.setIfInBounds_toArray, List.set_cons_zero, List.set_cons_succ]
              refine reg_take (i := 21) (v := ?vd21) rfl (by kernel_rfl) rfl hHeld ?yd21 ?rd21
              case yd21 => (intro w hSw; (try dsimp only at hSw); go_simp; all_goals with_reducible rfl)
              try simp only [Act.put, List.setIfInBounds_toArray, List.set_cons_zero, List.set_cons_succ]
              refine reg_take (i := 22) (v := ?vd22) rfl (by kernel_rfl) rfl hHeld ?yd22 ?rd22
              case yd22 => (intro w hSw; (try dsimp only at hSw); go_simp; all_goals with_reducible rfl)
              try simp only [Act.put, List.setIfInBounds_toArray, List.set_cons_zero, List.set_cons_succ]
              refine reg_take (i := 23) (v := ?vd23) rfl (by kernel_rfl) rfl hHeld ?yd23 ?rd23
              case yd23 => (intro w hSw; (try dsimp only at hSw); go_simp; all_goals with_reducible rfl)
              try simp only [Act.put, List.setIfInBounds_toArray, List.set_cons_zero, List.set_cons_succ]
              refine reg_take (i := 24) (v := ?vd24) rfl (by kernel_rfl) rfl hHeld ?yd24 ?rd24
              case yd24 => (intro w hSw; (try dsimp only at hSw); go_simp; all_goals with_reducible rfl)
              try simp only [Act.put, List.setIfInBounds_toArray, List.set_cons_zero, List.set_cons_succ]
              refine reg_take (i := 25) (v := ?vd25) rfl (by kernel_rfl) rfl hHeld ?yd25 ?rd25
              case yd25 => (intro w hSw; (try dsimp only at hSw); go_simp; all_goals with_reducible rfl)
              try simp only [Act.put, List.setIfInBounds_toArray, List.set_cons_zero, List.set_cons_succ]
              refine reg_take (i := 26) (v := ?vd26) rfl (by kernel_rfl) rfl hHeld ?yd26 ?rd26
              case yd26 => (intro w hSw; (try dsimp only at hSw); go_simp; all_goals with_reducible rfl)
              try simp only [Act.put, List.setIfInBounds_toArray, List.set_cons_zero, List.set_cons_succ]
              refine reg_take (i := 27) (v := ?vd27) rfl (by kernel_rfl) rfl hHeld ?yd27 ?rd27
              case yd27 => (intro w hSw; (try dsimp only at hSw); go_simp; all_goals with_reducible rfl)
              try simp only [Act.put, List.setIfInBounds_toArray, List.set_cons_zero, List.set_cons_succ]
              refine reg_take (i := 28) (v := ?vd28) rfl (by kernel_rfl) rfl hHeld ?yd28 ?rd28
              case yd28 => (intro w hSw; (try dsimp only at hSw); go_simp; all_goals with_reducible rfl)
              try simp only [Act.put, List.setIfInBounds_toArray, List.set_cons_zero, List.set_cons_succ]
              refine reg_take (i := 29) (v := ?vd29) rfl (by kernel_rfl) rfl hHeld ?yd29 ?rd29
              case yd29 => (intro w hSw; (try dsimp only at hSw); go_simp; all_goals with_reducible rfl)
              try simp only [Act.put, List.setIfInBounds_toArray, List.set_cons_zero, List.set_cons_succ]
              refine reg_take (i := 30) (v := ?vd30) rfl (by kernel_rfl) rfl hHeld ?yd30 ?rd30
              case yd30 => (intro w hSw; (try dsimp only at hSw); go_simp; all_goals with_reducible rfl)
              try simp only [Act.put, List.setIfInBounds_toArray, List.set_cons_zero, List.set_cons_succ]
              refine reg_take (i := 31) (v := ?vd31) rfl (by kernel_rfl) rfl hHeld ?yd31 ?rd31
              case yd31 => (intro w hSw; (try dsimp only at hSw); go_simp; all_goals with_reducible rfl)
              try simp only [Act.put, List.setIfInBounds_toArray, List.set_cons_zero, List.set_cons_succ]
              refine reg_take (i := 32) (v := ?vd32) rfl (by kernel_rfl) rfl hHeld ?yd32 ?rd32
              case yd32 => (intro w hSw; (try dsimp only at hSw); go_simp; all_goals with_reducible rfl)
              try simp only [Act.put, List.setIfInBounds_toArray, List.set_cons_zero, List.set_cons_succ]
              refine reg_take (i := 33) (v := ?vd33) rfl (by kernel_rfl) rfl hHeld ?yd33 ?rd33
              case yd33 => (intro w hSw; (try dsimp only at hSw); go_simp; all_goals with_reducible rfl)
              try simp only [Act.put, List.setIfInBounds_toArray, List.set_cons_zero, List.set_cons_succ]
              refine reg_take (i := 34) (v := ?vd34) rfl (by kernel_rfl) rfl hHeld ?yd34 ?rd34
              case yd34 => (intro w hSw; (try dsimp only at hSw); go_simp; all_goals with_reducible rfl)
              try simp only [Act.put, List.setIfInBounds_toArray, List.set_cons_zero, List.set_cons_succ]
              refine reg_skip (i := 35) rfl (by kernel_rfl) rfl hHeld ?_
              try simp only [Act.put, List.setIfInBounds_toArray, List.set_cons_zero, List.set_cons_succ]
              refine reg_skip (i := 36) rfl (by kernel_rfl) rfl hHeld ?_
              try simp only [Act.put, List.setIfInBounds_toArray, List.set_cons_zero, List.set_cons_succ]
              refine reg_skip (i := 37) rfl (by kernel_rfl) rfl hHeld ?_
              try simp only [Act.put, List.setIfInBounds_toArray, List.set_cons_zero, List.set_cons_succ]
              refine reg_skip (i := 38) rfl (by kernel_rfl) rfl hHeld ?_
              try simp only [Act.put, List.setIfInBounds_toArray, List.set_cons_zero, List.set_cons_succ]
              refine reg_skip (i := 39) rfl (by kernel_rfl) rfl hHeld ?_
              try simp only [Act.put, List.setIfInBounds_toArray, List.set_cons_zero, List.set_cons_succ]
              refine reg_skip (i := 40) rfl (by kernel_rfl) rfl hHeld ?_
              try simp only [Act.put, List.setIfInBounds_toArray, List.set_cons_zero, List.set_cons_succ]
              refine reg_skip (i := 41) rfl (by kernel_rfl) rfl hHeld ?_
              try simp only [Act.put, List.setIfInBounds_toArray, List.set_cons_zero, List.set_cons_succ]
              refine reg_skip (i := 42) rfl (by kernel_rfl) rfl hHeld ?_
              try simp only [Act.put, List.setIfInBounds_toArray, List.set_cons_zero, List.set_cons_succ]
              refine reg_skip (i := 43) rfl (by kernel_rfl) rfl hHeld ?_
              try simp only [Act.put, List.setIfInBounds_toArray, List.set_cons_zero, List.set_cons_succ]
              refine reg_take (i := 44) (v := ?vd44) rfl (by kernel_rfl) rfl hHeld ?yd44 ?rd44
              case yd44 => (intro w hSw; (try dsimp only at hSw); go_simp; all_goals with_reducible rfl)
              try simp only [Act.put, List.setIfInBounds_toArray, List.set_cons_zero, List.set_cons_succ]
              refine reg_take (i := 45) (v := ?vd45) rfl (by kernel_rfl) rfl hHeld ?yd45 ?rd45
              case yd45 => (intro w hSw; (try dsimp only at hSw); go_simp; all_goals with_reducible rfl)
              try simp only [Act.put, List.setIfInBounds_toArray, List.set_cons_zero, List.set_cons_succ]
              refine reg_take (i := 46) (v := ?vd46) rfl (by kernel_rfl) rfl hHeld ?yd46 ?rd46
              case yd46 => (intro w hSw; (try dsimp only at hSw); go_simp; all_goals with_reducible rfl)
              try simp only [Act.put, List.setIfInBounds_toArray, List.set_cons_zero, List.set_cons_succ]
              refine reg_done (by kernel_rfl) ?_ _
              -- END R d
              go_wp2_with fail
              go_ret
              exact ⟨rfl, below_dN (HB7.out.trans (HK9.out.mono HB7.out.size)) q9⟩
          · have HNO : Hid (∀ t, ¬ IsLast t x) := fun t h => hex ⟨t, h⟩
            have hne : (xk != mk) = true := by
              rw [bne_iff_ne]
              intro e
              have := HSM.out e.symm
              exact hex ⟨t, this ▸ HM.out⟩
            refine (back_none HNO.out _ _ HXL.out.symm HXR6.out (by rw [HXL.out]; omega)).mono ?_
            rintro e w7 ⟨rfl, hb7⟩
            have KEEP := Lib.hid (HKEEP.out w7 none 0 0 [] hb7 Reads.nil rfl)
            have HB7 := Lib.hid (HB6.out.trans (hb7.mono hbd))
            clear hb7 HXR6 HKEEP hex HM6 HX6 HSM HSN HNO
            generalize strOfNums t = st2 at *
            generalize strOfNums [] = sc at *
            go_wp2_with fail
            -- R n
            refine reg_start (fun w' => (w'.cell? ⟨g, kk, none⟩ = some (.int .i64 xk) ∧ w'.cell? ⟨gm, kk, none⟩ = some (.int .i64 mk)) ∧ ((convert 23 9 (.slice none 0 0)).run Try.prog w' = .ok (.string sc) w' ∧ (convert 23 9 (.slice ta t.length tc)).run Try.prog w' = .ok (.string st2) w')) (by kernel_rfl) (KEEP.out _ (Below.refl _ _).drew) (fun hHeld => ?_)
            refine reg_loud (i := 0) rfl (by kernel_rfl) rfl (fun K hK => ?_)
            go_simp
            refine (told9_any _).mono ?_
            rintro e w8 ⟨rfl, hb8⟩
            have HK8 : Hid (Below w7.heap.size w7 w8) := ((Below.refl _ _).drew : Below w7.heap.size w7 w7.drew).trans hb8
            clear hb8
            go_wp2_with fail
            refine hK.out _ _ (KEEP.out _ HK8.out) (fun hNew => ?_)
            clear hK K hHeld
            have hHeld := hNew
            clear hNew
            try simp only [Act.put, List.setIfInBounds_toArray, List.set_cons_zero, List.set_cons_succ]
            refine reg_take (i := 1) (v := ?vn1) rfl (by kernel_rfl) rfl hHeld ?yn1 ?rn1
            case yn1 => (intro w hSw; (try dsimp only at hSw); go_simp; all_goals with_reducible rfl)
            try simp only [Act.put, List.setIfInBounds_toArray, List.set_cons_zero, List.set_cons_succ]
            refine reg_take (i := 2) (v := ?vn2) rfl (by kernel_rfl) rfl hHeld ?yn2 ?rn2
            case yn2 => (intro w hSw; (try dsimp only at hSw); go_simp; all_goals with_reducible rfl)
            try simp only [Act.put, List.setIfInBounds_toArray, List.set_cons_zero, List.set_cons_succ]
            refine reg_take (i := 3) (v := ?vn3) rfl (by kernel_rfl) rfl hHeld ?yn3 ?rn3
            case yn3 => (intro w hSw; (try dsimp only at hSw); go_simp; all_goals with_reducible rfl)
            try simp only [Act.put, List.setIfInBounds_toArray, List.set_cons_zero, List.set_cons_succ]
            refine reg_take (i := 4) (v := ?vn4) rfl (by kernel_rfl) rfl hHeld ?yn4 ?rn4
            case yn4 => (intro w hSw; (try dsimp only at hSw); go_simp; all_goals with_reducible rfl)
            try simp only [Act.put, List.setIfInBounds_toArray, List.set_cons_zero, List.set_cons_succ]
            refine reg_skip (i := 5) rfl (by kernel_rfl) rfl hHeld ?_
            try simp only [Act.put, List.setIfInBounds_toArray, List.set_cons_zero, List.set_cons_succ]
            refine reg_skip (i := 6) rfl (by kernel_rfl) rfl hHeld ?_
            try simp only [Act.put, List.setIfInBounds_toArray, List.set_cons_zero, List.set_cons_succ]
            refine reg_skip (i := 7) rfl (by kernel_rfl) rfl hHeld ?_
            try simp only [Act.put, List.setIfInBounds_toArray, List.set_cons_zero, List.set_cons_succ]
            refine reg_skip (i := 8) rfl (by kernel_rfl) rfl hHeld ?_
            try simp only [Act.put, List.setIfInBounds_toArray, List.set_cons_zero, List.set_cons_succ]
            refine reg_take (i := 9) (v := ?vn9) rfl (by kernel_rfl) rfl hHeld ?yn9 ?rn9
            case yn9 => (intro w hSw; (try dsimp only at hSw); go_simp; all_goals with_reducible rfl)
            try simp only [Act.put, List.setIfInBounds_toArray, List.set_cons_zero, List.set_cons_succ]
            refine reg_take (i := 10) (v := ?vn10) rfl (by kernel_rfl) rfl hHeld ?yn10 ?rn10
            case yn10 => (intro w hSw; (try dsimp only at hSw); go_simp; all_goals with_reducible rfl)
            try simp only [Act.put, List.setIfInBounds_toArray, List.set_cons_zero, List.set_cons_succ]
            refine reg_take (i := 11) (v := ?vn11) rfl (by kernel_rfl) rfl hHeld ?yn11 ?rn11
            case yn11 => (intro w hSw; (try dsimp only at hSw); go_simp; all_goals with_reducible rfl)
            try simp only [Act.put, List.setIfInBounds_toArray, List.set_cons_zero, List.set_cons_succ]
            refine reg_take (i := 12) (v := ?vn12) rfl (by kernel_rfl) rfl hHeld ?yn12 ?rn12
            case yn12 => (intro w hSw; (try dsimp only at hSw); go_simp; all_goals with_reducible rfl)
            try simp only [Act.put, List.setIfInBounds_toArray, List.set_cons_zero, List.set_cons_succ]
            refine reg_take (i := 13) (v := ?vn13) rfl (by kernel_rfl) rfl hHeld ?yn13 ?rn13
            case yn13 => (intro w hSw; (try dsimp only at hSw); go_simp; all_goals with_reducible rfl)
            try simp only [Act.put, List.setIfInBounds_toArray, List.set_cons_zero, List.set_cons_succ]
            refine reg_take (i := 14) (v := ?vn14) rfl (by kernel_rfl) rfl hHeld ?yn14 ?rn14
            case yn14 => (intro w hSw; (try dsimp only at hSw); go_simp; all_goals with_reducible rfl)
            try simp only [Act.put, List.setIfInBounds_toArray, List.set_cons_zero, List.set_cons_succ]
            refine reg_skip (i := 15) rfl (by kernel_rfl) rfl hHeld ?_
            try simp only [Act.put, List.setIfInBounds_toArray, List.set_cons_zero, List.set_cons_succ]
            refine reg_skip (i := 16) rfl (by kernel_rfl) rfl hHeld ?_
            try simp only [Act.put, List.setIfInBounds_toArray, List.set_cons_zero, List.set_cons_succ]
            refine reg_skip (i := 17) rfl (by kernel_rfl) rfl hHeld ?_
            try simp only [Act.put, List.setIfInBounds_toArray, List.set_cons_zero, List.set_cons_succ]
            refine reg_skip (i := 18) rfl (by kernel_rfl) rfl hHeld ?_
            try simp only [Act.put, List.setIfInBounds_toArray, List.set_cons_zero, List.set_cons_succ]
            refine reg_skip (i := 19) rfl (by kernel_rfl) rfl hHeld ?_
            try simp only [Act.put, List.setIfInBounds_toArray, List.set_cons_zero, List.set_cons_succ]
            refine reg_skip (i := 20) rfl (by kernel_rfl) rfl hHeld ?_
            try simp only [Act.put, List.setIfInBounds_toArray, List.set_cons_zero, List.set_cons_succ]
            refine reg_skip (i := 21) rfl (by kernel_rfl) rfl hHeld ?_
            try simp only [Act.put, List.setIfInBounds_toArray, List.set_cons_zero, List.set_cons_succ]
            refine reg_skip (i := 22) rfl (by kernel_rfl) rfl hHeld ?_
            try simp only [Act.put, List.setIfInBounds_toArray, List.set_cons_zero, List.set_cons_succ]
            refine reg_skip (i := 23) rfl (by kernel_rfl) rfl hHeld ?_
            try simp only [Act.put, List.setIfInBounds_toArray, List.set_cons_zero, List.set_cons_succ]
            refine reg_skip (i := 24) rfl (by kernel_rfl) rfl hHeld ?_
            try simp only [Act.put, List.setIfInBounds_toArray, List.set_cons_zero, List.set_cons_succ]
            refine reg_skip (i := 25) rfl (by kernel_rfl) rfl hHeld ?_
            try simp only [Act.put, List.setIfInBounds_toArray, List.set_cons_zero, List.set_cons_succ]
            refine reg_skip (i := 26) rfl (by kernel_rfl) rfl hHeld ?_
            try simp only [Act.put, List.setIfInBounds_toArray, List.set_cons_zero, List.set_cons_succ]
            refine reg_skip (i := 27) rfl (by kernel_rfl) rfl hHeld ?_
            try simp only [Act.put, List.setIfInBounds_toArray, List.set_cons_zero, List.set_cons_succ]
            refine reg_skip (i := 28) rfl (by kernel_rfl) rfl hHeld ?_
            try simp only [Act.put, List.setIfInBounds_toArray, List.set_cons_zero, List.set_cons_succ]
            refine reg_skip (i := 29) rfl (by kernel_rfl) rfl hHeld ?_
            try simp only [Act.put, List.setIfInBounds_toArray, List.set_cons_zero, List.set_cons_succ]
            refine reg_take (i := 30) (v := ?vn30) rfl (by kernel_rfl) rfl hHeld ?yn30 ?rn30
            case yn30 => (intro w hSw; (try dsimp only at hSw); go_simp; all_goals with_reducible rfl)
            try simp only [Act.put, List.setIfInBounds_toArray, List.set_cons_zero, List.set_cons_succ]
            refine reg_take (i := 31) (v := ?vn31) rfl (by kernel_rfl) rfl hHeld ?yn31 ?rn31
            case yn31 => (intro w hSw; (try dsimp only at hSw); go_simp; all_goals with_reducible rfl)
            try simp only [Act.put, List.setIfInBounds_toArray, List.set_cons_zero, List.set_cons_succ]
            refine reg_take (i := 32) (v := ?vn32) rfl (by kernel_rfl) rfl hHeld ?yn32 ?rn32
            case yn32 => (intro w hSw; (try dsimp only at hSw); go_simp; all_goals with_reducible rfl)
            try simp only [Act.put, List.setIfInBounds_toArray, List.set_cons_zero, List.set_cons_succ]
            refine reg_take (i := 33) (v := ?vn33) rfl (by kernel_rfl) rfl hHeld ?yn33 ?rn33
            case yn33 => (intro w hSw; (try dsimp only at hSw); go_simp; all_goals with_reducible rfl)
            try simp only [Act.put, List.setIfInBounds_toArray, List.set_cons_zero, List.set_cons_succ]
            refine reg_take (i := 34) (v := ?vn34) rfl (by kernel_rfl) rfl hHeld ?yn34 ?rn34
            case yn34 => (intro w hSw; (try dsimp only at hSw); go_simp; all_goals with_reducible rfl)
            try simp only [Act.put, List.setIfInBounds_toArray, List.set_cons_zero, List.set_cons_succ]
            refine reg_take (i := 35) (v := ?vn35) rfl (by kernel_rfl) rfl hHeld ?yn35 ?rn35
            case yn35 => (intro w hSw; (try dsimp only at hSw); go_simp; all_goals with_reducible rfl)
            try simp only [Act.put, List.setIfInBounds_toArray, List.set_cons_zero, List.set_cons_succ]
            refine reg_take (i := 36) (v := ?vn36) rfl (by kernel_rfl) rfl hHeld ?yn36 ?rn36
            case yn36 => (intro w hSw; (try dsimp only at hSw); go_simp; all_goals with_reducible rfl)
            try simp only [Act.put, List.setIfInBounds_toArray, List.set_cons_zero, List.set_cons_succ]
            refine reg_take (i := 37) (v := ?vn37) rfl (by kernel_rfl) rfl hHeld ?yn37 ?rn37
            case yn37 => (intro w hSw; (try dsimp only at hSw); go_simp; all_goals with_reducible rfl)
            try simp only [Act.put, List.setIfInBounds_toArray, List.set_cons_zero, List.set_cons_succ]
            refine reg_take (i := 38) (v := ?vn38) rfl (by kernel_rfl) rfl hHeld ?yn38 ?rn38
            case yn38 => (intro w hSw; (try dsimp only at hSw); go_simp; all_goals with_reducible rfl)
            try simp only [Act.put, List.setIfInBounds_toArray, List.set_cons_zero, List.set_cons_succ]
            refine reg_take (i := 39) (v := ?vn39) rfl (by kernel_rfl) rfl hHeld ?yn39 ?rn39
            case yn39 => (intro w hSw; (try dsimp only at hSw); go_simp; all_goals with_reducible rfl)
            try simp only [Act.put, List.setIfInBounds_toArray, List.set_cons_zero, List.set_cons_succ]
            refine reg_take (i := 40) (v := ?vn40) rfl (by kernel_rfl) rfl hHeld ?yn40 ?rn40
            case yn40 => (intro w hSw; (try dsimp only at hSw); go_simp; all_goals with_reducible rfl)
            try simp only [Act.put, List.setIfInBounds_toArray, List.set_cons_zero, List.set_cons_succ]
            refine reg_take (i := 41) (v := ?vn41) rfl (by kernel_rfl) rfl hHeld ?yn41 ?rn41
            case yn41 => (intro w hSw; (try dsimp only at hSw); go_simp; all_goals with_reducible rfl)
            try simp only [Act.put, List.setIfInBounds_toArray, List.set_cons_zero, List.set_cons_succ]
            refine reg_take (i := 42) (v := ?vn42) rfl (by kernel_rfl) rfl hHeld ?yn42 ?rn42
            case yn42 => (intro w hSw; (try dsimp only at hSw); go_simp; all_goals with_reducible rfl)
            try simp only [Act.put, List.setIfInBounds_toArray, List.set_cons_zero, List.set_cons_succ]
            refine reg_take (i := 43) (v := ?vn43) rfl (by kernel_rfl) rfl hHeld ?yn43 ?rn43
            case yn43 => (intro w hSw; (try dsimp only at hSw); go_simp; all_goals with_reducible rfl)
            try simp only [Act.put, List.setIfInBounds_toArray, List.set_cons_zero, List.set_cons_succ]
            refine reg_take (i := 44) (v := ?vn44) rfl (by kernel_rfl) rfl hHeld ?yn44 ?rn44
            case yn44 => (intro w hSw; (try dsimp only at hSw); go_simp; all_goals with_reducible rfl)
            try simp only [Act.put, List.setIfInBounds_toArray, List.set_cons_zero, List.set_cons_succ]
            refine reg_take (i := 45) (v := ?vn45) rfl (by kernel_rfl) rfl hHeld ?yn45 ?rn45
            case yn45 => (intro w hSw; (try dsimp only at hSw); go_simp; all_goals with_reducible rfl)
            try simp only [Act.put, List.setIfInBounds_toArray, List.set_cons_zero, List.set_cons_succ]
            refine reg_take (i := 46) (v := ?vn46) rfl (by kernel_rfl) rfl hHeld ?yn46 ?rn46
            case yn46 => (intro w hSw; (try dsimp only at hSw); go_simp; all_goals with_reducible rfl)
            try simp only [Act.put, List.setIfInBounds_toArray, List.set_cons_zero, List.set_cons_succ]
            refine reg_done (by kernel_rfl) ?_ _
            -- END R n
            go_wp2_with fail
            go_ret
            exact ⟨rfl, HB7.out.trans (HK8.out.mono HB7.out.size)⟩

end Go.Proofs.Ytpbmhdkhkbhgnaa
