/- The walk of WaveLevels. -/
import Derived.Test.YtcppgpjodfeigaaDoorZw10
namespace Go.Proofs.YtcppgpjodfeigaaDoor
set_option linter.unusedVariables false
set_option linter.unusedSimpArgs false
open Go.RowKit

/-- The wave, the row of symbols, the row of shapes. -/
structure WLv (B : Nat) (w : World) (p : Nat) (L : List Nat) (a : Option Addr) (sa : Option Addr) (sc : Nat) (ys : List (Option ST)) : Prop where
  v : ∃ B X, Wv B X w p L
  r : ReadsV w a (L.map wsV)
  s : ∃ b, ShRow w b (.slice sa ys.length sc) ys
  tab : BitTab w
  b : B ≤ w.heap.size
theorem WLv.below {B : Nat} {w w' : World} {p : Nat} {L : List Nat} {a sa : Option Addr} {sc : Nat} {ys : List (Option ST)} (h : WLv B w p L a sa sc ys) (hb : Below w.heap.size w w') : WLv B w' p L a sa sc ys := by
  obtain ⟨B1, X, h1⟩ := h.v
  obtain ⟨b, h2⟩ := h.s
  exact ⟨⟨B1, X, h1.below hb⟩, h.r.below' hb, ⟨b, h2.below hb⟩, h.tab.below' hb, Nat.le_trans h.b hb.size⟩

set_option maxHeartbeats 6400000 in
set_option maxRecDepth 100000 in
theorem walk_WaveLevels (w : World) (hT : BitTab w) (a0 : Option Addr) (c0 : Nat) (z0 : List Int) (w0 : ArgI .i64 w a0 c0 z0) (few : Bool) (level : Int) (w2 : (Lit.int .i64 level).wf = true) (path : Int) (w3 : (Lit.int .i64 path).wf = true) :
    Calls Tryd.prog 11 #[.slice a0 z0.length c0, .bool few, .int .i64 level, .int .i64 path] w fun e w' => e = .returned (.bool true) ∧ Below w.heap.size w w' := by
  have hrd := w0.reads
  have hzm := Nat.le_trans w0.le w0.max
  have HT := Lib.hid hT
  have HTL := Lib.hid hT.lt
  have HSY := Lib.hid (law7Syms_any a0 c0 z0 150 few w hrd (by omega) hzm)
  clear hT w0 w2 w3 hrd hzm
  go_enter Tryd.func11, Tryd.ntmps11
  go_wp2_with fail
  refine HSY.out.mono ?_
  rintro e w1 ⟨L, v, rfl, hll, hS, hown, hb1⟩
  obtain ⟨a, c, rfl, hnil, had⟩ := own_slice hown
  have hl : L.length ≤ 150 := by omega
  have hrm := readsV_own hown
  have HNEW := Lib.hid (wvNew (c := c) L hrm hS (by omega))
  have HRM := Lib.hid hrm
  have HSS := Lib.hid hS
  have hs1 := hb1.size
  clear hown hrm hS HSY hll had hnil
  go_wp2_with fail
  refine HNEW.out.mono ?_
  rintro e w2 ⟨p, rfl, hV, hb2⟩
  have hb12 : Below w.heap.size w w2 := hb1.trans (hb2.mono hs1)
  have HV2 := Lib.hid hV
  have HR2 := Lib.hid (HRM.out.below' hb2)
  have HT2 := Lib.hid (HT.out.below' hb12)
  have HB2 := Lib.hid hb12
  clear hV hb2 hb12 hb1 hs1 HNEW HRM
  go_wp2_with fail
  refine (wvShapes HV2.out).mono ?_
  rintro e w3 ⟨v, ys, rfl, hr, hy, hb⟩
  obtain ⟨sa, sc, rfl, _, _⟩ := own_slice hr
  have hyl := shapes_len hy
  have hyle := nonL_le L
  have HB3 := Lib.hid (HB2.out.trans (hb.mono HB2.out.size))
  have HW3 : Hid (WLv w.heap.size w3 p L a sa sc ys) := Lib.hid ⟨⟨_, _, HV2.out.below hb⟩, HR2.out.below' hb, ⟨_, hr⟩, HT2.out.below' hb, HB3.out.size⟩
  have HY := Lib.hid hy
  have HYL := Lib.hid hyl
  have hyn : ys.length ≤ 511 := by omega
  clear hr hy hb hyl hyle HV2 HR2 HT2 HB2
  go_wp2_with fail
  go_loopw [13, 14] (fun v i wr => ∃ l : Nat, l ≤ 9 ∧ i = .int .i64 l ∧ v = .int .i64 ((nonL L l).length : Nat) ∧ WLv w.heap.size wr p L a sa sc ys ∧ Below w.heap.size w wr) (fun _ i _ => 9 - (intOf i).toNat)
  case atStart => exact ⟨0, Nat.zero_le _, rfl, rfl, HW3.out, HB3.out⟩
  case round => as_aux_lemma =>
    clear HW3 HB3
    obtain ⟨l, hl9, rfl, rfl, hW, hb⟩ := hrel
    have HW := Lib.hid hW
    have HB := Lib.hid hb
    clear hW hb
    by_cases hlt : l < 9
    · have hpl := pw_le hlt
      have hsh : wrap64 ((2 : Int) ^ l) = ((pw l : Nat) : Int) := by
        have : l = 0 ∨ l = 1 ∨ l = 2 ∨ l = 3 ∨ l = 4 ∨ l = 5 ∨ l = 6 ∨ l = 7 ∨ l = 8 := by omega
        rcases this with rfl | rfl | rfl | rfl | rfl | rfl | rfl | rfl | rfl <;> simp [wrap64, pw]
      have d9 : decide ((l : Int) < 9) = true := decide_eq_true (by omega)
      have HZ := Lib.hid (nonLp_zero L l)
      go_wp2_with fail
      go_loopw [13, 15] (fun v i wr => ∃ q : Nat, q ≤ pw l ∧ i = .int .i64 q ∧ v = .int .i64 ((nonLp L l q).length : Nat) ∧ WLv w.heap.size wr p L a sa sc ys ∧ Below w.heap.size w wr) (fun _ i _ => pw l - (intOf i).toNat)
      case atStart => exact ⟨0, Nat.zero_le _, rfl, by rw [HZ.out], HW.out, HB.out⟩
      case round => as_aux_lemma =>
        clear HW HB
        obtain ⟨q, hq, rfl, rfl, hW, hb⟩ := hrel
        have HW := Lib.hid hW
        have HB := Lib.hid hb
        clear hW hb
        by_cases hqp : q < pw l
        · have HAT := Lib.hid (fun h => nonLp_at L hlt hqp h)
          have HSU := Lib.hid (nonLp_succ L l q)
          have hnle := nonLp_le L hlt hq
          have HQ := Lib.hid hqp
          have elv : lvS L l q = lvl L l q := by
            unfold lvS; rw [if_pos ⟨by omega, by omega, by omega, by exact_mod_cast hqp⟩, Int.toNat_natCast, Int.toNat_natCast]
          have hLV := ref6LevelN_any a c L l q wr HW.out.r HSS.out (by omega)
          rw [elv] at hLV
          have HLV := Lib.hid hLV
          have hlb : (lvl L l q).length ≤ 150 := by
            unfold lvl; rw [List.length_map]; exact Nat.le_trans (List.length_filter_le _ _) hl
          obtain ⟨B1, X1, hv1⟩ := HW.out.v
          have HPL := Lib.hid (fun (w' : World) (hb' : Below wr.heap.size wr w') => (by have := wvLevel (hv1.below hb') l q; rwa [elv] at this : Calls Tryd.prog 43 #[.pointer (some ⟨p, 0, none⟩), .int .i64 l, .int .i64 q] w' (GivesB w'.heap.size w' (lvl L l q))))
          obtain ⟨bs, hbs⟩ : ∃ bs, lvl L l q = bs := ⟨_, rfl⟩
          obtain ⟨nn, hnn⟩ : ∃ nn, (nonLp L l q).length = nn := ⟨_, rfl⟩
          rw [hbs] at hlb HLV HPL HAT HSU
          rw [hnn] at HAT hnle ⊢
          have HNN := Lib.hid hnn
          clear hLV elv hv1 hbs hnn
          go_wp2_with fail
          refine HLV.out.mono ?_
          rintro e w4 ⟨v4, rfl, hown4, hb4⟩
          obtain ⟨a4, c4, rfl, _, _⟩ := own_slice hown4
          have HW4 := Lib.hid (HW.out.below hb4)
          have HB4 := Lib.hid (HB.out.trans (hb4.mono HB.out.size))
          have HBW4 := Lib.hid hb4
          have HR4 := Lib.hid (readsV_own hown4)
          clear hown4 hb4 HW HB HLV
          obtain h0 | h0 : bs.length = 0 ∨ 0 < bs.length := by omega
          · have HS2 := HSU.out
            rw [if_neg (by omega), List.append_nil] at HS2
            have HS2 := Lib.hid HS2
            rw [h0]
            clear h0 hlb
            go_wp2_with fail
            go_roundw
            case rel => exact ⟨q + 1, by have := HQ.out; omega, by go_num, by rw [HS2.out, HNN.out], HW4.out, HB4.out⟩
            case measure => have := HQ.out; simp [intOf]; omega
          · have HS2 := HSU.out
            rw [if_pos h0] at HS2
            have HS2 := Lib.hid HS2
            have hat := HAT.out h0
            have d0 : ((bs.length : Int) == 0) = false := by rw [beq_eq_false_iff_ne]; omega
            have d0' : (bs.length == 0) = false := by rw [beq_eq_false_iff_ne]; omega
            rw [← HY.out, List.getElem?_map] at hat
            obtain ⟨o, ho, hob⟩ : ∃ o, ys[nn]? = some o ∧ sbits o = bs := by
              cases hx : ys[nn]? with
              | none => rw [hx] at hat; cases hat
              | some o => rw [hx] at hat; exact ⟨o, rfl, by injection hat⟩
            have hny : nn < ys.length := (List.getElem?_eq_some_iff.1 ho).1
            have HO := Lib.hid ho
            have HOB := Lib.hid hob
            clear hat HSU HAT ho hob
            go_wp2_with fail
            refine (HPL.out w4 HBW4.out).mono ?_
            rintro e w5 ⟨v5, rfl, hown5, hb5⟩
            obtain ⟨a5, c5, rfl, _, _⟩ := own_slice hown5
            have HW5 := Lib.hid (HW4.out.below hb5)
            have HB5 := Lib.hid (HB4.out.trans (hb5.mono HB4.out.size))
            have HSM := Lib.hid (refSame_any a5 c5 bs a4 c4 bs w5 (readsV_own hown5) (HR4.out.below' hb5) (by omega))
            rw [show decide (bs = bs) = true by simp] at HSM
            clear hown5 hb5 HW4 HB4 HPL HR4
            go_wp2_with fail
            refine HSM.out.mono ?_
            rintro e w' ⟨rfl, n6, rfl⟩
            have HW6 : Hid (WLv w.heap.size (w5.drewN n6) p L a sa sc ys) := Lib.hid (HW5.out.below ⟨rfl, rfl, rfl, Nat.le_refl _, fun _ _ => rfl⟩)
            have HB6 := Lib.hid (below_drewW HB5.out n6)
            generalize w5.drewN n6 = w6 at *
            clear HW5 HB5 HSM
            obtain ⟨bb, hsr⟩ := HW6.out.s
            obtain ⟨g, a2, a3, rfl, hg, _, x0, _, _, _⟩ := shRead hsr HO.out
            rw [HOB.out] at x0
            have i0 : (0 : Int) ≤ (nn : Int) := by omega
            have i1 : (nn : Int) < (ys.length : Int) := by omega
            have dge : decide ((ys.length : Int) ≤ (nn : Int)) = false := decide_eq_false (by omega)
            have dge2 : decide (ys.length ≤ nn) = false := decide_eq_false (by omega)
            clear hsr
            go_wp2_with fail
            clear x0
            go_roundw
            case rel => exact ⟨q + 1, by have := HQ.out; omega, by go_num, by rw [HS2.out, List.length_append, HNN.out]; rfl, HW6.out, HB6.out⟩
            case measure => have := HQ.out; simp [intOf]; omega
        · obtain rfl : q = pw l := by omega
          have HF := Lib.hid (nonLp_full L l)
          rw [HF.out]
          go_wp2_with fail
          go_roundw
          case rel => exact ⟨l + 1, by omega, by go_num, rfl, HW.out, HB.out⟩
          case measure => simp [intOf]; omega
    · obtain rfl : l = 9 := by omega
      have HTO := Lib.hid (told7_any wr HW.out.tab)
      rw [← HYL.out]
      go_wp2_with fail
      refine HTO.out.mono ?_
      rintro e w4 ⟨rfl, hb4⟩
      have HB4 := Lib.hid (HB.out.trans (hb4.mono HB.out.size))
      have HW4 := Lib.hid (HW.out.below hb4)
      clear hb4 HW HB HTO
      obtain ⟨B1, X1, hv1⟩ := HW4.out.v
      have HLV := Lib.hid (wvLevel hv1 level path)
      have hlb : (lvS L level path).length ≤ 150 := by
        unfold lvS lvl; split
        · rw [List.length_map]; exact Nat.le_trans (List.length_filter_le _ _) hl
        · simp
      obtain ⟨bs, hbs⟩ : ∃ bs, lvS L level path = bs := ⟨_, rfl⟩
      rw [hbs] at HLV hlb
      clear hv1
      go_wp2_with fail
      refine HLV.out.mono ?_
      rintro e w5 ⟨v5, rfl, hown5, hb5⟩
      obtain ⟨a5, c5, rfl, _, _⟩ := own_slice hown5
      have HB5 := Lib.hid (HB4.out.trans (hb5.mono HB4.out.size))
      have HW5 := Lib.hid (HW4.out.below hb5)
      have HR5 := Lib.hid (readsV_own hown5)
      have hl6 := ref6LevelN_any a c L level path w5 HW5.out.r HSS.out (by omega)
      rw [hbs] at hl6
      have HL6 := Lib.hid hl6
      clear hown5 hb5 hl6 HB4 HW4 HLV hbs
      go_wp2_with fail
      refine HL6.out.mono ?_
      rintro e w6 ⟨v6, rfl, hown6, hb6⟩
      obtain ⟨a6, c6, rfl, _, _⟩ := own_slice hown6
      have HB6 := Lib.hid (HB5.out.trans (hb6.mono HB5.out.size))
      have HSM := Lib.hid (refSame_any a5 c5 bs a6 c6 bs w6 (HR5.out.below' hb6) (readsV_own hown6) (by omega))
      rw [show decide (bs = bs) = true by simp] at HSM
      clear hown6 hb6 HB5 HW5 HR5 HL6
      go_wp2_with fail
      refine HSM.out.mono ?_
      rintro e w' ⟨rfl, n7, rfl⟩
      have HB7 := Lib.hid (below_drewW HB6.out n7)
      go_wp2_with fail
      go_ret
      exact ⟨rfl, HB7.out⟩

end Go.Proofs.YtcppgpjodfeigaaDoor
