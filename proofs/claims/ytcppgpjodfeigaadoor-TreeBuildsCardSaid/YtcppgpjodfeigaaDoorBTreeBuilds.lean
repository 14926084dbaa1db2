/- The walk of TreeBuilds. -/
import Derived.Test.YtcppgpjodfeigaaDoorZt6
namespace Go.Proofs.YtcppgpjodfeigaaDoor
set_option linter.unusedVariables false
set_option linter.unusedSimpArgs false
open Go.RowKit

/-- Two trees and a row, apart from one another. -/
structure T2 (B : Nat) (X : Nat → Prop) (w0 w : World) (Sa : Nat → Prop) (p : Nat) (oa : Option ST) (ma : Nat) (q : Nat) (ob : Option ST) (mb : Nat) (a : Option Addr) (L : List Bool) : Prop where
  ta : ∃ v : Int, TreeIs Sa w p oa ma v
  tb : ∃ v : Int, TreeE B (fun k => X k ∨ Sa k) w q ob mb v
  sa : ∀ k, Sa k → exT B X k
  r : ReadsV w a (L.map Value.bool)
  xa : ∀ ad, a = some ad → X ad.block
  tab : BitTab w
  tl : 0 < B
  bl : Below B w0 w

section
variable {B : Nat} {X : Nat → Prop} {w0 w w' : World} {Sa : Nat → Prop} {p ma q mb : Nat} {oa ob : Option ST} {a : Option Addr} {L M : List Bool}
theorem T2.le (h : T2 B X w0 w Sa p oa ma q ob mb a L) : B ≤ w.heap.size := by obtain ⟨v, h0⟩ := h.tb; exact h0.le
theorem T2.lookA (h : T2 B X w0 w Sa p oa ma q ob mb a L) {m : Nat} (hl : TLook Sa w w' p oa ma m) : T2 B X w0 w' Sa p oa ma q ob mb a L := by
  obtain ⟨vb, hb⟩ := h.tb
  obtain ⟨⟨v, _, h1⟩, hc⟩ := hl
  have hbl : Below B w w' := hc.below (fun k hk => (h.sa k hk).1) h.le
  exact ⟨⟨v, h1⟩, ⟨vb, hb.chg hc (fun k hk _ hs => hk.2 (Or.inr hs))⟩, h.sa, h.r.chg hc (fun ad ha hk => (h.sa _ hk).2 (h.xa ad ha)), h.xa, h.tab.below hbl h.tl, h.tl, h.bl.trans hbl⟩
theorem T2.stepB (h : T2 B X w0 w Sa p oa ma q ob mb a L) {ob' : Option ST} {mb' : Nat} {v : Int} (ht : TreeE B (fun k => X k ∨ Sa k) w' q ob' mb' v) (hc : Chg (exT B (fun k => X k ∨ Sa k)) w w') : T2 B X w0 w' Sa p oa ma q ob' mb' a L := by
  obtain ⟨va, ha⟩ := h.ta
  have hbl : Below B w w' := exT_below hc h.le
  exact ⟨⟨va, ha.chg hc (fun k hk hs => hs.2 (Or.inr hk))⟩, ⟨v, ht⟩, h.sa, h.r.chg hc (fun ad ha hk => hk.2 (Or.inl (h.xa ad ha))), h.xa, h.tab.below hbl h.tl, h.tl, h.bl.trans hbl⟩
theorem T2.below (h : T2 B X w0 w Sa p oa ma q ob mb a L) (hb : Below w.heap.size w w') : T2 B X w0 w' Sa p oa ma q ob mb a L := by
  obtain ⟨va, ha⟩ := h.ta
  obtain ⟨vb, hb'⟩ := h.tb
  exact ⟨⟨va, ha.below hb⟩, ⟨vb, hb'.below hb⟩, h.sa, h.r.below' hb, h.xa, h.tab.below' hb, h.tl, h.bl.trans (hb.mono h.le)⟩
theorem T2.drewN (h : T2 B X w0 w Sa p oa ma q ob mb a L) (n : Nat) : T2 B X w0 (w.drewN n) Sa p oa ma q ob mb a L := h.below ⟨rfl, rfl, rfl, Nat.le_refl _, fun _ _ => rfl⟩
theorem T2.insB (h : T2 B X w0 w Sa p oa ma q ob mb a L) (hM : sbits ob = M) (n : Nat) {k : Int} (hk : k = (n : Int)) (hn : n ≤ M.length) (hl : M.length < 2147483648) (b : Bool) :
    Calls Tryd.prog 25 #[.pointer (some ⟨q, 0, none⟩), .int .i64 k, .bool b] w fun e w' => e = .returned (.int .i64 0) ∧ ∃ ob' mb', T2 B X w0 w' Sa p oa ma q ob' mb' a L ∧ sbits ob' = inL M n b := by
  obtain ⟨v, h0⟩ := h.tb
  refine (insert_t h0 hM n hk hn hl b).mono ?_
  rintro e w' ⟨rfl, mb', ⟨v', _, h1⟩, hc⟩
  exact ⟨rfl, _, mb', h.stepB h1 hc, by rw [insO_bits (by rw [hM]; exact hn), hM]⟩
theorem T2.rankA (h : T2 B X w0 w Sa p oa ma q ob mb a L) (hM : sbits oa = M) (k : Int) (x : Bool) {r : Nat} (hr : rankL M k.toNat x = r) :
    Calls Tryd.prog 20 #[.pointer (some ⟨p, 0, none⟩), .int .i64 k, .bool x] w fun e w' => e = .returned (.int .i64 r) ∧ T2 B X w0 w' Sa p oa ma q ob mb a L := by
  subst hM hr
  obtain ⟨v, h0⟩ := h.ta
  refine (tRank_is h0 k x).mono ?_
  rintro e w' ⟨rfl, hl⟩
  exact ⟨rfl, h.lookA hl⟩
theorem T2.rankB (h : T2 B X w0 w Sa p oa ma q ob mb a L) (hM : sbits ob = M) (k : Int) (x : Bool) {r : Nat} (hr : rankL M k.toNat x = r) :
    Calls Tryd.prog 20 #[.pointer (some ⟨q, 0, none⟩), .int .i64 k, .bool x] w fun e w' => e = .returned (.int .i64 r) ∧ T2 B X w0 w' Sa p oa ma q ob mb a L := by
  obtain ⟨v, h0⟩ := h.tb
  refine (rank_t h0 hM k x hr).mono ?_
  rintro e w' ⟨rfl, ⟨v', _, h1⟩, hc⟩
  exact ⟨rfl, h.stepB h1 hc⟩
theorem T2.selA (h : T2 B X w0 w Sa p oa ma q ob mb a L) (hM : sbits oa = M) (k : Int) (x : Bool) {r : Int} (hr : selL M k x = r) :
    Calls Tryd.prog 21 #[.pointer (some ⟨p, 0, none⟩), .int .i64 k, .bool x] w fun e w' => e = .returned (.int .i64 r) ∧ T2 B X w0 w' Sa p oa ma q ob mb a L := by
  subst hM hr
  obtain ⟨v, h0⟩ := h.ta
  refine (tSelect_is h0 h.tab (fun hs => by have := (h.sa _ hs).1; have := h.tl; omega) k x).mono ?_
  rintro e w' ⟨rfl, hl⟩
  exact ⟨rfl, h.lookA hl⟩
theorem T2.selB (h : T2 B X w0 w Sa p oa ma q ob mb a L) (hM : sbits ob = M) (k : Int) (x : Bool) {r : Int} (hr : selL M k x = r) :
    Calls Tryd.prog 21 #[.pointer (some ⟨q, 0, none⟩), .int .i64 k, .bool x] w fun e w' => e = .returned (.int .i64 r) ∧ T2 B X w0 w' Sa p oa ma q ob mb a L := by
  obtain ⟨v, h0⟩ := h.tb
  refine (select_t h0 h.tab h.tl hM k x hr).mono ?_
  rintro e w' ⟨rfl, ⟨v', _, h1⟩, hc⟩
  exact ⟨rfl, h.stepB h1 hc⟩
theorem T2.onesA (h : T2 B X w0 w Sa p oa ma q ob mb a L) (hM : sbits oa = M) {r : Nat} (hr : M.count true = r) :
    Calls Tryd.prog 23 #[.pointer (some ⟨p, 0, none⟩)] w fun e w' => e = .returned (.int .i64 r) ∧ T2 B X w0 w' Sa p oa ma q ob mb a L := by
  subst hM hr
  obtain ⟨v, h0⟩ := h.ta
  refine (tOnes_is h0).mono ?_
  rintro e w' ⟨rfl, n, rfl⟩
  exact ⟨rfl, h.drewN n⟩
theorem T2.onesB (h : T2 B X w0 w Sa p oa ma q ob mb a L) (hM : sbits ob = M) {r : Nat} (hr : M.count true = r) :
    Calls Tryd.prog 23 #[.pointer (some ⟨q, 0, none⟩)] w fun e w' => e = .returned (.int .i64 r) ∧ T2 B X w0 w' Sa p oa ma q ob mb a L := by
  subst hr
  obtain ⟨v, h0⟩ := h.tb
  refine (ones_t h0 hM).mono ?_
  rintro e w' ⟨rfl, n, rfl⟩
  exact ⟨rfl, h.drewN n⟩
end

set_option maxHeartbeats 3200000 in
set_option maxRecDepth 100000 in
theorem walk_TreeBuilds (w : World) (hT : BitTab w) (a0 : Option Addr) (c0 : Nat) (z0 : List Int) (w0 : ArgI .i64 w a0 c0 z0) :
    Calls Tryd.prog 6 #[.slice a0 z0.length c0] w fun e w' => e = .returned (.bool true) ∧ Below w.heap.size w w' := by
  have hrd := w0.reads
  have hzm := Nat.le_trans w0.le w0.max
  have HT := Lib.hid hT
  have HTL := Lib.hid hT.lt
  clear hT w0
  go_enter Tryd.func6, Tryd.ntmps6
  go_wp2_with fail
  refine (lawBits_any a0 c0 z0 700 w hrd (by omega) hzm).mono ?_
  rintro e w1 ⟨l, hl, v, rfl, hown, hb1⟩
  obtain ⟨a, c, rfl, hnil, had⟩ := own_slice hown
  have hrm := readsV_own hown
  have hs1 := hb1.size
  have hX : ∀ k, obk (.slice a l.length c) k → k < w1.heap.size := fun k hk => (own_lt hown hk).2
  have HXA : Hid (∀ ad, a = some ad → obk (.slice a l.length c) ad.block) := fun ad h => by
    obtain ⟨g, rfl, _, _, h2⟩ := had ad h; exact h2
  have hcl : l.length ≤ c := (own_cap hown).1
  have HRM := Lib.hid hrm
  have HXL := Lib.hid hX
  have HN := Lib.hid (new_t (B := w.heap.size) (X := obk (.slice a l.length c)) l rfl hrm hcl (by omega) hs1 hX)
  clear hown hrm hrd had hX hnil hcl
  generalize obk (.slice a l.length c) = X at *
  go_wp2_with fail
  refine HN.out.mono ?_
  rintro e w2 ⟨p, oa, rfl, hta, hbits, hb2⟩
  have HB := Lib.hid (hb1.trans (hb2.mono hs1))
  have HR2 := Lib.hid (HRM.out.below' hb2)
  obtain ⟨Sa, hsa, hsx⟩ := hta.t
  have HN2 := Lib.hid (new_t (B := w.heap.size) (X := fun k => X k ∨ Sa k) (w := w2) (a := none) (c := 0) [] rfl ReadsV.nil (Nat.le_refl _) (by decide) HB.out.size (fun k hk => hk.elim (fun h => hta.x k h) (hsa.lt k)))
  have HBA := Lib.hid hbits
  have HSA := Lib.hid hsa
  have HSX := Lib.hid hsx
  clear hta hbits hb1 hb2 hs1 HRM HN hsa hsx HXL
  generalize sizeO oa = ma at *
  go_wp2_with fail
  refine HN2.out.mono ?_
  rintro e w3 ⟨q, ob, rfl, htb, hbb, hb3⟩
  have H2 : Hid (T2 w.heap.size X w w3 Sa p oa ma q ob (sizeO ob) a l) := ⟨⟨0, HSA.out.below hb3⟩, ⟨0, htb⟩, HSX.out, HR2.out.below' hb3, HXA.out, HT.out.below' (HB.out.trans (hb3.mono HB.out.size)), HTL.out, HB.out.trans (hb3.mono HB.out.size)⟩
  have HBB := Lib.hid hbb
  clear htb hbb hb3 HN2 HSA HSX HR2 HXA HB
  generalize sizeO ob = mb at *
  go_wp2_with fail
  go_loopw [6] (fun i wr => ∃ k : Nat, k ≤ l.length ∧ i = .int .i64 k ∧ ∃ (ob : Option ST) (mb : Nat), T2 w.heap.size X w wr Sa p oa ma q ob mb a l ∧ sbits ob = l.take k) (fun i _ => l.length - (intOf i).toNat)
  case atStart => exact ⟨0, Nat.zero_le _, rfl, ob, mb, H2.out, HBB.out⟩
  case round => as_aux_lemma =>
    clear H2 HBB
    obtain ⟨k, hk, rfl, ob, mb, h2, hbb⟩ := hrel
    have H2 := Lib.hid h2
    have HBB := Lib.hid hbb
    clear h2 hbb
    by_cases hlt : k < l.length
    · obtain ⟨b, off, ha, hbl, hc⟩ := readsB H2.out.r hlt
      have HI : Hid (inL (l.take k) k (bitAt l k) = l.take (k + 1)) := by
        show _ = _
        unfold inL
        rw [List.take_take, Nat.min_self, List.drop_of_length_le (by rw [List.length_take]; omega), List.take_add_one]
        simp [bitAt, hlt]
      have HIN := Lib.hid (H2.out.insB HBB.out k rfl (by rw [List.length_take]; omega) (by rw [List.length_take]; omega) (bitAt l k))
      subst ha
      generalize bitAt l k = x at *
      clear hbl
      go_wp2_with fail
      refine HIN.out.mono ?_
      rintro e w4 ⟨rfl, ob4, mb4, h4, hb4⟩
      have H4 := Lib.hid h4
      have HB4 : Hid (sbits ob4 = l.take (k + 1)) := by show _ = _; rw [hb4]; exact HI.out
      clear h4 hb4 HIN HI H2 HBB
      go_wp2_with fail
      go_roundw
      case rel => exact ⟨k + 1, by omega, by go_num, ob4, mb4, H4.out, HB4.out⟩
      case measure => simp [intOf]; omega
    · have HB4 : Hid (sbits ob = l) := by
        show _ = _; rw [HBB.out, List.take_of_length_le (by omega)]
      obtain ⟨va, ha⟩ := H2.out.ta
      have hall := tAll_is ha
      rw [HBA.out] at hall
      have HALL := Lib.hid hall
      clear HBB ha hall
      go_wp2_with fail
      refine HALL.out.mono ?_
      rintro e w4 ⟨v4, rfl, hown4, hb4⟩
      obtain ⟨a4, c4, rfl, _, _⟩ := own_slice hown4
      have H4 := Lib.hid (H2.out.below hb4)
      have HRA := Lib.hid (readsV_own hown4)
      obtain ⟨vb, hb⟩ := H4.out.tb
      have HALL2 := Lib.hid (all_t hb HB4.out)
      clear hown4 hb4 hb H2 HALL
      go_wp2_with fail
      refine HALL2.out.mono ?_
      rintro e w5 ⟨v5, rfl, hown5, hb5⟩
      obtain ⟨a5, c5, rfl, _, _⟩ := own_slice hown5
      have H5 := Lib.hid (H4.out.below hb5)
      have hsm := refSame_any a4 c4 l a5 c5 l w5 (HRA.out.below' hb5) (readsV_own hown5) (by omega)
      rw [show decide (l = l) = true by simp] at hsm
      have HSM := Lib.hid hsm
      clear hsm hown5 hb5 H4 HRA HALL2
      go_wp2_with fail
      refine HSM.out.mono ?_
      rintro e w' ⟨rfl, n5, rfl⟩
      have H6 := Lib.hid (H5.out.drewN n5)
      generalize w5.drewN n5 = w6 at *
      clear H5 HSM
      go_wp2_with fail
      refine (H6.out.onesA HBA.out rfl).mono ?_
      rintro e w7 ⟨rfl, h7⟩
      have H7 := Lib.hid h7
      clear h7 H6
      go_wp2_with fail
      refine (H7.out.onesB HB4.out rfl).mono ?_
      rintro e w8 ⟨rfl, h8⟩
      have H8 := Lib.hid h8
      clear h8 H7
      generalize l.count true = cnt at *
      have dq : IntKind.i64.wrap ((l.length : Int) / 20) = (l.length : Int) / 20 := IntWalk.i64_in _ (by omega)
      go_wp2_with fail
      go_loopw [7] (fun i wr => ∃ k : Nat, k ≤ 2000 ∧ i = .int .i64 k ∧ T2 w.heap.size X w wr Sa p oa ma q ob mb a l) (fun i _ => 2001 - (intOf i).toNat)
      case atStart => exact ⟨0, by omega, rfl, H8.out⟩
      case round => as_aux_lemma =>
        clear H8
        obtain ⟨i, hi, rfl, h2⟩ := hrel
        have H2 := Lib.hid h2
        clear h2
        by_cases hlt : i ≤ l.length
        · go_wp2_with fail
          obtain ⟨r1, hr1⟩ : ∃ r, rankL l ((i : Int)).toNat true = r := ⟨_, rfl⟩
          have HR1 := Lib.hid hr1
          clear hr1
          refine (H2.out.rankA HBA.out (i : Int) true HR1.out).mono ?_
          rintro e w4 ⟨rfl, h4⟩
          have H4 := Lib.hid h4
          clear h4 H2
          go_wp2_with fail
          refine (H4.out.rankB HB4.out (i : Int) true HR1.out).mono ?_
          rintro e w5 ⟨rfl, h5⟩
          have H5 := Lib.hid h5
          clear h5 H4
          go_wp2_with fail
          obtain ⟨r2, hr2⟩ : ∃ r, selL l (i : Int) true = r := ⟨_, rfl⟩
          have HR2 := Lib.hid hr2
          clear hr2
          refine (H5.out.selA HBA.out (i : Int) true HR2.out).mono ?_
          rintro e w6 ⟨rfl, h6⟩
          have H6 := Lib.hid h6
          clear h6 H5
          go_wp2_with fail
          refine (H6.out.selB HB4.out (i : Int) true HR2.out).mono ?_
          rintro e w7 ⟨rfl, h7⟩
          have H7 := Lib.hid h7
          clear h7 H6
          go_wp2_with fail
          obtain ⟨r3, hr3⟩ : ∃ r, selL l (i : Int) false = r := ⟨_, rfl⟩
          have HR3 := Lib.hid hr3
          clear hr3
          refine (H7.out.selA HBA.out (i : Int) false HR3.out).mono ?_
          rintro e w8 ⟨rfl, h8⟩
          have H8 := Lib.hid h8
          clear h8 H7
          go_wp2_with fail
          refine (H8.out.selB HB4.out (i : Int) false HR3.out).mono ?_
          rintro e w9 ⟨rfl, h9⟩
          have H9 := Lib.hid h9
          clear h9 H8
          go_wp2_with fail
          go_roundw
          case rel => exact ⟨i + 1 + l.length / 20, by omega, by go_num, H9.out⟩
          case measure => simp [intOf]; omega
        · go_wp2_with fail
          refine (told5_any _ H2.out.tab).mono ?_
          rintro e w3 ⟨rfl, hb3⟩
          go_wp2_with fail
          go_ret
          exact ⟨rfl, (H2.out.below hb3).bl⟩

end Go.Proofs.YtcppgpjodfeigaaDoor
