/- The walk of TreeUndo. -/
import Derived.Test.YtcppgpjodfeigaaDoorZt6
namespace Go.Proofs.YtcppgpjodfeigaaDoor
set_option linter.unusedVariables false
set_option linter.unusedSimpArgs false
open Go.RowKit

set_option maxHeartbeats 3200000 in
set_option maxRecDepth 100000 in
theorem walk_TreeUndo (w : World) (hT : BitTab w) (a0 : Option Addr) (c0 : Nat) (z0 : List Int) (w0 : ArgI .i64 w a0 c0 z0) (a1 : Option Addr) (c1 : Nat) (z1 : List Int) (w1 : ArgI .i64 w a1 c1 z1) (bit : Bool) :
    Calls Tryd.prog 7 #[.slice a0 z0.length c0, .slice a1 z1.length c1, .bool bit] w fun e w' => e = .returned (.bool true) ∧ Below w.heap.size w w' := by
  have hrd := w0.reads
  have hzm := Nat.le_trans w0.le w0.max
  have HR1 := Lib.hid w1.reads
  have hz1 : z1.length ≤ 9223372036854775807 := Nat.le_trans w1.le w1.max
  have HT := Lib.hid hT
  have HTL := Lib.hid hT.lt
  clear hT w0 w1
  go_enter Tryd.func7, Tryd.ntmps7
  go_wp2_with fail
  refine (lawBits_any a0 c0 z0 700 w hrd (by omega) hzm).mono ?_
  rintro e w1 ⟨l, hl, v, rfl, hown, hb1⟩
  obtain ⟨a, c, rfl, hnil, had⟩ := own_slice hown
  have hrm := readsV_own hown
  have hs1 := hb1.size
  have hX : ∀ k, obk (.slice a l.length c) k → k < w1.heap.size := fun k hk => (own_lt hown hk).2
  have HXA : Hid (∀ ad, a = some ad → obk (.slice a l.length c) ad.block) := fun ad h => by
    obtain ⟨g, rfl, _, _, h2⟩ := had ad h; exact h2
  have hcl : l.length ≤ c := (own_cap hown).1
  have HRM := Lib.hid hrm
  have HN := Lib.hid (new_t (B := w.heap.size) (X := obk (.slice a l.length c)) l rfl hrm hcl (by omega) hs1 hX)
  clear hown hrm hrd had hX hnil hcl
  generalize obk (.slice a l.length c) = X at *
  go_wp2_with fail
  refine HN.out.mono ?_
  rintro e w2 ⟨p, o, rfl, ht, hbits, hb2⟩
  have HR2 := Lib.hid (HRM.out.below' hb2)
  have hb := hb1.trans (hb2.mono hs1)
  have HTR := Lib.hid ht
  have HBI := Lib.hid hbits
  have HB := Lib.hid hb
  clear ht hbits hb1 hb2 hs1 HRM HN hb
  go_wp2_with fail
  go_loopw [9] (fun i wr => ∃ k : Nat, k ≤ z1.length ∧ i = .int .i64 k ∧ (∃ (o : Option ST) (made : Nat) (v : Int), TreeE w.heap.size X wr p o made v ∧ sbits o = l) ∧ ReadsV wr a (l.map Value.bool) ∧ Below w.heap.size w wr) (fun i _ => z1.length - (intOf i).toNat)
  case atStart => exact ⟨0, Nat.zero_le _, rfl, ⟨o, _, 0, HTR.out, HBI.out⟩, HR2.out, HB.out⟩
  case round => as_aux_lemma =>
    clear HTR HBI HR2 HB
    obtain ⟨k, hk, rfl, ⟨o, made, v, ht, hbits⟩, hr, hb⟩ := hrel
    have HTR := Lib.hid ht
    have HBI := Lib.hid hbits
    have HRD := Lib.hid hr
    have HB := Lib.hid hb
    clear ht hbits hr
    by_cases hlt : k < z1.length ∧ k < 20
    · obtain ⟨hlt, h20⟩ := hlt
      obtain ⟨b, off, rfl, hbl, hcells⟩ := HR1.out.some (by omega)
      have hcx := (hb.cell (p := ⟨b, off + k, none⟩) hbl).trans (hcells k hlt)
      generalize z1[k]?.getD 0 = x at *
      clear hcells hb
      go_wp2_with fail
      refine (near5_any x l.length (by omega) _).mono ?_
      rintro e w' ⟨⟨r, hrl, rfl⟩, rfl⟩
      go_wp2_with fail
      refine (insert_t HTR.out HBI.out r rfl hrl (by omega) bit).mono ?_
      rintro e w3 ⟨rfl, made3, ⟨v3, _, ht3⟩, hc3⟩
      have HBI3 : Hid (sbits (insO o r bit) = inL l r bit) := by show _ = _; rw [insO_bits (by rw [HBI.out]; exact hrl), HBI.out]
      have HB3 := Lib.hid (HB.out.trans (exT_below hc3 HTR.out.le))
      have HRD3 := Lib.hid (exT_keep HRD.out hc3 HXA.out)
      have HTR3 := Lib.hid ht3
      clear ht3 hc3 HB HRD HTR HBI
      generalize insO o r bit = o3 at *
      go_wp2_with fail
      refine (delete_t HTR3.out HBI3.out r rfl (by rw [inL_len hrl]; omega) (bitAt_in_self hrl)).mono ?_
      rintro e w4 ⟨rfl, ⟨v4, _, ht4⟩, hc4⟩
      have HBI4 : Hid (sbits (delO o3 r) = l) := by show _ = _; rw [delO_bits (by rw [HBI3.out, inL_len hrl]; omega), HBI3.out, out_in hrl]
      have HB4 := Lib.hid (HB3.out.trans (exT_below hc4 HTR3.out.le))
      have HRD4 := Lib.hid (exT_keep HRD3.out hc4 HXA.out)
      have HTR4 := Lib.hid ht4
      clear ht4 hc4 HB3 HRD3 HTR3 HBI3
      generalize delO o3 r = o4 at *
      cases bit
      all_goals
        go_wp2_with fail
        go_roundw
        case rel => exact ⟨k + 1, by omega, by go_num, ⟨o4, _, _, HTR4.out, HBI4.out⟩, HRD4.out, HB4.out⟩
        case measure => simp [intOf]; omega
    · have hor : ¬ k < z1.length ∨ (k < z1.length ∧ ¬ k < 20) := by omega
      clear hb hlt
      rcases hor with h1 | ⟨h1, h2⟩
      all_goals
        go_wp2_with fail
        refine (told5_any _ (HT.out.below' HB.out)).mono ?_
        rintro e w3 ⟨rfl, hb3⟩
        have HTR3 := Lib.hid (HTR.out.below hb3)
        have HRD3 := Lib.hid (HRD.out.below' hb3)
        have HB3 := Lib.hid (HB.out.trans (hb3.mono HB.out.size))
        clear hb3 HTR HRD HB
        go_wp2_with fail
        refine (all_t HTR3.out HBI.out).mono ?_
        rintro e w4 ⟨v4, rfl, hown4, hb4⟩
        obtain ⟨a4, c4, rfl, _, _⟩ := own_slice hown4
        have HRD4 := Lib.hid (HRD3.out.below' hb4)
        have HTR4 := Lib.hid (HTR3.out.below hb4)
        have HB4 := Lib.hid (HB3.out.trans (hb4.mono HB3.out.size))
        have hsm := refSame_any a4 c4 l a c l w4 (readsV_own hown4) HRD4.out (by omega)
        rw [show decide (l = l) = true by simp] at hsm
        have HSM := Lib.hid hsm
        clear hsm hown4 hb4 HTR3 HRD3 HB3
        go_wp2_with fail
        refine HSM.out.mono ?_
        rintro e w' ⟨rfl, n5, rfl⟩
        have HTR5 := Lib.hid (HTR4.out.drewN n5)
        have HB5 := Lib.hid (below_drewW HB4.out n5)
        generalize w4.drewN n5 = w5 at *
        clear HTR4 HB4 HSM
        go_wp2_with fail
        refine (shape_t HTR5.out).mono ?_
        rintro e w6 ⟨rfl, hb6⟩
        have HB6 := Lib.hid (HB5.out.trans (hb6.mono HB5.out.size))
        have HMY := Lib.hid (refMay_any HTR5.out.good HTR5.out.len w6)
        clear hb6 HB5 HTR5
        go_wp2_with fail
        refine HMY.out.mono ?_
        rintro e w7 ⟨rfl, hb7⟩
        go_wp2_with fail
        go_ret
        exact ⟨rfl, HB6.out.trans (hb7.mono HB6.out.size)⟩

end Go.Proofs.YtcppgpjodfeigaaDoor
