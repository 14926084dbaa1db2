/- The walk of BlockRanks. -/
import Derived.Test.YticbfhbilfgoiaaDoorBlockL
namespace Go.Proofs.YticbfhbilfgoiaaDoor
set_option linter.unusedVariables false
set_option linter.unusedSimpArgs false
open Go.RowKit

set_option maxHeartbeats 3200000 in
set_option maxRecDepth 100000 in
theorem walk_BlockRanks (w : World) (hT : BitTab w) (a0 : Option Addr) (c0 : Nat) (z0 : List Int) (w0 : ArgI .i64 w a0 c0 z0) :
    Calls Tryd.prog 11 #[.slice a0 z0.length c0] w fun e w' => e = .returned (.bool true) ∧ Below w.heap.size w w' := by
  have hrd := w0.reads
  have hzm := Nat.le_trans w0.le w0.max
  have HT := Lib.hid hT
  clear hT w0
  go_enter Tryd.func11, Tryd.ntmps11
  go_wp2_with fail
  refine (lawBits_any a0 c0 z0 128 w hrd (by omega) hzm).mono ?_
  rintro e w1 ⟨l, hl, v, rfl, hown, hb1⟩
  obtain ⟨a, c, rfl, _, _⟩ := own_slice hown
  have hrm := readsV_own hown
  have hs1 := hb1.size
  have HRM := Lib.hid hrm
  clear hown hrm
  go_wp2_with fail
  refine (new_blk (B := w.heap.size) l rfl HRM.out hl hs1).mono ?_
  rintro e w2 ⟨rfl, hk, hb2⟩
  have hrm2 := HRM.out.below' hb2
  have HR2 := Lib.hid hrm2
  have hb := hb1.trans (hb2.mono hs1)
  clear hrm2 hb1 hb2 hs1 HRM
  generalize w1.heap.size = p at *
  go_wp2_with fail
  go_loopw [6] (fun i wr => ∃ k : Nat, k ≤ l.length ∧ i = .int .i64 k ∧ BkAt w.heap.size wr p l ∧ ReadsV wr a (l.map Value.bool) ∧ Below w.heap.size w wr) (fun i _ => l.length - (intOf i).toNat)
  case atStart => exact ⟨0, Nat.zero_le _, rfl, hk, HR2.out, hb⟩
  case round =>
    clear hk hb HR2
    obtain ⟨k, hkl, rfl, hk, hr, hb⟩ := hrel
    have hs := hb.size
    by_cases hlt : k < l.length
    · have hle := rankL_le l k true
      have hboth := rankL_both (l := l) (k := k) (by omega)
      have hst : l[k]?.getD false = true → selL l (rankL l k true : Nat) true = k := fun h => selL_hit hlt h rfl
      have hsf : l[k]?.getD false = false → selL l ((k : Int) - (rankL l k true : Nat)) false = k := fun h => selL_hit hlt h (by omega)
      have HST := Lib.hid hst
      have HSF := Lib.hid hsf
      have HR := Lib.hid hr
      have HK := Lib.hid hk
      have hrk : rankL l ((k : Int)).toNat true = rankL l k true := by rw [Int.toNat_natCast]
      have HRK := Lib.hid hrk
      clear hst hsf hr hk hboth hrk
      go_wp2_with fail
      refine (blkRank HK.out.1 k).mono ?_
      rintro e w3 ⟨rfl, hb3⟩
      rw [HRK.out]
      have hr3 := HR.out.below' hb3
      have HK3 := Lib.hid (HK.out.below hb3)
      have hbb := hb.trans (hb3.mono hs)
      have hss := hbb.size
      obtain ⟨b, off, rfl, hbl, hc⟩ := readsB hr3 hlt
      have HR3 := Lib.hid hr3
      generalize hrr : rankL l k true = r at *
      clear hrr hr3 hb3 hb hs HK HR
      cases hbit : bitAt l k
      · have HSEL := Lib.hid (HSF.out hbit)
        rw [hbit] at hc
        clear hbit HST HSF
        go_wp2_with fail
        refine (blkSelect HK3.out.1 (HT.out.below' hbb) ((k : Int) - (r : Int)) false (by omega)).mono ?_
        rintro e w4 ⟨rfl, hb4⟩
        rw [HSEL.out]
        have HR4 := Lib.hid (HR3.out.below' hb4)
        have HK4 := Lib.hid (HK3.out.below hb4)
        have hb5 := hbb.trans (hb4.mono hss)
        clear hbb hss hb4
        go_wp2_with fail
        go_roundw
        case rel => exact ⟨k + 1, by omega, by go_num, HK4.out, HR4.out, hb5⟩
        case measure => simp [intOf]; omega
      · have HSEL := Lib.hid (HST.out hbit)
        rw [hbit] at hc
        have hc2 : Hid (∀ w', Below w3.heap.size w3 w' → w'.cell? ⟨b, off + k, none⟩ = some (.bool true)) := fun w' h => (h.cell (p := ⟨b, off + k, none⟩) hbl).trans hc
        clear hbit HST HSF
        go_wp2_with fail
        refine (blkSelect HK3.out.1 (HT.out.below' hbb) (r : Int) true (by omega)).mono ?_
        rintro e w4 ⟨rfl, hb4⟩
        rw [HSEL.out]
        have HR4 := Lib.hid (HR3.out.below' hb4)
        have HK4 := Lib.hid (HK3.out.below hb4)
        have hc4 := hc2.out w4 hb4
        have hb5 := hbb.trans (hb4.mono hss)
        clear hbb hss hb4
        go_wp2_with fail
        go_roundw
        case rel => exact ⟨k + 1, by omega, by go_num, HK4.out, HR4.out, hb5⟩
        case measure => simp [intOf]; omega
    · have hrk : rankL l ((l.length : Int)).toNat true = l.count true := by rw [Int.toNat_natCast, rankL_over true (Nat.le_refl _)]
      have hcnt := List.count_le_length (a := true) (l := l)
      have hbo := rankL_both (l := l) (k := l.length) (Nat.le_refl _)
      rw [rankL_over true (Nat.le_refl _), rankL_over false (Nat.le_refl _)] at hbo
      have s1 : selL l (l.count true : Nat) true = -1 := selL_many (Int.le_refl _)
      have s2 : selL l ((l.length : Int) - (l.count true : Nat)) false = -1 := selL_many (by omega)
      have HRK := Lib.hid hrk
      have S1 := Lib.hid s1
      have S2 := Lib.hid s2
      have HK := Lib.hid hk
      clear hrk hbo s1 s2 hk hr
      go_wp2_with fail
      refine (told2_any _ (HT.out.below' hb)).mono ?_
      rintro e w3 ⟨rfl, hb3⟩
      have HK3 := Lib.hid (HK.out.below hb3)
      have hb4 := hb.trans (hb3.mono hs)
      have hs4 := hb4.size
      clear hb3 hb hs HK
      go_wp2_with fail
      refine (blkRank HK3.out.1 l.length).mono ?_
      rintro e w4 ⟨rfl, hb5⟩
      rw [HRK.out]
      have HK4 := Lib.hid (HK3.out.below hb5)
      have hb6 := hb4.trans (hb5.mono hs4)
      have hs6 := hb6.size
      clear hb5 hb4 hs4 HK3
      go_wp2_with fail
      refine (blkOnes HK4.out.1).mono ?_
      rintro e w' ⟨rfl, rfl⟩
      go_wp2_with fail
      refine (blkOnes HK4.out.1).mono ?_
      rintro e w' ⟨rfl, rfl⟩
      go_wp2_with fail
      refine (blkSelect HK4.out.1 (HT.out.below' hb6) (l.count true : Nat) true (by omega)).mono ?_
      rintro e w5 ⟨rfl, hb7⟩
      rw [S1.out]
      have HK5 := Lib.hid (HK4.out.below hb7)
      have hb8 := hb6.trans (hb7.mono hs6)
      have hs8 := hb8.size
      clear hb7 hb6 hs6 HK4
      go_wp2_with fail
      refine (blkOnes HK5.out.1).mono ?_
      rintro e w' ⟨rfl, rfl⟩
      go_wp2_with fail
      refine (blkSelect HK5.out.1 (HT.out.below' hb8) ((l.length : Int) - (l.count true : Nat)) false (by omega)).mono ?_
      rintro e w6 ⟨rfl, hb9⟩
      rw [S2.out]
      go_wp2_with fail
      go_ret
      exact ⟨rfl, hb8.trans (hb9.mono hs8)⟩

end Go.Proofs.YticbfhbilfgoiaaDoor
