/- The walk of BlockHalves. -/
import Derived.Test.YticbfhbilfgoiaaDoorBlockL
namespace Go.Proofs.YticbfhbilfgoiaaDoor
set_option linter.unusedVariables false
set_option linter.unusedSimpArgs false
open Go.RowKit

set_option maxHeartbeats 3200000 in
set_option maxRecDepth 100000 in
theorem walk_BlockHalves (w : World) (hT : BitTab w) (a0 : Option Addr) (c0 : Nat) (z0 : List Int) (w0 : ArgI .i64 w a0 c0 z0) :
    Calls Tryd.prog 12 #[.slice a0 z0.length c0] w fun e w' => e = .returned (.bool true) ∧ Below w.heap.size w w' := by
  have hrd := w0.reads
  have hzm := Nat.le_trans w0.le w0.max
  have HT := Lib.hid hT
  clear hT w0
  go_enter Tryd.func12, Tryd.ntmps12
  go_wp2_with fail
  refine (lawBits_any a0 c0 z0 128 w hrd (by omega) hzm).mono ?_
  rintro e w1 ⟨l, hl, v, rfl, hown, hb1⟩
  obtain ⟨a, c, rfl, _, _⟩ := own_slice hown
  have hrm := readsV_own hown
  have hs1 := hb1.size
  have HRM := Lib.hid hrm
  have HLT : Hid (∀ ad, a = some ad → ad.block < w1.heap.size) := fun ad h => by
    obtain ⟨x, y, hv, _, hb⟩ := own_slice hown
    injection hv with e1 _ _
    obtain ⟨g, rfl, _, hg, _⟩ := hb ad (e1 ▸ h)
    exact hg
  clear hown hrm
  go_wp2_with fail
  refine (new_blk (B := w1.heap.size) l rfl HRM.out hl (Nat.le_refl _)).mono ?_
  rintro e w2 ⟨rfl, hk, hb2⟩
  have hb := hb1.trans (hb2.mono hs1)
  have HR2 := Lib.hid (HRM.out.below' hb2)
  have hs2 := hb2.size
  obtain ⟨B1, hB1⟩ : ∃ B1, w1.heap.size = B1 := ⟨_, rfl⟩
  rw [hB1] at hk hb2 hs2 HLT
  rw [hB1] at hs1
  clear hb1 hb2 HRM
  go_wp2_with fail
  clear hB1
  refine (split_at hk hs2).mono ?_
  rintro e w3 ⟨q, rfl, hq, hk3, hpq, hb3⟩
  have HR3 := Lib.hid (HR2.out.below hb3 HLT.out)
  have hbb := hb.trans (hb3.mono hs1)
  have hs3 := Nat.le_trans hs2 hb3.size
  have hl1 : (l.take (l.length / 2)).length = l.length / 2 := by rw [List.length_take]; omega
  have hl2 : (l.drop (l.length / 2)).length = l.length - l.length / 2 := by simp
  have hcat : l.take (l.length / 2) ++ l.drop (l.length / 2) = l := List.take_append_drop _ _
  have hcnt : (l.take (l.length / 2)).count true + (l.drop (l.length / 2)).count true = l.count true := by rw [← List.count_append, hcat]
  have hml : l.length / 2 ≤ l.length := Nat.div_le_self _ _
  have ed : ((l.length / 2 : Nat) : Int) = (l.length : Int) / 2 := by omega
  have c1 := List.count_le_length (a := true) (l := l)
  generalize hx : l.take (l.length / 2) = x at *
  generalize hy : l.drop (l.length / 2) = y at *
  have HL1 := Lib.hid hl1
  have HL2 := Lib.hid hl2
  have HCAT := Lib.hid hcat
  have HCNT := Lib.hid hcnt
  have HPQ := Lib.hid hpq
  have HED := Lib.hid ed
  clear hx hy hl1 hl2 hcat hcnt ed hpq hk hb hb3 HR2
  generalize l.length / 2 = m at *
  have e1 : ((x.length : Nat) : Int) = (l.length : Int) / 2 := by rw [HL1.out, HED.out]
  have e2 : ((y.length : Nat) : Int) = (l.length : Int) - (l.length : Int) / 2 := by have := HL2.out; have := HED.out; omega
  have HK3 := Lib.hid hk3
  have HQ3 := Lib.hid hq
  clear hk3 hq
  go_wp2_with fail
  refine (blkLen HK3.out.1).mono ?_
  rintro e w' ⟨rfl, rfl⟩
  rw [e1]
  go_wp2_with fail
  refine (blkLen HQ3.out.1).mono ?_
  rintro e w' ⟨rfl, rfl⟩
  rw [e2]
  have hd : ((l.length : Int) - (l.length : Int) / 2 != (l.length : Int) - (l.length : Int) / 2) = false := by simp
  go_wp2_with fail
  refine (blkAll HK3.out.1).mono ?_
  rintro e w4 ⟨v4, rfl, hown4, hb4⟩
  have HK4 := Lib.hid (HK3.out.below hb4)
  have HQ4 := Lib.hid (HQ3.out.below hb4)
  have HR4 := Lib.hid (HR3.out.below' hb4)
  have hb5 := hbb.trans (hb4.mono (by have := hbb.size; omega))
  have hs4 := Nat.le_trans hs3 hb4.size
  have HO4 := Lib.hid hown4
  have h34 := hb4.size
  have hp3 := HK3.out.1.lt
  have hq3 := HQ3.out.1.lt
  clear hown4 hb4 hbb HK3 HQ3 HR3
  go_wp2_with fail
  refine (blkAll HQ4.out.1).mono ?_
  rintro e w5 ⟨v5, rfl, hown5, hb6⟩
  have HK5 := Lib.hid (HK4.out.below hb6)
  have HQ5 := Lib.hid (HQ4.out.below hb6)
  have HR5 := Lib.hid (HR4.out.below' hb6)
  have hb7 := hb5.trans (hb6.mono (by have := hb5.size; omega))
  have hs5 := Nat.le_trans hs4 hb6.size
  have HO5 := Lib.hid (own_below HO4.out hb6 (fun k hk => (own_lt HO4.out hk).2))
  obtain ⟨a5, c5, rfl, hn5, _⟩ := own_slice hown5
  have HRR := Lib.hid (readsV_own hown5)
  have HN5 := Lib.hid hn5
  have h35 := Nat.le_trans h34 hb6.size
  clear hb5 hb6 hs4 HO4 HK4 HQ4 HR4 hown5 hn5 h34
  go_wp2_with (at_builtin; refine wpList_appendG rfl _ _ 40 rfl w3.heap.size 4 Tryd.infoBoolR Tryd.underlying40 rfl _ x.length _ rfl HO5.out a5 y.length c5 (y.map Value.bool) rfl (by simp) HN5.out HRR.out.hnews (oneB _) (by unfold maxLen; have := HL1.out; have := HL2.out; omega) (by have := HL1.out; have := HL2.out; omega) h35 ?_)
  intro a6 c6 w6 hown6 hgrow _
  have hb56 : Below w3.heap.size w5 w6 := (Below.refl _ _).grown hgrow h35 (fun k hk => (own_lt HO5.out hk).1)
  have HK6 : Hid (BkAt B1 w6 B1 x) := ⟨HK5.out.1.below hb56 hp3, HK5.out.2⟩
  have HQ6 : Hid (BkAt B1 w6 q y) := ⟨HQ5.out.1.below hb56 hq3, HQ5.out.2⟩
  have HR6 : Hid (ReadsV w6 a (l.map Value.bool)) := HR5.out.below hb56 (fun ad h => Nat.lt_of_lt_of_le (HLT.out ad h) hs3)
  have hb6 : Below w.heap.size w w6 := hb7.trans (hb56.mono (by omega))
  have hs6 : B1 ≤ w6.heap.size := Nat.le_trans hs5 hb56.size
  have hrd6 := readsV_own hown6
  rw [← List.map_append, HCAT.out] at hrd6
  have HRD6 := Lib.hid hrd6
  have hle : x.length + y.length = l.length := by have := HL1.out; have := HL2.out; omega
  have hsame := refSame_any a6 c6 l a c l w6 hrd6 HR6.out (by omega)
  rw [show decide (l = l) = true by simp] at hsame
  rw [hle]
  have HSAME := Lib.hid hsame
  clear hown6 hgrow hb56 hrd6 hle hsame HO5 HRR HN5 HK5 HQ5 HR5 hb7 hs5
  go_wp2_with fail
  refine HSAME.out.mono ?_
  rintro e w' ⟨rfl, n, rfl⟩
  have HK7 : Hid (BkAt B1 (w6.drewN n) B1 x) := HK6.out
  have HQ7 : Hid (BkAt B1 (w6.drewN n) q y) := HQ6.out
  have HR7 : Hid (ReadsV (w6.drewN n) a (l.map Value.bool)) := HR6.out
  have hb7 := below_drewW hb6 n
  have hs7 : B1 ≤ (w6.drewN n).heap.size := hs6
  generalize w6.drewN n = w7 at *
  clear hb6 hs6 HK6 HQ6 HR6 HSAME HRD6
  go_wp2_with fail
  refine (told2_any _ (HT.out.below' hb7)).mono ?_
  rintro e w8 ⟨rfl, hb8⟩
  have HK8 := Lib.hid (HK7.out.below hb8)
  have HQ8 := Lib.hid (HQ7.out.below hb8)
  have HR8 := Lib.hid (HR7.out.below' hb8)
  have hb9 := hb7.trans (hb8.mono hb7.size)
  have hs8 := Nat.le_trans hs7 hb8.size
  clear hb7 hb8 hs7 HK7 HQ7 HR7
  have k1 := List.count_le_length (a := true) (l := x)
  have k2 := List.count_le_length (a := true) (l := y)
  have k3 := HL1.out
  have k4 := HL2.out
  have hcs : ((x.count true : Nat) : Int) + (y.count true : Nat) = (l.count true : Nat) := by have := HCNT.out; omega
  have hrk : rankL l ((l.length : Int)).toNat true = l.count true := by rw [Int.toNat_natCast, rankL_over true (Nat.le_refl _)]
  have HRK := Lib.hid hrk
  have k5 : x.count true ≤ 128 := by omega
  have k6 : y.count true ≤ 128 := by omega
  clear k1 k2 k3 k4 hrk e1 e2 hd
  go_wp2_with fail
  refine (blkOnes HK8.out.1).mono ?_
  rintro e w' ⟨rfl, rfl⟩
  go_wp2_with fail
  refine (blkOnes HQ8.out.1).mono ?_
  rintro e w' ⟨rfl, rfl⟩
  go_wp2_with fail
  refine (refRanks_any a c l l.length true _ HR8.out (by omega)).mono ?_
  rintro e w' ⟨rfl, rfl⟩
  rw [HRK.out]
  go_wp2_with fail
  refine (join_at HK8.out HQ8.out HPQ.out hs8 (by have := HL1.out; have := HL2.out; omega)).mono ?_
  rintro e w9 ⟨rfl, hk9, hq9, hb10⟩
  rw [HCAT.out] at hk9
  have HK9 := Lib.hid hk9
  have HQ9 := Lib.hid hq9
  have HR9 := Lib.hid (HR8.out.below hb10 HLT.out)
  have hb11 := hb9.trans (hb10.mono hs1)
  clear hk9 hq9 hb10 hb9 hs8 hcs
  go_wp2_with fail
  refine (blkAll HK9.out.1).mono ?_
  rintro e w10 ⟨v, rfl, hown, hb12⟩
  obtain ⟨a7, c7, rfl, _, _⟩ := own_slice hown
  have hrd7 := readsV_own hown
  have HQ10 := Lib.hid (HQ9.out.below hb12)
  have HR10 := Lib.hid (HR9.out.below' hb12)
  have hb13 := hb11.trans (hb12.mono hb11.size)
  have hsame := refSame_any a7 c7 l a c l w10 hrd7 HR10.out (by omega)
  rw [show decide (l = l) = true by simp] at hsame
  have HSAME := Lib.hid hsame
  clear hown hrd7 hb12 hb11 hsame
  go_wp2_with fail
  refine HSAME.out.mono ?_
  rintro e w' ⟨rfl, n, rfl⟩
  have HQ11 : Hid (BkAt B1 (w10.drewN n) q []) := HQ10.out
  have hb14 := below_drewW hb13 n
  generalize w10.drewN n = w11 at *
  clear hb13 HSAME
  go_wp2_with fail
  refine (blkAll HQ11.out.1).mono ?_
  rintro e w12 ⟨v, rfl, hown, hb15⟩
  obtain ⟨a8, c8, rfl, _, _⟩ := own_slice hown
  have hb16 := hb14.trans (hb15.mono hb14.size)
  clear hown hb15 hb14
  go_wp2_with fail
  go_ret
  exact ⟨rfl, hb16⟩

end Go.Proofs.YticbfhbilfgoiaaDoor
