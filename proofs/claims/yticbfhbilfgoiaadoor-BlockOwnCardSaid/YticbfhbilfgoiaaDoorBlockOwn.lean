/- The walk of BlockOwn. -/
import Derived.Test.YticbfhbilfgoiaaDoorBlockL
namespace Go.Proofs.YticbfhbilfgoiaaDoor
set_option linter.unusedVariables false
set_option linter.unusedSimpArgs false
open Go.RowKit

set_option maxHeartbeats 3200000 in
set_option maxRecDepth 100000 in
theorem walk_BlockOwn (w : World) (hT : BitTab w) (a0 : Option Addr) (c0 : Nat) (z0 : List Int) (w0 : ArgI .i64 w a0 c0 z0) :
    Calls Tryd.prog 13 #[.slice a0 z0.length c0] w fun e w' => e = .returned (.bool true) ∧ Below w.heap.size w w' := by
  have hrd := w0.reads
  have hzm := Nat.le_trans w0.le w0.max
  have HT := Lib.hid hT
  clear hT w0
  go_enter Tryd.func13, Tryd.ntmps13
  go_wp2_with fail
  refine (lawBits_any a0 c0 z0 128 w hrd (by omega) hzm).mono ?_
  rintro e w1 ⟨l, hl, v, rfl, hown, hb1⟩
  have hs1 := hb1.size
  by_cases hl1 : l.length < 1
  · obtain ⟨a, c, rfl, _, _⟩ := own_slice hown
    clear hown
    go_wp2_with fail
    refine (told2_any _ (HT.out.below' hb1)).mono ?_
    rintro e w2 ⟨rfl, hb2⟩
    go_wp2_with fail
    go_ret
    exact ⟨rfl, hb1.trans (hb2.mono hs1)⟩
  · have hlen : 0 < l.length := by omega
    obtain ⟨g, cap, rfl, hg0, hg1, hgc, hgm, hcells, hfz⟩ := own_some hown hlen
    have hrm := readsV_own hown
    have hx := hcells 0 hlen
    rw [List.getElem?_map, List.getElem?_eq_getElem hlen] at hx
    simp only [Option.map_some] at hx
    have e0 : bitAt l 0 = l[0] := by simp [bitAt, hlen]
    have E0 := Lib.hid e0
    generalize l[0] = x at *
    have hz := hfz 0
    have HRM := Lib.hid hrm
    have hd : decide ((l.length : Int) < 1) = false := by simp; omega
    clear hown hrm hcells e0
    go_wp2_with fail
    refine (new_blk (B := w.heap.size) l rfl HRM.out hl hs1).mono ?_
    rintro e w2 ⟨rfl, hk, hb2⟩
    have hx2 : w2.cell? ⟨g, 0, none⟩ = some (.bool x) := (hb2.cell (p := ⟨g, 0, none⟩) hg1).trans hx
    have hz2 : w2.frozen? ⟨g, 0, none⟩ = false := (hb2.frozen (p := ⟨g, 0, none⟩) hg1).trans hz
    have hb := hb1.trans (hb2.mono hs1)
    have hs := hb.size
    obtain ⟨p, hp⟩ : ∃ p, w1.heap.size = p := ⟨_, rfl⟩
    rw [hp] at hk
    have hgp : p ≠ g := by omega
    have HP := Lib.hid hp
    have HK : Hid (∀ v, BkAt w.heap.size (w2.setCell ⟨g, 0, none⟩ v) p l) := fun v => ⟨hk.1.chg (S := fun q => q = g) ((Chg.refl (S := fun q => q = g)).setCell ⟨g, 0, none⟩ (Or.inl rfl) v) hgp, hk.2⟩
    have HBS : Hid (∀ v, Below w.heap.size w (w2.setCell ⟨g, 0, none⟩ v)) := fun v => below_setQ hb hs hg0 v
    clear hb1 hb2 hx hz hp hk hfz
    go_wp2_with fail
    rw [HP.out]
    refine (blkAll (HK.out _).1).mono ?_
    rintro e w3 ⟨v3, rfl, hown3, hb3⟩
    have HB3 := Lib.hid ((HBS.out (.bool !x)).trans (hb3.mono (HBS.out _).size))
    have HK3 := Lib.hid ((HK.out (.bool !x)).below hb3)
    obtain ⟨g3, cap3, rfl, hg30, hg31, _, _, hc3, hfz3⟩ := own_some hown3 hlen
    have hx3 := hc3 0 hlen
    rw [List.getElem?_map, List.getElem?_eq_getElem hlen] at hx3
    have e1 : l[0] = x := by rw [← E0.out]; simp [bitAt, hlen]
    simp only [Option.map_some, e1] at hx3
    have hz3 := hfz3 0
    have hg3p : p ≠ g3 := by
      have h1 := (HK.out (.bool !x)).1.lt
      omega
    have HK4 : Hid (∀ v, BkAt w.heap.size (w3.setCell ⟨g3, 0, none⟩ v) p l) := fun v => ⟨HK3.out.1.chg (S := fun q => q = g3) ((Chg.refl (S := fun q => q = g3)).setCell ⟨g3, 0, none⟩ (Or.inl rfl) v) hg3p, HK3.out.2⟩
    have HB4 : Hid (∀ v, Below w.heap.size w (w3.setCell ⟨g3, 0, none⟩ v)) := fun v => below_setQ HB3.out HB3.out.size (Nat.le_trans (HBS.out (.bool !x)).size hg30) v
    clear hown3 hb3 hc3 hfz3 e1 hx2 hz2 HK HBS hb hs hgp
    cases x
    all_goals
      go_wp2_with fail
      refine (blkGet (HK4.out _).1 0 hlen).mono ?_
      rintro e w' ⟨rfl, rfl⟩
      rw [E0.out]
      go_wp2_with fail
      refine (told2_any _ (HT.out.below' (HB4.out _))).mono ?_
      rintro e w5 ⟨rfl, hb5⟩
      go_wp2_with fail
      go_ret
      exact ⟨rfl, (HB4.out _).trans (hb5.mono (HB4.out _).size)⟩

end Go.Proofs.YticbfhbilfgoiaaDoor
