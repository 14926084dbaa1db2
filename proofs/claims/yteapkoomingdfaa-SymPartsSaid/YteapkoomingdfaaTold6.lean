/- scrimshawlaw6.told answers true and turns nothing that was there. -/
import Derived.Test.YteapkoomingdfaaAllN
import Derived.Lib.SlBytesConst
namespace Go.Proofs.Yteapkoomingdfaa
open Go.RowKit

set_option maxHeartbeats 1600000 in
set_option maxRecDepth 100000 in
theorem told6_any (w : World) : Calls Try.prog 20 #[] w fun e w' => e = .returned (.bool true) ∧ Below w.heap.size w w' := by
  have kc := fun (w : World) (C : Array Value) (n c : Nat) => Lib.run_convert_bytes_const (P := Try.prog) w 27 5 C n c Try.underlying27 Try.underlying5
  go_enter Try.func20, Try.ntmps20
  go_wp2_with fail
  refine (symByte_yes 256 w (by omega) (by omega)).mono ?_
  rintro e w' ⟨rfl, rfl⟩
  go_wp2_with fail
  refine (symByte_no 0 w (by omega)).mono ?_
  rintro e w' ⟨rfl, rfl⟩
  go_wp2_with fail
  refine (symAll3 (w.heap.size + 2) 3 _ _ [97] _ _ [] _ _ [0] _ (by simp) (World.cell?_alloc_at _ _ _ _ (by simp))
    (reads_one (Lib.cell?_alloc_marked _ (Lib.cell?_alloc_marked _ (World.cell?_alloc_mark _ _ _ _ _)))) (bytes_one (by decide) (by decide))
    (World.cell?_alloc_at _ _ _ _ (by simp)) Reads.nil bytes_nil (World.cell?_alloc_at _ _ _ _ (by simp))
    (reads_one (Lib.cell?_alloc_marked _ (World.cell?_alloc_at _ _ _ _ (by simp)))) (bytes_one (by decide) (by decide)) (by simp)).mono ?_
  rintro e w1 ⟨v, rfl, hown, hb⟩
  obtain ⟨g, cap, rfl, hg1, hg2, hc1, hc2, hcell, hfr⟩ := own_some hown (by simp)
  have k0 := hcell 0 (by simp)
  have k1 := hcell 1 (by simp)
  have k2 := hcell 2 (by simp)
  simp [symV] at k0 k1 k2
  have hbw : Below w.heap.size w w1 := ((((Below.refl _ _).alloc (Nat.le_refl _) _).alloc (by simp) _).alloc (by simp; omega) _).trans (hb.mono (by simp; omega))
  clear hcell hfr hown kc hb hg1 hc1 hc2
  go_wp2_with fail
  refine (symOf_any 255 w1 (by omega) (by omega)).mono ?_
  rintro e w' ⟨rfl, rfl⟩
  have b1 : symBit 256 0 = true := by decide
  have b2 : symBit 255 0 = false := by decide
  have b3 : symBit 1 8 = true := by decide
  have b4 : symBit 257 8 = false := by decide
  have p1 : symPath 256 1 = 1 := by decide
  have p2 : symPath 5 0 = 0 := by decide
  have p3 : symPath 5 9 = 5 := by decide
  have p4 : symPath (-1) 1 = -1 := by decide
  go_wp2_with (first
    | (go_at_call 21; refine (symBit_any _ _ _).mono ?_; rintro e w' ⟨rfl, rfl⟩)
    | (go_at_call 19; refine (symPath_any _ _ _).mono ?_; rintro e w' ⟨rfl, rfl⟩))
  go_ret
  exact ⟨rfl, hbw⟩
end Go.Proofs.Yteapkoomingdfaa
