/- The walk of SymOrder: for whatever bytes it answers true and turns nothing that was there. -/
import Derived.Test.YteapkoomingdfaaSymLaw
import Derived.Deep.RegionHeld3
namespace Go.Proofs.Yteapkoomingdfaa
set_option linter.unusedVariables false
open Go.RowKit

set_option maxHeartbeats 1600000 in
set_option maxRecDepth 100000 in
theorem walk_SymOrder (a0 : Int) (w0 : (Lit.int .u8 a0).wf = true) (a1 : Int) (w1 : (Lit.int .u8 a1).wf = true) (w : World) :
    Calls Try.prog 6 #[.int .u8 a0, .int .u8 a1] w fun e w' => e = .returned (.bool true) ∧ Below w.heap.size w w' := by
  obtain ⟨ha0, ha1⟩ := bounds_u8 w0
  obtain ⟨hb0, hb1⟩ := bounds_u8 w1
  go_enter Try.func6, Try.ntmps6
  go_wp2_with fail
  refine (symOf_any a0 w ha0 (by omega)).mono ?_
  rintro e w' ⟨rfl, rfl⟩
  go_wp2_with fail
  refine (symByte_yes (a0 + 1) w (by omega) (by omega)).mono ?_
  rintro e w' ⟨rfl, rfl⟩
  go_wp2_with fail
  refine (symAll1 (w.heap.size + 1) 1 _ _ [a0] _ (by simp) (World.cell?_alloc_at _ _ _ _ (by simp))
    (reads_one (Lib.cell?_alloc_marked _ (World.cell?_alloc_at _ _ _ _ (by simp)))) (bytes_one ha0 (by omega)) (by simp)).mono ?_
  rintro e w1 ⟨v, rfl, hown, hb⟩
  obtain ⟨g, cap, rfl, hg1, hg2, hc1, hc2, hcell, hfr⟩ := own_some hown (by simp)
  have k0 := hcell 0 (by simp)
  simp [symV] at k0
  have hbw : Below w.heap.size w w1 := (((Below.refl _ _).alloc (Nat.le_refl _) _).alloc (by simp) _).trans (hb.mono (by simp; omega))
  clear hcell hfr hown hb hg1 hc1 hc2
  have hd1 : (decide (a0 + 1 < a1 + 1) == decide (a0 < a1)) = true := by
    have e : (a0 + 1 < a1 + 1) = (a0 < a1) := by apply propext; omega
    simp [e]
  have hd2 : decide (0 < a0 + 1) = true := by simp; omega
  go_wp2_with fail
  go_region_held3 (fun w' => w'.cell? ⟨g, 0, none⟩ = some (.int .i64 (a0 + 1)) ∧ Below w.heap.size w w')
    (first
      | assumption
      | (go_split_ands; exact ⟨‹_›, ‹_›⟩)
      | (exact ⟨k0, hbw.drew⟩)
      | (go_split_ands
         refine ⟨(hb2.cell (World.block_lt_of_cell? _ _ ‹_›)).trans ‹_›, Below.trans ‹_› (hb2.mono (Below.size ‹_›))⟩))
    (first
      | (go_at_call 20; refine (told6_any _).mono ?_; rintro e w2 ⟨rfl, hb2⟩)
      | (go_at_call 23; refine (symOf_any _ _ (by omega) (by omega)).mono ?_; rintro e w2 ⟨rfl, rfl⟩))
  all_goals go_split_ands
  all_goals go_wp2
  all_goals go_ret
  all_goals exact ⟨rfl, ‹_›⟩

end Go.Proofs.Yteapkoomingdfaa
