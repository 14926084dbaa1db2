/- SymAsks, where the number is a symbol of a byte: it answers true and turns nothing that was there. -/
import Derived.Test.YteapkoomingdfaaSymAsksL
namespace Go.Proofs.Yteapkoomingdfaa
set_option linter.unusedVariables false
open Go.RowKit

set_option maxHeartbeats 3200000 in
set_option maxRecDepth 100000 in
theorem symAsks_yes (w : World) (b : Int) (s : Int) (l : Int) (a3 : Option Addr) (c3 : Nat) (x : List Int) (a4 : Option Addr) (c4 : Nat) (y : List Int) (hb0 : 0 ≤ b) (hb1 : b ≤ 255)
    (hx : Reads w .u8 a3 x) (hy : Reads w .u8 a4 y) (hbx : Bytes x) (hby : Bytes y) (hl : x.length ≤ 100) (hl2 : y.length ≤ 100) (hs0 : 1 ≤ s) (hs1 : s < 257) :
    Calls Try.prog 4 #[.int .u8 b, .int .i64 s, .int .i64 l, .slice a3 x.length c3, .slice a4 y.length c4] w fun e w' => e = .returned (.bool true) ∧ Below w.heap.size w w' := by
  have hd1 : decide ((100 : Int) < (x.length : Int)) = false := by simp; omega
  have hd2 : decide ((100 : Int) < (y.length : Int)) = false := by simp; omega
  have hkeep : ∀ w', Below w.heap.size w w' → (convert 27 9 (.slice a3 x.length c3)).run Try.prog w' = .ok (.string (strOfNums x)) w' ∧ (convert 27 9 (.slice a4 y.length c4)).run Try.prog w' = .ok (.string (strOfNums y)) w' ∧
      Reads w' .u8 a3 x ∧ Reads w' .u8 a4 y ∧ Below w.heap.size w w' := fun w' hw' =>
    ⟨conv_run_keep Try.underlying27 Try.underlying5 Try.underlying9 hx hw', conv_run_keep Try.underlying27 Try.underlying5 Try.underlying9 hy hw', hx.below hw', hy.below hw', hw'⟩
  have HK := Lib.hid hkeep; clear hkeep
  have hd3 : decide (1 ≤ s) = true := by simp; omega
  have hd4 : decide (s ≤ 256) = true := by simp; omega
  go_enter Try.func4, Try.ntmps4
  go_wp2_with fail
  refine (symByte_yes s w hs0 hs1).mono ?_
  rintro e w' ⟨rfl, rfl⟩
  go_wp2_with fail
  have hadd : ∀ w', (Op.stringOp .add (strOfNums x) (strOfNums y)).run Try.prog w' = .ok (.string (strOfNums x ++ strOfNums y)) w' := fun w' => run_string_add_sum w' _ _ (by rw [strOfNums_size, strOfNums_size]; omega)
  have hsame : sameI (symsOf (x ++ y)) (symsOf (x ++ y)) = true := decide_eq_true rfl
  have s1 : IntKind.i64.wrap b = b := IntWalk.i64_in _ (by omega)
  have s2 : IntKind.i64.wrap (b + 1) = b + 1 := IntWalk.i64_in _ (by omega)
  have s3 : IntKind.i64.wrap (s - 1) = s - 1 := IntWalk.i64_in _ (by omega)
  go_region_held3 (fun w' => (convert 27 9 (.slice a3 x.length c3)).run Try.prog w' = .ok (.string (strOfNums x)) w' ∧ (convert 27 9 (.slice a4 y.length c4)).run Try.prog w' = .ok (.string (strOfNums y)) w' ∧
       Reads w' .u8 a3 x ∧ Reads w' .u8 a4 y ∧ Below w.heap.size w w')
    (first
      | assumption
      | (go_split_ands; exact ⟨‹_›, ‹_›, ‹_›, ‹_›, ‹_›⟩)
      | (exact HK.out w.drew (Below.refl _ w).drew)
      | (go_split_ands; exact HK.out _ (Below.alloc ‹Below w.heap.size w _› (Below.size ‹Below w.heap.size w _›) _))
      | (go_split_ands; exact HK.out _ (below_drewN ‹Below w.heap.size w _› _))
      | (go_split_ands; exact HK.out _ (Below.trans ‹Below w.heap.size w _› (Below.mono hb5 (Below.size ‹Below w.heap.size w _›))))
      | (go_split_ands; exact HK.out _ (Below.trans ‹Below w.heap.size w _› (Below.mono hb4 (Below.size ‹Below w.heap.size w _›))))
      | (go_split_ands; exact HK.out _ (Below.trans ‹Below w.heap.size w _› (Below.mono hb2 (Below.size ‹Below w.heap.size w _›)))))
    (first
      | (go_at_call 20; refine (told6_any _).mono ?_; rintro e w2 ⟨rfl, hb2⟩)
      | (go_at_call 25; go_split_ands; refine (symAll_of _ _ _ _ x _ _ y _ (by simp) (World.cell?_alloc_at _ _ _ _ rfl) ‹Reads _ .u8 a3 x› hbx (World.cell?_alloc_at _ _ _ _ rfl) ‹Reads _ .u8 a4 y› hby (by omega)).mono ?_; rintro e w4 ⟨g4, cap4, rfl, hrd4, hg4, hg4', hb4⟩)
      | (go_at_call 26; refine (refSyms_of x y hbx hby _ (by omega)).mono ?_; rintro e w5 ⟨g5, cap5, rfl, hrd5, hg5, hg5', hb5⟩)
      | (go_at_call 24; refine (refSame_len _ _ _ _ _ _ (symsOf (x ++ y)) (symsOf (x ++ y)) _ (hrd4.below hb5) hrd5 (by rw [symsOf_len, List.length_append]) (by rw [symsOf_len, List.length_append]) (by rw [symsOf_len, List.length_append]; omega)).mono ?_; rintro e w2 ⟨rfl, nd, rfl⟩)
      | (go_at_call 23; refine (symOf_any _ _ (by omega) (by omega)).mono ?_; rintro e w2 ⟨rfl, rfl⟩)
      | (go_at_call 21; refine (symBit_any _ _ _).mono ?_; rintro e w2 ⟨rfl, rfl⟩)
      | (go_at_call 19; refine (symPath_any _ _ _).mono ?_; rintro e w2 ⟨rfl, rfl⟩)
      | (go_at_call 27; refine (refBit_any _ _ _).mono ?_; rintro e w2 ⟨rfl, rfl⟩)
      | (go_at_call 28; refine (refPath_any _ _ _).mono ?_; rintro e w2 ⟨rfl, rfl⟩))
  all_goals go_split_ands
  all_goals go_wp2
  all_goals go_ret
  all_goals exact ⟨rfl, ‹Below w.heap.size w _›⟩

end Go.Proofs.Yteapkoomingdfaa
