/- SymAsks, where the number is below the symbols of bytes: it answers true and turns nothing that was there. -/
import Derived.Test.YteapkoomingdfaaSymAsksL
namespace Go.Proofs.Yteapkoomingdfaa
set_option linter.unusedVariables false
set_option linter.unusedSimpArgs false
open Go.RowKit

set_option maxHeartbeats 3200000 in
set_option maxRecDepth 100000 in
theorem symAsks_lo (w : World) (b : Int) (s : Int) (l : Int) (a3 : Option Addr) (c3 : Nat) (x : List Int) (a4 : Option Addr) (c4 : Nat) (y : List Int) (hb0 : 0 ≤ b) (hb1 : b ≤ 255)
    (hx : Reads w .u8 a3 x) (hy : Reads w .u8 a4 y) (hbx : Bytes x) (hby : Bytes y) (hl : x.length ≤ 100) (hl2 : y.length ≤ 100) (hs0 : s < 1) :
    Calls Try.prog 4 #[.int .u8 b, .int .i64 s, .int .i64 l, .slice a3 x.length c3, .slice a4 y.length c4] w fun e w' => e = .returned (.bool true) ∧ Below w.heap.size w w' := by
  have hd1 : decide ((100 : Int) < (x.length : Int)) = false := by simp; omega
  have hd2 : decide ((100 : Int) < (y.length : Int)) = false := by simp; omega
  have hkeep : ∀ w', Below w.heap.size w w' → (convert 27 9 (.slice a3 x.length c3)).run Try.prog w' = .ok (.string (strOfNums x)) w' ∧ (convert 27 9 (.slice a4 y.length c4)).run Try.prog w' = .ok (.string (strOfNums y)) w' ∧
      Reads w' .u8 a3 x ∧ Reads w' .u8 a4 y ∧ Below w.heap.size w w' := fun w' hw' =>
    ⟨conv_run_keep Try.underlying27 Try.underlying5 Try.underlying9 hx hw', conv_run_keep Try.underlying27 Try.underlying5 Try.underlying9 hy hw', hx.below hw', hy.below hw', hw'⟩
  have HK := Lib.hid hkeep; clear hkeep
  have hd3 : decide (1 ≤ s) = false := by simp; omega
  go_enter Try.func4, Try.ntmps4
  go_wp2_with fail
  refine (symByte_no s w (by omega)).mono ?_
  rintro e w' ⟨rfl, rfl⟩
  go_wp2_with fail
  have hadd : ∀ w', (Op.stringOp .add (strOfNums x) (strOfNums y)).run Try.prog w' = .ok (.string (strOfNums x ++ strOfNums y)) w' := fun w' => run_string_add_sum w' _ _ (by rw [strOfNums_size, strOfNums_size]; omega)
  have hsame : sameI (symsOf (x ++ y)) (symsOf (x ++ y)) = true := decide_eq_true rfl
  have s1 : IntKind.i64.wrap b = b := IntWalk.i64_in _ (by omega)
  have s2 : IntKind.i64.wrap (b + 1) = b + 1 := IntWalk.i64_in _ (by omega)
  refine reg_start (fun w' => (convert 27 9 (.slice a3 x.length c3)).run Try.prog w' = .ok (.string (strOfNums x)) w' ∧ (convert 27 9 (.slice a4 y.length c4)).run Try.prog w' = .ok (.string (strOfNums y)) w' ∧
             Reads w' .u8 a3 x ∧ Reads w' .u8 a4 y ∧ Below w.heap.size w w') (by kernel_rfl) (HK.out w.drew (Below.refl _ w).drew) (fun hHeld => ?_)
  refine reg_loud (i := 0) rfl (by kernel_rfl) rfl (fun K hK => ?_)
  go_simp
  refine (told6_any _).mono ?_
  rintro e w2 ⟨rfl, hb2⟩
  go_wp2_with fail
  refine hK.out _ _ (HK.out _ (Below.trans hHeld.2.2.2.2 (Below.mono hb2 (Below.size hHeld.2.2.2.2)))) (fun hNew => ?_)
  clear hK K hHeld
  have hHeld := hNew
  clear hNew
  try simp only [Act.put, List.setIfInBounds_toArray, List.set_cons_zero, List.set_cons_succ]
  refine reg_take (i := 1) (v := ?v1) rfl (by kernel_rfl) rfl hHeld ?y1 ?r1
  case y1 => (intro w hSw; (try dsimp only at hSw); go_simp; all_goals with_reducible rfl)
  try simp only [Act.put, List.setIfInBounds_toArray, List.set_cons_zero, List.set_cons_succ]
  refine reg_take (i := 2) (v := ?v2) rfl (by kernel_rfl) rfl hHeld ?y2 ?r2
  case y2 => (intro w hSw; (try dsimp only at hSw); go_simp; all_goals with_reducible rfl)
  try simp only [Act.put, List.setIfInBounds_toArray, List.set_cons_zero, List.set_cons_succ]
  refine reg_take (i := 4) (v := ?v4) rfl (by kernel_rfl) rfl hHeld ?y4 ?r4
  case y4 => (intro w hSw; (try dsimp only at hSw); go_simp; all_goals with_reducible rfl)
  try simp only [Act.put, List.setIfInBounds_toArray, List.set_cons_zero, List.set_cons_succ]
  refine reg_take (i := 5) (v := ?v5) rfl (by kernel_rfl) rfl hHeld ?y5 ?r5
  case y5 => (intro w hSw; (try dsimp only at hSw); go_simp; all_goals with_reducible rfl)
  try simp only [Act.put, List.setIfInBounds_toArray, List.set_cons_zero, List.set_cons_succ]
  refine reg_take (i := 6) (v := ?v6) rfl (by kernel_rfl) rfl hHeld ?y6 ?r6
  case y6 => (intro w hSw; (try dsimp only at hSw); go_simp; all_goals with_reducible rfl)
  try simp only [Act.put, List.setIfInBounds_toArray, List.set_cons_zero, List.set_cons_succ]
  refine reg_loud (i := 3) rfl (by kernel_rfl) rfl (fun K hK => ?_)
  go_simp
  refine (symOf_any _ _ (by omega) (by omega)).mono ?_
  rintro e w2 ⟨rfl, rfl⟩
  go_wp2_with fail
  refine hK.out _ _ (hHeld) (fun hNew => ?_)
  clear hK K hHeld
  have hHeld := hNew
  clear hNew
  try simp only [Act.put, List.setIfInBounds_toArray, List.set_cons_zero, List.set_cons_succ]
  refine reg_take (i := 7) (v := ?v7) rfl (by kernel_rfl) rfl hHeld ?y7 ?r7
  case y7 => (intro w hSw; (try dsimp only at hSw); go_simp; all_goals with_reducible rfl)
  try simp only [Act.put, List.setIfInBounds_toArray, List.set_cons_zero, List.set_cons_succ]
  refine reg_take (i := 8) (v := ?v8) rfl (by kernel_rfl) rfl hHeld ?y8 ?r8
  case y8 => (intro w hSw; (try dsimp only at hSw); go_simp; all_goals with_reducible rfl)
  try simp only [Act.put, List.setIfInBounds_toArray, List.set_cons_zero, List.set_cons_succ]
  refine reg_take (i := 9) (v := ?v9) rfl (by kernel_rfl) rfl hHeld ?y9 ?r9
  case y9 => (intro w hSw; (try dsimp only at hSw); go_simp; all_goals with_reducible rfl)
  try simp only [Act.put, List.setIfInBounds_toArray, List.set_cons_zero, List.set_cons_succ]
  refine reg_take (i := 10) (v := ?v10) rfl (by kernel_rfl) rfl hHeld ?y10 ?r10
  case y10 => (intro w hSw; (try dsimp only at hSw); go_simp; all_goals with_reducible rfl)
  try simp only [Act.put, List.setIfInBounds_toArray, List.set_cons_zero, List.set_cons_succ]
  refine reg_take (i := 11) (v := ?v11) rfl (by kernel_rfl) rfl hHeld ?y11 ?r11
  case y11 => (intro w hSw; (try dsimp only at hSw); go_simp; all_goals with_reducible rfl)
  try simp only [Act.put, List.setIfInBounds_toArray, List.set_cons_zero, List.set_cons_succ]
  refine reg_take (i := 12) (v := ?v12) rfl (by kernel_rfl) rfl hHeld ?y12 ?r12
  case y12 => (intro w hSw; (try dsimp only at hSw); go_simp; all_goals with_reducible rfl)
  try simp only [Act.put, List.setIfInBounds_toArray, List.set_cons_zero, List.set_cons_succ]
  refine reg_take (i := 13) (v := ?v13) rfl (by kernel_rfl) rfl hHeld ?y13 ?r13
  case y13 => (intro w hSw; (try dsimp only at hSw); go_simp; all_goals with_reducible rfl)
  try simp only [Act.put, List.setIfInBounds_toArray, List.set_cons_zero, List.set_cons_succ]
  refine reg_take (i := 14) (v := ?v14) rfl (by kernel_rfl) rfl hHeld ?y14 ?r14
  case y14 => (intro w hSw; (try dsimp only at hSw); go_simp; all_goals with_reducible rfl)
  try simp only [Act.put, List.setIfInBounds_toArray, List.set_cons_zero, List.set_cons_succ]
  refine reg_take (i := 15) (v := ?v15) rfl (by kernel_rfl) rfl hHeld ?y15 ?r15
  case y15 => (intro w hSw; (try dsimp only at hSw); go_simp; all_goals with_reducible rfl)
  try simp only [Act.put, List.setIfInBounds_toArray, List.set_cons_zero, List.set_cons_succ]
  refine reg_take (i := 16) (v := ?v16) rfl (by kernel_rfl) rfl hHeld ?y16 ?r16
  case y16 => (intro w hSw; (try dsimp only at hSw); go_simp; all_goals with_reducible rfl)
  try simp only [Act.put, List.setIfInBounds_toArray, List.set_cons_zero, List.set_cons_succ]
  refine reg_take (i := 17) (v := ?v17) rfl (by kernel_rfl) rfl hHeld ?y17 ?r17
  case y17 => (intro w hSw; (try dsimp only at hSw); go_simp; all_goals with_reducible rfl)
  try simp only [Act.put, List.setIfInBounds_toArray, List.set_cons_zero, List.set_cons_succ]
  refine reg_skip (i := 18) rfl (by kernel_rfl) rfl hHeld ?_
  try simp only [Act.put, List.setIfInBounds_toArray, List.set_cons_zero, List.set_cons_succ]
  refine reg_skip (i := 19) rfl (by kernel_rfl) rfl hHeld ?_
  try simp only [Act.put, List.setIfInBounds_toArray, List.set_cons_zero, List.set_cons_succ]
  refine reg_skip (i := 20) rfl (by kernel_rfl) rfl hHeld ?_
  try simp only [Act.put, List.setIfInBounds_toArray, List.set_cons_zero, List.set_cons_succ]
  refine reg_skip (i := 21) rfl (by kernel_rfl) rfl hHeld ?_
  try simp only [Act.put, List.setIfInBounds_toArray, List.set_cons_zero, List.set_cons_succ]
  refine reg_skip (i := 22) rfl (by kernel_rfl) rfl hHeld ?_
  try simp only [Act.put, List.setIfInBounds_toArray, List.set_cons_zero, List.set_cons_succ]
  refine reg_take (i := 23) (v := ?v23) rfl (by kernel_rfl) rfl hHeld ?y23 ?r23
  case y23 => (intro w hSw; (try dsimp only at hSw); go_simp; all_goals with_reducible rfl)
  try simp only [Act.put, List.setIfInBounds_toArray, List.set_cons_zero, List.set_cons_succ]
  refine reg_take (i := 24) (v := ?v24) rfl (by kernel_rfl) rfl hHeld ?y24 ?r24
  case y24 => (intro w hSw; (try dsimp only at hSw); go_simp; all_goals with_reducible rfl)
  try simp only [Act.put, List.setIfInBounds_toArray, List.set_cons_zero, List.set_cons_succ]
  refine reg_take (i := 25) (v := ?v25) rfl (by kernel_rfl) rfl hHeld ?y25 ?r25
  case y25 => (intro w hSw; (try dsimp only at hSw); go_simp; all_goals with_reducible rfl)
  try simp only [Act.put, List.setIfInBounds_toArray, List.set_cons_zero, List.set_cons_succ]
  refine reg_take (i := 26) (v := ?v26) rfl (by kernel_rfl) rfl hHeld ?y26 ?r26
  case y26 => (intro w hSw; (try dsimp only at hSw); go_simp; all_goals with_reducible rfl)
  try simp only [Act.put, List.setIfInBounds_toArray, List.set_cons_zero, List.set_cons_succ]
  refine reg_take (i := 27) (v := ?v27) rfl (by kernel_rfl) rfl hHeld ?y27 ?r27
  case y27 => (intro w hSw; (try dsimp only at hSw); go_simp; all_goals with_reducible rfl)
  try simp only [Act.put, List.setIfInBounds_toArray, List.set_cons_zero, List.set_cons_succ]
  refine reg_take (i := 30) (v := ?v30) rfl (by kernel_rfl) rfl hHeld ?y30 ?r30
  case y30 => (intro w hSw; (try dsimp only at hSw); go_simp; all_goals with_reducible rfl)
  try simp only [Act.put, List.setIfInBounds_toArray, List.set_cons_zero, List.set_cons_succ]
  refine reg_take (i := 31) (v := ?v31) rfl (by kernel_rfl) rfl hHeld ?y31 ?r31
  case y31 => (intro w hSw; (try dsimp only at hSw); go_simp; all_goals with_reducible rfl)
  try simp only [Act.put, List.setIfInBounds_toArray, List.set_cons_zero, List.set_cons_succ]
  refine reg_take (i := 32) (v := ?v32) rfl (by kernel_rfl) rfl hHeld ?y32 ?r32
  case y32 => (intro w hSw; (try dsimp only at hSw); go_simp; all_goals with_reducible rfl)
  try simp only [Act.put, List.setIfInBounds_toArray, List.set_cons_zero, List.set_cons_succ]
  refine reg_take (i := 33) (v := ?v33) rfl (by kernel_rfl) rfl hHeld ?y33 ?r33
  case y33 => (intro w hSw; (try dsimp only at hSw); go_simp; all_goals with_reducible rfl)
  try simp only [Act.put, List.setIfInBounds_toArray, List.set_cons_zero, List.set_cons_succ]
  refine reg_take (i := 34) (v := ?v34) rfl (by kernel_rfl) rfl hHeld ?y34 ?r34
  case y34 => (intro w hSw; (try dsimp only at hSw); go_simp; all_goals with_reducible rfl)
  try simp only [Act.put, List.setIfInBounds_toArray, List.set_cons_zero, List.set_cons_succ]
  refine reg_loud (i := 28) rfl (by kernel_rfl) rfl (fun K hK => ?_)
  go_simp
  refine hK.out _ _ (HK.out _ (Below.alloc hHeld.2.2.2.2 (Below.size hHeld.2.2.2.2) _)) (fun hNew => ?_)
  clear hK K hHeld
  have hHeld := hNew
  clear hNew
  try simp only [Act.put, List.setIfInBounds_toArray, List.set_cons_zero, List.set_cons_succ]
  refine reg_loud (i := 29) rfl (by kernel_rfl) rfl (fun K hK => ?_)
  go_simp
  refine (symAll_of _ _ _ _ x _ _ y _ (by simp) (World.cell?_alloc_at _ _ _ _ rfl) hHeld.2.2.1 hbx (World.cell?_alloc_at _ _ _ _ rfl) hHeld.2.2.2.1 hby (by omega)).mono ?_
  rintro e w4 ⟨g4, cap4, rfl, hrd4, hg4, hg4', hb4⟩
  go_wp2_with fail
  refine hK.out _ _ (HK.out _ (Below.trans hHeld.2.2.2.2 (Below.mono hb4 (Below.size hHeld.2.2.2.2)))) (fun hNew => ?_)
  clear hK K hHeld
  have hHeld := hNew
  clear hNew
  try simp only [Act.put, List.setIfInBounds_toArray, List.set_cons_zero, List.set_cons_succ]
  refine reg_loud (i := 35) rfl (by kernel_rfl) rfl (fun K hK => ?_)
  go_simp
  refine (refSyms_of x y hbx hby _ (by omega)).mono ?_
  rintro e w5 ⟨g5, cap5, rfl, hrd5, hg5, hg5', hb5⟩
  go_wp2_with fail
  refine hK.out _ _ (HK.out _ (Below.trans hHeld.2.2.2.2 (Below.mono hb5 (Below.size hHeld.2.2.2.2)))) (fun hNew => ?_)
  clear hK K hHeld
  have hHeld := hNew
  clear hNew
  try simp only [Act.put, List.setIfInBounds_toArray, List.set_cons_zero, List.set_cons_succ]
  refine reg_loud (i := 36) rfl (by kernel_rfl) rfl (fun K hK => ?_)
  go_simp
  refine (refSame_len _ _ _ _ _ _ (symsOf (x ++ y)) (symsOf (x ++ y)) _ (hrd4.below hb5) hrd5 (by rw [symsOf_len, List.length_append]) (by rw [symsOf_len, List.length_append]) (by rw [symsOf_len, List.length_append]; omega)).mono ?_
  rintro e w2 ⟨rfl, nd, rfl⟩
  go_wp2_with fail
  refine hK.out _ _ (HK.out _ (below_drewN hHeld.2.2.2.2 _)) (fun hNew => ?_)
  clear hK K hHeld
  have hHeld := hNew
  clear hNew
  try simp only [Act.put, List.setIfInBounds_toArray, List.set_cons_zero, List.set_cons_succ]
  refine reg_take (i := 37) (v := ?v37) rfl (by kernel_rfl) rfl hHeld ?y37 ?r37
  case y37 => (intro w hSw; (try dsimp only at hSw); go_simp; all_goals with_reducible rfl)
  try simp only [Act.put, List.setIfInBounds_toArray, List.set_cons_zero, List.set_cons_succ]
  refine reg_take (i := 38) (v := ?v38) rfl (by kernel_rfl) rfl hHeld ?y38 ?r38
  case y38 => (intro w hSw; (try dsimp only at hSw); go_simp; all_goals with_reducible rfl)
  try simp only [Act.put, List.setIfInBounds_toArray, List.set_cons_zero, List.set_cons_succ]
  refine reg_take (i := 39) (v := ?v39) rfl (by kernel_rfl) rfl hHeld ?y39 ?r39
  case y39 => (intro w hSw; (try dsimp only at hSw); go_simp; all_goals with_reducible rfl)
  try simp only [Act.put, List.setIfInBounds_toArray, List.set_cons_zero, List.set_cons_succ]
  refine reg_take (i := 40) (v := ?v40) rfl (by kernel_rfl) rfl hHeld ?y40 ?r40
  case y40 => (intro w hSw; (try dsimp only at hSw); go_simp; all_goals with_reducible rfl)
  try simp only [Act.put, List.setIfInBounds_toArray, List.set_cons_zero, List.set_cons_succ]
  refine reg_take (i := 42) (v := ?v42) rfl (by kernel_rfl) rfl hHeld ?y42 ?r42
  case y42 => (intro w hSw; (try dsimp only at hSw); go_simp; all_goals with_reducible rfl)
  try simp only [Act.put, List.setIfInBounds_toArray, List.set_cons_zero, List.set_cons_succ]
  refine reg_take (i := 43) (v := ?v43) rfl (by kernel_rfl) rfl hHeld ?y43 ?r43
  case y43 => (intro w hSw; (try dsimp only at hSw); go_simp; all_goals with_reducible rfl)
  try simp only [Act.put, List.setIfInBounds_toArray, List.set_cons_zero, List.set_cons_succ]
  refine reg_loud (i := 41) rfl (by kernel_rfl) rfl (fun K hK => ?_)
  go_simp
  refine (symBit_any _ _ _).mono ?_
  rintro e w2 ⟨rfl, rfl⟩
  go_wp2_with fail
  refine hK.out _ _ (hHeld) (fun hNew => ?_)
  clear hK K hHeld
  have hHeld := hNew
  clear hNew
  try simp only [Act.put, List.setIfInBounds_toArray, List.set_cons_zero, List.set_cons_succ]
  refine reg_loud (i := 44) rfl (by kernel_rfl) rfl (fun K hK => ?_)
  go_simp
  refine (refBit_any _ _ _).mono ?_
  rintro e w2 ⟨rfl, rfl⟩
  go_wp2_with fail
  refine hK.out _ _ (hHeld) (fun hNew => ?_)
  clear hK K hHeld
  have hHeld := hNew
  clear hNew
  try simp only [Act.put, List.setIfInBounds_toArray, List.set_cons_zero, List.set_cons_succ]
  refine reg_take (i := 45) (v := ?v45) rfl (by kernel_rfl) rfl hHeld ?y45 ?r45
  case y45 => (intro w hSw; (try dsimp only at hSw); go_simp; all_goals with_reducible rfl)
  try simp only [Act.put, List.setIfInBounds_toArray, List.set_cons_zero, List.set_cons_succ]
  refine reg_take (i := 46) (v := ?v46) rfl (by kernel_rfl) rfl hHeld ?y46 ?r46
  case y46 => (intro w hSw; (try dsimp only at hSw); go_simp; all_goals with_reducible rfl)
  try simp only [Act.put, List.setIfInBounds_toArray, List.set_cons_zero, List.set_cons_succ]
  refine reg_take (i := 47) (v := ?v47) rfl (by kernel_rfl) rfl hHeld ?y47 ?r47
  case y47 => (intro w hSw; (try dsimp only at hSw); go_simp; all_goals with_reducible rfl)
  try simp only [Act.put, List.setIfInBounds_toArray, List.set_cons_zero, List.set_cons_succ]
  refine reg_take (i := 48) (v := ?v48) rfl (by kernel_rfl) rfl hHeld ?y48 ?r48
  case y48 => (intro w hSw; (try dsimp only at hSw); go_simp; all_goals with_reducible rfl)
  try simp only [Act.put, List.setIfInBounds_toArray, List.set_cons_zero, List.set_cons_succ]
  refine reg_take (i := 49) (v := ?v49) rfl (by kernel_rfl) rfl hHeld ?y49 ?r49
  case y49 => (intro w hSw; (try dsimp only at hSw); go_simp; all_goals with_reducible rfl)
  try simp only [Act.put, List.setIfInBounds_toArray, List.set_cons_zero, List.set_cons_succ]
  refine reg_take (i := 51) (v := ?v51) rfl (by kernel_rfl) rfl hHeld ?y51 ?r51
  case y51 => (intro w hSw; (try dsimp only at hSw); go_simp; all_goals with_reducible rfl)
  try simp only [Act.put, List.setIfInBounds_toArray, List.set_cons_zero, List.set_cons_succ]
  refine reg_take (i := 52) (v := ?v52) rfl (by kernel_rfl) rfl hHeld ?y52 ?r52
  case y52 => (intro w hSw; (try dsimp only at hSw); go_simp; all_goals with_reducible rfl)
  try simp only [Act.put, List.setIfInBounds_toArray, List.set_cons_zero, List.set_cons_succ]
  refine reg_loud (i := 50) rfl (by kernel_rfl) rfl (fun K hK => ?_)
  go_simp
  refine (symPath_any _ _ _).mono ?_
  rintro e w2 ⟨rfl, rfl⟩
  go_wp2_with fail
  refine hK.out _ _ (hHeld) (fun hNew => ?_)
  clear hK K hHeld
  have hHeld := hNew
  clear hNew
  try simp only [Act.put, List.setIfInBounds_toArray, List.set_cons_zero, List.set_cons_succ]
  refine reg_loud (i := 53) rfl (by kernel_rfl) rfl (fun K hK => ?_)
  go_simp
  refine (refPath_any _ _ _).mono ?_
  rintro e w2 ⟨rfl, rfl⟩
  go_wp2_with fail
  refine hK.out _ _ (hHeld) (fun hNew => ?_)
  clear hK K hHeld
  have hHeld := hNew
  clear hNew
  try simp only [Act.put, List.setIfInBounds_toArray, List.set_cons_zero, List.set_cons_succ]
  refine reg_take (i := 54) (v := ?v54) rfl (by kernel_rfl) rfl hHeld ?y54 ?r54
  case y54 => (intro w hSw; (try dsimp only at hSw); go_simp; all_goals with_reducible rfl)
  try simp only [Act.put, List.setIfInBounds_toArray, List.set_cons_zero, List.set_cons_succ]
  refine reg_take (i := 55) (v := ?v55) rfl (by kernel_rfl) rfl hHeld ?y55 ?r55
  case y55 => (intro w hSw; (try dsimp only at hSw); go_simp; all_goals with_reducible rfl)
  try simp only [Act.put, List.setIfInBounds_toArray, List.set_cons_zero, List.set_cons_succ]
  refine reg_take (i := 56) (v := ?v56) rfl (by kernel_rfl) rfl hHeld ?y56 ?r56
  case y56 => (intro w hSw; (try dsimp only at hSw); go_simp; all_goals with_reducible rfl)
  try simp only [Act.put, List.setIfInBounds_toArray, List.set_cons_zero, List.set_cons_succ]
  refine reg_done (by kernel_rfl) ?_ _
  go_wp2
  go_ret
  exact ⟨rfl, hHeld.2.2.2.2⟩

end Go.Proofs.Yteapkoomingdfaa
