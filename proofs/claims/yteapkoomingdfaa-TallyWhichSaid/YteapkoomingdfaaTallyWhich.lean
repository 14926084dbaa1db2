/- The walk of TallyWhich. -/
import Derived.Test.YteapkoomingdfaaTallyU
import Derived.Test.YteapkoomingdfaaReg
namespace Go.Proofs.Yteapkoomingdfaa
set_option linter.unusedVariables false
set_option linter.unusedSimpArgs false
open Go.RowKit

set_option maxHeartbeats 3200000 in
set_option maxRecDepth 100000 in
theorem walk_TallyWhich (w : World) (a0 : Option Addr) (c0 : Nat) (z0 : List Int) (w0 : ArgI .i64 w a0 c0 z0) (a1 : Int) (w1 : (Lit.int .i64 a1).wf = true) :
    Calls Try.prog 14 #[.slice a0 z0.length c0, .int .i64 a1] w fun e w' => e = .returned (.bool true) ∧ Below w.heap.size w w' := by
  have hrd := w0.reads
  have hmx := w0.le
  have hmx2 : c0 ≤ 9223372036854775807 := w0.max
  obtain ⟨v, hv0, hv⟩ := u64_of2 a1
  have HV := Lib.hid hv
  clear w0 w1 hv
  go_enter Try.func14, Try.ntmps14
  go_wp2_with fail
  refine (tnew_none _).mono ?_
  rintro e w1 ⟨p, rfl, hT, hb1⟩
  go_wp2_with fail
  go_loopw [7] (fun i wr => ∃ k : Nat, k ≤ z0.length ∧ k ≤ 12 ∧ i = .int .i64 k ∧ ∃ t : Tl, TAt w.heap.size wr p t ∧ t.all ≤ 50 * (k : Int) ∧ Below w.heap.size w wr) (fun i _ => z0.length - (intOf i).toNat)
  case atStart => exact ⟨0, by omega, by omega, rfl, _, hT, by show ((0 : Nat) : Int) ≤ _; omega, hb1⟩
  case round =>
    obtain ⟨k, hk, hk6, rfl, t, hT, hall, hb⟩ := hrel
    have hs0 := hb.size
    by_cases hlt : k < z0.length ∧ k < 12
    · obtain ⟨hlt, h60⟩ := hlt
      obtain ⟨b, off, rfl, hbl, hcells⟩ := hrd.some (by omega)
      have hcx0 := hcells k hlt
      generalize z0[k]?.getD 0 = x at *
      have KEEP : Hid (∀ w', Below w.heap.size w w' → w'.cell? ⟨b, off + k, none⟩ = some (.int .i64 x)) := fun w' h => (h.cell (p := ⟨b, off + k, none⟩) hbl).trans hcx0
      clear hcells hcx0 hrd
      obtain ⟨u, hu0, hu⟩ := u64_of2 x
      obtain ⟨q, hq0, hq⟩ := u64_of2 (u.tdiv 257)
      have hs1 : (u % 257).toNat < 257 := by omega
      have hpos := hT.1.ok.pos _ hs1
      have hst : t.step (u % 257) (q % 50) = (0, t.add (u % 257).toNat (q % 50)) := by
        have h := step_ok (t := t) hs1 (n := q % 50) (by omega) (by omega)
        rwa [Int.toNat_of_nonneg (by omega)] at h
      have HST := Lib.hid hst
      have E1 : Hid (IntKind.i64.wrap (u.tmod 257) = u % 257) := by
        show IntKind.i64.wrap (u.tmod 257) = u % 257
        rw [Int.tmod_eq_emod_of_nonneg hu0, IntWalk.i64_in] <;> omega
      have E2 : Hid (IntKind.i64.wrap (q.tmod 50) = q % 50) := by
        show IntKind.i64.wrap (q.tmod 50) = q % 50
        rw [Int.tmod_eq_emod_of_nonneg hq0, IntWalk.i64_in] <;> omega
      have HALL : Hid ((t.add (u % 257).toNat (q % 50)).all ≤ 50 * ((k + 1 : Nat) : Int)) := by
        show t.all + q % 50 ≤ _
        omega
      have HALL0 : Hid (t.all ≤ 50 * ((k + 1 : Nat) : Int)) := by show t.all ≤ _; omega
      have HB0 := Lib.hid hb.drew
      have HS0 := Lib.hid hb.drew.size
      have HT0 := Lib.hid (hT.chg (Below.refl _ _).drew)
      clear hT hpos hst hall hb hs1 hb1
      go_wp2_with fail
      refine reg_start (fun w' => w'.cell? ⟨b, off + k, none⟩ = some (.int .i64 x) ∧ (∃ t', TAt w.heap.size w' p t' ∧ t'.all ≤ 50 * ((k + 1 : Nat) : Int)) ∧ Below w.heap.size w w') (by kernel_rfl) (⟨KEEP.out _ HB0.out, ⟨t, HT0.out, HALL0.out⟩, HB0.out⟩) (fun hHeld => ?_)
      refine reg_take (i := 0) (v := ?v0) rfl (by kernel_rfl) rfl hHeld ?y0 ?r0
      case y0 => (intro w hSw; (try dsimp only at hSw); go_simp; all_goals with_reducible rfl)
      try simp only [Act.put, List.setIfInBounds_toArray, List.set_cons_zero, List.set_cons_succ]
      refine reg_take (i := 1) (v := ?v1) rfl (by kernel_rfl) rfl hHeld ?y1 ?r1
      case y1 => (intro w hSw; (try dsimp only at hSw); go_simp; all_goals with_reducible rfl)
      try simp only [Act.put, List.setIfInBounds_toArray, List.set_cons_zero, List.set_cons_succ]
      refine reg_take (i := 2) (v := ?v2) rfl (by kernel_rfl) rfl hHeld ?y2 ?r2
      case y2 => (intro w hSw; (try dsimp only at hSw); go_simp; all_goals with_reducible rfl)
      try simp only [Act.put, List.setIfInBounds_toArray, List.set_cons_zero, List.set_cons_succ]
      refine reg_take (i := 3) (v := ?v3) rfl (by kernel_rfl) rfl hHeld ?y3 ?r3
      case y3 => (intro w hSw; (try dsimp only at hSw); go_simp; all_goals with_reducible rfl)
      try simp only [Act.put, List.setIfInBounds_toArray, List.set_cons_zero, List.set_cons_succ]
      refine reg_take (i := 4) (v := ?v4) rfl (by kernel_rfl) rfl hHeld ?y4 ?r4
      case y4 => (intro w hSw; (try dsimp only at hSw); go_simp; all_goals with_reducible rfl)
      try simp only [Act.put, List.setIfInBounds_toArray, List.set_cons_zero, List.set_cons_succ]
      refine reg_take (i := 5) (v := ?v5) rfl (by kernel_rfl) rfl hHeld ?y5 ?r5
      case y5 => (intro w hSw; (try dsimp only at hSw); go_simp; all_goals with_reducible rfl)
      try simp only [Act.put, List.setIfInBounds_toArray, List.set_cons_zero, List.set_cons_succ]
      refine reg_take (i := 6) (v := ?v6) rfl (by kernel_rfl) rfl hHeld ?y6 ?r6
      case y6 => (intro w hSw; (try dsimp only at hSw); go_simp; all_goals with_reducible rfl)
      try simp only [Act.put, List.setIfInBounds_toArray, List.set_cons_zero, List.set_cons_succ]
      refine reg_take (i := 7) (v := ?v7) rfl (by kernel_rfl) rfl hHeld ?y7 ?r7
      case y7 => (intro w hSw; (try dsimp only at hSw); go_simp; all_goals with_reducible rfl)
      try simp only [Act.put, List.setIfInBounds_toArray, List.set_cons_zero, List.set_cons_succ]
      refine reg_take (i := 8) (v := ?v8) rfl (by kernel_rfl) rfl hHeld ?y8 ?r8
      case y8 => (intro w hSw; (try dsimp only at hSw); go_simp; all_goals with_reducible rfl)
      try simp only [Act.put, List.setIfInBounds_toArray, List.set_cons_zero, List.set_cons_succ]
      refine reg_take (i := 9) (v := ?v9) rfl (by kernel_rfl) rfl hHeld ?y9 ?r9
      case y9 => (intro w hSw; (try dsimp only at hSw); go_simp; all_goals with_reducible rfl)
      try simp only [Act.put, List.setIfInBounds_toArray, List.set_cons_zero, List.set_cons_succ]
      refine reg_take (i := 10) (v := ?v10) rfl (by kernel_rfl) rfl hHeld ?y10 ?r10
      case y10 => (intro w hSw; (try dsimp only at hSw); go_simp; all_goals with_reducible rfl)
      try simp only [Act.put, List.setIfInBounds_toArray, List.set_cons_zero, List.set_cons_succ]
      refine reg_take (i := 11) (v := ?v11) rfl (by kernel_rfl) rfl hHeld ?y11 ?r11
      case y11 => (intro w hSw; (try dsimp only at hSw); go_simp; all_goals with_reducible rfl)
      try simp only [Act.put, List.setIfInBounds_toArray, List.set_cons_zero, List.set_cons_succ]
      refine reg_take (i := 12) (v := ?v12) rfl (by kernel_rfl) rfl hHeld ?y12 ?r12
      case y12 => (intro w hSw; (try dsimp only at hSw); go_simp; all_goals with_reducible rfl)
      try simp only [Act.put, List.setIfInBounds_toArray, List.set_cons_zero, List.set_cons_succ]
      refine reg_take (i := 13) (v := ?v13) rfl (by kernel_rfl) rfl hHeld ?y13 ?r13
      case y13 => (intro w hSw; (try dsimp only at hSw); go_simp; all_goals with_reducible rfl)
      try simp only [Act.put, List.setIfInBounds_toArray, List.set_cons_zero, List.set_cons_succ]
      refine reg_take (i := 14) (v := ?v14) rfl (by kernel_rfl) rfl hHeld ?y14 ?r14
      case y14 => (intro w hSw; (try dsimp only at hSw); go_simp; all_goals with_reducible rfl)
      try simp only [Act.put, List.setIfInBounds_toArray, List.set_cons_zero, List.set_cons_succ]
      refine reg_take (i := 15) (v := ?v15) rfl (by kernel_rfl) rfl hHeld ?y15 ?r15
      case y15 => (intro w hSw; (try dsimp only at hSw); go_simp; all_goals with_reducible rfl)
      try simp only [Act.put, List.setIfInBounds_toArray, List.set_cons_zero, List.set_cons_succ]
      refine reg_loud (i := 16) rfl (by kernel_rfl) rfl (fun K hK => ?_)
      go_simp
      rw [E1.out, E2.out]
      refine (tadd_at HT0.out HS0.out HST.out).mono ?_
      rintro e w2 ⟨rfl, hT2, hb2⟩
      go_wp2_with fail
      refine hK.out _ _ (⟨KEEP.out _ (HB0.out.trans hb2), ⟨_, hT2, HALL.out⟩, HB0.out.trans hb2⟩) (fun hNew => ?_)
      clear hK K hHeld
      have hHeld := hNew
      clear hNew
      try simp only [Act.put, List.setIfInBounds_toArray, List.set_cons_zero, List.set_cons_succ]
      refine reg_take (i := 17) (v := ?v17) rfl (by kernel_rfl) rfl hHeld ?y17 ?r17
      case y17 => (intro w hSw; (try dsimp only at hSw); go_simp; all_goals with_reducible rfl)
      try simp only [Act.put, List.setIfInBounds_toArray, List.set_cons_zero, List.set_cons_succ]
      refine reg_done (by kernel_rfl) ?_ _
      go_wp2_with fail
      obtain ⟨_, ⟨t', hT', hall'⟩, hb'⟩ := hHeld
      go_roundw
      case rel => exact ⟨k + 1, by omega, by omega, by simp, t', hT', hall', hb'⟩
      case measure => simp [intOf]; omega
    · obtain ⟨wo, rfl⟩ : ∃ wo : World, wo = wr := ⟨_, rfl⟩
      have hor : ¬ k < z0.length ∨ (k < z0.length ∧ ¬ k < 12) := by omega
      have hpos := hT.1.ok.all_pos
      clear hlt hb1 hrd
      obtain ⟨n, hn⟩ := Int.eq_ofNat_of_zero_le hpos
      rcases hor with h1 | ⟨h1, h2⟩
      all_goals
        go_wp2_with fail
        refine (tlen_at hT hn).mono ?_
        rintro e w' ⟨rfl, rfl⟩
        by_cases hz : n = 0
        · subst hz
          go_wp2_with fail
          refine (told8_any _).mono ?_
          rintro e w5 ⟨rfl, hb9⟩
          have hT5 := hT.chg hb9
          have hb10 := hb.trans (hb9.mono hs0)
          clear hT hb hb9
          go_wp2_with fail
          refine (twhich_out hT5 (by omega) (by omega) (by omega)).mono ?_
          rintro e w' ⟨rfl, rfl⟩
          go_wp2_with fail
          go_ret
          exact ⟨rfl, hb10⟩
        · have hz0 : ((n : Int) == 0) = false := by simp; omega
          have hwn : IntKind.u64.wrap (n : Int) = (n : Int) := by rw [IntKind.wrap_u64]; omega
          have hzn : ¬ (n : Int) = 0 := by omega
          have hv := HV.out
          have hn0 : (0 : Int) < (n : Int) := by omega
          have hr0 : 0 ≤ v % (n : Int) := Int.emod_nonneg _ (by omega)
          have hr1 : v % (n : Int) < (n : Int) := Int.emod_lt_of_pos _ hn0
          have hr2 : v % (n : Int) < 601 := by omega
          go_wp2_with fail
          clear hv
          generalize v % (n : Int) = r at *
          refine (twhich_in hT (by omega) (by omega)).mono ?_
          rintro e w' ⟨s, rfl, rfl, hs, hs2, hs3⟩
          have q0 := tOf_nat t hs
          have q1 := tBelow_nat t (show s ≤ 257 by omega)
          have q2 := tBelow_next t hs
          have q3 : bl t.N (s + 1) = bl t.N s + t.N s := rfl
          have q4 : tBelow t 257 = (n : Int) := (tBelow_nat t (s := 257) (by omega)).trans (hT.1.ok.sum.trans hn)
          have q5 : 0 < t.N s := by omega
          have Q0 := Lib.hid q0
          have Q1 := Lib.hid q1
          have Q2 := Lib.hid q2
          have Q4 := Lib.hid q4
          clear q0 q1 q2 q3 q4
          generalize bl t.N (s + 1) = L1 at *
          generalize bl t.N s = L at *
          generalize t.N s = N at *
          go_wp2_with fail
          refine (told8_any _).mono ?_
          rintro e w5 ⟨rfl, hb9⟩
          have hT5 := hT.chg hb9
          have hb10 := hb.trans (hb9.mono hs0)
          clear hT hb hb9
          go_wp2_with fail
          refine (tbelow_at hT5 Q1.out).mono ?_
          rintro e w' ⟨rfl, rfl⟩
          go_wp2_with fail
          refine (tbelow_at hT5 Q2.out).mono ?_
          rintro e w' ⟨rfl, rfl⟩
          go_wp2_with fail
          refine (tof_at hT5 Q0.out).mono ?_
          rintro e w' ⟨rfl, rfl⟩
          go_wp2_with fail
          refine (tbelow_at hT5 Q4.out).mono ?_
          rintro e w' ⟨rfl, rfl⟩
          go_wp2_with fail
          go_ret
          exact ⟨rfl, hb10⟩

end Go.Proofs.Yteapkoomingdfaa
