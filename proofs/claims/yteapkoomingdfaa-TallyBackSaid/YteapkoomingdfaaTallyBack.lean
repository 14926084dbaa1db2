/- The walk of TallyBack. -/
import Derived.Test.YteapkoomingdfaaTallyU
namespace Go.Proofs.Yteapkoomingdfaa
set_option linter.unusedVariables false
set_option linter.unusedSimpArgs false
open Go.RowKit

set_option maxHeartbeats 3200000 in
set_option maxRecDepth 100000 in
theorem walk_TallyBack (w : World) (a0 : Option Addr) (c0 : Nat) (z0 : List Int) (w0 : ArgI .i64 w a0 c0 z0) (a1 : Int) (w1 : (Lit.int .i64 a1).wf = true) (a2 : Int) (w2 : (Lit.int .i64 a2).wf = true) :
    Calls Try.prog 17 #[.slice a0 z0.length c0, .int .i64 a1, .int .i64 a2] w fun e w' => e = .returned (.bool true) ∧ Below w.heap.size w w' := by
  obtain ⟨u1, hu1, hw1⟩ := u64_of2 a1
  obtain ⟨u2, hu2, hw2⟩ := u64_of2 a2
  have HW1 := Lib.hid hw1
  have HW2 := Lib.hid hw2
  have hrd := w0.reads
  have hmx := w0.le
  have hmx2 : c0 ≤ 9223372036854775807 := w0.max
  clear w0 w1 w2 hw1 hw2
  go_enter Try.func17, Try.ntmps17
  go_wp2_with fail
  go_loopw [7, 8] (fun v i wr => ∃ k : Nat, k ≤ z0.length ∧ k ≤ 60 ∧ i = .int .i64 k ∧ ∃ ms : List Int, ms.length = k ∧ (∀ x ∈ ms, 0 ≤ x ∧ x < 257) ∧ wr.ownsRow w.heap.size 3 1 v k (ms.map (Value.int .i64)) ∧ Below w.heap.size w wr) (fun _ i _ => z0.length - (intOf i).toNat)
  case atStart => exact ⟨0, by omega, by omega, rfl, [], rfl, by simp, World.ownsRow_nil _ _ _ _, Below.refl _ _⟩
  case round =>
    obtain ⟨k, hk, hk6, rfl, ms, hms, hsy, hown, hb⟩ := hrel
    have hs0 := hb.size
    by_cases hlt : k < z0.length ∧ k < 60
    · obtain ⟨hlt, h60⟩ := hlt
      obtain ⟨b, off, rfl, hbl, hcells⟩ := hrd.some (by omega)
      have hcx := (hb.cell (p := ⟨b, off + k, none⟩) hbl).trans (hcells k hlt)
      generalize z0[k]?.getD 0 = x at *
      clear hcells
      obtain ⟨u, hu0, hu⟩ := u64_of2 x
      have H1 : Hid (∀ y ∈ ms ++ [u % 257], 0 ≤ y ∧ y < 257) := by
        intro y hy
        rcases List.mem_append.1 hy with h | h
        · exact hsy y h
        · rw [List.mem_singleton.1 h]; omega
      have H2 : Hid ((ms ++ [u % 257]).map (Value.int .i64) = ms.map (Value.int .i64) ++ [Value.int .i64 (u % 257)]) := List.map_append
      have H3 : Hid ((ms ++ [u % 257]).length = k + 1) := by show (ms ++ [u % 257]).length = k + 1; simp [hms]
      generalize ms.map (Value.int .i64) = row at *
      clear hsy hms hrd
      go_wp2_with (at_builtin; refine wpList_push rfl _ _ 32 rfl w.heap.size 3 Try.infoIntU Try.underlying32 rfl _ _ _ rfl hown rfl rfl ?c1 ?c2 ?c3 ?_)
      case c1 => unfold maxLen; omega
      case c2 => omega
      case c3 => omega
      intro v' w1 hown' hgrow
      have hnx' : Below w.heap.size w w1 := hb.grown hgrow hs0 (fun j hj => (hown.lt j hj).1)
      clear hown hgrow
      go_wp2_with fail
      go_roundw
      case rel => exact ⟨k + 1, by omega, by omega, by simp, _, H3.out, H1.out, by rw [H2.out]; exact hown', hnx'⟩
      case measure => simp [intOf]; omega
    · obtain ⟨wo, rfl⟩ : ∃ wo : World, wo = wr := ⟨_, rfl⟩
      obtain ⟨la, lc, rfl, _, _⟩ := own_slice hown
      have hrd2 := own_reads hown
      have hall : (Tl.of ms).all = (k : Int) := by show ((ms.length : Nat) : Int) = k; rw [hms]
      have hnew := tnew_at (c := lc) ms hrd2 hms.symm hsy (by omega)
      have HNEW := Lib.hid hnew
      generalize Tl.of ms = t at *
      clear hrd hrd2 hown hnew hsy hms
      have hor : ¬ k < z0.length ∨ (k < z0.length ∧ ¬ k < 60) := by omega
      clear hlt
      rcases hor with h1 | ⟨h1, h2⟩
      all_goals
        go_wp2_with fail
        refine HNEW.out.mono ?_
        rintro e w1 ⟨p, rfl, hT, hb1⟩
        have hT : TAt w.heap.size w1 p t := ⟨hT.1, Nat.le_trans hs0 hT.2⟩
        have hb2 := hb.trans (hb1.mono hs0)
        have hs1 := hb2.size
        have hw1 := HW1.out
        have hw2 := HW2.out
        clear hb hb1 HNEW
        go_wp2_with fail
        clear hw1 hw2 HW1 HW2
        have hx0 : 0 ≤ u1 % 257 := by omega
        have hx1 : u1 % 257 < 257 := by omega
        have hy0 : 0 ≤ u2 % 1000000 := by omega
        have hy1 : u2 % 1000000 < 1000000 := by omega
        generalize u1 % 257 = c at *
        generalize u2 % 1000000 = y at *
        clear hu1 hu2
        obtain ⟨c, rfl⟩ := Int.eq_ofNat_of_zero_le hx0
        have hc : c < 257 := by omega
        have q1 := tOf_nat t hc
        have q2 := tBelow_next t hc
        have p1 := hT.1.ok.pos c hc
        have p2 := hT.1.ok.le hc
        have p3 := bl_mono hT.1.ok.pos (show c + 1 ≤ 257 by omega) (Nat.le_refl _)
        rw [hT.1.ok.sum] at p3
        have p4 := bl_pos hT.1.ok.pos (show c ≤ 257 by omega)
        have p5 : bl t.N (c + 1) = bl t.N c + t.N c := rfl
        have s1 : t.step (c : Int) y = (0, t.add c y) := step_ok hc (by omega) (by omega)
        have f1 : tOf (t.add c y) (c : Int) = t.N c + y := (tOf_nat _ hc).trans (add_N t c y)
        have f2 : tBelow (t.add c y) ((c : Int) + 1) = bl t.N (c + 1) + y := (tBelow_next _ hc).trans (add_next t c y)
        have f3 : tBelow (t.add c y) (c : Int) = bl t.N (c + 1) - t.N c := by rw [tBelow_nat _ (by omega), add_bl]; omega
        have f4 : (t.add c y).all = (k : Int) + y := by show t.all + y = _; rw [hall]
        have s2 : (t.add c y).step (c : Int) (-t.N c - y - 1) = (2, t.add c y) := step_range hc (Or.inl (by rw [add_N]; omega))
        have s3 : (t.add c y).step (c : Int) (-y) = (0, (t.add c y).add c (-y)) := step_ok hc (by rw [add_N]; omega) (by rw [f4]; omega)
        have f5 : tOf ((t.add c y).add c (-y)) (c : Int) = t.N c := by rw [tOf_nat _ hc, add_N, add_N]; omega
        have f6 : ((t.add c y).add c (-y)).all = (k : Int) := by show (t.add c y).all + -y = _; rw [f4]; omega
        have S1 := Lib.hid s1
        have S2 := Lib.hid s2
        have S3 := Lib.hid s3
        have F1 := Lib.hid f1
        have F2 := Lib.hid f2
        have F3 := Lib.hid f3
        have F4 := Lib.hid f4
        have F5 := Lib.hid f5
        have F6 := Lib.hid f6
        have Q1 := Lib.hid q1
        have Q2 := Lib.hid q2
        clear s1 s2 s3 f1 f2 f3 f4 f5 f6 q1 q2
        generalize t.add c y = t2 at *
        generalize t2.add c (-y) = t3 at *
        generalize t.N c = N at *
        generalize bl t.N c = L0 at *
        generalize bl t.N (c + 1) = L at *
        rw [hall] at p2 p3
        have p6 : 0 ≤ L := by omega
        have p7 : N ≤ L := by omega
        clear p5
        refine (tof_at hT Q1.out).mono ?_
        rintro e w' ⟨rfl, rfl⟩
        go_wp2_with fail
        refine (tbelow_at hT Q2.out).mono ?_
        rintro e w' ⟨rfl, rfl⟩
        go_wp2_with fail
        refine (tadd_at hT hs1 S1.out).mono ?_
        rintro e w2 ⟨rfl, hT2, hb3⟩
        have hb4 := hb2.trans hb3
        have hs2 := hb4.size
        clear hT hb2 hb3 hs1
        go_wp2_with fail
        refine (tof_at hT2 F1.out).mono ?_
        rintro e w' ⟨rfl, rfl⟩
        go_wp2_with fail
        refine (tbelow_at hT2 F2.out).mono ?_
        rintro e w' ⟨rfl, rfl⟩
        go_wp2_with fail
        refine (tbelow_at hT2 F3.out).mono ?_
        rintro e w' ⟨rfl, rfl⟩
        go_wp2_with fail
        refine (tlen_at hT2 F4.out).mono ?_
        rintro e w' ⟨rfl, rfl⟩
        go_wp2_with fail
        refine (tadd_at hT2 hs2 S2.out).mono ?_
        rintro e w3 ⟨rfl, hT3, hb5⟩
        have hb6 := hb4.trans hb5
        have hs3 := hb6.size
        clear hT2 hb4 hb5 hs2
        go_wp2_with fail
        refine (tadd_at hT3 hs3 S3.out).mono ?_
        rintro e w4 ⟨rfl, hT4, hb7⟩
        have hb8 := hb6.trans hb7
        have hs4 := hb8.size
        clear hT3 hb6 hb7 hs3
        go_wp2_with fail
        refine (told8_any _).mono ?_
        rintro e w5 ⟨rfl, hb9⟩
        have hT5 := hT4.chg hb9
        have hb10 := hb8.trans (hb9.mono hs4)
        clear hT4 hb8 hb9 hs4
        go_wp2_with fail
        refine (tof_at hT5 F5.out).mono ?_
        rintro e w' ⟨rfl, rfl⟩
        go_wp2_with fail
        refine (tlen_at hT5 F6.out).mono ?_
        rintro e w' ⟨rfl, rfl⟩
        go_wp2_with fail
        go_ret
        exact ⟨rfl, hb10⟩

end Go.Proofs.Yteapkoomingdfaa
