/- The walk of PermPlays. -/
import Derived.Test.YtpbmhdkhkbhgnaaZp6
import Derived.Test.YtpbmhdkhkbhgnaaZp5
import Derived.Deep.DeepCutAuto
import Derived.Deep.CutBlock
import Derived.Deep.CutRange
namespace Go.Proofs.Ytpbmhdkhkbhgnaa
set_option linter.unusedVariables false
set_option linter.unusedSimpArgs false
open Go.RowKit

theorem cellsL_at : ∀ (l : List (Int × Int)) (j : Nat) (u : Value), (cellsL l)[j]? = some u → ∃ i, i < l.length ∧ ((j = i * 2 ∧ u = .int .i64 (rowL l i)) ∨ (j = i * 2 + 1 ∧ u = .int .i64 (posL l i)))
  | [], j, u, h => by simp [cellsL] at h
  | x :: l, 0, u, h => ⟨0, by simp, Or.inl ⟨rfl, by simp [cellsL] at h; exact h.symm⟩⟩
  | x :: l, 1, u, h => ⟨0, by simp, Or.inr ⟨rfl, by simp [cellsL] at h; exact h.symm⟩⟩
  | x :: l, j + 2, u, h => by
    obtain ⟨i, hi, hor⟩ := cellsL_at l j u (by simpa [cellsL] using h)
    refine ⟨i + 1, by simp; omega, ?_⟩
    rcases hor with ⟨e, hu⟩ | ⟨e, hu⟩
    · exact Or.inl ⟨by omega, hu⟩
    · exact Or.inr ⟨by omega, hu⟩
theorem readsV_ofP {w : World} {a : Option Addr} {l : List (Int × Int)} (h : RdP w a l) : ReadsV w a (cellsL l) := by
  intro i hi
  rw [cellsL_len] at hi
  obtain ⟨b, off, ha, hb, hc⟩ := h 0 (by omega)
  refine ⟨b, off, ha, hb, fun j u hj => ?_⟩
  obtain ⟨k, hk, hor⟩ := cellsL_at l j u hj
  rcases hor with ⟨rfl, rfl⟩ | ⟨rfl, rfl⟩
  · exact (hc k hk).1
  · exact (hc k hk).2
theorem rdp_arg {w : World} {a : Option Addr} {c : Nat} {l : List (Int × Int)} (h : ArgP w a c l) : RdP w a l := by
  intro i hi
  obtain ⟨b, off, ha, hb, hc⟩ := h.reads i hi
  exact ⟨b, off, ha, hb, fun j hj => hc j hj⟩
theorem and7n (x : Int) : ∃ n : Nat, n < 8 ∧ bits .and .i64 x 7 = (n : Int) := by
  have h : bits .and .i64 x 7 = IntKind.i64.wrap (((IntKind.u64.wrap x).toNat &&& 7 : Nat) : Int) := rfl
  have hle : (IntKind.u64.wrap x).toNat &&& 7 ≤ 7 := Nat.and_le_right
  refine ⟨(IntKind.u64.wrap x).toNat &&& 7, by omega, ?_⟩
  rw [h, IntWalk.i64_in] <;> omega

theorem prL_le : ∀ (l : List Int) (i : Nat), (prL i l).length ≤ l.length
  | [], _ => Nat.le_refl _
  | x :: l, i => by
    have := prL_le l (i + 1)
    unfold prL
    split <;> simp <;> omega
theorem PR.allP {B : Nat} {w : World} {p r c : Nat} {L L2 : List Int} {N N2 : Nat} (h : PR B w p r c L N L2 N2) (hc : c ≤ 1000000) : Calls Try.prog 34 #[.pointer (some ⟨p, 0, none⟩)] w (GivesP w.heap.size w (prL 0 L)) := by
  obtain ⟨Sp, Sm, h1, _⟩ := h
  exact pAll_v h1 hc
theorem PR.allR {B : Nat} {w : World} {p r c : Nat} {L L2 : List Int} {N N2 : Nat} (h : PR B w p r c L N L2 N2) (hl : L2.length ≤ 1000000) : Calls Try.prog 50 #[.pointer (some ⟨r, 0, none⟩)] w (GivesP w.heap.size w (prL 0 L2)) := by
  obtain ⟨Sp, Sm, _, h2, _⟩ := h
  exact rAll_v h2 hl
theorem RfV.quiet {S : Nat → Prop} {w : World} {r : Nat} {L : List Int} {N : Nat} {f : FuncId} {args : Array Value} {code : Value} (h : RfV S w r L N) (hcon : ∀ v, RfIn w r v L N → Calls Try.prog f args w fun e w' => e = .returned code ∧ w = w') : Calls Try.prog f args w fun e w' => e = .returned code ∧ RfStep S w w' r L N := by
  have h0 := h
  obtain ⟨v, hR, _⟩ := h0
  refine (hcon v hR).mono ?_
  rintro e w' ⟨rfl, rfl⟩
  exact ⟨rfl, h.stay (Below.refl _ _)⟩
theorem PR.more {B : Nat} {w : World} {p r c c' : Nat} {L L2 : List Int} {N N2 : Nat} (h : PR B w p r c L N L2 N2) (hc : c ≤ c') : PR B w p r c' L N L2 N2 := by
  obtain ⟨Sp, Sm, h1, h2⟩ := h
  exact ⟨Sp, Sm, h1.more hc, h2⟩

set_option maxHeartbeats 25600000 in
set_option maxRecDepth 100000 in
theorem walk_PermPlays (w : World) (n : Int) (wn : (Lit.int .i64 n).wf = true) (a1 : Option Addr) (c1 : Nat) (z1 : List (Int × Int)) (w1 : ArgP w a1 c1 z1) (a2 : Option Addr) (c2 : Nat) (z2 : List (Int × Int × Int)) (w2 : ArgT w a2 c2 z2) :
    Calls Try.prog 14 #[.int .i64 n, .slice a1 z1.length c1, .slice a2 z2.length c2] w fun e w' => e = .returned (.bool true) ∧ Below w.heap.size w w' := by
  have hr1 := rdp_arg w1
  have hr2 := w2.reads
  have hm1 := Nat.le_trans w1.le w1.max
  have hm2 := Nat.le_trans w2.le w2.max
  unfold maxLen at hm1 hm2
  have HR1 := Lib.hid hr1
  have HR2 := Lib.hid hr2
  clear wn w1 w2 hr1 hr2
  by_cases hbig : z1.length ≤ 20 ∧ z2.length ≤ 100
  · obtain ⟨hl1, hl2⟩ := hbig
    have d1 : decide (20 < z1.length) = false := decide_eq_false (by omega)
    have d2 : decide (100 < z2.length) = false := decide_eq_false (by omega)
    have d3 : decide ((20 : Int) < (z1.length : Int)) = false := decide_eq_false (by omega)
    have d4 : decide ((100 : Int) < (z2.length : Int)) = false := decide_eq_false (by omega)
    obtain ⟨u, hu0, hu⟩ : ∃ u : Int, 0 ≤ u ∧ IntKind.u64.wrap n = u := ⟨IntKind.u64.wrap n, by rw [IntKind.wrap_u64]; omega, rfl⟩
    have hu1 : u < 18446744073709551616 := by rw [← hu, IntKind.wrap_u64]; omega
    obtain ⟨k, hk⟩ : ∃ k : Nat, u % 61 = k := ⟨(u % 61).toNat, by omega⟩
    have hk60 : k ≤ 60 := by omega
    have HK := Lib.hid hk
    clear hk
    have HNEW : Hid (∀ W, Below w.heap.size w W → Calls Try.prog 27 #[.int .i64 (k : Int), .slice a1 z1.length c1] W (NewPost W k z1)) := fun W hW => pNew_v W k (by omega) z1 a1 c1 (readsV_ofP (HR1.out.below hW)) (by omega)
    have HRNEW : Hid (∀ W, Below w.heap.size w W → Calls Try.prog 38 #[.int .i64 (k : Int), .slice a1 z1.length c1] W (NewRPost W k z1)) := fun W hW => rNew_v W k (by omega) z1 a1 c1 (HR1.out.below hW) (by omega)
    go_enter Try.func14, Try.ntmps14
    go_upto_region 4 with fail
    rw [HK.out]
    clear hu d1 d2 d3 d4
    -- BODY
    go_wp2_with fail
    cases hall : addAll k (List.replicate k (-1)) z1 with
    | some L0 =>
      have hL0 := addAll_len _ _ _ _ hall
      rw [List.length_replicate] at hL0
      have HN1 : Hid (∀ W, Below w.heap.size w W → Calls Try.prog 27 #[.int .i64 (k : Int), .slice a1 z1.length c1] W fun e w' => ∃ p, e = .returned (.tuple #[.pointer (some ⟨p, 0, none⟩), .int .i64 0]) ∧ PmV (fun j => W.heap.size ≤ j) w' p z1.length L0 k ∧ Below W.heap.size W w') := fun W hW => (HNEW.out W hW).mono (fun e w' h => by unfold NewPost at h; rw [hall] at h; exact h)
      have HN2 : Hid (∀ W, Below w.heap.size w W → Calls Try.prog 38 #[.int .i64 (k : Int), .slice a1 z1.length c1] W fun e w' => ∃ r, e = .returned (.pointer (some ⟨r, 0, none⟩)) ∧ RfV (fun j => W.heap.size ≤ j) w' r L0 k ∧ Below W.heap.size W w') := fun W hW => (HRNEW.out W hW).mono (fun e w' h => by unfold NewRPost at h; rw [hall] at h; exact h)
      have HL0 := Lib.hid hL0
      clear hall HNEW HRNEW HR1 hL0
      refine (HN1.out w (Below.refl _ _)).mono ?_
      rintro e w3 ⟨p, rfl, hp, hb3⟩
      have HP := Lib.hid hp
      have HB3 := Lib.hid hb3
      clear hp hb3
      go_wp2_with fail
      refine (HN2.out w3 HB3.out).mono ?_
      rintro e w4 ⟨r, rfl, hr, hb4⟩
      have HPR : Hid (PR w.heap.size w4 p r z1.length L0 k L0 k) := PR.of HP.out HB3.out hr hb4
      have HB := Lib.hid (HB3.out.trans (hb4.mono HB3.out.size))
      have hc0 : z1.length ≤ 20 := hl1
      have HLL : Hid (L0.length = k) := HL0.out
      clear hr hb4 HP HB3 HN1 HN2 HL0
      generalize z1.length = cz at *
      go_wp2_with fail
      go_loopw [11] (fun v wr => ∃ (i c : Nat) (L : List Int) (N : Nat), i ≤ z2.length ∧ v = .int .i64 i ∧ PR w.heap.size wr p r c L N L N ∧ c ≤ 20 + i ∧ L.length ≤ 60 + i ∧ N ≤ 60 + i ∧ Below w.heap.size w wr) (fun v _ => z2.length - (intOf v).toNat)
      case atStart => exact ⟨0, _, _, _, Nat.zero_le _, rfl, HPR.out, by omega, by rw [HLL.out]; omega, by omega, HB.out⟩
      case round => as_aux_lemma =>
        obtain ⟨i, c, L, N, hi, rfl, hpr, hc, hL, hN, hb⟩ := hrel
        clear HPR HB HLL
        by_cases hlt : i < z2.length
        · obtain ⟨b, off, rfl, hbl, hcs⟩ := HR2.out i hlt
          obtain ⟨p1, p2, p3⟩ := hcs i hlt
          have q1 := (hb.cell (p := ⟨b, off + i * 3, none⟩) hbl).trans p1
          have q2 := (hb.cell (p := ⟨b, off + i * 3 + 1, none⟩) hbl).trans p2
          have q3 := (hb.cell (p := ⟨b, off + i * 3 + 2, none⟩) hbl).trans p3
          generalize (z2[i]?.getD default).1 = kd at *
          generalize (z2[i]?.getD default).2.1 = A0 at *
          generalize (z2[i]?.getD default).2.2 = B0 at *
          have HPR := Lib.hid hpr
          have HB := Lib.hid hb
          have i0 : (0 : Int) ≤ (i : Int) := by omega
          have i1 : (i : Int) < (z2.length : Int) := by omega
          clear hcs p1 p2 p3 hpr hb
          go_upto_region 17 with fail
          obtain ⟨W1, hW1⟩ : ∃ W1, W1 = wr.alloc (.cells #[.int .i64 kd, .int .i64 A0, .int .i64 B0] 61) := ⟨_, rfl⟩
          rw [← hW1]
          have hbW : Below wr.heap.size wr W1 := by rw [hW1]; exact below_al wr _
          have hbx : W1.heap[wr.heap.size]? = some (.cells #[.int .i64 kd, .int .i64 A0, .int .i64 B0] 61 (0, 0)) := by rw [hW1]; exact heap_alloc_new wr _
          have t0 : W1.cell? ⟨wr.heap.size, 0, none⟩ = some (.int .i64 kd) := by rw [cell_of_row W1 _ 0 _ _ _ hbx]; rfl
          have t1 : W1.cell? ⟨wr.heap.size, 1, none⟩ = some (.int .i64 A0) := by rw [cell_of_row W1 _ 1 _ _ _ hbx]; rfl
          have t2 : W1.cell? ⟨wr.heap.size, 2, none⟩ = some (.int .i64 B0) := by rw [cell_of_row W1 _ 2 _ _ _ hbx]; rfl
          have hpr1 : PR w.heap.size W1 p r c L N L N := HPR.out.below hbW
          have hb1 : Below w.heap.size w W1 := HB.out.trans (hbW.mono HB.out.size)
          obtain ⟨ra, rc, s0, s1⟩ : ∃ ra rc, W1.cell? ⟨r, 0, none⟩ = some (.slice ra L.length rc) ∧ W1.cell? ⟨r, 1, none⟩ = some (.int .i64 (N : Int)) := by
            obtain ⟨Sp, Sm, _, ⟨v, hR, _⟩, _⟩ := hpr1
            obtain ⟨a, c, _, x0, x1, _⟩ := hR.see
            exact ⟨a, c, x0, x1⟩
          have HPR1 := Lib.hid hpr1
          have HB1 := Lib.hid hb1
          have hz1 : IntKind.u64.wrap ((L.length : Int) + 1) = (L.length : Int) + 1 := by rw [IntKind.wrap_u64]; omega
          have hz2 : IntKind.u64.wrap (max (N : Int) (L.length : Int) + 1) = max (N : Int) (L.length : Int) + 1 := by rw [IntKind.wrap_u64]; omega
          clear hW1 hbW hbx hpr1 hb1 HPR HB q1 q2 q3
          go_quiet (fail)
          obtain ⟨n1, rfl⟩ : ∃ n1, n1 = nq := ⟨_, rfl⟩
          go_upto_if 78 with fail
          go_cut [13, 14] from 62 to 227 (fun x y wx => Below W1.heap.size W1 wx ∧ ∃ A B : Int, x = .int .i64 A ∧ y = .int .i64 B)
          case first => as_aux_lemma =>
            by_cases h9 : (i : Int) % 9 < 8
            · have d9 : decide ((i : Int) % 9 < 8) = true := decide_eq_true h9
              go_wp2_with fail
              go_quiet (fail)
              go_wp2_with fail
              go_meet
              case rel => exact ⟨below_dN (below_dN (Below.refl _ _) _) _, _, _, rfl, rfl⟩
            · have d9 : decide ((i : Int) % 9 < 8) = false := decide_eq_false h9
              go_wp2_with fail
              go_meet
              case rel => exact ⟨below_dN (Below.refl _ _) _, _, _, rfl, rfl⟩
          case rest => as_aux_lemma =>
            obtain ⟨hbc, A, Bv, rfl, rfl⟩ := hcut
            have hprc := HPR1.out.below hbc
            have hbcc := HB1.out.trans (hbc.mono HB1.out.size)
            have hbox := World.block_lt_of_cell? W1 _ t0
            have t3 := (hbc.cell (p := ⟨wr.heap.size, 0, none⟩) hbox).trans t0
            have hrg := hprc.rng
            obtain ⟨m7, hm8, hm⟩ := and7n kd
            have HPRC := Lib.hid hprc
            have HBC := Lib.hid hbcc
            have HRG := Lib.hid hrg
            clear hz1 hz2 s0 s1 t0 t1 t2 HPR1 HB1 hprc hbcc hrg hbc
            have hL8 : L.length ≤ 1000 := by omega
            have hN8 : N ≤ 1000 := by omega
            have hc8 : c ≤ 1000 := by omega
            go_upto_block 2 with fail
            go_cut [15, 16] from 62 to 227 (fun x y wx => ∃ code : Int, x = .int .i64 code ∧ y = .int .i64 code ∧ PR w.heap.size wx p r (c + 1) (opL m7 L N A Bv) (opN m7 N Bv) (opL m7 L N A Bv) (opN m7 N Bv) ∧ Below w.heap.size w wx)
            case first => as_aux_lemma =>
              obtain h7 | h7 | h7 | h7 | h7 | h7 | h7 | h7 : m7 = 0 ∨ m7 = 1 ∨ m7 = 2 ∨ m7 = 3 ∨ m7 = 4 ∨ m7 = 5 ∨ m7 = 6 ∨ m7 = 7 := by omega
              · subst h7
                rw [show (((0 : Nat) : Int)) = 0 from rfl] at hm ⊢
                go_wp2_with fail
                refine (HPRC.out.callP (fun S h => pAdd_v h (by omega) (by omega) (by omega) A Bv)).mono ?_
                rintro e w5 ⟨rfl, h5, hb5⟩
                have H5 := Lib.hid h5
                have HB5 := Lib.hid (HBC.out.trans hb5)
                clear h5 hb5
                go_wp2_with fail
                refine (H5.out.callR (fun S h => rAdd_v h (by omega) (fun i => (HRG.out i).2) A Bv)).mono ?_
                rintro e w6 ⟨rfl, h6, hb6⟩
                have H6 := Lib.hid (h6.more (c' := c + 1) (by omega))
                have HB6 := Lib.hid (HB5.out.trans hb6)
                clear h6 hb6
                go_wp2_with fail
                go_meet
                case rel => exact ⟨_, rfl, rfl, H6.out, HB6.out⟩
              · subst h7
                rw [show (((1 : Nat) : Int)) = 1 from rfl] at hm ⊢
                go_wp2_with fail
                refine (HPRC.out.callP (fun S h => pAdd_v h (by omega) (by omega) (by omega) A Bv)).mono ?_
                rintro e w5 ⟨rfl, h5, hb5⟩
                have H5 := Lib.hid h5
                have HB5 := Lib.hid (HBC.out.trans hb5)
                clear h5 hb5
                go_wp2_with fail
                refine (H5.out.callR (fun S h => rAdd_v h (by omega) (fun i => (HRG.out i).2) A Bv)).mono ?_
                rintro e w6 ⟨rfl, h6, hb6⟩
                have H6 := Lib.hid (h6.more (c' := c + 1) (by omega))
                have HB6 := Lib.hid (HB5.out.trans hb6)
                clear h6 hb6
                go_wp2_with fail
                go_meet
                case rel => exact ⟨_, rfl, rfl, H6.out, HB6.out⟩
              · subst h7
                rw [show (((2 : Nat) : Int)) = 2 from rfl] at hm ⊢
                obtain ⟨cd, hcd⟩ : ∃ cd : Int, (if 0 ≤ gL L A then (0 : Int) else 7) = cd := ⟨_, rfl⟩
                have HCD := Lib.hid hcd
                clear hcd
                go_wp2_with fail
                refine (HPRC.out.callP (code := .int .i64 cd) (fun S h => by rw [← HCD.out]; exact pDrop_v h (by omega) A)).mono ?_
                rintro e w5 ⟨rfl, h5, hb5⟩
                have H5 := Lib.hid h5
                have HB5 := Lib.hid (HBC.out.trans hb5)
                clear h5 hb5
                go_wp2_with fail
                refine (H5.out.callR (code := .int .i64 cd) (fun S h => by rw [← HCD.out]; exact rDrop_v h A)).mono ?_
                rintro e w6 ⟨rfl, h6, hb6⟩
                have H6 := Lib.hid (h6.more (c' := c + 1) (by omega))
                have HB6 := Lib.hid (HB5.out.trans hb6)
                clear h6 hb6
                go_wp2_with fail
                go_meet
                case rel => exact ⟨_, rfl, rfl, H6.out, HB6.out⟩
              · subst h7
                rw [show (((3 : Nat) : Int)) = 3 from rfl] at hm ⊢
                go_wp2_with fail
                refine (HPRC.out.callP (fun S h => pRowIn_c h (by omega) (by omega) A)).mono ?_
                rintro e w5 ⟨rfl, h5, hb5⟩
                have H5 := Lib.hid h5
                have HB5 := Lib.hid (HBC.out.trans hb5)
                clear h5 hb5
                go_wp2_with fail
                refine (H5.out.callR (fun S h => rRowIn_v h (by omega) A)).mono ?_
                rintro e w6 ⟨rfl, h6, hb6⟩
                have H6 := Lib.hid (h6.more (c' := c + 1) (by omega))
                have HB6 := Lib.hid (HB5.out.trans hb6)
                clear h6 hb6
                go_wp2_with fail
                go_meet
                case rel => exact ⟨_, rfl, rfl, H6.out, HB6.out⟩
              · subst h7
                rw [show (((4 : Nat) : Int)) = 4 from rfl] at hm ⊢
                go_wp2_with fail
                refine (HPRC.out.callP (fun S h => pRowOut_c h (by omega) (by omega) A)).mono ?_
                rintro e w5 ⟨rfl, h5, hb5⟩
                have H5 := Lib.hid h5
                have HB5 := Lib.hid (HBC.out.trans hb5)
                clear h5 hb5
                go_wp2_with fail
                refine (H5.out.callR (fun S h => rRowOut_v h (by omega) A)).mono ?_
                rintro e w6 ⟨rfl, h6, hb6⟩
                have H6 := Lib.hid (h6.more (c' := c + 1) (by omega))
                have HB6 := Lib.hid (HB5.out.trans hb6)
                clear h6 hb6
                go_wp2_with fail
                go_meet
                case rel => exact ⟨_, rfl, rfl, H6.out, HB6.out⟩
              · subst h7
                rw [show (((5 : Nat) : Int)) = 5 from rfl] at hm ⊢
                go_wp2_with fail
                refine (HPRC.out.callP (fun S h => pRowMove_c h (by omega) (by omega) A Bv)).mono ?_
                rintro e w5 ⟨rfl, h5, hb5⟩
                have H5 := Lib.hid h5
                have HB5 := Lib.hid (HBC.out.trans hb5)
                clear h5 hb5
                go_wp2_with fail
                refine (H5.out.callR (fun S h => rRowMove_v h (by omega) A Bv)).mono ?_
                rintro e w6 ⟨rfl, h6, hb6⟩
                have H6 := Lib.hid (h6.more (c' := c + 1) (by omega))
                have HB6 := Lib.hid (HB5.out.trans hb6)
                clear h6 hb6
                go_wp2_with fail
                go_meet
                case rel => exact ⟨_, rfl, rfl, H6.out, HB6.out⟩
              · subst h7
                rw [show (((6 : Nat) : Int)) = 6 from rfl] at hm ⊢
                go_wp2_with fail
                refine (HPRC.out.callP (fun S h => pPosIn_c h (by omega) (by omega) Bv)).mono ?_
                rintro e w5 ⟨rfl, h5, hb5⟩
                have H5 := Lib.hid h5
                have HB5 := Lib.hid (HBC.out.trans hb5)
                clear h5 hb5
                go_wp2_with fail
                refine (H5.out.callR (fun S h => rPosIn_v h (by omega) (by omega) HRG.out Bv)).mono ?_
                rintro e w6 ⟨rfl, h6, hb6⟩
                have H6 := Lib.hid (h6.more (c' := c + 1) (by omega))
                have HB6 := Lib.hid (HB5.out.trans hb6)
                clear h6 hb6
                go_wp2_with fail
                go_meet
                case rel => exact ⟨_, rfl, rfl, H6.out, HB6.out⟩
              · subst h7
                rw [show (((7 : Nat) : Int)) = 7 from rfl] at hm ⊢
                go_wp2_with fail
                refine (HPRC.out.callP (fun S h => pPosOut_c h (by omega) (by omega) Bv)).mono ?_
                rintro e w5 ⟨rfl, h5, hb5⟩
                have H5 := Lib.hid h5
                have HB5 := Lib.hid (HBC.out.trans hb5)
                clear h5 hb5
                go_wp2_with fail
                refine (H5.out.callR (fun S h => rPosOut_v h (by omega) (by omega) HRG.out Bv)).mono ?_
                rintro e w6 ⟨rfl, h6, hb6⟩
                have H6 := Lib.hid (h6.more (c' := c + 1) (by omega))
                have HB6 := Lib.hid (HB5.out.trans hb6)
                clear h6 hb6
                go_wp2_with fail
                go_meet
                case rel => exact ⟨_, rfl, rfl, H6.out, HB6.out⟩
            case rest => as_aux_lemma =>
              obtain ⟨code, rfl, rfl, hpr3, hb3⟩ := hcut
              have hl3 := opL_len m7 L N A Bv
              have hn3 := opN_le m7 N Bv
              generalize opL m7 L N A Bv = L3 at *
              generalize opN m7 N Bv = N3 at *
              have HP := Lib.hid hpr3
              have HB := Lib.hid hb3
              have dc : (code != code) = false := by simp
              have dl : ((L3.length : Int) != (L3.length : Int)) = false := by simp
              have dn : ((N3 : Int) != (N3 : Int)) = false := by simp
              have hl4 : L3.length ≤ 1001 := by omega
              have hn4 : N3 ≤ 1001 := by omega
              clear hpr3 hb3 HPRC HBC HRG hm t3
              go_wp2_with fail
              refine (HP.out.callP (fun S h => (pSize_v h).mono (fun e w' h2 => ⟨h2.1, by obtain ⟨m, rfl⟩ := h2.2; exact h.stay (below_dN (Below.refl _ _) m)⟩))).mono ?_
              rintro e w7 ⟨rfl, h7, hb7⟩
              obtain ⟨ra, rc, s0, s1⟩ : ∃ ra rc, w7.cell? ⟨r, 0, none⟩ = some (.slice ra L3.length rc) ∧ w7.cell? ⟨r, 1, none⟩ = some (.int .i64 (N3 : Int)) := by
                obtain ⟨Sp, Sm, _, ⟨v, hR, _⟩, _⟩ := h7
                obtain ⟨a, c, _, x0, x1, _⟩ := hR.see
                exact ⟨a, c, x0, x1⟩
              have HP7 := Lib.hid h7
              have HB7 := Lib.hid (HB.out.trans hb7)
              clear h7 hb7 HP HB
              go_wp2_with fail
              refine (HP7.out.allP (by omega)).mono ?_
              rintro e w8 hg
              obtain ⟨qa, qc, rfl, hown, hb8⟩ := hg
              have HRA := Lib.hid (rdp_own hown rfl)
              have HP8 := Lib.hid (HP7.out.below hb8)
              have HB8 := Lib.hid (HB7.out.trans (hb8.mono HB7.out.size))
              clear hown hb8 HP7 HB7 s0 s1
              go_wp2_with fail
              refine (HP8.out.allR (by omega)).mono ?_
              rintro e w9 hg
              obtain ⟨qb, qd, rfl, hown, hb9⟩ := hg
              have HPAIR := Lib.hid (pairs_true (c := qc) (d := qd) (n := (prL 0 L3).length) (m := (prL 0 L3).length) (prL 0 L3) rfl rfl (HRA.out.below hb9) (rdp_own hown rfl) (Nat.le_trans (prL_le L3 0) (by omega)))
              have HP9 := Lib.hid (HP8.out.below hb9)
              have HB9 := Lib.hid (HB8.out.trans (hb9.mono HB8.out.size))
              clear hown hb9 HP8 HB8 HRA
              go_wp2_with fail
              refine HPAIR.out.mono ?_
              rintro e wa ⟨rfl, hba⟩
              have HPa := Lib.hid (HP9.out.below hba)
              have HBa := Lib.hid (HB9.out.trans (hba.mono HB9.out.size))
              clear hba HP9 HB9 HPAIR
              go_wp2_with fail
              refine (HPa.out.callP (fun S h => pPos_v h (by omega) A)).mono ?_
              rintro e wb ⟨rfl, hb, hbb⟩
              have HPb := Lib.hid hb
              have HBb := Lib.hid (HBa.out.trans hbb)
              clear hb hbb HPa HBa
              go_wp2_with fail
              refine (HPb.out.callR (fun S h => h.quiet (fun v hR => rPos_any hR A))).mono ?_
              rintro e wd ⟨rfl, hb, hbb⟩
              have HPd := Lib.hid hb
              have HBd := Lib.hid (HBb.out.trans hbb)
              clear hb hbb HPb HBb
              obtain ⟨g1, hg1⟩ : ∃ g1, gL L3 A = g1 := ⟨_, rfl⟩
              have dg1 : (g1 != g1) = false := by simp
              rw [hg1]
              clear hg1
              go_wp2_with fail
              refine (HPd.out.callP (fun S h => (pRow_v h (by omega) Bv).mono (fun e w' h2 => ⟨h2.1, h.stay h2.2⟩))).mono ?_
              rintro e we ⟨rfl, hb, hbb⟩
              have HPe := Lib.hid hb
              have HBe := Lib.hid (HBd.out.trans hbb)
              clear hb hbb HPd HBd
              go_wp2_with fail
              refine (HPe.out.callR (fun S h => h.quiet (fun v hR => rRow_any hR (by omega) (fun i => (HPe.out.rng i).2) Bv))).mono ?_
              rintro e wf ⟨rfl, hb, hbb⟩
              have HPf := Lib.hid hb
              have HBf := Lib.hid (HBe.out.trans hbb)
              clear hb hbb HPe HBe
              obtain ⟨g2, hg2⟩ : ∃ g2, aL L3 Bv = g2 := ⟨_, rfl⟩
              have dg2 : (g2 != g2) = false := by simp
              rw [hg2]
              clear hg2
              go_wp2_with fail
              refine (HPf.out.callP (fun S h => (pNext_v h (by omega) (by omega) Bv).mono (fun e w' h2 => ⟨h2.1, h.stay h2.2⟩))).mono ?_
              rintro e wg ⟨rfl, hb, hbb⟩
              have HPg := Lib.hid hb
              have HBg := Lib.hid (HBf.out.trans hbb)
              clear hb hbb HPf HBf
              go_wp2_with fail
              refine (HPg.out.callR (fun S h => (rNext_v h (by omega) Bv).mono (fun e w' h2 => ⟨h2.1, by rw [← h2.2]; exact h.stay (Below.refl _ _)⟩))).mono ?_
              rintro e wh ⟨rfl, hb, hbb⟩
              have HPh := Lib.hid hb
              have HBh := Lib.hid (HBg.out.trans hbb)
              clear hb hbb HPg HBg
              obtain ⟨g3, hg3⟩ : ∃ g3, nextP Bv (prL 0 L3) = g3 := ⟨_, rfl⟩
              have dg3 : (g3 != g3) = false := by simp
              rw [hg3]
              clear hg3
              go_wp2_with fail
              go_roundw
              case rel => exact ⟨i + 1, c + 1, L3, N3, by omega, by go_num, HPh.out, by omega, by omega, by omega, HBh.out⟩
              case measure => simp [intOf]; omega
        · have HB := Lib.hid hb
          clear hb hpr
          obtain rfl : i = z2.length := by omega
          go_wp2_with fail
          refine (told11_any _).mono ?_
          rintro e w9 ⟨rfl, hb9⟩
          go_wp2_with fail
          go_ret
          exact ⟨rfl, HB.out.trans (hb9.mono HB.out.size)⟩
    | none =>
      have HN1 : Hid (∀ W, Below w.heap.size w W → Calls Try.prog 27 #[.int .i64 (k : Int), .slice a1 z1.length c1] W fun e w' => e = .returned (.tuple #[.pointer none, .int .i64 1]) ∧ Below W.heap.size W w') := fun W hW => (HNEW.out W hW).mono (fun e w' h => by unfold NewPost at h; rw [hall] at h; exact h)
      have HN2 : Hid (∀ W, Below w.heap.size w W → Calls Try.prog 38 #[.int .i64 (k : Int), .slice a1 z1.length c1] W fun e w' => e = .returned (.pointer none) ∧ Below W.heap.size W w') := fun W hW => (HRNEW.out W hW).mono (fun e w' h => by unfold NewRPost at h; rw [hall] at h; exact h)
      clear hall HNEW HRNEW HR1
      refine (HN1.out w (Below.refl _ _)).mono ?_
      rintro e w3 ⟨rfl, hb3⟩
      have HB3 := Lib.hid hb3
      clear hb3
      go_wp2_with fail
      refine (HN2.out w3 HB3.out).mono ?_
      rintro e w4 ⟨rfl, hb4⟩
      have HB4 := Lib.hid (HB3.out.trans (hb4.mono HB3.out.size))
      clear hb4 HB3 HN1 HN2
      go_wp2_with fail
      refine (new_o (w := w4) k rfl (by omega)).mono ?_
      rintro e w5 ⟨p, rfl, hp, hb5⟩
      have HP := Lib.hid hp
      have HB5 := Lib.hid hb5
      clear hp hb5
      go_wp2_with fail
      refine (rNew_v w5 k (by omega) [] none 0 (fun i hi => absurd hi (Nat.not_lt_zero _)) (by simp)).mono ?_
      intro e w6 hpost
      obtain ⟨r, rfl, hr, hb6⟩ := hpost
      have HPR : Hid (PR w.heap.size w6 p r 0 (List.replicate k (-1)) k (List.replicate k (-1)) k) := by
        obtain ⟨Sp, Sm, q1, q2, q3, q4, q5, q6⟩ := PR.of HP.out.1 HB5.out hr hb6
        exact ⟨Sp, Sm, q1, q2, q3, fun j hj => Nat.le_trans HB4.out.size (q4 j hj), fun j hj => Nat.le_trans HB4.out.size (q5 j hj), Nat.le_trans HB4.out.size q6⟩
      have HB := Lib.hid (HB4.out.trans ((HB5.out.trans (hb6.mono HB5.out.size)).mono HB4.out.size))
      have HLL : Hid ((List.replicate k (-1 : Int)).length = k) := by show _ = _; simp
      clear hr hb6 HP HB4 HB5
      have hc0 : (0 : Nat) ≤ 20 := by omega
      generalize (List.replicate k (-1 : Int)) = L0 at *
      obtain ⟨cz, hcz⟩ : ∃ cz : Nat, cz = 0 := ⟨_, rfl⟩
      rw [← hcz] at HPR hc0
      clear hcz
      go_wp2_with fail
      go_loopw [11] (fun v wr => ∃ (i c : Nat) (L : List Int) (N : Nat), i ≤ z2.length ∧ v = .int .i64 i ∧ PR w.heap.size wr p r c L N L N ∧ c ≤ 20 + i ∧ L.length ≤ 60 + i ∧ N ≤ 60 + i ∧ Below w.heap.size w wr) (fun v _ => z2.length - (intOf v).toNat)
      case atStart => exact ⟨0, _, _, _, Nat.zero_le _, rfl, HPR.out, by omega, by rw [HLL.out]; omega, by omega, HB.out⟩
      case round => as_aux_lemma =>
        obtain ⟨i, c, L, N, hi, rfl, hpr, hc, hL, hN, hb⟩ := hrel
        clear HPR HB HLL
        by_cases hlt : i < z2.length
        · obtain ⟨b, off, rfl, hbl, hcs⟩ := HR2.out i hlt
          obtain ⟨p1, p2, p3⟩ := hcs i hlt
          have q1 := (hb.cell (p := ⟨b, off + i * 3, none⟩) hbl).trans p1
          have q2 := (hb.cell (p := ⟨b, off + i * 3 + 1, none⟩) hbl).trans p2
          have q3 := (hb.cell (p := ⟨b, off + i * 3 + 2, none⟩) hbl).trans p3
          generalize (z2[i]?.getD default).1 = kd at *
          generalize (z2[i]?.getD default).2.1 = A0 at *
          generalize (z2[i]?.getD default).2.2 = B0 at *
          have HPR := Lib.hid hpr
          have HB := Lib.hid hb
          have i0 : (0 : Int) ≤ (i : Int) := by omega
          have i1 : (i : Int) < (z2.length : Int) := by omega
          clear hcs p1 p2 p3 hpr hb
          go_upto_region 17 with fail
          obtain ⟨W1, hW1⟩ : ∃ W1, W1 = wr.alloc (.cells #[.int .i64 kd, .int .i64 A0, .int .i64 B0] 61) := ⟨_, rfl⟩
          rw [← hW1]
          have hbW : Below wr.heap.size wr W1 := by rw [hW1]; exact below_al wr _
          have hbx : W1.heap[wr.heap.size]? = some (.cells #[.int .i64 kd, .int .i64 A0, .int .i64 B0] 61 (0, 0)) := by rw [hW1]; exact heap_alloc_new wr _
          have t0 : W1.cell? ⟨wr.heap.size, 0, none⟩ = some (.int .i64 kd) := by rw [cell_of_row W1 _ 0 _ _ _ hbx]; rfl
          have t1 : W1.cell? ⟨wr.heap.size, 1, none⟩ = some (.int .i64 A0) := by rw [cell_of_row W1 _ 1 _ _ _ hbx]; rfl
          have t2 : W1.cell? ⟨wr.heap.size, 2, none⟩ = some (.int .i64 B0) := by rw [cell_of_row W1 _ 2 _ _ _ hbx]; rfl
          have hpr1 : PR w.heap.size W1 p r c L N L N := HPR.out.below hbW
          have hb1 : Below w.heap.size w W1 := HB.out.trans (hbW.mono HB.out.size)
          obtain ⟨ra, rc, s0, s1⟩ : ∃ ra rc, W1.cell? ⟨r, 0, none⟩ = some (.slice ra L.length rc) ∧ W1.cell? ⟨r, 1, none⟩ = some (.int .i64 (N : Int)) := by
            obtain ⟨Sp, Sm, _, ⟨v, hR, _⟩, _⟩ := hpr1
            obtain ⟨a, c, _, x0, x1, _⟩ := hR.see
            exact ⟨a, c, x0, x1⟩
          have HPR1 := Lib.hid hpr1
          have HB1 := Lib.hid hb1
          have hz1 : IntKind.u64.wrap ((L.length : Int) + 1) = (L.length : Int) + 1 := by rw [IntKind.wrap_u64]; omega
          have hz2 : IntKind.u64.wrap (max (N : Int) (L.length : Int) + 1) = max (N : Int) (L.length : Int) + 1 := by rw [IntKind.wrap_u64]; omega
          clear hW1 hbW hbx hpr1 hb1 HPR HB q1 q2 q3
          go_quiet (fail)
          obtain ⟨n1, rfl⟩ : ∃ n1, n1 = nq := ⟨_, rfl⟩
          go_upto_if 78 with fail
          go_cut [13, 14] from 62 to 227 (fun x y wx => Below W1.heap.size W1 wx ∧ ∃ A B : Int, x = .int .i64 A ∧ y = .int .i64 B)
          case first => as_aux_lemma =>
            by_cases h9 : (i : Int) % 9 < 8
            · have d9 : decide ((i : Int) % 9 < 8) = true := decide_eq_true h9
              go_wp2_with fail
              go_quiet (fail)
              go_wp2_with fail
              go_meet
              case rel => exact ⟨below_dN (below_dN (Below.refl _ _) _) _, _, _, rfl, rfl⟩
            · have d9 : decide ((i : Int) % 9 < 8) = false := decide_eq_false h9
              go_wp2_with fail
              go_meet
              case rel => exact ⟨below_dN (Below.refl _ _) _, _, _, rfl, rfl⟩
          case rest => as_aux_lemma =>
            obtain ⟨hbc, A, Bv, rfl, rfl⟩ := hcut
            have hprc := HPR1.out.below hbc
            have hbcc := HB1.out.trans (hbc.mono HB1.out.size)
            have hbox := World.block_lt_of_cell? W1 _ t0
            have t3 := (hbc.cell (p := ⟨wr.heap.size, 0, none⟩) hbox).trans t0
            have hrg := hprc.rng
            obtain ⟨m7, hm8, hm⟩ := and7n kd
            have HPRC := Lib.hid hprc
            have HBC := Lib.hid hbcc
            have HRG := Lib.hid hrg
            clear hz1 hz2 s0 s1 t0 t1 t2 HPR1 HB1 hprc hbcc hrg hbc
            have hL8 : L.length ≤ 1000 := by omega
            have hN8 : N ≤ 1000 := by omega
            have hc8 : c ≤ 1000 := by omega
            go_upto_block 2 with fail
            go_cut [15, 16] from 62 to 227 (fun x y wx => ∃ code : Int, x = .int .i64 code ∧ y = .int .i64 code ∧ PR w.heap.size wx p r (c + 1) (opL m7 L N A Bv) (opN m7 N Bv) (opL m7 L N A Bv) (opN m7 N Bv) ∧ Below w.heap.size w wx)
            case first => as_aux_lemma =>
              obtain h7 | h7 | h7 | h7 | h7 | h7 | h7 | h7 : m7 = 0 ∨ m7 = 1 ∨ m7 = 2 ∨ m7 = 3 ∨ m7 = 4 ∨ m7 = 5 ∨ m7 = 6 ∨ m7 = 7 := by omega
              · subst h7
                rw [show (((0 : Nat) : Int)) = 0 from rfl] at hm ⊢
                go_wp2_with fail
                refine (HPRC.out.callP (fun S h => pAdd_v h (by omega) (by omega) (by omega) A Bv)).mono ?_
                rintro e w5 ⟨rfl, h5, hb5⟩
                have H5 := Lib.hid h5
                have HB5 := Lib.hid (HBC.out.trans hb5)
                clear h5 hb5
                go_wp2_with fail
                refine (H5.out.callR (fun S h => rAdd_v h (by omega) (fun i => (HRG.out i).2) A Bv)).mono ?_
                rintro e w6 ⟨rfl, h6, hb6⟩
                have H6 := Lib.hid (h6.more (c' := c + 1) (by omega))
                have HB6 := Lib.hid (HB5.out.trans hb6)
                clear h6 hb6
                go_wp2_with fail
                go_meet
                case rel => exact ⟨_, rfl, rfl, H6.out, HB6.out⟩
              · subst h7
                rw [show (((1 : Nat) : Int)) = 1 from rfl] at hm ⊢
                go_wp2_with fail
                refine (HPRC.out.callP (fun S h => pAdd_v h (by omega) (by omega) (by omega) A Bv)).mono ?_
                rintro e w5 ⟨rfl, h5, hb5⟩
                have H5 := Lib.hid h5
                have HB5 := Lib.hid (HBC.out.trans hb5)
                clear h5 hb5
                go_wp2_with fail
                refine (H5.out.callR (fun S h => rAdd_v h (by omega) (fun i => (HRG.out i).2) A Bv)).mono ?_
                rintro e w6 ⟨rfl, h6, hb6⟩
                have H6 := Lib.hid (h6.more (c' := c + 1) (by omega))
                have HB6 := Lib.hid (HB5.out.trans hb6)
                clear h6 hb6
                go_wp2_with fail
                go_meet
                case rel => exact ⟨_, rfl, rfl, H6.out, HB6.out⟩
              · subst h7
                rw [show (((2 : Nat) : Int)) = 2 from rfl] at hm ⊢
                obtain ⟨cd, hcd⟩ : ∃ cd : Int, (if 0 ≤ gL L A then (0 : Int) else 7) = cd := ⟨_, rfl⟩
                have HCD := Lib.hid hcd
                clear hcd
                go_wp2_with fail
                refine (HPRC.out.callP (code := .int .i64 cd) (fun S h => by rw [← HCD.out]; exact pDrop_v h (by omega) A)).mono ?_
                rintro e w5 ⟨rfl, h5, hb5⟩
                have H5 := Lib.hid h5
                have HB5 := Lib.hid (HBC.out.trans hb5)
                clear h5 hb5
                go_wp2_with fail
                refine (H5.out.callR (code := .int .i64 cd) (fun S h => by rw [← HCD.out]; exact rDrop_v h A)).mono ?_
                rintro e w6 ⟨rfl, h6, hb6⟩
                have H6 := Lib.hid (h6.more (c' := c + 1) (by omega))
                have HB6 := Lib.hid (HB5.out.trans hb6)
                clear h6 hb6
                go_wp2_with fail
                go_meet
                case rel => exact ⟨_, rfl, rfl, H6.out, HB6.out⟩
              · subst h7
                rw [show (((3 : Nat) : Int)) = 3 from rfl] at hm ⊢
                go_wp2_with fail
                refine (HPRC.out.callP (fun S h => pRowIn_c h (by omega) (by omega) A)).mono ?_
                rintro e w5 ⟨rfl, h5, hb5⟩
                have H5 := Lib.hid h5
                have HB5 := Lib.hid (HBC.out.trans hb5)
                clear h5 hb5
                go_wp2_with fail
                refine (H5.out.callR (fun S h => rRowIn_v h (by omega) A)).mono ?_
                rintro e w6 ⟨rfl, h6, hb6⟩
                have H6 := Lib.hid (h6.more (c' := c + 1) (by omega))
                have HB6 := Lib.hid (HB5.out.trans hb6)
                clear h6 hb6
                go_wp2_with fail
                go_meet
                case rel => exact ⟨_, rfl, rfl, H6.out, HB6.out⟩
              · subst h7
                rw [show (((4 : Nat) : Int)) = 4 from rfl] at hm ⊢
                go_wp2_with fail
                refine (HPRC.out.callP (fun S h => pRowOut_c h (by omega) (by omega) A)).mono ?_
                rintro e w5 ⟨rfl, h5, hb5⟩
                have H5 := Lib.hid h5
                have HB5 := Lib.hid (HBC.out.trans hb5)
                clear h5 hb5
                go_wp2_with fail
                refine (H5.out.callR (fun S h => rRowOut_v h (by omega) A)).mono ?_
                rintro e w6 ⟨rfl, h6, hb6⟩
                have H6 := Lib.hid (h6.more (c' := c + 1) (by omega))
                have HB6 := Lib.hid (HB5.out.trans hb6)
                clear h6 hb6
                go_wp2_with fail
                go_meet
                case rel => exact ⟨_, rfl, rfl, H6.out, HB6.out⟩
              · subst h7
                rw [show (((5 : Nat) : Int)) = 5 from rfl] at hm ⊢
                go_wp2_with fail
                refine (HPRC.out.callP (fun S h => pRowMove_c h (by omega) (by omega) A Bv)).mono ?_
                rintro e w5 ⟨rfl, h5, hb5⟩
                have H5 := Lib.hid h5
                have HB5 := Lib.hid (HBC.out.trans hb5)
                clear h5 hb5
                go_wp2_with fail
                refine (H5.out.callR (fun S h => rRowMove_v h (by omega) A Bv)).mono ?_
                rintro e w6 ⟨rfl, h6, hb6⟩
                have H6 := Lib.hid (h6.more (c' := c + 1) (by omega))
                have HB6 := Lib.hid (HB5.out.trans hb6)
                clear h6 hb6
                go_wp2_with fail
                go_meet
                case rel => exact ⟨_, rfl, rfl, H6.out, HB6.out⟩
              · subst h7
                rw [show (((6 : Nat) : Int)) = 6 from rfl] at hm ⊢
                go_wp2_with fail
                refine (HPRC.out.callP (fun S h => pPosIn_c h (by omega) (by omega) Bv)).mono ?_
                rintro e w5 ⟨rfl, h5, hb5⟩
                have H5 := Lib.hid h5
                have HB5 := Lib.hid (HBC.out.trans hb5)
                clear h5 hb5
                go_wp2_with fail
                refine (H5.out.callR (fun S h => rPosIn_v h (by omega) (by omega) HRG.out Bv)).mono ?_
                rintro e w6 ⟨rfl, h6, hb6⟩
                have H6 := Lib.hid (h6.more (c' := c + 1) (by omega))
                have HB6 := Lib.hid (HB5.out.trans hb6)
                clear h6 hb6
                go_wp2_with fail
                go_meet
                case rel => exact ⟨_, rfl, rfl, H6.out, HB6.out⟩
              · subst h7
                rw [show (((7 : Nat) : Int)) = 7 from rfl] at hm ⊢
                go_wp2_with fail
                refine (HPRC.out.callP (fun S h => pPosOut_c h (by omega) (by omega) Bv)).mono ?_
                rintro e w5 ⟨rfl, h5, hb5⟩
                have H5 := Lib.hid h5
                have HB5 := Lib.hid (HBC.out.trans hb5)
                clear h5 hb5
                go_wp2_with fail
                refine (H5.out.callR (fun S h => rPosOut_v h (by omega) (by omega) HRG.out Bv)).mono ?_
                rintro e w6 ⟨rfl, h6, hb6⟩
                have H6 := Lib.hid (h6.more (c' := c + 1) (by omega))
                have HB6 := Lib.hid (HB5.out.trans hb6)
                clear h6 hb6
                go_wp2_with fail
                go_meet
                case rel => exact ⟨_, rfl, rfl, H6.out, HB6.out⟩
            case rest => as_aux_lemma =>
              obtain ⟨code, rfl, rfl, hpr3, hb3⟩ := hcut
              have hl3 := opL_len m7 L N A Bv
              have hn3 := opN_le m7 N Bv
              generalize opL m7 L N A Bv = L3 at *
              generalize opN m7 N Bv = N3 at *
              have HP := Lib.hid hpr3
              have HB := Lib.hid hb3
              have dc : (code != code) = false := by simp
              have dl : ((L3.length : Int) != (L3.length : Int)) = false := by simp
              have dn : ((N3 : Int) != (N3 : Int)) = false := by simp
              have hl4 : L3.length ≤ 1001 := by omega
              have hn4 : N3 ≤ 1001 := by omega
              clear hpr3 hb3 HPRC HBC HRG hm t3
              go_wp2_with fail
              refine (HP.out.callP (fun S h => (pSize_v h).mono (fun e w' h2 => ⟨h2.1, by obtain ⟨m, rfl⟩ := h2.2; exact h.stay (below_dN (Below.refl _ _) m)⟩))).mono ?_
              rintro e w7 ⟨rfl, h7, hb7⟩
              obtain ⟨ra, rc, s0, s1⟩ : ∃ ra rc, w7.cell? ⟨r, 0, none⟩ = some (.slice ra L3.length rc) ∧ w7.cell? ⟨r, 1, none⟩ = some (.int .i64 (N3 : Int)) := by
                obtain ⟨Sp, Sm, _, ⟨v, hR, _⟩, _⟩ := h7
                obtain ⟨a, c, _, x0, x1, _⟩ := hR.see
                exact ⟨a, c, x0, x1⟩
              have HP7 := Lib.hid h7
              have HB7 := Lib.hid (HB.out.trans hb7)
              clear h7 hb7 HP HB
              go_wp2_with fail
              refine (HP7.out.allP (by omega)).mono ?_
              rintro e w8 hg
              obtain ⟨qa, qc, rfl, hown, hb8⟩ := hg
              have HRA := Lib.hid (rdp_own hown rfl)
              have HP8 := Lib.hid (HP7.out.below hb8)
              have HB8 := Lib.hid (HB7.out.trans (hb8.mono HB7.out.size))
              clear hown hb8 HP7 HB7 s0 s1
              go_wp2_with fail
              refine (HP8.out.allR (by omega)).mono ?_
              rintro e w9 hg
              obtain ⟨qb, qd, rfl, hown, hb9⟩ := hg
              have HPAIR := Lib.hid (pairs_true (c := qc) (d := qd) (n := (prL 0 L3).length) (m := (prL 0 L3).length) (prL 0 L3) rfl rfl (HRA.out.below hb9) (rdp_own hown rfl) (Nat.le_trans (prL_le L3 0) (by omega)))
              have HP9 := Lib.hid (HP8.out.below hb9)
              have HB9 := Lib.hid (HB8.out.trans (hb9.mono HB8.out.size))
              clear hown hb9 HP8 HB8 HRA
              go_wp2_with fail
              refine HPAIR.out.mono ?_
              rintro e wa ⟨rfl, hba⟩
              have HPa := Lib.hid (HP9.out.below hba)
              have HBa := Lib.hid (HB9.out.trans (hba.mono HB9.out.size))
              clear hba HP9 HB9 HPAIR
              go_wp2_with fail
              refine (HPa.out.callP (fun S h => pPos_v h (by omega) A)).mono ?_
              rintro e wb ⟨rfl, hb, hbb⟩
              have HPb := Lib.hid hb
              have HBb := Lib.hid (HBa.out.trans hbb)
              clear hb hbb HPa HBa
              go_wp2_with fail
              refine (HPb.out.callR (fun S h => h.quiet (fun v hR => rPos_any hR A))).mono ?_
              rintro e wd ⟨rfl, hb, hbb⟩
              have HPd := Lib.hid hb
              have HBd := Lib.hid (HBb.out.trans hbb)
              clear hb hbb HPb HBb
              obtain ⟨g1, hg1⟩ : ∃ g1, gL L3 A = g1 := ⟨_, rfl⟩
              have dg1 : (g1 != g1) = false := by simp
              rw [hg1]
              clear hg1
              go_wp2_with fail
              refine (HPd.out.callP (fun S h => (pRow_v h (by omega) Bv).mono (fun e w' h2 => ⟨h2.1, h.stay h2.2⟩))).mono ?_
              rintro e we ⟨rfl, hb, hbb⟩
              have HPe := Lib.hid hb
              have HBe := Lib.hid (HBd.out.trans hbb)
              clear hb hbb HPd HBd
              go_wp2_with fail
              refine (HPe.out.callR (fun S h => h.quiet (fun v hR => rRow_any hR (by omega) (fun i => (HPe.out.rng i).2) Bv))).mono ?_
              rintro e wf ⟨rfl, hb, hbb⟩
              have HPf := Lib.hid hb
              have HBf := Lib.hid (HBe.out.trans hbb)
              clear hb hbb HPe HBe
              obtain ⟨g2, hg2⟩ : ∃ g2, aL L3 Bv = g2 := ⟨_, rfl⟩
              have dg2 : (g2 != g2) = false := by simp
              rw [hg2]
              clear hg2
              go_wp2_with fail
              refine (HPf.out.callP (fun S h => (pNext_v h (by omega) (by omega) Bv).mono (fun e w' h2 => ⟨h2.1, h.stay h2.2⟩))).mono ?_
              rintro e wg ⟨rfl, hb, hbb⟩
              have HPg := Lib.hid hb
              have HBg := Lib.hid (HBf.out.trans hbb)
              clear hb hbb HPf HBf
              go_wp2_with fail
              refine (HPg.out.callR (fun S h => (rNext_v h (by omega) Bv).mono (fun e w' h2 => ⟨h2.1, by rw [← h2.2]; exact h.stay (Below.refl _ _)⟩))).mono ?_
              rintro e wh ⟨rfl, hb, hbb⟩
              have HPh := Lib.hid hb
              have HBh := Lib.hid (HBg.out.trans hbb)
              clear hb hbb HPg HBg
              obtain ⟨g3, hg3⟩ : ∃ g3, nextP Bv (prL 0 L3) = g3 := ⟨_, rfl⟩
              have dg3 : (g3 != g3) = false := by simp
              rw [hg3]
              clear hg3
              go_wp2_with fail
              go_roundw
              case rel => exact ⟨i + 1, c + 1, L3, N3, by omega, by go_num, HPh.out, by omega, by omega, by omega, HBh.out⟩
              case measure => simp [intOf]; omega
        · have HB := Lib.hid hb
          clear hb hpr
          obtain rfl : i = z2.length := by omega
          go_wp2_with fail
          refine (told11_any _).mono ?_
          rintro e w9 ⟨rfl, hb9⟩
          go_wp2_with fail
          go_ret
          exact ⟨rfl, HB.out.trans (hb9.mono HB.out.size)⟩
  · have hor : 20 < z1.length ∨ (¬ 20 < z1.length ∧ 100 < z2.length) := by omega
    rcases hor with h1 | ⟨h1, h2⟩
    · have d1 : decide (20 < z1.length) = true := decide_eq_true h1
      have d3 : decide ((20 : Int) < (z1.length : Int)) = true := decide_eq_true (by omega)
      clear hbig HR1 HR2
      go_enter Try.func14, Try.ntmps14
      go_wp2_with fail
      refine (told11_any _).mono ?_
      rintro e w9 ⟨rfl, hb9⟩
      go_wp2_with fail
      go_ret
      exact ⟨rfl, hb9⟩
    · have d1 : decide (20 < z1.length) = false := decide_eq_false h1
      have d3 : decide ((20 : Int) < (z1.length : Int)) = false := decide_eq_false (by omega)
      have d2 : decide (100 < z2.length) = true := decide_eq_true h2
      have d4 : decide ((100 : Int) < (z2.length : Int)) = true := decide_eq_true (by omega)
      clear hbig HR1 HR2
      go_enter Try.func14, Try.ntmps14
      go_wp2_with fail
      refine (told11_any _).mono ?_
      rintro e w9 ⟨rfl, hb9⟩
      go_wp2_with fail
      go_ret
      exact ⟨rfl, hb9⟩

end Go.Proofs.Ytpbmhdkhkbhgnaa
