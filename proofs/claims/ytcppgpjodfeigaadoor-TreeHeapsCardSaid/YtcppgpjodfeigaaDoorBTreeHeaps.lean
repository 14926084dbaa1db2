/- The walk of TreeHeaps. -/
import Derived.Test.YtcppgpjodfeigaaDoorZt6
namespace Go.Proofs.YtcppgpjodfeigaaDoor
set_option linter.unusedVariables false
set_option linter.unusedSimpArgs false
open Go.RowKit

theorem count_in' (l : List Bool) (k : Nat) (b x : Bool) : (inL l k b).count x = l.count x + (if b = x then 1 else 0) := by
  have h : l.count x = (l.take k).count x + (l.drop k).count x := by rw [← List.count_append, List.take_append_drop]
  rw [h]
  unfold inL
  simp only [List.count_append, List.count_cons, List.count_nil]
  cases b <;> cases x <;> simp <;> omega

/-- What stands at a place, by how the bits came. -/
def wantH (r : Int) (j q : Nat) : Bool := if r = 0 then decide ((j - 1 - q) % 2 = 0) else if r = 2 then decide (q < (j + 1) / 2) else decide (q % 2 = 0)
theorem heap_step {r : Int} {j : Nat} {L : List Bool} (hl : L.length = j) (h : ∀ q, q < j → bitAt L q = wantH r j q) {P : Nat} {b : Bool} (hb : b = decide (j % 2 = 0))
    (hP : (P = j ∧ ((r ≠ 0 ∧ r ≠ 2) ∨ (r = 2 ∧ j % 2 = 1))) ∨ (P = 0 ∧ (r = 0 ∨ (r = 2 ∧ j % 2 = 0)))) : ∀ q, q < j + 1 → bitAt (inL L P b) q = wantH r (j + 1) q := by
  intro q hq
  subst hb
  have hPl : P ≤ L.length := by omega
  rw [bitAt_in hPl]
  unfold wantH at h ⊢
  rcases hP with ⟨rfl, hP | hP⟩ | ⟨rfl, hP | hP⟩
  · simp only [if_neg hP.1, if_neg hP.2] at h ⊢
    by_cases h1 : q < P
    · rw [if_pos h1, h q h1]
    · rw [if_neg h1, if_pos (by omega)]; congr 1; apply propext; omega
  · have h0 : ¬ r = 0 := by omega
    simp only [if_neg h0, if_pos hP.1] at h ⊢
    by_cases h1 : q < P
    · rw [if_pos h1, h q h1]; congr 1; apply propext; omega
    · rw [if_neg h1, if_pos (by omega)]; congr 1; apply propext; omega
  · simp only [if_pos hP] at h ⊢
    by_cases h1 : q = 0
    · rw [if_neg (by omega), if_pos h1]; congr 1; apply propext; omega
    · rw [if_neg (by omega), if_neg h1, h (q - 1) (by omega)]; congr 1; apply propext; omega
  · have h0 : ¬ r = 0 := by omega
    simp only [if_neg h0, if_pos hP.1] at h ⊢
    by_cases h1 : q = 0
    · rw [if_neg (by omega), if_pos h1]; congr 1; apply propext; omega
    · rw [if_neg (by omega), if_neg h1, h (q - 1) (by omega)]; congr 1; apply propext; omega

set_option maxHeartbeats 3200000 in
set_option maxRecDepth 100000 in
theorem walk_TreeHeaps (w : World) (hT : BitTab w) (n : Int) (w0 : (Lit.int .i64 n).wf = true) (end_ : Int) (w1 : (Lit.int .i64 end_).wf = true) :
    Calls Tryd.prog 4 #[.int .i64 n, .int .i64 end_] w fun e w' => e = .returned (.bool true) ∧ Below w.heap.size w w' := by
  have HT := Lib.hid hT
  obtain ⟨u, hu0, hu1, hu⟩ := u64r end_
  obtain ⟨un, hn0, hn1, hn⟩ := u64r n
  obtain ⟨k, hk, hk1⟩ : ∃ z : Nat, un % 901 = (z : Int) ∧ z < 901 := ⟨(un % 901).toNat, by omega, by omega⟩
  have hm1 : IntKind.u64.wrap (un.tmod 901) = (k : Int) := by rw [Int.tmod_eq_emod_of_nonneg hn0, hk, IntKind.wrap_u64]; omega
  have hm2 : IntKind.i64.wrap (k : Int) = (k : Int) := IntWalk.i64_in _ (by omega)
  have HN := Lib.hid (new_t (B := w.heap.size) (X := fun _ => False) (w := w) (a := none) (c := 0) [] rfl ReadsV.nil (Nat.le_refl _) (by decide) (Nat.le_refl _) (fun k hk => hk.elim))
  clear hT w0 w1
  go_enter Tryd.func4, Tryd.ntmps4
  go_wp2_with fail
  refine HN.out.mono ?_
  rintro e w2 ⟨p, o, rfl, ht, hbits, hb2⟩
  have HB := Lib.hid hb2
  have HTR := Lib.hid ht
  have HBI := Lib.hid hbits
  clear ht hbits hb2 HN
  generalize sizeO o = made at *
  go_wp2_with fail
  clear hm1 hm2 hk hn0 hn1 hn
  go_loopw [7] (fun i wr => ∃ j : Nat, j ≤ k ∧ i = .int .i64 j ∧ ∃ (o : Option ST) (made : Nat) (v : Int) (L : List Bool), TreeE w.heap.size (fun _ => False) wr p o made v ∧ sbits o = L ∧ L.length = j ∧ L.count true = (j + 1) / 2 ∧ (∀ q, q < j → bitAt L q = wantH (u % 3) j q) ∧ Below w.heap.size w wr) (fun i _ => k - (intOf i).toNat)
  case atStart => exact ⟨0, by omega, rfl, o, made, 0, [], HTR.out, HBI.out, rfl, rfl, fun q hq => absurd hq (Nat.not_lt_zero _), HB.out⟩
  case round => as_aux_lemma =>
    clear HTR HBI HB
    obtain ⟨i, hi, rfl, o, made, v, L, ht, hbits, hlen, hcnt, hwant, hb⟩ := hrel
    have HTR := Lib.hid ht
    have HBI := Lib.hid hbits
    have HB := Lib.hid hb
    have HCN := Lib.hid hcnt
    have HLE := Lib.hid hlen
    have HWT := Lib.hid hwant
    clear ht hbits hb hcnt hlen hwant
    have hm3 : IntKind.u64.wrap (u.tmod 3) = u % 3 := by rw [Int.tmod_eq_emod_of_nonneg hu0, IntKind.wrap_u64]; omega
    by_cases hlt : i < k
    · obtain ⟨bt, hbt⟩ : ∃ bt, ((i : Int) % 2 == 0) = bt := ⟨_, rfl⟩
      have hbd : bt = decide (i % 2 = 0) := by
        rw [← hbt]
        by_cases h5 : i % 2 = 0
        · rw [decide_eq_true h5, beq_iff_eq]; omega
        · rw [decide_eq_false h5, beq_eq_false_iff_ne]; omega
      have HBT : Hid ((if bt = true then 1 else 0) + (i + 1) / 2 = (i + 1 + 1) / 2) := by
        show _ = _
        rw [hbd]
        by_cases h5 : i % 2 = 0
        · rw [if_pos (by simpa using h5)]; omega
        · rw [if_neg (by simpa using h5)]; omega
      have HSTEP : Hid (∀ (P : Nat), P ≤ i → ((P = i ∧ ((u % 3 ≠ 0 ∧ u % 3 ≠ 2) ∨ (u % 3 = 2 ∧ i % 2 = 1))) ∨ (P = 0 ∧ (u % 3 = 0 ∨ (u % 3 = 2 ∧ i % 2 = 0)))) → Calls Tryd.prog 25 #[.pointer (some ⟨p, 0, none⟩), .int .i64 (P : Int), .bool bt] wr fun e w' => e = .returned (.int .i64 0) ∧ ∃ (o' : Option ST) (made' v' : Nat) (L' : List Bool), TreeE w.heap.size (fun _ => False) w' p o' made' v' ∧ sbits o' = L' ∧ L'.length = i + 1 ∧ L'.count true = (i + 1 + 1) / 2 ∧ (∀ q, q < i + 1 → bitAt L' q = wantH (u % 3) (i + 1) q) ∧ Below w.heap.size w w') := by
        intro P hP hPP
        refine (insert_t HTR.out HBI.out P rfl (by rw [HLE.out]; exact hP) (by rw [HLE.out]; omega) bt).mono ?_
        rintro e w' ⟨rfl, made', ⟨v', hv', ht'⟩, hc'⟩
        refine ⟨rfl, _, made', v', inL L P bt, ht', ?_, ?_, ?_, heap_step HLE.out HWT.out hbd hPP, HB.out.trans (exT_below hc' HTR.out.le)⟩
        · rw [insO_bits (by rw [HBI.out, HLE.out]; exact hP), HBI.out]
        · rw [inL_len (by rw [HLE.out]; exact hP), HLE.out]
        · rw [count_in', HCN.out, ← HBT.out]; omega
      clear HBT HCN HWT HTR HBI HB HLE hbd
      have h3c : (u % 3 = 0 ∨ u % 3 = 1) ∨ u % 3 = 2 := by omega
      have HU : Hid (0 ≤ u) := hu0
      by_cases hodd : i % 2 = 1
      · have d2 : ((i : Int) % 2 == 1) = true := by rw [beq_iff_eq]; omega
        rcases h3c with (h3 | h3) | h3
        · have e1 : (u % 3 == 1) = false := by rw [h3]; rfl
          have e2 : (u % 3 == 2) = false := by rw [h3]; rfl
          have HS := Lib.hid (HSTEP.out 0 (Nat.zero_le _) (Or.inr ⟨rfl, Or.inl h3⟩))
          clear HSTEP hodd h3
          go_wp2_with fail
          refine HS.out.mono ?_
          rintro e w4 ⟨rfl, o4, made4, v4, L4, ht4, hb4, hl4, hc4, hw4, hg4⟩
          have HR : Hid (∃ (o : Option ST) (made : Nat) (v : Int) (L : List Bool), TreeE w.heap.size (fun _ => False) w4 p o made v ∧ sbits o = L ∧ L.length = i + 1 ∧ L.count true = (i + 1 + 1) / 2 ∧ (∀ q, q < i + 1 → bitAt L q = wantH (u % 3) (i + 1) q) ∧ Below w.heap.size w w4) := ⟨o4, made4, v4, L4, ht4, hb4, hl4, hc4, hw4, hg4⟩
          clear ht4 hb4 hl4 hc4 hw4 hg4 HS
          go_wp2_with fail
          go_roundw
          case rel => exact ⟨i + 1, by omega, by go_num, HR.out⟩
          case measure => simp [intOf]; omega
        · have e1 : (u % 3 == 1) = true := by rw [h3]; rfl
          have HS := Lib.hid (HSTEP.out i (Nat.le_refl _) (Or.inl ⟨rfl, Or.inl (by omega)⟩))
          clear HSTEP hodd h3
          go_wp2_with fail
          refine HS.out.mono ?_
          rintro e w4 ⟨rfl, o4, made4, v4, L4, ht4, hb4, hl4, hc4, hw4, hg4⟩
          have HR : Hid (∃ (o : Option ST) (made : Nat) (v : Int) (L : List Bool), TreeE w.heap.size (fun _ => False) w4 p o made v ∧ sbits o = L ∧ L.length = i + 1 ∧ L.count true = (i + 1 + 1) / 2 ∧ (∀ q, q < i + 1 → bitAt L q = wantH (u % 3) (i + 1) q) ∧ Below w.heap.size w w4) := ⟨o4, made4, v4, L4, ht4, hb4, hl4, hc4, hw4, hg4⟩
          clear ht4 hb4 hl4 hc4 hw4 hg4 HS
          go_wp2_with fail
          go_roundw
          case rel => exact ⟨i + 1, by omega, by go_num, HR.out⟩
          case measure => simp [intOf]; omega
        · have e1 : (u % 3 == 1) = false := by rw [h3]; rfl
          have e2 : (u % 3 == 2) = true := by rw [h3]; rfl
          have HS := Lib.hid (HSTEP.out i (Nat.le_refl _) (Or.inl ⟨rfl, Or.inr ⟨h3, hodd⟩⟩))
          clear HSTEP hodd h3
          go_wp2_with fail
          refine HS.out.mono ?_
          rintro e w4 ⟨rfl, o4, made4, v4, L4, ht4, hb4, hl4, hc4, hw4, hg4⟩
          have HR : Hid (∃ (o : Option ST) (made : Nat) (v : Int) (L : List Bool), TreeE w.heap.size (fun _ => False) w4 p o made v ∧ sbits o = L ∧ L.length = i + 1 ∧ L.count true = (i + 1 + 1) / 2 ∧ (∀ q, q < i + 1 → bitAt L q = wantH (u % 3) (i + 1) q) ∧ Below w.heap.size w w4) := ⟨o4, made4, v4, L4, ht4, hb4, hl4, hc4, hw4, hg4⟩
          clear ht4 hb4 hl4 hc4 hw4 hg4 HS
          go_wp2_with fail
          go_roundw
          case rel => exact ⟨i + 1, by omega, by go_num, HR.out⟩
          case measure => simp [intOf]; omega
      · have d2 : ((i : Int) % 2 == 1) = false := by rw [beq_eq_false_iff_ne]; omega
        rcases h3c with (h3 | h3) | h3
        · have e1 : (u % 3 == 1) = false := by rw [h3]; rfl
          have e2 : (u % 3 == 2) = false := by rw [h3]; rfl
          have HS := Lib.hid (HSTEP.out 0 (Nat.zero_le _) (Or.inr ⟨rfl, Or.inl h3⟩))
          clear HSTEP hodd h3
          go_wp2_with fail
          refine HS.out.mono ?_
          rintro e w4 ⟨rfl, o4, made4, v4, L4, ht4, hb4, hl4, hc4, hw4, hg4⟩
          have HR : Hid (∃ (o : Option ST) (made : Nat) (v : Int) (L : List Bool), TreeE w.heap.size (fun _ => False) w4 p o made v ∧ sbits o = L ∧ L.length = i + 1 ∧ L.count true = (i + 1 + 1) / 2 ∧ (∀ q, q < i + 1 → bitAt L q = wantH (u % 3) (i + 1) q) ∧ Below w.heap.size w w4) := ⟨o4, made4, v4, L4, ht4, hb4, hl4, hc4, hw4, hg4⟩
          clear ht4 hb4 hl4 hc4 hw4 hg4 HS
          go_wp2_with fail
          go_roundw
          case rel => exact ⟨i + 1, by omega, by go_num, HR.out⟩
          case measure => simp [intOf]; omega
        · have e1 : (u % 3 == 1) = true := by rw [h3]; rfl
          have HS := Lib.hid (HSTEP.out i (Nat.le_refl _) (Or.inl ⟨rfl, Or.inl (by omega)⟩))
          clear HSTEP hodd h3
          go_wp2_with fail
          refine HS.out.mono ?_
          rintro e w4 ⟨rfl, o4, made4, v4, L4, ht4, hb4, hl4, hc4, hw4, hg4⟩
          have HR : Hid (∃ (o : Option ST) (made : Nat) (v : Int) (L : List Bool), TreeE w.heap.size (fun _ => False) w4 p o made v ∧ sbits o = L ∧ L.length = i + 1 ∧ L.count true = (i + 1 + 1) / 2 ∧ (∀ q, q < i + 1 → bitAt L q = wantH (u % 3) (i + 1) q) ∧ Below w.heap.size w w4) := ⟨o4, made4, v4, L4, ht4, hb4, hl4, hc4, hw4, hg4⟩
          clear ht4 hb4 hl4 hc4 hw4 hg4 HS
          go_wp2_with fail
          go_roundw
          case rel => exact ⟨i + 1, by omega, by go_num, HR.out⟩
          case measure => simp [intOf]; omega
        · have e1 : (u % 3 == 1) = false := by rw [h3]; rfl
          have e2 : (u % 3 == 2) = true := by rw [h3]; rfl
          have HS := Lib.hid (HSTEP.out 0 (Nat.zero_le _) (Or.inr ⟨rfl, Or.inr ⟨h3, by omega⟩⟩))
          clear HSTEP hodd h3
          go_wp2_with fail
          refine HS.out.mono ?_
          rintro e w4 ⟨rfl, o4, made4, v4, L4, ht4, hb4, hl4, hc4, hw4, hg4⟩
          have HR : Hid (∃ (o : Option ST) (made : Nat) (v : Int) (L : List Bool), TreeE w.heap.size (fun _ => False) w4 p o made v ∧ sbits o = L ∧ L.length = i + 1 ∧ L.count true = (i + 1 + 1) / 2 ∧ (∀ q, q < i + 1 → bitAt L q = wantH (u % 3) (i + 1) q) ∧ Below w.heap.size w w4) := ⟨o4, made4, v4, L4, ht4, hb4, hl4, hc4, hw4, hg4⟩
          clear ht4 hb4 hl4 hc4 hw4 hg4 HS
          go_wp2_with fail
          go_roundw
          case rel => exact ⟨i + 1, by omega, by go_num, HR.out⟩
          case measure => simp [intOf]; omega
    · have hik : i = k := by omega
      subst hik
      have dq : ((i : Int) + 1) / 2 = (((i + 1) / 2 : Nat) : Int) := by omega
      have dq2 : IntKind.i64.wrap (((i + 1) / 2 : Nat) : Int) = (((i + 1) / 2 : Nat) : Int) := IntWalk.i64_in _ (by omega)
      obtain ⟨q, hq⟩ : ∃ q, (i + 1) / 2 = q := ⟨_, rfl⟩
      have HQ := Lib.hid hq
      rw [hq] at dq dq2 HCN
      clear hq
      go_wp2_with fail
      refine (shape_t HTR.out).mono ?_
      rintro e w3 ⟨rfl, hb3⟩
      have HTR3 := Lib.hid (HTR.out.below hb3)
      have HB3 := Lib.hid (HB.out.trans (hb3.mono HB.out.size))
      have HMY := Lib.hid (refMay_any HTR.out.good HTR.out.len w3)
      clear hb3 HTR HB
      go_wp2_with fail
      refine HMY.out.mono ?_
      rintro e w4 ⟨rfl, hb4⟩
      have HTR4 := Lib.hid (HTR3.out.below hb4)
      have HB4 := Lib.hid (HB3.out.trans (hb4.mono HB3.out.size))
      have hon4 := Lib.hid (ones_t HTR4.out HBI.out)
      rw [HCN.out] at hon4
      clear hb4 HTR3 HB3 HMY
      go_wp2_with fail
      refine hon4.out.mono ?_
      rintro e w' ⟨rfl, n5, rfl⟩
      have HTR5 := Lib.hid (HTR4.out.drewN n5)
      have HB5 := Lib.hid (below_drewW HB4.out n5)
      generalize w4.drewN n5 = w5 at *
      have DQ := Lib.hid dq
      clear HTR4 HB4 hon4
      go_wp2_with fail
      clear dq dq2
      go_loopw [9] (fun x wr => ∃ j : Nat, j ≤ 2 * i + 2 ∧ x = .int .i64 j ∧ (∃ v : Int, TreeE w.heap.size (fun _ => False) wr p o made v) ∧ Below w.heap.size w wr) (fun x _ => 2 * i + 3 - (intOf x).toNat)
      case atStart => exact ⟨0, by omega, rfl, ⟨v, HTR5.out⟩, HB5.out⟩
      case round => as_aux_lemma =>
        clear HTR5 HB5
        obtain ⟨j, hj, rfl, ⟨v, ht⟩, hb⟩ := hrel
        have HTR := Lib.hid ht
        have HB := Lib.hid hb
        clear ht hb
        by_cases hlt : j < i
        · obtain ⟨x, hx⟩ : ∃ x, bitAt L j = x := ⟨_, rfl⟩
          have HX := Lib.hid hx
          have HXW : Hid (x = wantH (u % 3) i j) := by show _ = _; rw [← hx]; exact HWT.out j hlt
          have HJL : Hid (j < L.length) := by show _ < _; rw [HLE.out]; exact hlt
          have h3c : (u % 3 = 0 ∨ u % 3 = 1) ∨ u % 3 = 2 := by omega
          have hw30 : IntKind.i64.wrap ((i : Int) / 30) = (i : Int) / 30 := IntWalk.i64_in _ (by omega)
          have hw31 : IntKind.i64.wrap ((j : Int) + 1 + (i : Int) / 30) = (j : Int) + 1 + (i : Int) / 30 := IntWalk.i64_in _ (by omega)
          clear hx HWT HCN
          have HREL : Hid (∀ wx, (∃ v : Int, TreeE w.heap.size (fun _ => False) wx p o made v) ∧ Below w.heap.size w wx → (∃ v : Int, TreeE w.heap.size (fun _ => False) wx p o made v) ∧ Below w.heap.size w wx) := fun wx h => h
          rcases h3c with (h3 | h3) | h3
          · have e1 : (u % 3 == 0) = true := by rw [h3]; rfl
            have f1 : (((i : Int) - 1 - (j : Int)) % 2 == 0) = x := by
              rw [HXW.out]; unfold wantH; rw [if_pos h3]
              by_cases h5 : (i - 1 - j) % 2 = 0
              · rw [decide_eq_true h5, beq_iff_eq]; omega
              · rw [decide_eq_false h5, beq_eq_false_iff_ne]; omega
            clear h3 HXW
            go_wp2_with fail
            refine (get_t HTR.out HBI.out j rfl HJL.out HX.out).mono ?_
            rintro e w6 ⟨rfl, ⟨v6, _, ht6⟩, hc6⟩
            have HR6 := Lib.hid (HREL.out w6 ⟨⟨v6, ht6⟩, HB.out.trans (exT_below hc6 HTR.out.le)⟩)
            clear ht6 hc6 HTR HB HREL
            cases x
            all_goals
              go_wp2_with fail
              go_roundw
              case rel => exact ⟨j + 1 + i / 30, by omega, by go_num, HR6.out.1, HR6.out.2⟩
              case measure => simp [intOf]; omega
          · have e1 : (u % 3 == 0) = false := by rw [h3]; rfl
            have e2 : (u % 3 == 2) = false := by rw [h3]; rfl
            have f1 : ((j : Int) % 2 == 0) = x := by
              rw [HXW.out]; unfold wantH; rw [if_neg (by omega), if_neg (by omega)]
              by_cases h5 : j % 2 = 0
              · rw [decide_eq_true h5, beq_iff_eq]; omega
              · rw [decide_eq_false h5, beq_eq_false_iff_ne]; omega
            clear h3 HXW
            go_wp2_with fail
            refine (get_t HTR.out HBI.out j rfl HJL.out HX.out).mono ?_
            rintro e w6 ⟨rfl, ⟨v6, _, ht6⟩, hc6⟩
            have HR6 := Lib.hid (HREL.out w6 ⟨⟨v6, ht6⟩, HB.out.trans (exT_below hc6 HTR.out.le)⟩)
            clear ht6 hc6 HTR HB HREL
            cases x
            all_goals
              go_wp2_with fail
              go_roundw
              case rel => exact ⟨j + 1 + i / 30, by omega, by go_num, HR6.out.1, HR6.out.2⟩
              case measure => simp [intOf]; omega
          · have e1 : (u % 3 == 0) = false := by rw [h3]; rfl
            have e2 : (u % 3 == 2) = true := by rw [h3]; rfl
            have f1 : decide (j < (i + 1) / 2) = x := by
              rw [HXW.out]; unfold wantH; rw [if_neg (by omega), if_pos h3]
            have f2 : decide ((j : Int) < ((i : Int) + 1) / 2) = x := by
              rw [← f1]; congr 1; apply propext; omega
            have f3 : IntKind.i64.wrap (((i : Int) + 1) / 2) = ((i : Int) + 1) / 2 := IntWalk.i64_in _ (by omega)
            clear h3 HXW
            go_wp2_with fail
            refine (get_t HTR.out HBI.out j rfl HJL.out HX.out).mono ?_
            rintro e w6 ⟨rfl, ⟨v6, _, ht6⟩, hc6⟩
            have HR6 := Lib.hid (HREL.out w6 ⟨⟨v6, ht6⟩, HB.out.trans (exT_below hc6 HTR.out.le)⟩)
            clear ht6 hc6 HTR HB HREL
            cases x
            all_goals
              go_wp2_with fail
              go_roundw
              case rel => exact ⟨j + 1 + i / 30, by omega, by go_num, HR6.out.1, HR6.out.2⟩
              case measure => simp [intOf]; omega
        · go_wp2_with fail
          refine (told5_any _ (HT.out.below' HB.out)).mono ?_
          rintro e w7 ⟨rfl, hb7⟩
          go_wp2_with fail
          go_ret
          exact ⟨rfl, HB.out.trans (hb7.mono HB.out.size)⟩

end Go.Proofs.YtcppgpjodfeigaaDoor
