/- The walk of TreeGrows. -/
import Derived.Test.YtcppgpjodfeigaaDoorZt6
namespace Go.Proofs.YtcppgpjodfeigaaDoor
set_option linter.unusedVariables false
set_option linter.unusedSimpArgs false
open Go.RowKit

theorem count_in (l : List Bool) (k : Nat) (b x : Bool) : (inL l k b).count x = l.count x + (if b = x then 1 else 0) := by
  have h : l.count x = (l.take k).count x + (l.drop k).count x := by rw [← List.count_append, List.take_append_drop]
  rw [h]
  unfold inL
  simp only [List.count_append, List.count_cons, List.count_nil]
  cases b <;> cases x <;> simp <;> omega

set_option maxHeartbeats 3200000 in
set_option maxRecDepth 100000 in
theorem walk_TreeGrows (w : World) (hT : BitTab w) (n : Int) (w0 : (Lit.int .i64 n).wf = true) (at_ : Int) (w1 : (Lit.int .i64 at_).wf = true) :
    Calls Tryd.prog 5 #[.int .i64 n, .int .i64 at_] w fun e w' => e = .returned (.bool true) ∧ Below w.heap.size w w' := by
  have HT := Lib.hid hT
  obtain ⟨u, hu0, hu1, hu⟩ := u64r at_
  obtain ⟨un, hn0, hn1, hn⟩ := u64r n
  obtain ⟨k, hk, hk1⟩ : ∃ z : Nat, un % 1201 = (z : Int) ∧ z < 1201 := ⟨(un % 1201).toNat, by omega, by omega⟩
  have hm1 : IntKind.u64.wrap (un.tmod 1201) = (k : Int) := by rw [Int.tmod_eq_emod_of_nonneg hn0, hk, IntKind.wrap_u64]; omega
  have hm2 : IntKind.i64.wrap (k : Int) = (k : Int) := IntWalk.i64_in _ (by omega)
  have HN := Lib.hid (new_t (B := w.heap.size) (X := fun _ => False) (w := w) (a := none) (c := 0) [] rfl ReadsV.nil (Nat.le_refl _) (by decide) (Nat.le_refl _) (fun k hk => hk.elim))
  clear hT w0 w1
  go_enter Tryd.func5, Tryd.ntmps5
  go_wp2_with fail
  refine HN.out.mono ?_
  rintro e w2 ⟨p, o, rfl, ht, hbits, hb2⟩
  have HB := Lib.hid hb2
  have HTR := Lib.hid ht
  have HBI := Lib.hid hbits
  clear ht hbits hb2 HN
  generalize sizeO o = made at *
  go_wp2_with fail
  clear hm1 hm2 hk hn0 hn1 hn
  go_loopw [7] (fun i wr => ∃ j : Nat, j ≤ k ∧ i = .int .i64 j ∧ ∃ (o : Option ST) (made : Nat) (v : Int) (L : List Bool), TreeE w.heap.size (fun _ => False) wr p o made v ∧ sbits o = L ∧ L.length = j ∧ L.count true = (j + 4) / 5 ∧ Below w.heap.size w wr) (fun i _ => k - (intOf i).toNat)
  case atStart => exact ⟨0, by omega, rfl, o, made, 0, [], HTR.out, HBI.out, rfl, rfl, HB.out⟩
  case round => as_aux_lemma =>
    clear HTR HBI HB
    obtain ⟨i, hi, rfl, o, made, v, L, ht, hbits, hlen, hcnt, hb⟩ := hrel
    have HTR := Lib.hid ht
    have HBI := Lib.hid hbits
    have HB := Lib.hid hb
    have HCN := Lib.hid hcnt
    have HLE := Lib.hid hlen
    clear ht hbits hb hcnt hlen
    by_cases hlt : i < k
    · have hm3 : IntKind.u64.wrap (u.tmod 3) = u % 3 := by rw [Int.tmod_eq_emod_of_nonneg hu0, IntKind.wrap_u64]; omega
      obtain ⟨bt, hbt⟩ : ∃ bt, ((i : Int) % 5 == 0) = bt := ⟨_, rfl⟩
      have HBT : Hid ((if bt = true then 1 else 0) + (i + 4) / 5 = (i + 1 + 4) / 5) := by
        show _ = _
        rw [← hbt]
        by_cases h5 : i % 5 = 0
        · rw [if_pos (by rw [beq_iff_eq]; omega)]; omega
        · rw [if_neg (by rw [beq_iff_eq]; omega)]; omega
      have HBT2 := Lib.hid hbt
      obtain ⟨sn, sh, sm, sz, e0, e1, e2, e3⟩ := shapeV_cells o
      have HE0 := Lib.hid e0
      have HE2 := Lib.hid e2
      have hfd : ∀ w : World, (Instr.field 36 (.agg #[.int .i64 sn, .int .i64 sh, .int .i64 sm, .int .i64 sz]) 1).run Tryd.prog w = .ok (.int .i64 sh) w := fun _ => by kernel_rfl
      have hsh : sh ≤ 1000000000 := by
        rw [e2]
        have hg := HTR.out.good
        have hl := HTR.out.len
        cases o with
        | none => simp [shigh]
        | some t => have := good_small hg.2 hl; simp only [shigh]; omega
      have HSTEP : Hid (∀ (w3 : World) (P : Nat), P ≤ i → TreeE w.heap.size (fun _ => False) w3 p o made v → Calls Tryd.prog 25 #[.pointer (some ⟨p, 0, none⟩), .int .i64 (P : Int), .bool bt] w3 fun e w' => e = .returned (.int .i64 0) ∧ ∃ (o' : Option ST) (made' v' : Nat) (L' : List Bool), TreeE w.heap.size (fun _ => False) w' p o' made' v' ∧ v' ≤ 8 * (max (shigh o') sh + 2) ∧ sbits o' = L' ∧ L'.length = i + 1 ∧ L'.count true = (i + 1 + 4) / 5 ∧ Chg (exT w.heap.size (fun _ => False)) w3 w') := by
        intro w3 P hP ht
        refine (insert_t ht HBI.out P rfl (by rw [HLE.out]; exact hP) (by rw [HLE.out]; omega) bt).mono ?_
        rintro e w' ⟨rfl, made', ⟨v', hv', ht'⟩, hc'⟩
        refine ⟨rfl, _, made', v', _, ht', ?_, rfl, ?_, ?_, hc'⟩
        · rw [HE2.out]; omega
        · rw [insO_bits (by rw [HBI.out, HLE.out]; exact hP), HBI.out, inL_len (by rw [HLE.out]; exact hP), HLE.out]
        · rw [insO_bits (by rw [HBI.out, HLE.out]; exact hP), HBI.out, count_in, HCN.out, ← HBT.out]; omega
      have d5 : ((i : Int) % 5 == 0) = bt := hbt
      clear e0 e1 e2 e3 HBT HCN
      go_wp2_with fail
      refine (near5_any at_ i (by omega) _).mono ?_
      rintro e w' ⟨⟨r, hrl, rfl⟩, rfl⟩
      have HSH := Lib.hid (shape_t HTR.out)
      rw [HE0.out] at HSH
      by_cases h3 : u % 3 = 0
      · have d3 : (u % 3 == 0) = true := by rw [beq_iff_eq]; exact h3
        clear h3
        by_cases h16 : i % 16 = 0
        · have d16 : ((i : Int) % 16 == 0) = true := by rw [beq_iff_eq]; omega
          clear h16
          go_wp2_with fail
          refine HSH.out.mono ?_
          rintro e w3 ⟨rfl, hb3⟩
          have HTR3 := Lib.hid (HTR.out.below hb3)
          have HB3 := Lib.hid (HB.out.trans (hb3.mono HB.out.size))
          clear hb3 HTR HB
          go_wp2_with fail
          refine (HSTEP.out w3 i (Nat.le_refl _) HTR3.out).mono ?_
          rintro e w4 ⟨rfl, o4, made4, v4, L4, ht4, hv4, hb4, hl4, hc4, hg4⟩
          have HTR4 := Lib.hid ht4
          have HB4 := Lib.hid (HB3.out.trans (exT_below hg4 HTR3.out.le))
          have HL4 : Hid (sbits o4 = L4 ∧ L4.length = i + 1 ∧ L4.count true = (i + 1 + 4) / 5) := ⟨hb4, hl4, hc4⟩
          have HV4 := Lib.hid hv4
          clear ht4 hg4 hb4 hl4 hc4 hv4 HTR3 HB3 HSTEP
          go_wp2_with fail
          refine (fine5_any HTR4.out sh hsh HV4.out).mono ?_
          rintro e w5 ⟨rfl, hb5⟩
          have HTR5 := Lib.hid (HTR4.out.below hb5)
          have HB5 := Lib.hid (HB4.out.trans (hb5.mono HB4.out.size))
          clear hb5 HTR4 HB4
          go_wp2_with fail
          go_roundw
          case rel => exact ⟨i + 1, by omega, by go_num, o4, made4, v4, L4, HTR5.out, HL4.out.1, HL4.out.2.1, HL4.out.2.2, HB5.out⟩
          case measure => simp [intOf]; omega
        · have d16 : ((i : Int) % 16 == 0) = false := by rw [beq_eq_false_iff_ne]; omega
          clear h16
          go_wp2_with fail
          refine HSH.out.mono ?_
          rintro e w3 ⟨rfl, hb3⟩
          have HTR3 := Lib.hid (HTR.out.below hb3)
          have HB3 := Lib.hid (HB.out.trans (hb3.mono HB.out.size))
          clear hb3 HTR HB
          go_wp2_with fail
          refine (HSTEP.out w3 i (Nat.le_refl _) HTR3.out).mono ?_
          rintro e w4 ⟨rfl, o4, made4, v4, L4, ht4, hv4, hb4, hl4, hc4, hg4⟩
          have HTR4 := Lib.hid ht4
          have HB4 := Lib.hid (HB3.out.trans (exT_below hg4 HTR3.out.le))
          have HL4 : Hid (sbits o4 = L4 ∧ L4.length = i + 1 ∧ L4.count true = (i + 1 + 4) / 5) := ⟨hb4, hl4, hc4⟩
          have HV4 := Lib.hid hv4
          clear ht4 hg4 hb4 hl4 hc4 hv4 HTR3 HB3 HSTEP
          go_wp2_with fail
          go_roundw
          case rel => exact ⟨i + 1, by omega, by go_num, o4, made4, v4, L4, HTR4.out, HL4.out.1, HL4.out.2.1, HL4.out.2.2, HB4.out⟩
          case measure => simp [intOf]; omega
      · have d3 : (u % 3 == 0) = false := by rw [beq_eq_false_iff_ne]; exact h3
        by_cases h16 : i % 16 = 0
        · have d16 : ((i : Int) % 16 == 0) = true := by rw [beq_iff_eq]; omega
          clear h16
          go_wp2_with fail
          refine HSH.out.mono ?_
          rintro e w3 ⟨rfl, hb3⟩
          have HTR3 := Lib.hid (HTR.out.below hb3)
          have HB3 := Lib.hid (HB.out.trans (hb3.mono HB.out.size))
          clear hb3 HTR HB
          go_wp2_with fail
          refine (HSTEP.out w3 r hrl HTR3.out).mono ?_
          rintro e w4 ⟨rfl, o4, made4, v4, L4, ht4, hv4, hb4, hl4, hc4, hg4⟩
          have HTR4 := Lib.hid ht4
          have HB4 := Lib.hid (HB3.out.trans (exT_below hg4 HTR3.out.le))
          have HL4 : Hid (sbits o4 = L4 ∧ L4.length = i + 1 ∧ L4.count true = (i + 1 + 4) / 5) := ⟨hb4, hl4, hc4⟩
          have HV4 := Lib.hid hv4
          clear ht4 hg4 hb4 hl4 hc4 hv4 HTR3 HB3 HSTEP
          go_wp2_with fail
          refine (fine5_any HTR4.out sh hsh HV4.out).mono ?_
          rintro e w5 ⟨rfl, hb5⟩
          have HTR5 := Lib.hid (HTR4.out.below hb5)
          have HB5 := Lib.hid (HB4.out.trans (hb5.mono HB4.out.size))
          clear hb5 HTR4 HB4
          go_wp2_with fail
          go_roundw
          case rel => exact ⟨i + 1, by omega, by go_num, o4, made4, v4, L4, HTR5.out, HL4.out.1, HL4.out.2.1, HL4.out.2.2, HB5.out⟩
          case measure => simp [intOf]; omega
        · have d16 : ((i : Int) % 16 == 0) = false := by rw [beq_eq_false_iff_ne]; omega
          clear h16
          go_wp2_with fail
          refine HSH.out.mono ?_
          rintro e w3 ⟨rfl, hb3⟩
          have HTR3 := Lib.hid (HTR.out.below hb3)
          have HB3 := Lib.hid (HB.out.trans (hb3.mono HB.out.size))
          clear hb3 HTR HB
          go_wp2_with fail
          refine (HSTEP.out w3 r hrl HTR3.out).mono ?_
          rintro e w4 ⟨rfl, o4, made4, v4, L4, ht4, hv4, hb4, hl4, hc4, hg4⟩
          have HTR4 := Lib.hid ht4
          have HB4 := Lib.hid (HB3.out.trans (exT_below hg4 HTR3.out.le))
          have HL4 : Hid (sbits o4 = L4 ∧ L4.length = i + 1 ∧ L4.count true = (i + 1 + 4) / 5) := ⟨hb4, hl4, hc4⟩
          have HV4 := Lib.hid hv4
          clear ht4 hg4 hb4 hl4 hc4 hv4 HTR3 HB3 HSTEP
          go_wp2_with fail
          go_roundw
          case rel => exact ⟨i + 1, by omega, by go_num, o4, made4, v4, L4, HTR4.out, HL4.out.1, HL4.out.2.1, HL4.out.2.2, HB4.out⟩
          case measure => simp [intOf]; omega
    · have hik : i = k := by omega
      subst hik
      have HRK : Hid (rankL L i true = (i + 4) / 5) := by
        show _ = _; rw [← HLE.out, rankL_over true (Nat.le_refl _), HCN.out, HLE.out]
      have dq : ((i : Int) + 4) / 5 = (((i + 4) / 5 : Nat) : Int) := by omega
      have dq2 : IntKind.i64.wrap (((i + 4) / 5 : Nat) : Int) = (((i + 4) / 5 : Nat) : Int) := IntWalk.i64_in _ (by omega)
      have DQ : Hid (((i : Int) + 4) / 5 = (((i + 4) / 5 : Nat) : Int)) := dq
      obtain ⟨q, hq⟩ : ∃ q, (i + 4) / 5 = q := ⟨_, rfl⟩
      rw [hq] at dq dq2 HRK HCN
      clear DQ hq
      go_wp2_with fail
      refine (told5_any _ (HT.out.below' HB.out)).mono ?_
      rintro e w3 ⟨rfl, hb3⟩
      have HTR3 := Lib.hid (HTR.out.below hb3)
      have HB3 := Lib.hid (HB.out.trans (hb3.mono HB.out.size))
      clear hb3 HTR HB
      have hlen3 := Lib.hid (len_t HTR3.out HBI.out)
      rw [HLE.out] at hlen3
      go_wp2_with fail
      refine hlen3.out.mono ?_
      rintro e w' ⟨rfl, n4, rfl⟩
      have HTR4 := Lib.hid (HTR3.out.drewN n4)
      have HB4 := Lib.hid (below_drewW HB3.out n4)
      generalize w3.drewN n4 = w4 at *
      clear HTR3 HB3 hlen3
      have hon4 := Lib.hid (ones_t HTR4.out HBI.out)
      rw [HCN.out] at hon4
      go_wp2_with fail
      refine hon4.out.mono ?_
      rintro e w' ⟨rfl, n5, rfl⟩
      have HTR5 := Lib.hid (HTR4.out.drewN n5)
      have HB5 := Lib.hid (below_drewW HB4.out n5)
      generalize w4.drewN n5 = w5 at *
      clear HTR4 HB4 hon4
      go_wp2_with fail
      refine (rank_t HTR5.out HBI.out (i : Int) true (r := q) (by rw [Int.toNat_natCast]; exact HRK.out)).mono ?_
      rintro e w6 ⟨rfl, ⟨v6, _, ht6⟩, hc6⟩
      have HTR6 := Lib.hid ht6
      have HB6 := Lib.hid (HB5.out.trans (exT_below hc6 HTR5.out.le))
      clear ht6 hc6 HTR5 HB5
      have hon6 := Lib.hid (ones_t HTR6.out HBI.out)
      rw [HCN.out] at hon6
      go_wp2_with fail
      refine hon6.out.mono ?_
      rintro e w' ⟨rfl, n7, rfl⟩
      have HB7 := Lib.hid (below_drewW HB6.out n7)
      generalize w6.drewN n7 = w7 at *
      clear HTR6 HB6 hon6
      go_wp2_with fail
      go_ret
      exact ⟨rfl, HB7.out⟩

end Go.Proofs.YtcppgpjodfeigaaDoor
