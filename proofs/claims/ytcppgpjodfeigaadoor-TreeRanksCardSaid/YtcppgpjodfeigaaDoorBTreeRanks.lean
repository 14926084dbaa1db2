/- The walk of TreeRanks. -/
import Derived.Test.YtcppgpjodfeigaaDoorZt6
namespace Go.Proofs.YtcppgpjodfeigaaDoor
set_option linter.unusedVariables false
set_option linter.unusedSimpArgs false
open Go.RowKit

set_option maxHeartbeats 3200000 in
set_option maxRecDepth 100000 in
theorem walk_TreeRanks (w : World) (hT : BitTab w) (a0 : Option Addr) (c0 : Nat) (z0 : List Int) (w0 : ArgI .i64 w a0 c0 z0) (at_ : Int) (w1 : (Lit.int .i64 at_).wf = true) :
    Calls Tryd.prog 3 #[.slice a0 z0.length c0, .int .i64 at_] w fun e w' => e = .returned (.bool true) ∧ Below w.heap.size w w' := by
  have hrd := w0.reads
  have hzm := Nat.le_trans w0.le w0.max
  have HT := Lib.hid hT
  have HTL := Lib.hid hT.lt
  obtain ⟨u, hu0, hu1, hu⟩ := u64r at_
  clear hT w0 w1
  go_enter Tryd.func3, Tryd.ntmps3
  go_wp2_with fail
  refine (lawBits_any a0 c0 z0 700 w hrd (by omega) hzm).mono ?_
  rintro e w1 ⟨l, hl, v, rfl, hown, hb1⟩
  obtain ⟨a, c, rfl, hnil, had⟩ := own_slice hown
  have hrm := readsV_own hown
  have hs1 := hb1.size
  have hX : ∀ k, obk (.slice a l.length c) k → k < w1.heap.size := fun k hk => (own_lt hown hk).2
  have HXA : Hid (∀ ad, a = some ad → obk (.slice a l.length c) ad.block) := fun ad h => by
    obtain ⟨g, rfl, _, _, h2⟩ := had ad h; exact h2
  have hcl : l.length ≤ c := (own_cap hown).1
  have HRM := Lib.hid hrm
  have HN := Lib.hid (new_t (B := w.heap.size) (X := obk (.slice a l.length c)) l rfl hrm hcl (by omega) hs1 hX)
  clear hown hrm hrd had hX hnil hcl
  generalize obk (.slice a l.length c) = X at *
  go_wp2_with fail
  refine HN.out.mono ?_
  rintro e w2 ⟨p, o, rfl, ht, hbits, hb2⟩
  have HB := Lib.hid (hb1.trans (hb2.mono hs1))
  have HTR : Hid (TR w.heap.size X w2 w2 p o (sizeO o) a l) := ⟨⟨0, ht⟩, hbits, HRM.out.below' hb2, HXA.out, HT.out.below' HB.out, HTL.out, Chg.refl⟩
  have HB2 := Lib.hid HB.out.size
  clear ht hbits hb1 hb2 hs1 HRM HN HXA
  generalize sizeO o = made at *
  have dq : IntKind.i64.wrap ((l.length : Int) / 40) = (l.length : Int) / 40 := IntWalk.i64_in _ (by omega)
  go_wp2_with fail
  go_loopw [7] (fun i wr => ∃ k : Nat, k ≤ 2000 ∧ i = .int .i64 k ∧ TR w.heap.size X w2 wr p o made a l) (fun i _ => 2001 - (intOf i).toNat)
  case atStart => exact ⟨0, by omega, rfl, HTR.out⟩
  case round => as_aux_lemma =>
    clear HTR
    obtain ⟨i, hi, rfl, htr⟩ := hrel
    have HTR := Lib.hid htr
    clear htr
    by_cases hlt : i < l.length
    · obtain ⟨z, hz, hz7⟩ : ∃ z : Nat, u % 700 = (z : Int) ∧ z < 700 := ⟨(u % 700).toNat, by omega, by omega⟩
      obtain ⟨k, hk⟩ : ∃ k : Nat, k = (i + z) % l.length := ⟨_, rfl⟩
      have hkl : k < l.length := by rw [hk]; exact Nat.mod_lt _ (by omega)
      have hm1 : IntKind.u64.wrap (u.tmod 700) = (z : Int) := by rw [Int.tmod_eq_emod_of_nonneg hu0, hz, IntKind.wrap_u64]; omega
      have hm2 : IntKind.i64.wrap (z : Int) = (z : Int) := IntWalk.i64_in _ (by omega)
      have hm3 : IntKind.i64.wrap ((i : Int) + (z : Int)) = (i : Int) + (z : Int) := IntWalk.i64_in _ (by omega)
      have hm4 : ((i : Int) + (z : Int)) % (l.length : Int) = (k : Int) := by rw [hk]; simp
      have hm4t : ((i : Int) + (z : Int)).tmod (l.length : Int) = (k : Int) := by rw [Int.tmod_eq_emod_of_nonneg (by omega), hm4]
      have hm5 : IntKind.i64.wrap (k : Int) = (k : Int) := IntWalk.i64_in _ (by omega)
      have hm6 : IntKind.i64.wrap (((i : Int) + (z : Int)).tmod (l.length : Int)) = (k : Int) := by rw [hm4t, hm5]
      have hne : ((l.length : Int) == 0) = false := by rw [beq_eq_false_iff_ne]; omega
      have hne2 : ¬ l.length = 0 := by omega
      have HK := Lib.hid hk
      clear hk
      obtain ⟨b, off, ha, hbl, hc⟩ := readsB HTR.out.r hkl
      have HRK1 : Hid (rankL l (k + 1) (bitAt l k) = rankL l k (bitAt l k) + 1) := by
        show _ = _
        rw [rankL_succ _ hkl, if_pos (show l[k]?.getD false = bitAt l k from rfl)]
      have HSEL : Hid (selL l ((rankL l k (bitAt l k) : Nat) : Int) (bitAt l k) = k) := selL_hit hkl rfl rfl
      have HBO := Lib.hid (rankL_both (l := l) (k := k) (by omega))
      have hr1 := (rankL_le l k (bitAt l k)).1
      have hr2 := (rankL_le l k true).1
      have hr3 := (rankL_le l k false).1
      have HC : Hid (∀ w', TR w.heap.size X w2 w' p o made a l → w'.cell? ⟨b, off + k, none⟩ = some (.bool (bitAt l k))) := fun w' h' => by
        obtain ⟨b', off', h1, _, h2⟩ := readsB h'.r hkl
        rw [ha] at h1; injection h1 with h1; injection h1 with e1 e2 _
        rw [e1, e2]; exact h2
      subst ha
      clear hc hbl
      go_wp2_with fail
      clear hz hz7 hm1 hm2 hm3 hm4 hm4t hm5 hm6 hne hne2 HK hu0 hu1 hu
      refine (HTR.out.get k rfl hkl rfl).mono ?_
      rintro e w3 ⟨rfl, h3⟩
      have H3 := Lib.hid h3
      clear h3 HTR
      go_wp2_with fail
      refine (H3.out.rankE k rfl (bitAt l k) rfl).mono ?_
      rintro e w4 ⟨rfl, h4⟩
      have hc4 := HC.out w4 h4
      have H4 := Lib.hid h4
      clear h4 H3 HC
      have hxx : (bitAt l k == bitAt l k) = true := by simp
      obtain ⟨r, hr⟩ : ∃ r, rankL l k (bitAt l k) = r := ⟨_, rfl⟩
      rw [hr] at hr1 HSEL HRK1 ⊢
      generalize hbit : bitAt l k = x at *
      clear hr
      cases x
      all_goals
        go_wp2_with fail
        refine (H4.out.selE r _ HSEL.out).mono ?_
        rintro e w5 ⟨rfl, h5⟩
        have H5 := Lib.hid h5
        clear h5 H4 hc4
        go_wp2_with fail
        refine (H5.out.rankE (k + 1) (by omega) _ HRK1.out).mono ?_
        rintro e w6 ⟨rfl, h6⟩
        have H6 := Lib.hid h6
        clear h6 H5
        go_wp2_with fail
        refine (H6.out.rankE k rfl true rfl).mono ?_
        rintro e w7 ⟨rfl, h7⟩
        have H7 := Lib.hid h7
        clear h7 H6
        go_wp2_with fail
        refine (H7.out.rankE k rfl false rfl).mono ?_
        rintro e w8 ⟨rfl, h8⟩
        have H8 := Lib.hid h8
        clear h8 H7
        have hbo : ((rankL l k true : Nat) : Int) + ((rankL l k false : Nat) : Int) = (k : Int) := by have := HBO.out; omega
        generalize rankL l k true = r1 at *
        generalize rankL l k false = r0 at *
        clear HBO
        go_wp2_with fail
        go_roundw
        case rel => exact ⟨i + 1 + l.length / 40, by omega, by go_num, H8.out⟩
        case measure => simp [intOf]; omega
    · have hcnt := List.count_le_length (a := true) (l := l)
      have hbo := rankL_both (l := l) (k := l.length) (Nat.le_refl _)
      rw [rankL_over true (Nat.le_refl _), rankL_over false (Nat.le_refl _)] at hbo
      have S1 : Hid (selL l (l.count true : Nat) true = -1) := selL_many (Int.le_refl _)
      have S2 : Hid (selL l ((l.length : Int) - (l.count true : Nat)) false = -1) := selL_many (by omega)
      have HRK : Hid (rankL l l.length true = l.count true) := rankL_over true (Nat.le_refl _)
      clear hbo
      obtain ⟨q, hq⟩ : ∃ q, l.count true = q := ⟨_, rfl⟩
      have HQ := Lib.hid hq
      rw [hq] at hcnt S1 S2 HRK
      clear hq
      go_wp2_with fail
      refine HTR.out.told.mono ?_
      rintro e w3 ⟨rfl, h3⟩
      have H3 := Lib.hid h3
      clear h3 HTR
      go_wp2_with fail
      refine (H3.out.ones HQ.out).mono ?_
      rintro e w4 ⟨rfl, h4⟩
      have H4 := Lib.hid h4
      clear h4 H3
      go_wp2_with fail
      refine (H4.out.selE q true S1.out).mono ?_
      rintro e w5 ⟨rfl, h5⟩
      have H5 := Lib.hid h5
      clear h5 H4
      go_wp2_with fail
      refine (H5.out.len rfl).mono ?_
      rintro e w6 ⟨rfl, h6⟩
      have H6 := Lib.hid h6
      clear h6 H5
      go_wp2_with fail
      refine (H6.out.ones HQ.out).mono ?_
      rintro e w7 ⟨rfl, h7⟩
      have H7 := Lib.hid h7
      clear h7 H6
      go_wp2_with fail
      refine (H7.out.selE ((l.length : Int) - (q : Int)) false S2.out).mono ?_
      rintro e w8 ⟨rfl, h8⟩
      have H8 := Lib.hid h8
      clear h8 H7
      go_wp2_with fail
      refine (H8.out.rankE l.length rfl true HRK.out).mono ?_
      rintro e w9 ⟨rfl, h9⟩
      have H9 := Lib.hid h9
      clear h9 H8
      go_wp2_with fail
      refine (H9.out.ones HQ.out).mono ?_
      rintro e w10 ⟨rfl, h10⟩
      have H10 := Lib.hid h10
      clear h10 H9
      go_wp2_with fail
      go_ret
      exact ⟨rfl, H10.out.done HB.out HB2.out⟩

end Go.Proofs.YtcppgpjodfeigaaDoor
