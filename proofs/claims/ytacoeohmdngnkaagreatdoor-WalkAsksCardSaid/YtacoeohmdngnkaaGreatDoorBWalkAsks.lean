/- The walk of WalkAsks. -/
import Derived.Test.YtacoeohmdngnkaaGreatDoorZl9
namespace Go.Proofs.YtacoeohmdngnkaaGreatDoor
set_option linter.unusedVariables false
set_option linter.unusedSimpArgs false
open Go.RowKit

theorem readsV_of {w : World} {k : IntKind} {a : Option Addr} {xs : List Int} (h : Reads w k a xs) : ReadsV w a (xs.map (Value.int k)) := by
  intro i hi
  obtain ⟨b, off, rfl, hlt, hc⟩ := h i (by simpa using hi)
  refine ⟨b, off, rfl, hlt, fun j u hj => ?_⟩
  rw [List.getElem?_map] at hj
  cases hx : xs[j]? with
  | none => rw [hx] at hj; cases hj
  | some x =>
    rw [hx] at hj
    injection hj with hj
    have := hc j (List.getElem?_eq_some_iff.1 hx).1
    rw [hx] at this
    rw [this, ← hj]
    rfl
section
variable {B : Nat} {X : Nat → Prop} {w0 w w' : World} {p : Nat} {L : List Nat} {r : List Nat} {ta : Option Addr} {t : List Int}
/-- What came later is kept aside, all of it. -/
theorem WkL.keepR (h : WkL B X w0 w p L ta t) (hb : Below w.heap.size w w') : WkL B (fun k => X k ∨ (w.heap.size ≤ k ∧ k < w'.heap.size)) w' w' p L ta t :=
  ⟨h.k.less hb (fun _ hk => hk), h.r.below hb, fun ad ha => Or.inl (h.ra ad ha), h.tab.below' hb, h.tl, Chg.refl⟩
end
section
variable {t : List Int} {r L : List Nat}
/-- Back, of whatever row. -/
theorem back_pack (hR : RW t r L) (hl : t.length ≤ 100000) (i : Int) : ∃ j : Int,
    (∀ (B : Nat) (X : Nat → Prop) (w0 w : World) (p : Nat) (ta : Option Addr), WkL B X w0 w p L ta t → Calls Tryz.prog 16 #[.pointer (some ⟨p, 0, none⟩), .int .i64 i] w fun e w' => e = .returned (.int .i64 j) ∧ WkL B X w0 w' p L ta t) ∧
    (∀ (w : World) (a : Option Addr) (c : Nat), Reads w .i64 a (natL r) → Calls Tryz.prog 17 #[.slice a (t.length + 1) c, .int .i64 i] w fun e w' => e = .returned (.int .i64 j) ∧ w = w') := by
  have hrl := hR.rlen
  by_cases hi : 0 ≤ i ∧ i ≤ t.length
  · obtain ⟨k, rfl⟩ : ∃ k : Nat, i = (k : Int) := ⟨i.toNat, by omega⟩
    have hk : k ≤ t.length := by omega
    obtain ⟨j, hj, hro⟩ := hR.ex (q := (ro r k + t.length) % (t.length + 1)) (by have := Nat.mod_lt (ro r k + t.length) (show 0 < t.length + 1 by omega); omega)
    refine ⟨j, fun B X w0 w p ta h => ?_, fun w a c hr => refStepBack_yes hR rfl hr hl hk hj hro⟩
    refine (wlBack h hR hl hk).mono ?_
    rintro e w' ⟨j', rfl, hj', hro', hw⟩
    rw [hR.inj hj' hj (hro'.trans hro.symm)]
    exact ⟨rfl, hw⟩
  · refine ⟨-1, fun B X w0 w p ta h => ?_, fun w a c hr => refStep_no a c i w (by omega)⟩
    refine (wkBack_no h.k (i := i) (by rw [hR.len]; omega)).mono ?_
    rintro e w' ⟨rfl, rfl⟩
    exact ⟨rfl, h⟩
/-- On, of whatever row. -/
theorem on_pack (hR : RW t r L) (hl : t.length ≤ 100000) (i : Int) : ∃ j : Int,
    (∀ (B : Nat) (X : Nat → Prop) (w0 w : World) (p : Nat) (ta : Option Addr), WkL B X w0 w p L ta t → Calls Tryz.prog 18 #[.pointer (some ⟨p, 0, none⟩), .int .i64 i] w fun e w' => e = .returned (.int .i64 j) ∧ WkL B X w0 w' p L ta t) ∧
    (∀ (w : World) (a : Option Addr) (c : Nat), Reads w .i64 a (natL r) → Calls Tryz.prog 19 #[.slice a (t.length + 1) c, .int .i64 i] w fun e w' => e = .returned (.int .i64 j) ∧ w = w') := by
  have hrl := hR.rlen
  by_cases hi : 0 ≤ i ∧ i ≤ t.length
  · obtain ⟨k, rfl⟩ : ∃ k : Nat, i = (k : Int) := ⟨i.toNat, by omega⟩
    have hk : k ≤ t.length := by omega
    obtain ⟨j, hj, hro⟩ := hR.ex (q := (ro r k + 1) % (t.length + 1)) (by have := Nat.mod_lt (ro r k + 1) (show 0 < t.length + 1 by omega); omega)
    refine ⟨j, fun B X w0 w p ta h => ?_, fun w a c hr => refStepOn_yes hR rfl hr hl hk hj hro⟩
    refine (wlOn h hR hl hk).mono ?_
    rintro e w' ⟨j', rfl, hj', hro', _, hw⟩
    rw [hR.inj hj' hj (hro'.trans hro.symm)]
    exact ⟨rfl, hw⟩
  · refine ⟨-1, fun B X w0 w p ta h => ?_, fun w a c hr => refStepOn_no a c i w (by omega)⟩
    refine (wkOn_no h.k (i := i) (by rw [hR.len]; omega)).mono ?_
    rintro e w' ⟨rfl, rfl⟩
    exact ⟨rfl, h⟩
/-- The first symbol, of whatever row. -/
theorem first_pack (hR : RW t r L) (hl : t.length ≤ 100000) (i : Int) : ∃ j : Int,
    (∀ (B : Nat) (X : Nat → Prop) (w0 w : World) (p : Nat) (ta : Option Addr), WkL B X w0 w p L ta t → Calls Tryz.prog 20 #[.pointer (some ⟨p, 0, none⟩), .int .i64 i] w fun e w' => e = .returned (.int .i64 j) ∧ w = w') ∧
    (∀ (w : World) (a : Option Addr) (c : Nat), Reads w .i64 a (natL r) → Calls Tryz.prog 21 #[.string (strOfNums t), .slice a (t.length + 1) c, .int .i64 i] w fun e w' => e = .returned (.int .i64 j) ∧ Below w.heap.size w w') := by
  have hrl := hR.rlen
  by_cases hi : 0 ≤ i ∧ i ≤ t.length
  · obtain ⟨k, rfl⟩ : ∃ k : Nat, i = (k : Int) := ⟨i.toNat, by omega⟩
    have hk : k ≤ t.length := by omega
    exact ⟨(frow t r k : Nat), fun B X w0 w p ta h => wlFirst h hR hl hk, fun w a c hr => refFirst_yes hR rfl hr hl hk⟩
  · refine ⟨-1, fun B X w0 w p ta h => wkFirst_no h.k (i := i) (by rw [hR.len]; omega), fun w a c hr => ?_⟩
    refine (refFirst_no (strOfNums t) a c i w (by omega)).mono ?_
    rintro e w' ⟨rfl, rfl⟩
    exact ⟨rfl, Below.refl _ _⟩
/-- Narrow, of whatever rows and symbol. -/
theorem narrow_pack (hR : RW t r L) (hl : t.length ≤ 100000) (lo hi s : Int) : ∃ x y : Int,
    (∀ (B : Nat) (X : Nat → Prop) (w0 w : World) (p : Nat) (ta : Option Addr), WkL B X w0 w p L ta t → Calls Tryz.prog 11 #[.pointer (some ⟨p, 0, none⟩), .int .i64 lo, .int .i64 hi, .int .i64 s] w fun e w' => e = .returned (.tuple #[.int .i64 x, .int .i64 y]) ∧ WkL B X w0 w' p L ta t) ∧
    (∀ (w : World) (a : Option Addr) (c : Nat), Reads w .i64 a (intL L) → Calls Tryz.prog 12 #[.slice a (t.length + 1) c, .int .i64 lo, .int .i64 hi, .int .i64 s] w fun e w' => e = .returned (.tuple #[.int .i64 x, .int .i64 y]) ∧ w = w') := by
  have hLl := hR.len
  by_cases hs : 0 ≤ s ∧ s < 257
  · obtain ⟨k, rfl⟩ : ∃ k : Nat, s = (k : Int) := ⟨s.toNat, by omega⟩
    have hk : k < 257 := by omega
    obtain ⟨lo', hlo⟩ : ∃ n : Nat, (n : Int) = min (max lo 0) L.length := ⟨(min (max lo 0) L.length).toNat, by omega⟩
    obtain ⟨hi', hhi⟩ : ∃ n : Nat, (n : Int) = min (max hi lo') L.length := ⟨(min (max hi lo') L.length).toNat, by omega⟩
    refine ⟨(nar L lo' k : Nat), (nar L hi' k : Nat), fun B X w0 w p ta h => ?_, fun w a c hr => refNarrow_any a c L lo hi w hLl.symm hr (by omega) hk hlo hhi⟩
    refine (wkNarrow_any h.k lo hi (lo' := lo') (hi' := hi') hk hlo (by omega) (by omega)).mono ?_
    rintro e w' ⟨rfl, hk', hc⟩
    refine ⟨?_, h.step hk' hc⟩
    rw [tBelow_of L (by omega)]
    rfl
  · have hs' : symIs s = false := symIs_false hs
    refine ⟨0, 0, fun B X w0 w p ta h => ?_, fun w a c hr => refNarrow_bad a c lo hi s w hs'⟩
    refine (wkNarrow_bad h.k lo hi hs').mono ?_
    rintro e w' ⟨rfl, rfl⟩
    exact ⟨rfl, h⟩
end

set_option maxHeartbeats 6400000 in
set_option maxRecDepth 100000 in
theorem walk_WalkAsks (w : World) (hT : BitTab w) (a0 : Option Addr) (c0 : Nat) (z0 : List Int) (w0 : ArgI .i64 w a0 c0 z0) (few : Bool) (row : Int) (w2 : (Lit.int .i64 row).wf = true) (lo : Int) (w3 : (Lit.int .i64 lo).wf = true) (hi : Int) (w4 : (Lit.int .i64 hi).wf = true) (s : Int) (w5 : (Lit.int .i64 s).wf = true) (a6 : Option Addr) (c6 : Nat) (z6 : List Int) (w6 : ArgI .i64 w a6 c6 z6) :
    Calls Tryz.prog 3 #[.slice a0 z0.length c0, .bool few, .int .i64 row, .int .i64 lo, .int .i64 hi, .int .i64 s, .slice a6 z6.length c6] w fun e w' => e = .returned (.bool true) ∧ Below w.heap.size w w' := by
  have hrd := w0.reads
  have hzm := Nat.le_trans w0.le w0.max
  have hrd6 := w6.reads
  have hzm6 := Nat.le_trans w6.le w6.max
  have HT := Lib.hid hT
  have HTX := Lib.hid (lawText_any a0 c0 z0 80 few w hrd (by omega) hzm)
  clear hT w0 w2 w3 w4 w5 w6 hrd hzm
  by_cases hlong : 30 < z6.length
  · have d1 : decide (30 < (z6.length : Int)) = true := decide_eq_true (by omega)
    unfold maxLen at hzm6
    clear hrd6 HTX
    go_enter Tryz.func3, Tryz.ntmps3
    go_wp2_with fail
    refine (told10_any _ HT.out).mono ?_
    rintro e w2 ⟨rfl, hb2⟩
    go_wp2_with fail
    go_ret
    exact ⟨rfl, hb2⟩
  have d1 : decide (30 < (z6.length : Int)) = false := decide_eq_false (by omega)
  have hz6 : z6.length ≤ 30 := by omega
  go_enter Tryz.func3, Tryz.ntmps3
  go_wp2_with fail
  refine HTX.out.mono ?_
  rintro e w1 ⟨ta, tc, t, rfl, hbt, htl, hot, hb1⟩
  have HNEW := Lib.hid (wkNew_any ta tc t rfl (own_reads hot) hbt (by omega))
  have HOT := Lib.hid hot
  have HB1 := Lib.hid hb1
  have HRD6 := Lib.hid hrd6
  clear hot hb1 HTX hbt hrd6 d1 hlong
  go_wp2_with fail
  refine HNEW.out.mono ?_
  rintro e w2 ⟨p, r, L, rfl, hR, hk, hb2⟩
  have HR := Lib.hid hR
  have HW2 := Lib.hid (WkL.start HOT.out HB1.out HT.out hk hb2)
  have HB2 := Lib.hid (HB1.out.trans (hb2.mono HB1.out.size))
  generalize (fun j => False ∨ (w.heap.size ≤ j ∧ j < w1.heap.size)) = X at *
  clear hR hk hb2 HNEW HOT HB1
  have hLl := HR.out.len
  have hrl := HR.out.rlen
  obtain ⟨st, hst⟩ : ∃ st, strOfNums t = st := ⟨_, rfl⟩
  have HST := Lib.hid hst
  have hstl : (strOfNums t).size ≤ 100000 := by rw [strOfNums_size]; omega
  have HRR : Hid (∀ W, Calls Tryz.prog 9 #[.string st] W (RowsPost W.heap.size W (symsT t))) := Lib.hid (fun W => by
    have := ref6Rows_any (strOfNums t) W hstl
    rw [tOfS_of HR.out.byte] at this
    rw [← hst]; exact this)
  have HLR : Hid (∀ W, Calls Tryz.prog 10 #[.string st] W (LastPost W.heap.size W t)) := Lib.hid (fun W => by
    have := ref6Last_any (strOfNums t) W hstl
    rw [tOfS_of HR.out.byte] at this
    rw [← hst]; exact this)
  have HCT : Hid (∀ w', Reads w' .u8 ta t → (convert 24 9 (.slice ta t.length tc)).run Tryz.prog w' = .ok (.string st) w') := Lib.hid (fun w' h => by
    rw [← hst]
    exact conv_str (c := tc) Tryz.underlying24 Tryz.underlying5 Tryz.underlying9 h)
  have KEEP : Hid (∀ W, Below w2.heap.size w2 W → (convert 24 9 (.slice ta t.length tc)).run Tryz.prog W = .ok (.string st) W ∧ Below w2.heap.size w2 W) := Lib.hid (fun W h => ⟨HCT.out W (HW2.out.r.below h), h⟩)
  clear hst hstl
  go_upto_region 7 with fail
  -- REGION rl
  refine reg_start (fun w' => (convert 24 9 (.slice ta t.length tc)).run Tryz.prog w' = .ok (.string st) w' ∧ Below w2.heap.size w2 w') (by kernel_rfl) (KEEP.out _ (Below.refl _ _).drew) (fun hHeld => ?_)
  refine rt 0 hHeld ?_
  refine rt 1 hHeld ?_
  refine rt 3 hHeld ?_
  refine rt 4 hHeld ?_
  refine reg_loud (i := 2) rfl (by kernel_rfl) rfl (fun K hK => ?_)
  go_simp
  ((refine (HRR.out _).mono ?_))
  rintro e w3 ⟨r3, hr3, v3, rfl, ho3, hb3⟩
  obtain rfl := rows_unique HR.out.rows hr3
  rw [hrl] at ho3
  obtain ⟨ra, rc, rfl, _, hra⟩ := own_slice ho3
  have HRA := Lib.hid (own_readsN ho3)
  have HRAB : Hid (∀ ad, ra = some ad → w2.heap.size ≤ ad.block ∧ ad.block < w3.heap.size) := Lib.hid (fun ad h => by obtain ⟨g, rfl, h1, h2, _⟩ := hra ad h; exact ⟨Nat.le_trans hHeld.2.size h1, h2⟩)
  clear hr3 ho3 hra
  refine hK.out _ _ (KEEP.out _ (hHeld.2.trans (hb3.mono hHeld.2.size))) (fun hNew => ?_)
  clear hK K hHeld
  have hHeld := hNew
  clear hNew
  try simp only [Act.put, List.setIfInBounds_toArray, List.set_cons_zero, List.set_cons_succ]
  refine reg_loud (i := 5) rfl (by kernel_rfl) rfl (fun K hK => ?_)
  go_simp
  ((refine (HLR.out _).mono ?_))
  rintro e w4 ⟨m4, hm4, v4, rfl, ho4, hb4⟩
  obtain rfl := HR.out.isLast.same hm4
  rw [intL_len, hLl] at ho4
  obtain ⟨la, lc, rfl, _, hla⟩ := own_slice ho4
  have HLA := Lib.hid (own_reads ho4)
  have HRA4 := Lib.hid (HRA.out.below hb4)
  have HRAB4 : Hid (∀ ad, ra = some ad → w2.heap.size ≤ ad.block ∧ ad.block < w4.heap.size) := Lib.hid (fun ad h => ⟨(HRAB.out ad h).1, Nat.lt_of_lt_of_le (HRAB.out ad h).2 hb4.size⟩)
  have HLAB : Hid (∀ ad, la = some ad → w2.heap.size ≤ ad.block ∧ ad.block < w4.heap.size) := Lib.hid (fun ad h => by obtain ⟨g, rfl, h1, h2, _⟩ := hla ad h; exact ⟨Nat.le_trans hHeld.2.size h1, h2⟩)
  clear hm4 ho4 hla HRA HRAB
  refine hK.out _ _ (KEEP.out _ (hHeld.2.trans (hb4.mono hHeld.2.size))) (fun hNew => ?_)
  clear hK K hHeld
  have hHeld := hNew
  clear hNew
  try simp only [Act.put, List.setIfInBounds_toArray, List.set_cons_zero, List.set_cons_succ]
  refine rt 6 hHeld ?_
  refine rt 7 hHeld ?_
  refine reg_done (by kernel_rfl) ?_ _
  -- END OF REGION rl
  have HW4 := Lib.hid (HW2.out.keepR hHeld.2)
  have HB4 := Lib.hid (HB2.out.trans (hHeld.2.mono HB2.out.size))
  have hrab : ∀ ad, ra = some ad → (fun k => X k ∨ (w2.heap.size ≤ k ∧ k < w4.heap.size)) ad.block := fun ad h => Or.inr (HRAB4.out ad h)
  have hlab : ∀ ad, la = some ad → (fun k => X k ∨ (w2.heap.size ≤ k ∧ k < w4.heap.size)) ad.block := fun ad h => Or.inr (HLAB.out ad h)
  have HRAY := Lib.hid hrab
  have HLAY := Lib.hid hlab
  clear hrab hlab HRAB4 HLAB hHeld KEEP HRR HLR HW2 HB2
  generalize (fun k => X k ∨ (w2.heap.size ≤ k ∧ k < w4.heap.size)) = Y at HW4 HRAY HLAY
  have HRY : Hid (∀ W, WkL w.heap.size Y w4 W p L ta t → Reads W .i64 ra (natL r)) := Lib.hid (fun W h => h.chg.reads HRA4.out (fun ad ha hs => hs.2 (HRAY.out ad ha)))
  have HLY : Hid (∀ W, WkL w.heap.size Y w4 W p L ta t → Reads W .i64 la (intL L)) := Lib.hid (fun W h => h.chg.reads HLA.out (fun ad ha hs => hs.2 (HLAY.out ad ha)))
  clear HRAY HLAY HRA4 HLA
  have HMK : Hid (∀ W, WkL w.heap.size Y w4 W p L ta t → (convert 24 9 (.slice ta t.length tc)).run Tryz.prog W = .ok (.string st) W ∧ WkL w.heap.size Y w4 W p L ta t) := Lib.hid (fun W h => ⟨HCT.out W h.r, h⟩)
  obtain ⟨x, y, hn1, hn2⟩ := narrow_pack HR.out (by omega) lo hi s
  have HN1 := Lib.hid hn1
  have HN2 := Lib.hid hn2
  obtain ⟨jb, hj1, hj2⟩ := back_pack HR.out (by omega) row
  have HJB1 := Lib.hid hj1
  have HJB2 := Lib.hid hj2
  clear hj1 hj2
  obtain ⟨jo, hj1, hj2⟩ := on_pack HR.out (by omega) row
  have HJO1 := Lib.hid hj1
  have HJO2 := Lib.hid hj2
  clear hj1 hj2
  obtain ⟨jf, hj1, hj2⟩ := first_pack HR.out (by omega) row
  rw [HST.out] at hj2
  have HJF1 := Lib.hid hj1
  have HJF2 := Lib.hid hj2
  clear hj1 hj2 hn1 hn2 HCT
  go_wp2_with fail
  refine (HN1.out _ _ _ _ _ _ HW4.out).mono ?_
  rintro e w5 ⟨rfl, hw5⟩
  have HW5 := Lib.hid hw5
  have HB5 := Lib.hid (HB4.out.trans (exT_below hw5.chg HB4.out.size))
  have HRD5 := Lib.hid (HRD6.out.below HB5.out)
  clear hw5 HW4 HRD6
  go_wp2_with fail
  refine (HN2.out _ _ _ (HLY.out _ HW5.out)).mono ?_
  rintro e w' ⟨rfl, rfl⟩
  clear HN1 HN2
  refine Or.elim (Classical.em (∃ t', IsLast t' z6)) (fun hx => ?yes) (fun hx => ?no)
  case' yes =>
    obtain ⟨t', hx⟩ := hx
    obtain ⟨r', hR', he⟩ := RW.of hx
    generalize z6.map Int.toNat = L' at *
    subst he
    have hlen := hR'.len
    rw [intL_len] at hz6
    have HX := Lib.hid hx
    have HR' := Lib.hid hR'
    have HOF := Lib.hid (wkOfT_yes hR' a6 c6 (intL_len L') (reads_vals (readsV_of HRD5.out)) (by omega))
    clear hx hR'
    go_wp2_with fail
    refine HOF.out.mono ?_
    rintro e w6 ⟨q, rfl, hq, hb6⟩
    have HQ := Lib.hid hq
    have HB6 := Lib.hid hb6
    have HRD7 := Lib.hid (HRD5.out.below hb6)
    clear hq hb6 HOF HRD5
    go_wp2_with fail
    refine (ref6Back_any a6 c6 _ (intL L') w6 rfl HRD7.out (by rw [intL_len]; omega)).mono ?_
    rintro e w7 ⟨sx, ok, rfl, hb7, hy, hn⟩
    cases ok
    case false => exact absurd HX.out ((hn rfl).2 _)
    have hsx := (hy rfl).2
    rw [← HX.out.text] at hsx
    have HSX := Lib.hid hsx
    have HB7 := Lib.hid (HB6.out.trans (hb7.mono HB6.out.size))
    have HQ7 := Lib.hid (HQ.out.below hb7)
    clear hb7 hy hn hsx HRD7 HQ HB6
    have hseq : (sx.toList == sx.toList) = true := by simp
    have hsne : (sx.toList != sx.toList) = false := by simp
    go_wp2_with fail
    refine (wkText HQ7.out HR'.out (by omega)).mono ?_
    rintro e wz ⟨va, vc, rfl, ho8, hk8, hc8⟩
    have hcv := conv_str (P := Tryz.prog) (c := vc) Tryz.underlying24 Tryz.underlying5 Tryz.underlying9 (own_reads ho8)
    rw [← HSX.out] at hcv
    have HWZ := Lib.hid (HW5.out.below (HB7.out.trans (exT_below hc8 HB7.out.size)))
    clear ho8 hk8 hc8 HQ7 HB7 HX HR' HSX HW5
    go_upto_region 14 with fail
    clear hcv hseq hsne
  case' no =>
    have HOF := Lib.hid (wkOfT_no (fun t h => hx ⟨t, h⟩) a6 c6 rfl HRD5.out (by omega))
    go_wp2_with fail
    refine HOF.out.mono ?_
    rintro e w6 ⟨rfl, hb6⟩
    have HB6 := Lib.hid hb6
    have HRD7 := Lib.hid (HRD5.out.below hb6)
    clear hb6 HOF HRD5
    go_wp2_with fail
    refine (ref6Back_any a6 c6 _ z6 w6 rfl HRD7.out (by omega)).mono ?_
    rintro e wz ⟨sx, ok, rfl, hb7, hy, hn⟩
    cases ok
    case true => exact absurd ⟨_, (hy rfl).1⟩ hx
    have HWZ := Lib.hid (HW5.out.below (HB6.out.trans (hb7.mono HB6.out.size)))
    clear hb7 hy hn HRD7 HB6 HW5
    go_upto_region 14 with fail
  all_goals (
    have hseq : (st.toList == st.toList) = true := by simp
    -- REGION en
    refine reg_start (fun w' => (convert 24 9 (.slice ta t.length tc)).run Tryz.prog w' = .ok (.string st) w' ∧ WkL w.heap.size Y w4 w' p L ta t) (by kernel_rfl) (HMK.out _ (HWZ.out.drewN 1)) (fun hHeld => ?_)
    refine reg_loud (i := 0) rfl (by kernel_rfl) rfl (fun K hK => ?_)
    go_simp
    ((refine (told10_any _ hHeld.2.tab).mono ?_))
    rintro e w9 ⟨rfl, hb9⟩
    refine hK.out _ _ (HMK.out _ (hHeld.2.below hb9)) (fun hNew => ?_)
    clear hK K hHeld
    have hHeld := hNew
    clear hNew
    try simp only [Act.put, List.setIfInBounds_toArray, List.set_cons_zero, List.set_cons_succ]
    refine rt 1 hHeld ?_
    refine rt 2 hHeld ?_
    refine rt 3 hHeld ?_
    refine rt 5 hHeld ?_
    refine rt 6 hHeld ?_
    refine reg_loud (i := 4) rfl (by kernel_rfl) rfl (fun K hK => ?_)
    go_simp
    ((refine (HJB1.out _ _ _ _ _ _ hHeld.2).mono ?_))
    rintro e w9 ⟨rfl, hw9⟩
    refine hK.out _ _ (HMK.out _ hw9) (fun hNew => ?_)
    clear hK K hHeld
    have hHeld := hNew
    clear hNew
    try simp only [Act.put, List.setIfInBounds_toArray, List.set_cons_zero, List.set_cons_succ]
    refine reg_loud (i := 7) rfl (by kernel_rfl) rfl (fun K hK => ?_)
    go_simp
    ((refine (HJB2.out _ _ _ (HRY.out _ hHeld.2)).mono ?_))
    rintro e w9 ⟨rfl, rfl⟩
    refine hK.out _ _ (hHeld) (fun hNew => ?_)
    clear hK K hHeld
    have hHeld := hNew
    clear hNew
    try simp only [Act.put, List.setIfInBounds_toArray, List.set_cons_zero, List.set_cons_succ]
    refine rt 8 hHeld ?_
    refine rt 9 hHeld ?_
    refine rt 10 hHeld ?_
    refine rt 11 hHeld ?_
    refine rt 12 hHeld ?_
    refine rt 14 hHeld ?_
    refine rt 15 hHeld ?_
    refine reg_loud (i := 13) rfl (by kernel_rfl) rfl (fun K hK => ?_)
    go_simp
    ((refine (HJO1.out _ _ _ _ _ _ hHeld.2).mono ?_))
    rintro e w9 ⟨rfl, hw9⟩
    refine hK.out _ _ (HMK.out _ hw9) (fun hNew => ?_)
    clear hK K hHeld
    have hHeld := hNew
    clear hNew
    try simp only [Act.put, List.setIfInBounds_toArray, List.set_cons_zero, List.set_cons_succ]
    refine reg_loud (i := 16) rfl (by kernel_rfl) rfl (fun K hK => ?_)
    go_simp
    ((refine (HJO2.out _ _ _ (HRY.out _ hHeld.2)).mono ?_))
    rintro e w9 ⟨rfl, rfl⟩
    refine hK.out _ _ (hHeld) (fun hNew => ?_)
    clear hK K hHeld
    have hHeld := hNew
    clear hNew
    try simp only [Act.put, List.setIfInBounds_toArray, List.set_cons_zero, List.set_cons_succ]
    refine rt 17 hHeld ?_
    refine rt 18 hHeld ?_
    refine rt 19 hHeld ?_
    refine rt 20 hHeld ?_
    refine rt 21 hHeld ?_
    refine rt 23 hHeld ?_
    refine rt 24 hHeld ?_
    refine rt 25 hHeld ?_
    refine rt 26 hHeld ?_
    refine reg_loud (i := 22) rfl (by kernel_rfl) rfl (fun K hK => ?_)
    go_simp
    ((refine (HJF1.out _ _ _ _ _ _ hHeld.2).mono ?_))
    rintro e w9 ⟨rfl, rfl⟩
    refine hK.out _ _ (hHeld) (fun hNew => ?_)
    clear hK K hHeld
    have hHeld := hNew
    clear hNew
    try simp only [Act.put, List.setIfInBounds_toArray, List.set_cons_zero, List.set_cons_succ]
    refine reg_loud (i := 27) rfl (by kernel_rfl) rfl (fun K hK => ?_)
    go_simp
    ((refine (HJF2.out _ _ _ (HRY.out _ hHeld.2)).mono ?_))
    rintro e w9 ⟨rfl, hb9⟩
    refine hK.out _ _ (HMK.out _ (hHeld.2.below hb9)) (fun hNew => ?_)
    clear hK K hHeld
    have hHeld := hNew
    clear hNew
    try simp only [Act.put, List.setIfInBounds_toArray, List.set_cons_zero, List.set_cons_succ]
    refine rt 28 hHeld ?_
    refine rt 29 hHeld ?_
    refine rt 30 hHeld ?_
    refine rt 31 hHeld ?_
    refine rt 32 hHeld ?_
    refine rt 33 hHeld ?_
    refine rt 34 hHeld ?_
    refine rt 35 hHeld ?_
    refine rt 36 hHeld ?_
    refine rt 37 hHeld ?_
    refine rt 38 hHeld ?_
    refine rt 39 hHeld ?_
    refine rt 40 hHeld ?_
    refine rt 41 hHeld ?_
    refine rt 44 hHeld ?_
    refine rt 45 hHeld ?_
    refine reg_loud (i := 42) rfl (by kernel_rfl) rfl (fun K hK => ?_)
    go_simp
    ((refine (wkText hHeld.2.k HR.out (by omega)).mono ?_))
    rintro e w9 ⟨va, vc, rfl, ho9, hk9, hc9⟩
    have hcv := conv_str (P := Tryz.prog) (c := vc) Tryz.underlying24 Tryz.underlying5 Tryz.underlying9 (own_reads ho9)
    rw [HST.out] at hcv
    refine hK.out _ _ (HMK.out _ (hHeld.2.step (hk9.mono (fun k hk => Or.inl hk)) hc9)) (fun hNew => ?_)
    clear hK K hHeld
    have hHeld := hNew
    clear hNew
    try simp only [Act.put, List.setIfInBounds_toArray, List.set_cons_zero, List.set_cons_succ]
    refine reg_loud (i := 43) rfl (by kernel_rfl) rfl (fun K hK => ?_)
    go_simp
    refine hK.out _ _ (hHeld) (fun hNew => ?_)
    clear hK K hHeld
    have hHeld := hNew
    clear hNew
    try simp only [Act.put, List.setIfInBounds_toArray, List.set_cons_zero, List.set_cons_succ]
    refine rt 46 hHeld ?_
    refine rt 47 hHeld ?_
    refine rt 48 hHeld ?_
    refine rt 49 hHeld ?_
    refine rt 51 hHeld ?_
    refine reg_loud (i := 50) rfl (by kernel_rfl) rfl (fun K hK => ?_)
    go_simp
    ((refine (wkAll hHeld.2.k (by omega)).mono ?_))
    rintro e w9 ⟨g7, rfl, hrow7, hge7, hk7, hc7⟩
    have HR7 := Lib.hid (readsN (readsV_block hrow7))
    clear hrow7 hge7
    refine hK.out _ _ (HMK.out _ (hHeld.2.step (hk7.mono (fun k hk => Or.inl hk)) hc7)) (fun hNew => ?_)
    clear hK K hHeld
    have hHeld := hNew
    clear hNew
    try simp only [Act.put, List.setIfInBounds_toArray, List.set_cons_zero, List.set_cons_succ]
    refine reg_loud (i := 52) rfl (by kernel_rfl) rfl (fun K hK => ?_)
    go_simp
    have HSM := Lib.hid (refSame_len (some ⟨g7, 0, none⟩) la (t.length + 1) (t.length + 1) (t.length + 1) lc (intL L) (intL L) w9 HR7.out (HLY.out _ hHeld.2) (by rw [intL_len, hLl]) (by rw [intL_len, hLl]) (by rw [intL_len]; omega))
    rw [show sameI (intL L) (intL L) = true from decide_eq_true (rfl : intL L = intL L)] at HSM
    refine HSM.out.mono ?_
    rintro e w10 ⟨rfl, n9, rfl⟩
    refine hK.out _ _ (HMK.out _ (hHeld.2.drewN n9)) (fun hNew => ?_)
    clear hK K hHeld
    have hHeld := hNew
    clear hNew
    try simp only [Act.put, List.setIfInBounds_toArray, List.set_cons_zero, List.set_cons_succ]
    refine rt 53 hHeld ?_
    refine rt 54 hHeld ?_
    refine rt 55 hHeld ?_
    refine rt 57 hHeld ?_
    refine rt 58 hHeld ?_
    refine reg_loud (i := 56) rfl (by kernel_rfl) rfl (fun K hK => ?_)
    go_simp
    ((refine (wlLen hHeld.2 HR.out).mono ?_))
    rintro e w11 ⟨rfl, rfl⟩
    refine hK.out _ _ (hHeld) (fun hNew => ?_)
    clear hK K hHeld
    have hHeld := hNew
    clear hNew
    try simp only [Act.put, List.setIfInBounds_toArray, List.set_cons_zero, List.set_cons_succ]
    refine rt 59 hHeld ?_
    refine rt 60 hHeld ?_
    refine rt 61 hHeld ?_
    refine reg_done (by kernel_rfl) ?_ _
    -- END OF REGION en
    have HBF := Lib.hid (HB4.out.trans (exT_below hHeld.2.chg HB4.out.size))
    clear hHeld
    go_wp2_with fail
    go_ret
    exact ⟨rfl, HBF.out⟩)

end Go.Proofs.YtacoeohmdngnkaaGreatDoor
