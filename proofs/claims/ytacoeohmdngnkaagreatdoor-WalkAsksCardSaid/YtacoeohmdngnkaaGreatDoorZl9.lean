/- Lemmas and contracts under the claims of this seat: The document's answer for rows: At, StepBack, StepOn, First, Narrow. -/
import Derived.Test.YtacoeohmdngnkaaGreatDoorZl8
import Derived.Deep.DeepCutAuto
import Derived.Deep.CutBlock
import Derived.Deep.CutRange

namespace Go.Proofs.YtacoeohmdngnkaaGreatDoor
set_option linter.unusedVariables false
set_option linter.unusedSimpArgs false
open Go.RowKit

set_option maxHeartbeats 1600000 in
set_option maxRecDepth 100000 in
/-- At, where the number stands at just one place. -/
theorem refAt_any {n : Nat} (a : Option Addr) (c : Nat) (xs : List Int) (k : Nat) (x : Int) (w : World) (hn : n = xs.length) (hr : Reads w .i64 a xs) (hm : xs.length ≤ 1000000) (hk : xs[k]? = some x) (hb : ∀ i, i < k → xs[i]? ≠ some x) :
    Calls Tryz.prog 42 #[.slice a n c, .int .i64 x] w fun e w' => e = .returned (.int .i64 k) ∧ w = w' := by
  subst hn
  have hkl := (List.getElem?_eq_some_iff.1 hk).1
  have HK := Lib.hid hk
  have HB := Lib.hid hb
  clear hk hb
  go_enter Tryz.func42, Tryz.ntmps42
  go_wp2_with fail
  go_loop [5] (fun i => ∃ m : Nat, m ≤ k ∧ i = .int .i64 m) (fun i => xs.length - (intOf i).toNat)
  case atStart => exact ⟨0, Nat.zero_le _, rfl⟩
  case round => as_aux_lemma =>
    obtain ⟨m, hm2, rfl⟩ := hrel
    have hml : m < xs.length := by omega
    obtain ⟨b, off, rfl, _, hc⟩ := hr.some (by omega)
    have hcm := hc m hml
    have i0 : (0 : Int) ≤ (m : Int) := by omega
    have i1 : (m : Int) < (xs.length : Int) := by omega
    by_cases e : m = k
    · subst e
      have hx : xs[m]?.getD 0 = x := by rw [HK.out]; rfl
      rw [hx] at hcm
      clear hc hx
      go_wp2_with fail
      go_ret
      exact ⟨rfl, rfl⟩
    · have hx : xs[m]?.getD 0 ≠ x := by
        have := HB.out m (by omega)
        rw [List.getElem?_eq_getElem hml] at this ⊢
        simpa using this
      generalize xs[m]?.getD 0 = y at *
      have d : (y == x) = false := by rw [beq_eq_false_iff_ne]; exact hx
      clear hc hx
      go_wp2_with fail
      go_round
      case rel => exact ⟨m + 1, by omega, by go_num⟩
      case measure => simp [intOf]; omega

section
variable {t : List Int} {r L : List Nat}
theorem RW.natR (h : RW t r L) {k : Nat} (hk : k ≤ t.length) : (natL r)[k]? = some ((ro r k : Nat) : Int) := by
  unfold natL ro
  rw [List.getElem?_map]
  have := h.rlen
  rw [List.getElem?_eq_getElem (show k < r.length by omega)]
  rfl
theorem RW.atRow (h : RW t r L) {a : Option Addr} {c n : Nat} {w : World} (hn : n = t.length + 1) (hr : Reads w .i64 a (natL r)) (hl : t.length ≤ 100000) {k : Nat} (hk : k ≤ t.length) :
    Calls Tryz.prog 42 #[.slice a n c, .int .i64 (ro r k : Nat)] w fun e w' => e = .returned (.int .i64 k) ∧ w = w' := by
  refine refAt_any a c (natL r) k _ w (by rw [hn, natL_len, h.rlen]) hr (by rw [natL_len, h.rlen]; omega) (h.natR hk) (fun i hi e => ?_)
  rw [h.natR (by omega)] at e
  injection e with e
  have := h.inj (i := i) (j := k) (by omega) hk (by omega)
  omega
end

theorem refStep_no {n : Nat} (a : Option Addr) (c : Nat) (i : Int) (w : World) (hi : i < 0 ∨ (n : Int) ≤ i) :
    Calls Tryz.prog 17 #[.slice a n c, .int .i64 i] w fun e w' => e = .returned (.int .i64 (-1)) ∧ w = w' := by
  by_cases h0 : i < 0
  · have d : decide (i < 0) = true := decide_eq_true h0
    clear hi
    go_enter Tryz.func17, Tryz.ntmps17
    go_wp2_with fail
    go_ret
    exact ⟨rfl, rfl⟩
  · have d : decide (i < 0) = false := decide_eq_false h0
    have d1 : decide ((n : Int) ≤ i) = true := decide_eq_true (by omega)
    clear hi h0
    go_enter Tryz.func17, Tryz.ntmps17
    go_wp2_with fail
    go_ret
    exact ⟨rfl, rfl⟩
theorem refStepOn_no {n : Nat} (a : Option Addr) (c : Nat) (i : Int) (w : World) (hi : i < 0 ∨ (n : Int) ≤ i) :
    Calls Tryz.prog 19 #[.slice a n c, .int .i64 i] w fun e w' => e = .returned (.int .i64 (-1)) ∧ w = w' := by
  by_cases h0 : i < 0
  · have d : decide (i < 0) = true := decide_eq_true h0
    clear hi
    go_enter Tryz.func19, Tryz.ntmps19
    go_wp2_with fail
    go_ret
    exact ⟨rfl, rfl⟩
  · have d : decide (i < 0) = false := decide_eq_false h0
    have d1 : decide ((n : Int) ≤ i) = true := decide_eq_true (by omega)
    clear hi h0
    go_enter Tryz.func19, Tryz.ntmps19
    go_wp2_with fail
    go_ret
    exact ⟨rfl, rfl⟩
theorem refFirst_no {n : Nat} (s : ByteArray) (a : Option Addr) (c : Nat) (i : Int) (w : World) (hi : i < 0 ∨ (n : Int) ≤ i) :
    Calls Tryz.prog 21 #[.string s, .slice a n c, .int .i64 i] w fun e w' => e = .returned (.int .i64 (-1)) ∧ w = w' := by
  by_cases h0 : i < 0
  · have d : decide (i < 0) = true := decide_eq_true h0
    clear hi
    go_enter Tryz.func21, Tryz.ntmps21
    go_wp2_with fail
    go_ret
    exact ⟨rfl, rfl⟩
  · have d : decide (i < 0) = false := decide_eq_false h0
    have d1 : decide ((n : Int) ≤ i) = true := decide_eq_true (by omega)
    clear hi h0
    go_enter Tryz.func21, Tryz.ntmps21
    go_wp2_with fail
    go_ret
    exact ⟨rfl, rfl⟩

section
variable {t : List Int} {r L : List Nat}
set_option maxHeartbeats 1600000 in
set_option maxRecDepth 100000 in
/-- StepBack, of a row that there is. -/
theorem refStepBack_yes (h : RW t r L) {a : Option Addr} {c n : Nat} {w : World} (hn : n = t.length + 1) (hr : Reads w .i64 a (natL r)) (hl : t.length ≤ 100000) {i j : Nat} (hi : i ≤ t.length) (hj : j ≤ t.length) (hij : ro r j = (ro r i + t.length) % (t.length + 1)) :
    Calls Tryz.prog 17 #[.slice a n c, .int .i64 i] w fun e w' => e = .returned (.int .i64 j) ∧ w = w' := by
  subst hn
  obtain ⟨b, off, rfl, _, hc⟩ := hr.some (by rw [natL_len, h.rlen]; omega)
  have hci := hc i (by rw [natL_len, h.rlen]; omega)
  rw [h.natR hi, Option.getD_some] at hci
  have hro := h.roLt hi
  have hat := h.atRow (w := w) (c := c) rfl hr hl hj
  rw [hij] at hat
  generalize ro r i = x at *
  have e1 : (((x + t.length) % (t.length + 1) : Nat) : Int) = ((x : Int) + (t.length : Int)) % ((t.length : Int) + 1) := Int.natCast_emod _ _
  rw [e1] at hat
  have HAT := Lib.hid hat
  have i0 : (0 : Int) ≤ (i : Int) := by omega
  have i1 : (i : Int) < (t.length : Int) + 1 := by omega
  have d : decide ((i : Int) < 0) = false := decide_eq_false (by omega)
  have d1 : decide ((t.length : Int) + 1 ≤ (i : Int)) = false := decide_eq_false (by omega)
  have hs1 : (x : Int) + ((t.length : Int) + 1) - 1 = (x : Int) + (t.length : Int) := by omega
  have hw1 : IntKind.i64.wrap ((x : Int) + (t.length : Int)) = (x : Int) + (t.length : Int) := IntWalk.i64_in _ (by omega)
  have hmod : IntKind.i64.wrap (((x : Int) + (t.length : Int)).tmod ((t.length : Int) + 1)) = ((x : Int) + (t.length : Int)) % ((t.length : Int) + 1) := by
    rw [Int.tmod_eq_emod_of_nonneg (by omega)]
    have := Int.emod_lt_of_pos ((x : Int) + (t.length : Int)) (show 0 < (t.length : Int) + 1 by omega)
    have := Int.emod_nonneg ((x : Int) + (t.length : Int)) (show (t.length : Int) + 1 ≠ 0 by omega)
    exact IntWalk.i64_in _ (by omega)
  have hne : ((t.length : Int) + 1 == 0) = false := by rw [beq_eq_false_iff_ne]; omega
  clear hc hr hat hij e1
  go_enter Tryz.func17, Tryz.ntmps17
  go_wp2_with fail
  refine HAT.out.mono ?_
  rintro e w' ⟨rfl, rfl⟩
  go_wp2_with fail
  go_ret
  exact ⟨rfl, rfl⟩
set_option maxHeartbeats 1600000 in
set_option maxRecDepth 100000 in
/-- StepOn, of a row that there is. -/
theorem refStepOn_yes (h : RW t r L) {a : Option Addr} {c n : Nat} {w : World} (hn : n = t.length + 1) (hr : Reads w .i64 a (natL r)) (hl : t.length ≤ 100000) {i j : Nat} (hi : i ≤ t.length) (hj : j ≤ t.length) (hij : ro r j = (ro r i + 1) % (t.length + 1)) :
    Calls Tryz.prog 19 #[.slice a n c, .int .i64 i] w fun e w' => e = .returned (.int .i64 j) ∧ w = w' := by
  subst hn
  obtain ⟨b, off, rfl, _, hc⟩ := hr.some (by rw [natL_len, h.rlen]; omega)
  have hci := hc i (by rw [natL_len, h.rlen]; omega)
  rw [h.natR hi, Option.getD_some] at hci
  have hro := h.roLt hi
  have hat := h.atRow (w := w) (c := c) rfl hr hl hj
  rw [hij] at hat
  generalize ro r i = x at *
  have e1 : (((x + 1) % (t.length + 1) : Nat) : Int) = ((x : Int) + 1) % ((t.length : Int) + 1) := Int.natCast_emod _ _
  rw [e1] at hat
  have HAT := Lib.hid hat
  have i0 : (0 : Int) ≤ (i : Int) := by omega
  have i1 : (i : Int) < (t.length : Int) + 1 := by omega
  have d : decide ((i : Int) < 0) = false := decide_eq_false (by omega)
  have d1 : decide ((t.length : Int) + 1 ≤ (i : Int)) = false := decide_eq_false (by omega)
  have hmod : IntKind.i64.wrap (((x : Int) + 1).tmod ((t.length : Int) + 1)) = ((x : Int) + 1) % ((t.length : Int) + 1) := by
    rw [Int.tmod_eq_emod_of_nonneg (by omega)]
    have := Int.emod_lt_of_pos ((x : Int) + 1) (show 0 < (t.length : Int) + 1 by omega)
    have := Int.emod_nonneg ((x : Int) + 1) (show (t.length : Int) + 1 ≠ 0 by omega)
    exact IntWalk.i64_in _ (by omega)
  have hne : ((t.length : Int) + 1 == 0) = false := by rw [beq_eq_false_iff_ne]; omega
  clear hc hr hat hij e1
  go_enter Tryz.func19, Tryz.ntmps19
  go_wp2_with fail
  refine HAT.out.mono ?_
  rintro e w' ⟨rfl, rfl⟩
  go_wp2_with fail
  go_ret
  exact ⟨rfl, rfl⟩
set_option maxHeartbeats 1600000 in
set_option maxRecDepth 100000 in
/-- First, of a row that there is. -/
theorem refFirst_yes (h : RW t r L) {a : Option Addr} {c n : Nat} {w : World} (hn : n = t.length + 1) (hr : Reads w .i64 a (natL r)) (hl : t.length ≤ 100000) {i : Nat} (hi : i ≤ t.length) :
    Calls Tryz.prog 21 #[.string (strOfNums t), .slice a n c, .int .i64 i] w fun e w' => e = .returned (.int .i64 (frow t r i : Nat)) ∧ Below w.heap.size w w' := by
  subst hn
  obtain ⟨b, off, rfl, hbl, hc⟩ := hr.some (by rw [natL_len, h.rlen]; omega)
  have hci := hc i (by rw [natL_len, h.rlen]; omega)
  rw [h.natR hi, Option.getD_some] at hci
  have hro := h.roLt hi
  have hfr := (h.frowI hi).1
  have hsy := refSyms_any (strOfNums t)
  have hsz : (strOfNums t).size = t.length := strOfNums_size t
  have hvals : (strOfNums t).data.toList.map symB ++ [.int .i64 0] = (symsT t).map (Value.int .i64) := by
    have e := tOfS_of h.byte
    unfold tOfS at e
    unfold symsT
    conv => rhs; rw [← e]
    rw [List.map_append, List.map_map, List.map_map]
    rfl
  rw [hsz, hvals] at hsy
  have HSY := Lib.hid (fun w => hsy w (by omega))
  have hcell : (symsT t)[ro r i]? = some (frow t r i : Int) := by
    rw [hfr, sy_in (by rw [symsT_len]; omega), List.getElem?_eq_getElem (by rw [symsT_len]; omega)]
  have HCE := Lib.hid hcell
  generalize strOfNums t = st at *
  generalize frow t r i = f at *
  generalize ro r i = x at *
  have i0 : (0 : Int) ≤ (i : Int) := by omega
  have i1 : (i : Int) < (t.length : Int) + 1 := by omega
  have x0 : (0 : Int) ≤ (x : Int) := by omega
  have x1 : (x : Int) < (t.length : Int) + 1 := by omega
  have d : decide ((i : Int) < 0) = false := decide_eq_false (by omega)
  have d1 : decide ((t.length : Int) + 1 ≤ (i : Int)) = false := decide_eq_false (by omega)
  have B0 : Hid (w.drew.cell? ⟨b, off + i, none⟩ = some (.int .i64 x) ∧ Below w.heap.size w w.drew) := Lib.hid ⟨hci, (Below.refl _ _).drew⟩
  clear hc hr hsy hsz hvals hcell hfr hci
  go_enter Tryz.func21, Tryz.ntmps21
  go_upto_region 3 with fail
  -- REGION first
  refine reg_start (fun w' => w'.cell? ⟨b, off + i, none⟩ = some (.int .i64 x) ∧ Below w.heap.size w w') (by kernel_rfl) (B0.out) (fun hHeld => ?_)
  refine rt 0 hHeld ?_
  refine rt 2 hHeld ?_
  refine rt 3 hHeld ?_
  refine rt 4 hHeld ?_
  refine rt 5 hHeld ?_
  refine reg_loud (i := 1) rfl (by kernel_rfl) rfl (fun K hK => ?_)
  go_simp
  ((refine (HSY.out _).mono ?_))
  rintro e w6 ⟨v6, rfl, ho6, hb6⟩
  obtain ⟨g6, c6, rfl, _, _, _, _, hcell6, _⟩ := own_some ho6 (by omega)
  have hx6 : w6.cell? ⟨g6, x, none⟩ = some (.int .i64 f) := by rw [hcell6 x (by omega), List.getElem?_map, HCE.out]; rfl
  clear ho6 hcell6
  refine hK.out _ _ (⟨(hb6.cell (p := ⟨b, off + i, none⟩) (World.block_lt_of_cell? _ _ hHeld.1)).trans hHeld.1, hHeld.2.trans (hb6.mono hHeld.2.size)⟩) (fun hNew => ?_)
  clear hK K hHeld
  have hHeld := hNew
  clear hNew
  try simp only [Act.put, List.setIfInBounds_toArray, List.set_cons_zero, List.set_cons_succ]
  refine rt 6 hHeld ?_
  refine reg_loud (i := 7) rfl (by kernel_rfl) rfl (fun K hK => ?_)
  go_simp
  refine hK.out _ _ (hHeld) (fun hNew => ?_)
  clear hK K hHeld
  have hHeld := hNew
  clear hNew
  try simp only [Act.put, List.setIfInBounds_toArray, List.set_cons_zero, List.set_cons_succ]
  refine rt 8 hHeld ?_
  refine reg_done (by kernel_rfl) ?_ _
  -- END OF REGION first
  go_wp2_with fail
  go_ret
  exact ⟨rfl, hHeld.2⟩
end

theorem refNarrow_bad {n : Nat} (a : Option Addr) (c : Nat) (lo hi s : Int) (w : World) (hs : symIs s = false) :
    Calls Tryz.prog 12 #[.slice a n c, .int .i64 lo, .int .i64 hi, .int .i64 s] w fun e w' => e = .returned (.tuple #[.int .i64 0, .int .i64 0]) ∧ w = w' := by
  have HIS : Hid (∀ w, Calls Tryz.prog 33 #[.int .i64 s] w fun e w' => e = .returned (.bool false) ∧ w = w') := Lib.hid (fun w => by rw [← hs]; exact refIs_any s w)
  clear hs
  go_enter Tryz.func12, Tryz.ntmps12
  go_wp2_with fail
  refine (HIS.out _).mono ?_
  rintro e w' ⟨rfl, rfl⟩
  go_wp2_with fail
  go_ret2
  exact ⟨rfl, rfl⟩
set_option maxHeartbeats 1600000 in
set_option maxRecDepth 100000 in
theorem refNarrow_any {n : Nat} (a : Option Addr) (c : Nat) (L : List Nat) (lo hi : Int) {s lo' hi' : Nat} (w : World) (hn : n = L.length) (hr : Reads w .i64 a (intL L)) (hl : L.length ≤ 1000000) (hs : s < 257) (h1 : (lo' : Int) = min (max lo 0) L.length) (h2 : (hi' : Int) = min (max hi lo') L.length) :
    Calls Tryz.prog 12 #[.slice a n c, .int .i64 lo, .int .i64 hi, .int .i64 s] w fun e w' => e = .returned (.tuple #[.int .i64 (nar L lo' s : Nat), .int .i64 (nar L hi' s : Nat)]) ∧ w = w' := by
  subst hn
  have HIS : Hid (∀ w, Calls Tryz.prog 33 #[.int .i64 s] w fun e w' => e = .returned (.bool true) ∧ w = w') := Lib.hid (fun w => by rw [← symIs_true (s := (s : Int)) (by omega) (by omega)]; exact refIs_any s w)
  have hB := ref6Below_any a c L.length (intL L) (s : Int) w (by rw [intL_len]) hr (by rw [intL_len]; omega)
  have hR1 := ref6Rank_any a c L.length (intL L) lo' (s : Int) w (by rw [intL_len]) hr (by rw [intL_len]; omega) (by omega)
  have hR2 := ref6Rank_any a c L.length (intL L) hi' (s : Int) w (by rw [intL_len]) hr (by rw [intL_len]; omega) (by omega)
  rw [cnt_rank] at hR1 hR2
  have n1 := nar_le L lo' s
  have n2 := nar_le L hi' s
  have e1 : nar L lo' s = belowL (intL L) (s : Int) + rankS L lo' s := rfl
  have e2 : nar L hi' s = belowL (intL L) (s : Int) + rankS L hi' s := rfl
  rw [e1] at n1 ⊢
  rw [e2] at n2 ⊢
  have HB := Lib.hid hB
  have HR1 := Lib.hid hR1
  have HR2 := Lib.hid hR2
  clear hB hR1 hR2 e1 e2 hr
  generalize belowL (intL L) (s : Int) = bq at *
  generalize rankS L lo' s = r1 at *
  generalize rankS L hi' s = r2 at *
  have q1 := h1.symm
  have q2 := h2.symm
  clear h1 h2
  go_enter Tryz.func12, Tryz.ntmps12
  go_wp2_with fail
  refine (HIS.out _).mono ?_
  rintro e w' ⟨rfl, rfl⟩
  go_wp2_with fail
  refine HB.out.mono ?_
  rintro e w' ⟨rfl, rfl⟩
  go_wp2_with fail
  refine HR1.out.mono ?_
  rintro e w' ⟨rfl, rfl⟩
  go_wp2_with fail
  refine HB.out.mono ?_
  rintro e w' ⟨rfl, rfl⟩
  go_wp2_with fail
  refine HR2.out.mono ?_
  rintro e w' ⟨rfl, rfl⟩
  go_wp2_with fail
  go_ret2
  exact ⟨by simp, rfl⟩

end Go.Proofs.YtacoeohmdngnkaaGreatDoor
