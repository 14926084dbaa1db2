/- Lemmas and contracts under the claims of this seat: Perms that are lists: Drop, RowIn, RowOut, PosIn, PosOut. Perms that are lists: PosOut, RowMove. Perms that are lists: RowMove. append of one element of two cells that says where the new row lies; of no program. Perms that are lists: Add. All, Next of package perm. Package perm at numbers that may not be; Add of what is there. Next, New of package perm; Perms of the call's own; scrimshawlaw11.told. Perms of the call's own, as the laws use them; scrimshawlaw11.told, pairs. What a walk is told of an argument that is a row of pairs of integers. Tallies of the call's own: contracts for the laws; scrimshawlaw8.told. Steps of a tally, for the laws. scrimshawlaw11.pairs. Perms of the call's own beside other rows. -/
import Derived.Test.YtpbmhdkhkbhgnaaZp4
import Derived.Shelf.SlSortCmp.NoneTotal
import Derived.Test.YtpbmhdkhkbhgnaaShelfQ
import Derived.Test.YtpbmhdkhkbhgnaaZp1
import Derived.Test.YtpbmhdkhkbhgnaaZp3
import Derived.Deep.SlicePairs

namespace Go.Proofs.Ytpbmhdkhkbhgnaa
set_option linter.unusedVariables false
set_option linter.unusedSimpArgs false
open Go.RowKit

/-- Block p holds a Perm that is this list; its blocks are of S; its table has at most c rows. -/
def PmV (S : Nat → Prop) (w : World) (p c : Nat) (L : List Int) (N : Nat) : Prop := ∃ q SA lv ov m, PmIn w p q SA lv ov m ∧ PVw m L N ∧ m.L.length ≤ c ∧ ∀ k, pmS p SA lv ov k → S k
/-- A step: only blocks of S were changed; the Perm's blocks are of S, or new. -/
structure PmStep (S : Nat → Prop) (w w' : World) (p c : Nat) (L : List Int) (N : Nat) : Prop where
  pv : PmV (fun k => S k ∨ (w.heap.size ≤ k ∧ k < w'.heap.size)) w' p c L N
  chg : Chg S w w'

section
variable {S : Nat → Prop} {w w' : World} {p c : Nat} {L : List Int} {N : Nat}
theorem PmV.mono {S' : Nat → Prop} (h : PmV S w p c L N) (hs : ∀ k, S k → S' k) : PmV S' w p c L N := by
  obtain ⟨q, SA, lv, ov, m, h1, h2, h3, h4⟩ := h
  exact ⟨q, SA, lv, ov, m, h1, h2, h3, fun k hk => hs k (h4 k hk)⟩
theorem PmV.more {c' : Nat} (h : PmV S w p c L N) (hs : c ≤ c') : PmV S w p c' L N := by
  obtain ⟨q, SA, lv, ov, m, h1, h2, h3, h4⟩ := h
  exact ⟨q, SA, lv, ov, m, h1, h2, by omega, h4⟩
theorem PmV.chg {S' : Nat → Prop} (h : PmV S w p c L N) (hc : Chg S' w w') (hd : ∀ k, S k → ¬ S' k) : PmV S w' p c L N := by
  obtain ⟨q, SA, lv, ov, m, h1, h2, h3, h4⟩ := h
  exact ⟨q, SA, lv, ov, m, h1.chg hc (fun k hk => hd k (h4 k hk)), h2, h3, h4⟩
theorem PmV.below (h : PmV S w p c L N) (hb : Below w.heap.size w w') : PmV S w' p c L N := by
  obtain ⟨q, SA, lv, ov, m, h1, h2, h3, h4⟩ := h
  exact ⟨q, SA, lv, ov, m, h1.below hb, h2, h3, h4⟩
theorem PmV.lt (h : PmV S w p c L N) : p < w.heap.size := by
  obtain ⟨q, SA, lv, ov, m, h1, h2, h3, h4⟩ := h
  exact h1.lt p (Or.inl rfl)
theorem PmV.inj (h : PmV S w p c L N) : ∀ r s, 0 ≤ gL L r → gL L r = gL L s → r = s := by
  obtain ⟨q, SA, lv, ov, m, h1, h2, h3, h4⟩ := h
  exact h2.inj
theorem PmV.rng (h : PmV S w p c L N) : ∀ r, -1 ≤ gL L r ∧ gL L r < N := by
  obtain ⟨q, SA, lv, ov, m, h1, h2, h3, h4⟩ := h
  exact h2.rng
theorem PmStep.of {q : Nat} {SA : Nat → Prop} {lv ov : Value} {m : Pm} (hP : PmIn w' p q SA lv ov m) (hV : PVw m L N) (hl : m.L.length ≤ c) (hS : ∀ k, pmS p SA lv ov k → S k ∨ w.heap.size ≤ k) (hC : Chg S w w') : PmStep S w w' p c L N :=
  ⟨⟨q, SA, lv, ov, m, hP, hV, hl, fun k hk => (hS k hk).imp id (fun h => ⟨h, hP.lt k hk⟩)⟩, hC⟩
theorem PmStep.mono {S' : Nat → Prop} (h : PmStep S w w' p c L N) (hs : ∀ k, S k → S' k) : PmStep S' w w' p c L N :=
  ⟨h.pv.mono (fun k hk => hk.imp (hs k) id), h.chg.mono hs⟩
/-- A Perm of one's own. -/
theorem PmStep.own {B : Nat} (h : PmStep (fun k => B ≤ k) w w' p c L N) (hB : B ≤ w.heap.size) : PmV (fun k => B ≤ k) w' p c L N ∧ Below B w w' :=
  ⟨h.pv.mono (fun k hk => by omega), h.chg.below (fun b hb => hb) hB⟩
end

def dropL (L : List Int) (x : Int) : List Int := if 0 ≤ gL L x then L.set x.toNat (-1) else L
set_option maxHeartbeats 1600000 in
theorem pDrop_v {S : Nat → Prop} {w : World} {p c : Nat} {L : List Int} {N : Nat} (h : PmV S w p c L N) (hc : c ≤ 1000000) (x : Int) :
    Calls Try.prog 40 #[.pointer (some ⟨p, 0, none⟩), .int .i64 x] w fun e w' => e = .returned (.int .i64 (if 0 ≤ gL L x then 0 else 7)) ∧ PmStep S w w' p c (dropL L x) N := by
  obtain ⟨q, SA, lv, ov, m, hP, hV, hml, hS⟩ := h
  have hat := pAt_any hP hV.ok hV.so (by omega) x
  by_cases hx : 0 ≤ gL L x
  · have hi : m.is x = true := (hV.is x).2 hx
    obtain ⟨hlt, hrow⟩ := Pm.is_lt hV.so hi
    obtain ⟨k, hk⟩ : ∃ k, m.O[m.cnt x]? = some k := ⟨_, List.getElem?_eq_getElem hlt⟩
    rw [hk, Option.getD_some] at hrow
    have hdel := hV.del hk
    rw [hrow] at hdel
    have e : dropL L x = L.set x.toNat (-1) := if_pos hx
    rw [if_pos hx, e]
    rw [hi] at hat
    have hol := hV.ok.olen
    have HAT := Lib.hid hat
    have HOK := Lib.hid hV.ok
    have HDEL := Lib.hid hdel
    have HK := Lib.hid hk
    clear hat hV hdel e hx hi hrow hP hk
    generalize m.cnt x = i at *
    go_enter Try.func40, Try.ntmps40
    go_wp2_with fail
    refine HAT.out.mono ?_
    rintro e w1 ⟨rfl, hP1, hC1⟩
    have hg := pGone_any hP1 HOK.out HK.out (by omega)
    have HG := Lib.hid hg
    have HC1 := Lib.hid hC1
    clear hg hP1 hC1
    go_wp2_with fail
    refine HG.out.mono ?_
    rintro e w2 ⟨rfl, SA', ov', hP2, hC2, hS2⟩
    have HP2 := Lib.hid hP2
    have HC2 := Lib.hid hC2
    have HS2 := Lib.hid hS2
    clear hP2 hC2 hS2
    go_wp2_with fail
    go_ret
    have hsz := HC1.out.size
    exact ⟨rfl, PmStep.of HP2.out HDEL.out hml (fun j hj => (HS2.out j hj).imp (hS j) (fun h => by omega)) ((HC1.out.mono (fun b hb => hS b (Or.inr (Or.inr (Or.inr hb))))).trans (HC2.out.mono hS) (fun b hb => Or.inl hb))⟩
  · have hi : m.is x = false := by rw [← Bool.not_eq_true, hV.is]; exact hx
    have e : dropL L x = L := if_neg hx
    rw [if_neg hx, e]
    rw [hi] at hat
    have HAT := Lib.hid hat
    have HV := Lib.hid hV
    clear hat hV e hx hi hP
    generalize m.cnt x = i at *
    go_enter Try.func40, Try.ntmps40
    go_wp2_with fail
    refine HAT.out.mono ?_
    rintro e w1 ⟨rfl, hP1, hC1⟩
    go_wp2_with fail
    go_ret
    exact ⟨rfl, PmStep.of hP1 HV.out hml (fun j hj => Or.inl (hS j hj)) (hC1.mono (fun b hb => hS b (Or.inr (Or.inr (Or.inr hb)))))⟩

theorem outA_set {α : Type} (l : List α) (x : Nat) (v : α) : outA (l.set x v) x = outA l x := by
  unfold outA
  rw [List.take_set_of_le (Nat.le_refl _), List.drop_set_of_lt (by omega)]

set_option maxHeartbeats 1600000 in
theorem pRowIn_v {S : Nat → Prop} {w : World} {p c : Nat} {L : List Int} {N : Nat} (h : PmV S w p c L N) (hc : c ≤ 1000000) (hL : L.length ≤ 1000000) (x : Nat) (hx : x ≤ L.length) :
    Calls Try.prog 42 #[.pointer (some ⟨p, 0, none⟩), .int .i64 x] w fun e w' => e = .returned (.int .i64 0) ∧ PmStep S w w' p c (insA L x (-1)) N := by
  obtain ⟨q, SA, lv, ov, m, hP, hV, hml, hS⟩ := h
  have hR := hV.eR
  refine (pRowIn_any hP hV.ok (by omega) (by omega) (fun k hk => by have := hV.row hk; omega) x (by omega) (by omega)).mono ?_
  rintro e w' ⟨rfl, hP', hC⟩
  exact ⟨rfl, PmStep.of hP' (hV.rowIn hx) (by show (eachL _ _ _).length ≤ c; rw [eachL_len]; exact hml) (fun j hj => Or.inl (hS j hj)) (hC.mono (fun b hb => hS b (hb.elim Or.inl (fun h => Or.inr (Or.inr (Or.inl h))))))⟩
set_option maxHeartbeats 1600000 in
theorem pPosIn_v {S : Nat → Prop} {w : World} {p c : Nat} {L : List Int} {N : Nat} (h : PmV S w p c L N) (hc : c ≤ 1000000) (hN : N ≤ 1000000) (x : Nat) (hx : x ≤ N) :
    Calls Try.prog 46 #[.pointer (some ⟨p, 0, none⟩), .int .i64 x] w fun e w' => e = .returned (.int .i64 0) ∧ PmStep S w w' p c (L.map (upP x)) (N + 1) := by
  obtain ⟨q, SA, lv, ov, m, hP, hV, hml, hS⟩ := h
  have hR := hV.eN
  refine (pPosIn_any hP hV.ok (by omega) (by omega) (fun k hk => by have := hV.row hk; omega) x (by omega) (by omega)).mono ?_
  rintro e w' ⟨rfl, hP', hC⟩
  exact ⟨rfl, PmStep.of hP' (hV.posIn hx) (by show (eachL _ _ _).length ≤ c; rw [eachL_len]; exact hml) (fun j hj => Or.inl (hS j hj)) (hC.mono (fun b hb => hS b (hb.elim Or.inl (fun h => Or.inr (Or.inr (Or.inl h))))))⟩

set_option maxHeartbeats 1600000 in
theorem pRowOut_v {S : Nat → Prop} {w : World} {p c : Nat} {L : List Int} {N : Nat} (h : PmV S w p c L N) (hc : c ≤ 1000000) (hL : L.length ≤ 1000000) (x : Nat) (hx : x < L.length) :
    Calls Try.prog 36 #[.pointer (some ⟨p, 0, none⟩), .int .i64 x] w fun e w' => e = .returned (.int .i64 0) ∧ PmStep S w w' p c (outA L x) N := by
  obtain ⟨q, SA, lv, ov, m, hP0, hV, hml, hS⟩ := h
  have hb0 := below_al w (.cells #[.int .i64 (x : Int)] 3)
  have hbx : (w.alloc (.cells #[.int .i64 (x : Int)] 3)).cell? ⟨w.heap.size, 0, none⟩ = some (.int .i64 (x : Int)) := World.cell?_alloc_at _ _ _ _ rfl
  have hP := hP0.below hb0
  have hC0 : Chg (pmS p SA lv ov) w (w.alloc (.cells #[.int .i64 (x : Int)] 3)) := Chg.refl.alloc _
  have hlt := hP0.lt
  have hR := hV.eR
  have d1 : decide ((x : Int) < 0) = false := decide_eq_false (by omega)
  have d2 : decide (m.R ≤ x) = false := decide_eq_false (by omega)
  have hdrop : ∀ n, Calls Try.prog 40 #[.pointer (some ⟨p, 0, none⟩), .int .i64 (x : Int)] ((w.alloc (.cells #[.int .i64 (x : Int)] 3)).drewN n) fun e w' => e = .returned (.int .i64 (if 0 ≤ gL L x then 0 else 7)) ∧ PmStep (pmS p SA lv ov) ((w.alloc (.cells #[.int .i64 (x : Int)] 3)).drewN n) w' p c (dropL L x) N :=
    fun n => pDrop_v ⟨q, SA, lv, ov, m, hP.below (below_dN (Below.refl _ _) n), hV, hml, fun _ h => h⟩ hc x
  have e1 : gL (dropL L x) x < 0 := by
    unfold dropL
    by_cases h0 : 0 ≤ gL L x
    · rw [if_pos h0, Int.toNat_natCast, gL_set hx, if_pos rfl]; omega
    · rw [if_neg h0]; omega
  have e2 : outA (dropL L x) x = outA L x := by
    unfold dropL
    by_cases h0 : 0 ≤ gL L x
    · rw [if_pos h0, Int.toNat_natCast, outA_set]
    · rw [if_neg h0]
  have e3 : (dropL L x).length = L.length := by
    unfold dropL; split
    · rw [List.length_set]
    · rfl
  obtain ⟨_, _, _, c3, _, c5⟩ := hP.cells
  have HC0 := Lib.hid hC0
  have HLT := Lib.hid hlt
  have HV := Lib.hid hV
  have HDROP := Lib.hid hdrop
  have HE1 := Lib.hid e1
  have HE2 := Lib.hid e2
  have HE3 := Lib.hid e3
  have HR := Lib.hid hR
  have hpl : p < w.heap.size := hlt p (Or.inl rfl)
  clear c5 hP hP0 hC0 hlt hV hdrop e1 e2 e3 hb0 hR
  generalize (if 0 ≤ gL L x then (0 : Int) else 7) = code at *
  go_enter Try.func36, Try.ntmps36
  go_wp2_with fail
  go_quiet (fail)
  obtain ⟨n1, rfl⟩ : ∃ n1, n1 = nq := ⟨_, rfl⟩
  go_wp2_with fail
  refine (HDROP.out n1).mono ?_
  rintro e w1 ⟨rfl, hst⟩
  have hbx1 := hst.chg.cell (p := ⟨w.heap.size, 0, none⟩) hbx (fun h => by have := HLT.out _ h; exact absurd this (Nat.lt_irrefl _))
  have hC1 : Chg (pmS p SA lv ov) w w1 := (HC0.out.drewN n1).trans hst.chg (fun b hb => Or.inl hb)
  obtain ⟨q1, SA1, lv1, ov1, m1, hP1, hV1, hl1, hS1⟩ := hst.pv
  obtain ⟨_, _, _, c3, _, c5⟩ := hP1.cells
  have c6 := c5 3
  obtain ⟨R1, hR1⟩ : ∃ R1 : Nat, R1 + 1 = m1.R := ⟨m1.R - 1, by have := hV1.eR; have := HE3.out; omega⟩
  have hS1' : ∀ k, pmS p SA1 lv1 ov1 k → k ≠ w.heap.size ∧ (pmS p SA lv ov k ∨ w.heap.size ≤ k) := fun k hk => by
    rcases hS1 k hk with h | h
    · exact ⟨fun e => by have := HLT.out k h; omega, Or.inl h⟩
    · have h1 := h.1
      simp at h1
      exact ⟨by omega, Or.inr (by omega)⟩
  have HC1 := Lib.hid hC1
  have HP1 := Lib.hid hP1
  have HV1 := Lib.hid hV1
  have HS1 := Lib.hid hS1'
  have HR1 := Lib.hid hR1
  have hRle : m1.R ≤ 1000000 := by have := hV1.eR; have := HE3.out; omega
  have hR1' : (1 : Int) ≤ (m1.R : Int) := by omega
  clear hst hC1 hP1 hV1 hS1 hS1' c5 hR1
  go_wp2_with fail
  have hP2 : PmIn (w1.setCell ⟨p, 3, none⟩ (.int .i64 ((m1.R : Int) - 1))) p q1 SA1 lv1 ov1 ⟨m1.A, m1.L, m1.O, R1, m1.N⟩ := by
    have := HP1.out.setR R1
    rw [show ((m1.R : Int) - 1) = (R1 : Int) by have := HR1.out; omega]
    exact this
  have hC2 : Chg (pmS p SA lv ov) w (w1.setCell ⟨p, 3, none⟩ (.int .i64 ((m1.R : Int) - 1))) := HC1.out.setCell ⟨p, 3, none⟩ (Or.inl (Or.inl rfl)) _
  have hbx2 : (w1.setCell ⟨p, 3, none⟩ (.int .i64 ((m1.R : Int) - 1))).cell? ⟨w.heap.size, 0, none⟩ = some (.int .i64 (x : Int)) :=
    (Chg.refl.setCell (S := fun b => b = p) ⟨p, 3, none⟩ (Or.inl rfl) _).cell hbx1 (fun e => by have e : w.heap.size = p := e; omega)
  generalize w1.setCell ⟨p, 3, none⟩ (.int .i64 ((m1.R : Int) - 1)) = w2 at *
  have hok1 := HV1.out.ok
  have key := pEach_any hP2 ⟨hok1.most, hok1.nd, hok1.iff, hok1.len⟩ (by show m1.L.length ≤ _; omega) (fRowOut x) 78 #[.pointer (some ⟨w.heap.size, 0, none⟩)] (enters_of Try.func78 (by kernel_rfl) rfl)
    (fun gl cap hlv W L k hW hT hLl hk er ep => by
      have hgl := (HS1.out gl (Or.inr (Or.inr (Or.inl (by rw [hlv]; rfl))))).1
      have hb := HV1.out.row hk
      have hkl := hok1.lt hk
      have := pRowOut1_any hT (k := k) (by rw [hLl]; exact hkl) (hW.cell hbx2 (fun e => hgl e.symm)) (by rw [er]; show -1 ≤ rowL m1.L k; omega) (by rw [er]; show rowL m1.L k ≤ _; have := HE3.out; omega)
      rw [er, ep] at this
      exact this)
  have HK := Lib.hid key
  have HC2 := Lib.hid hC2
  clear key hC2 hP2 hbx2 hbx1 hbx c3 c6 hok1
  refine HK.out.mono ?_
  rintro e w3 ⟨rfl, hP3, hC3⟩
  go_wp2_with fail
  go_ret
  have hv := HV1.out.rowOut (x := x) (by have := HE3.out; omega) HE1.out HR1.out
  rw [HE2.out] at hv
  refine ⟨rfl, PmStep.of hP3 hv (by show (eachL _ _ _).length ≤ c; rw [eachL_len]; exact hl1) (fun j hj => (HS1.out j hj).2.imp (hS j) id) ((HC2.out.mono hS).trans hC3 (fun b hb => ?_))⟩
  exact (HS1.out b (Or.inr (Or.inr (Or.inl hb)))).2.imp (hS b) id

end Go.Proofs.Ytpbmhdkhkbhgnaa

namespace Go.Proofs.Ytpbmhdkhkbhgnaa
set_option linter.unusedVariables false
set_option linter.unusedSimpArgs false
open Go.RowKit

/-- What PosOut makes of a place. -/
def outP (x y : Int) : Int := if y = x then -1 else if x < y then y - 1 else y
theorem outP_no {L : List Int} {x : Int} (h : ∀ r, gL L r ≠ x) : L.map (dnP x) = L.map (outP x) := by
  apply List.map_congr_left
  intro y hy
  obtain ⟨i, hi, rfl⟩ := List.getElem_of_mem hy
  have := h i
  rw [gL_nat, List.getElem?_eq_getElem hi] at this
  unfold dnP outP
  rw [if_neg (c := L[i] = x) this]
theorem outP_yes {L : List Int} {x : Nat} {r : Nat} (hr : r < L.length) (h : gL L r = x) (hi : ∀ r s, 0 ≤ gL L r → gL L r = gL L s → r = s) : (L.set r (-1)).map (dnP x) = L.map (outP x) := by
  apply List.ext_getElem (by simp)
  intro i h1 h2
  have h2' : i < L.length := by simpa using h2
  simp only [List.getElem_map, List.getElem_set]
  by_cases e : r = i
  · subst e
    rw [gL_nat, List.getElem?_eq_getElem h2'] at h
    have h : L[r] = (x : Int) := h
    rw [if_pos rfl, h]
    unfold dnP outP
    rw [if_pos rfl, if_neg (by omega)]
  · rw [if_neg e]
    have hne : L[i] ≠ (x : Int) := by
      intro q
      have h3 : gL L i = x := by rw [gL_nat, List.getElem?_eq_getElem h2']; exact q
      have := hi r i (by omega) (by omega)
      omega
    unfold dnP outP
    rw [if_neg (c := L[i] = (x : Int)) hne]

set_option maxHeartbeats 3200000 in
theorem pPosOut_v {S : Nat → Prop} {w : World} {p c : Nat} {L : List Int} {N : Nat} (h : PmV S w p c L N) (hc : c ≤ 1000000) (hN : N ≤ 1000000) (x : Nat) (hx : x < N) :
    Calls Try.prog 37 #[.pointer (some ⟨p, 0, none⟩), .int .i64 x] w fun e w' => e = .returned (.int .i64 0) ∧ PmStep S w w' p c (L.map (outP x)) (N - 1) := by
  obtain ⟨q, SA, lv, ov, m, hP0, hV, hml, hS⟩ := h
  have hb0 := below_al w (.cells #[.int .i64 (x : Int)] 3)
  have hbx : (w.alloc (.cells #[.int .i64 (x : Int)] 3)).cell? ⟨w.heap.size, 0, none⟩ = some (.int .i64 (x : Int)) := World.cell?_alloc_at _ _ _ _ rfl
  have hP := hP0.below hb0
  have hC0 : Chg (pmS p SA lv ov) w (w.alloc (.cells #[.int .i64 (x : Int)] 3)) := Chg.refl.alloc _
  have hlt := hP0.lt
  have hN0 := hV.eN
  have d1 : decide ((x : Int) < 0) = false := decide_eq_false (by omega)
  have d2 : decide (m.N ≤ x) = false := decide_eq_false (by omega)
  have hcase := hV.has x
  have hhas : ∀ n, Calls Try.prog 71 #[.pointer (some ⟨p, 0, none⟩), .int .i64 (x : Int)] ((w.alloc (.cells #[.int .i64 (x : Int)] 3)).drewN n) fun e w' => e = .returned (.int .i64 (m.has x)) ∧ Below ((w.alloc (.cells #[.int .i64 (x : Int)] 3)).drewN n).heap.size ((w.alloc (.cells #[.int .i64 (x : Int)] 3)).drewN n) w' :=
    fun n => pHas_any (hP.below (below_dN (Below.refl _ _) n)) hV.ok (by omega) x
  have hPn : ∀ n, PmIn ((w.alloc (.cells #[.int .i64 (x : Int)] 3)).drewN n) p q SA lv ov m := fun n => hP.below (below_dN (Below.refl _ _) n)
  have HPN := Lib.hid hPn
  obtain ⟨_, _, _, _, c3, c5⟩ := hP.cells
  have HC0 := Lib.hid hC0
  have HLT := Lib.hid hlt
  have HV := Lib.hid hV
  have HHAS := Lib.hid hhas
  have HN0 := Lib.hid hN0
  have hpl : p < w.heap.size := hlt p (Or.inl rfl)
  have hol := hV.ok.olen
  clear c5 hP hP0 hC0 hlt hV hhas hb0 hPn hN0
  rcases hcase with ⟨i, k, a1, a2, a3, a4, a5⟩ | ⟨a1, a2⟩
  · have hrow := HV.out.row (List.mem_of_getElem? a2)
    obtain ⟨r, hr⟩ : ∃ r : Nat, rowL m.L k = r := ⟨(rowL m.L k).toNat, by omega⟩
    rw [a1] at HHAS
    have HK := Lib.hid a2
    have hdel := HV.out.del a2
    rw [hr, Int.toNat_natCast] at hdel
    rw [hr] at hrow a4
    have hL1 : ∀ s, gL (L.set r (-1)) s ≠ x := fun s => by
      rw [gL_set (by omega)]
      split
      · omega
      · intro q
        have := HV.out.inj r s (by omega) (by omega)
        omega
    have hfin := outP_yes (by omega) a4 HV.out.inj
    have HDEL := Lib.hid hdel
    have HL1 := Lib.hid hL1
    have HFIN := Lib.hid hfin
    have hil : i < m.O.length := (List.getElem?_eq_some_iff.1 a2).1
    have d3 : decide (0 ≤ (i : Int)) = true := decide_eq_true (by omega)
    clear a1 a2 a3 a4 a5 hr hrow hdel hL1 hfin
    go_enter Try.func37, Try.ntmps37
    go_wp2_with fail
    go_quiet (fail)
    obtain ⟨n1, rfl⟩ : ∃ n1, n1 = nq := ⟨_, rfl⟩
    go_wp2_with fail
    refine (HHAS.out n1).mono ?_
    rintro e w0 ⟨rfl, hB0⟩
    have hbx0 := hB0.cell (p := ⟨w.heap.size, 0, none⟩) (by simp)
    have hbx0 := hbx0.trans hbx
    have hg := pGone_any ((HPN.out n1).below hB0) HV.out.ok HK.out (by omega)
    have HG := Lib.hid hg
    have hsz0 := hB0.size
    have HSZ0 := Lib.hid hsz0
    have hC00 : Chg (pmS p SA lv ov) w w0 := (HC0.out.drewN n1).trans (Chg.of_below (S := fun _ => False) hB0) (fun _ hf => hf.elim)
    have HC00 := Lib.hid hC00
    clear hg hsz0 hB0 hC00
    go_wp2_with fail
    refine HG.out.mono ?_
    rintro e w1 ⟨rfl, SA1, ov1, hP1, hC1', hS1⟩
    have hbx1 := hC1'.cell (p := ⟨w.heap.size, 0, none⟩) hbx0 (fun h => by have := HLT.out _ h; exact absurd this (Nat.lt_irrefl _))
    have hC1 : Chg (pmS p SA lv ov) w w1 := HC00.out.trans hC1' (fun b hb => Or.inl hb)
    obtain ⟨m1, hm1⟩ : ∃ m1, m1 = m.del i k := ⟨_, rfl⟩
    have hV1 := HDEL.out
    rw [← hm1] at hP1 hV1
    have hl1 : m1.L.length ≤ c := by rw [hm1]; exact hml
    have hS1' : ∀ k, pmS p SA1 lv ov1 k → k ≠ w.heap.size ∧ (pmS p SA lv ov k ∨ w.heap.size ≤ k) := fun k hk => by
      rcases hS1 k hk with h | h
      · exact ⟨fun e => by have := HLT.out k h; omega, Or.inl h⟩
      · have h1 := HSZ0.out
        simp at h1
        exact ⟨by omega, Or.inr (by omega)⟩
    have HL := HL1.out
    clear hC1' hS1 hm1 hbx0
    obtain ⟨_, _, _, _, c3, c5⟩ := hP1.cells
    have c6 := c5 4
    obtain ⟨R1, hR1⟩ : ∃ R1 : Nat, R1 + 1 = m1.N := ⟨m1.N - 1, by have := hV1.eN; omega⟩
    have HC1 := Lib.hid hC1
    have HP1 := Lib.hid hP1
    have HV1 := Lib.hid hV1
    have HS1 := Lib.hid hS1'
    have HR1 := Lib.hid hR1
    have HLL := Lib.hid HL
    have hRle : m1.N ≤ 1000000 := by have := hV1.eN; omega
    have hR1' : (1 : Int) ≤ (m1.N : Int) := by omega
    clear hC1 hP1 hV1 hS1' c5 hR1 HL
    go_wp2_with fail
    have hP2 : PmIn (w1.setCell ⟨p, 4, none⟩ (.int .i64 ((m1.N : Int) - 1))) p q SA1 lv ov1 ⟨m1.A, m1.L, m1.O, m1.R, R1⟩ := by
      have := HP1.out.setN R1
      rw [show ((m1.N : Int) - 1) = (R1 : Int) by have := HR1.out; omega]
      exact this
    have hC2 : Chg (pmS p SA lv ov) w (w1.setCell ⟨p, 4, none⟩ (.int .i64 ((m1.N : Int) - 1))) := HC1.out.setCell ⟨p, 4, none⟩ (Or.inl (Or.inl rfl)) _
    have hbx2 : (w1.setCell ⟨p, 4, none⟩ (.int .i64 ((m1.N : Int) - 1))).cell? ⟨w.heap.size, 0, none⟩ = some (.int .i64 (x : Int)) :=
      (Chg.refl.setCell (S := fun b => b = p) ⟨p, 4, none⟩ (Or.inl rfl) _).cell hbx1 (fun e => by have e : w.heap.size = p := e; omega)
    generalize w1.setCell ⟨p, 4, none⟩ (.int .i64 ((m1.N : Int) - 1)) = w2 at *
    have hok1 := HV1.out.ok
    have key := pEach_any hP2 ⟨hok1.most, hok1.nd, hok1.iff, hok1.len⟩ (by show m1.L.length ≤ _; omega) (fPosOut x) 80 #[.pointer (some ⟨w.heap.size, 0, none⟩)] (enters_of Try.func80 (by kernel_rfl) rfl)
      (fun gl cap hlv W L k hW hT hLl hk er ep => by
        have hgl := (HS1.out gl (Or.inr (Or.inr (Or.inl (by rw [hlv]; rfl))))).1
        have hb := HV1.out.row hk
        have hkl := hok1.lt hk
        have := pPosOut1_any hT (k := k) (by rw [hLl]; exact hkl) (hW.cell hbx2 (fun e => hgl e.symm)) (by rw [ep]; show -1 ≤ posL m1.L k; omega) (by rw [ep]; show posL m1.L k ≤ _; omega)
        rw [er, ep] at this
        exact this)
    have HK2 := Lib.hid key
    have HC2 := Lib.hid hC2
    clear key hC2 hP2 hbx2 hbx1 hbx c3 c6 hok1
    refine HK2.out.mono ?_
    rintro e w3 ⟨rfl, hP3, hC3⟩
    go_wp2_with fail
    go_ret
    have hN1 := HV1.out.eN
    have hR1 := HR1.out
    have hv := HV1.out.posOut (x := x) hx HLL.out (N' := R1) (by omega)
    rw [HFIN.out, show R1 = N - 1 by omega] at hv
    rw [show R1 = N - 1 by omega] at hP3
    refine ⟨rfl, PmStep.of hP3 hv (by show (eachL _ _ _).length ≤ c; rw [eachL_len]; exact hl1) (fun j hj => (HS1.out j hj).2.imp (hS j) id) ((HC2.out.mono hS).trans hC3 (fun b hb => ?_))⟩
    exact (HS1.out b (Or.inr (Or.inr (Or.inl hb)))).2.imp (hS b) id
  · have hB1' := a2 (by omega)
    rw [a1] at HHAS
    have hfin := outP_no hB1'
    have HFIN := Lib.hid hfin
    have HL1 := Lib.hid hB1'
    have d3 : decide (0 ≤ (-1 : Int)) = false := rfl
    clear a1 a2 hfin hB1'
    go_enter Try.func37, Try.ntmps37
    go_wp2_with fail
    go_quiet (fail)
    obtain ⟨n1, rfl⟩ : ∃ n1, n1 = nq := ⟨_, rfl⟩
    go_wp2_with fail
    refine (HHAS.out n1).mono ?_
    rintro e w1 ⟨rfl, hB0⟩
    have hbx1 := hB0.cell (p := ⟨w.heap.size, 0, none⟩) (by simp)
    have hbx1 := hbx1.trans hbx
    have hP1 := (HPN.out n1).below hB0
    have hC1 : Chg (pmS p SA lv ov) w w1 := (HC0.out.drewN n1).trans (Chg.of_below (S := fun _ => False) hB0) (fun _ hf => hf.elim)
    have hV1 := HV.out
    obtain ⟨m1, hm1⟩ : ∃ m1, m1 = m := ⟨_, rfl⟩
    rw [← hm1] at hP1 hV1
    have hl1 : m1.L.length ≤ c := by rw [hm1]; exact hml
    obtain ⟨SA1, hSA1⟩ : ∃ SA1, SA1 = SA := ⟨_, rfl⟩
    obtain ⟨ov1, hov1⟩ : ∃ ov1, ov1 = ov := ⟨_, rfl⟩
    have hS1' : ∀ k, pmS p SA1 lv ov1 k → k ≠ w.heap.size ∧ (pmS p SA lv ov k ∨ w.heap.size ≤ k) := fun k hk => by
      rw [hSA1, hov1] at hk
      exact ⟨fun e => by have := HLT.out k hk; omega, Or.inl hk⟩
    rw [← hSA1, ← hov1] at hP1
    have HL := HL1.out
    clear hB0 hm1 hSA1 hov1
    obtain ⟨_, _, _, _, c3, c5⟩ := hP1.cells
    have c6 := c5 4
    obtain ⟨R1, hR1⟩ : ∃ R1 : Nat, R1 + 1 = m1.N := ⟨m1.N - 1, by have := hV1.eN; omega⟩
    have HC1 := Lib.hid hC1
    have HP1 := Lib.hid hP1
    have HV1 := Lib.hid hV1
    have HS1 := Lib.hid hS1'
    have HR1 := Lib.hid hR1
    have HLL := Lib.hid HL
    have hRle : m1.N ≤ 1000000 := by have := hV1.eN; omega
    have hR1' : (1 : Int) ≤ (m1.N : Int) := by omega
    clear hC1 hP1 hV1 hS1' c5 hR1 HL
    go_wp2_with fail
    have hP2 : PmIn (w1.setCell ⟨p, 4, none⟩ (.int .i64 ((m1.N : Int) - 1))) p q SA1 lv ov1 ⟨m1.A, m1.L, m1.O, m1.R, R1⟩ := by
      have := HP1.out.setN R1
      rw [show ((m1.N : Int) - 1) = (R1 : Int) by have := HR1.out; omega]
      exact this
    have hC2 : Chg (pmS p SA lv ov) w (w1.setCell ⟨p, 4, none⟩ (.int .i64 ((m1.N : Int) - 1))) := HC1.out.setCell ⟨p, 4, none⟩ (Or.inl (Or.inl rfl)) _
    have hbx2 : (w1.setCell ⟨p, 4, none⟩ (.int .i64 ((m1.N : Int) - 1))).cell? ⟨w.heap.size, 0, none⟩ = some (.int .i64 (x : Int)) :=
      (Chg.refl.setCell (S := fun b => b = p) ⟨p, 4, none⟩ (Or.inl rfl) _).cell hbx1 (fun e => by have e : w.heap.size = p := e; omega)
    generalize w1.setCell ⟨p, 4, none⟩ (.int .i64 ((m1.N : Int) - 1)) = w2 at *
    have hok1 := HV1.out.ok
    have key := pEach_any hP2 ⟨hok1.most, hok1.nd, hok1.iff, hok1.len⟩ (by show m1.L.length ≤ _; omega) (fPosOut x) 80 #[.pointer (some ⟨w.heap.size, 0, none⟩)] (enters_of Try.func80 (by kernel_rfl) rfl)
      (fun gl cap hlv W L k hW hT hLl hk er ep => by
        have hgl := (HS1.out gl (Or.inr (Or.inr (Or.inl (by rw [hlv]; rfl))))).1
        have hb := HV1.out.row hk
        have hkl := hok1.lt hk
        have := pPosOut1_any hT (k := k) (by rw [hLl]; exact hkl) (hW.cell hbx2 (fun e => hgl e.symm)) (by rw [ep]; show -1 ≤ posL m1.L k; omega) (by rw [ep]; show posL m1.L k ≤ _; omega)
        rw [er, ep] at this
        exact this)
    have HK2 := Lib.hid key
    have HC2 := Lib.hid hC2
    clear key hC2 hP2 hbx2 hbx1 hbx c3 c6 hok1
    refine HK2.out.mono ?_
    rintro e w3 ⟨rfl, hP3, hC3⟩
    go_wp2_with fail
    go_ret
    have hN1 := HV1.out.eN
    have hR1 := HR1.out
    have hv := HV1.out.posOut (x := x) hx HLL.out (N' := R1) (by omega)
    rw [HFIN.out, show R1 = N - 1 by omega] at hv
    rw [show R1 = N - 1 by omega] at hP3
    refine ⟨rfl, PmStep.of hP3 hv (by show (eachL _ _ _).length ≤ c; rw [eachL_len]; exact hl1) (fun j hj => (HS1.out j hj).2.imp (hS j) id) ((HC2.out.mono hS).trans hC3 (fun b hb => ?_))⟩
    exact (HS1.out b (Or.inr (Or.inr (Or.inl hb)))).2.imp (hS b) id

end Go.Proofs.Ytpbmhdkhkbhgnaa

namespace Go.Proofs.Ytpbmhdkhkbhgnaa
set_option linter.unusedVariables false
set_option linter.unusedSimpArgs false
open Go.RowKit

theorem PVw.row_inj {m : Pm} {L : List Int} {N : Nat} (h : PVw m L N) {x y : Nat} (hx : x ∈ m.O) (hy : y ∈ m.O) (e : rowL m.L x = rowL m.L y) : x = y := by
  obtain ⟨i, hi, rfl⟩ := List.getElem_of_mem hx
  obtain ⟨j, hj, rfl⟩ := List.getElem_of_mem hy
  rcases Nat.lt_trichotomy i j with q | q | q
  · have := List.pairwise_iff_getElem.1 h.so i j hi hj q; omega
  · subst q; rfl
  · have := List.pairwise_iff_getElem.1 h.so j i hj hi q; omega

/-- SortFunc with the closure of RowMove. -/
theorem sort_pm {w : World} {p q bp : Nat} {SA : Nat → Prop} {lv ov : Value} {m : Pm} (h : PmIn w p q SA lv ov m) (hok : m.Ok) (hb : w.cell? ⟨bp, 0, none⟩ = some (.pointer (some ⟨p, 0, none⟩))) (hbn : ¬ pmS p SA lv ov bp)
    (hl : m.L.length ≤ 1000000000) (hinj : ∀ a ∈ m.O, ∀ b ∈ m.O, rowL m.L a = rowL m.L b → a = b) :
    Calls Try.prog 57 #[ov, .func (.func 76) #[] #[.pointer (some ⟨bp, 0, none⟩)]] w
      fun e w' => e = .returned (.tuple #[]) ∧ ∃ O' : List Nat, O'.Perm m.O ∧ (Pm.mk m.A m.L O' m.R m.N).Sorted ∧ PmIn w' p q SA lv ov ⟨m.A, m.L, O', m.R, m.N⟩ ∧ Chg (fun b => ov.ownBlock = some b) w w' := by
  by_cases h0 : m.O.length = 0
  · have e0 : m.O = [] := List.eq_nil_of_length_eq_zero h0
    obtain ⟨a, c, rfl, _, _⟩ := own_slice h.ord
    have key : Calls Try.prog 57 #[.slice a m.O.length c, .func (.func 76) #[] #[.pointer (some ⟨bp, 0, none⟩)]] w fun e w' => e = .returned (.tuple #[]) ∧ w' = w := by
      rw [h0]; exact AnyF.slices_SortFunc_none Try.laysSF0 a c _ w
    refine key.mono ?_
    rintro e w' ⟨rfl, rfl⟩
    exact ⟨rfl, m.O, List.Perm.refl _, by unfold Pm.Sorted; rw [e0]; exact List.Pairwise.nil, h, Chg.refl⟩
  · rcases h.ord.2 with ⟨_, h1⟩ | ⟨g, cap, cur, rfl, _, hg, hc1, hc2, hsz, htk⟩
    · omega
    have hlen : 0 < m.L.length := by
      have := hok.lt (List.getElem_mem (l := m.O) (n := 0) (by omega)); omega
    obtain ⟨gl, capl, rfl, hrd⟩ := h.rd hlen hb
    letI : Inhabited (Fin m.L.length) := ⟨⟨0, hlen⟩⟩
    let d : Array (Fin m.L.length) := (m.O.attach.map fun x => ⟨x.1, hok.lt x.2⟩).toArray
    have hdv : d.toList.map Fin.val = m.O := by
      show (m.O.attach.map _).map _ = m.O
      rw [List.map_map]
      exact List.attach_map_subtype_val m.O
    have hds : d.size = m.O.length := by rw [← Array.length_toList, ← List.length_map (f := Fin.val), hdv]
    have henc : d.toList.map (fun x : Fin m.L.length => natV x.1) = m.O.map natV := by
      have e := congrArg (List.map natV) hdv
      rw [List.map_map] at e
      exact e
    have hqlt := (own_lt h.ord (k := g) rfl).2
    have hH : Go.Sort.Holds (fun x : Fin m.L.length => natV x.1) w g 0 d := by
      intro j hj
      refine ⟨?_, frozen_of_row w g _ _ _ hg⟩
      rw [Nat.zero_add, cell_of_row w g j _ _ _ hg, ← Array.getElem?_toList]
      have e : (cur.toList.take (m.O.length * 1))[j]? = (m.O.map natV)[j]? := by rw [htk]
      rw [List.getElem?_take, if_pos (by omega)] at e
      rw [e, ← henc, List.getElem?_map]
      simp [hj]
    obtain ⟨n1, n2, n3⟩ := h.d3 g rfl
    have hcmp : CmpLays1 Try.prog 76 #[.pointer (some ⟨bp, 0, none⟩)] (fun x : Fin m.L.length => natV x.1) (fun x y => Lib.compareInt (rowL m.L x.1) (rowL m.L y.1)) g 0 d.size w := by
      intro mm os dk _ x y
      have hc := sortWorld_chg (fun x : Fin m.L.length => natV x.1) w g mm dk os
      refine (move2_any (hrd.chg hc (fun e => hbn (by rw [e]; exact Or.inr (Or.inr (Or.inr rfl)))) (fun e => n1 e.symm) (fun e => n3 (by rw [← e]; rfl))) x.1 y.1 x.2 y.2 hl).mono ?_
      rintro e w' ⟨rfl, n, rfl⟩
      exact ⟨rfl, n, #[], by rw [Go.Sort.grow_empty]⟩
    have hlt : ∀ x y : Fin m.L.length, ltOf (fun x y : Fin m.L.length => Lib.compareInt (rowL m.L x.1) (rowL m.L y.1)) x y = true ↔ rowL m.L x.1 < rowL m.L y.1 := fun x y => by
      unfold ltOf; rw [decide_eq_true_eq, cmp_lt]
    have hltf : ∀ x y : Fin m.L.length, ltOf (fun x y : Fin m.L.length => Lib.compareInt (rowL m.L x.1) (rowL m.L y.1)) x y = false ↔ ¬ rowL m.L x.1 < rowL m.L y.1 := fun x y => by
      rw [← hlt, Bool.not_eq_true]
    have hO : Go.Sort.SWO (ltOf (fun x y : Fin m.L.length => Lib.compareInt (rowL m.L x.1) (rowL m.L y.1))) :=
      ⟨fun x => (hltf x x).2 (by omega), fun x y z a b => (hlt x z).2 (by have := (hlt x y).1 a; have := (hlt y z).1 b; omega), fun x y z a b => (hltf x z).2 (by have := (hltf x y).1 a; have := (hltf y z).1 b; omega)⟩
    have eg : ∀ args w, (callFunc 76 args).run Try.prog w = .ok (.enter 76 args) w := enters_of Try.func76 (by kernel_rfl) rfl
    have hcon := Try.slices_SortFunc (fun x : Fin m.L.length => natV x.1) (fun _ => rfl) (fun x y => Lib.compareInt (rowL m.L x.1) (rowL m.L y.1)) hO 76 #[.pointer (some ⟨bp, 0, none⟩)] g 0 cap d w eg hcmp hH hqlt (by rw [hds]; have := hok.olen; omega)
    rw [hds] at hcon
    refine hcon.mono ?_
    rintro e w' ⟨rfl, d', n, os, hpi, hsi, rfl⟩
    have hd's : d'.size = m.O.length := by have := hpi.1; omega
    have hperm : (d'.toList.map Fin.val).Perm m.O := by
      have := hpi.2.2
      rw [Array.extract_eq_self_of_le (by omega), Array.extract_eq_self_of_le (by omega)] at this
      rw [← hdv]; exact this.map _
    have hch : Chg (fun b => b = g) w (sortWorld (fun x : Fin m.L.length => natV x.1) w g 0 n d' os) := sortWorld_chg _ _ _ _ _ _
    have hnd : (d'.toList.map Fin.val).Nodup := hperm.nodup_iff.2 hok.nd
    refine ⟨rfl, d'.toList.map Fin.val, hperm, List.pairwise_iff_getElem.2 (fun i j hi hj hij => ?_), ⟨hch.heap h.hp (fun e => n1 e.symm), h.ar.chg hch (fun k hk e => n2 (e ▸ hk)), hch.own h.tab (fun k hk e => n3 (e ▸ hk)), ?_, h.d1, h.d2, h.d3⟩, hch.mono (fun b e => by rw [e]; rfl)⟩
    · have hj' : j < d'.size := by simpa using hj
      have := hsi i j (Nat.zero_le _) hij (by omega)
      rw [hltf, getElem!_pos d' i (by omega), getElem!_pos d' j hj'] at this
      have hne : rowL m.L (d'.toList.map Fin.val)[i] ≠ rowL m.L (d'.toList.map Fin.val)[j] := fun e => by
        have := hinj _ (hperm.mem_iff.1 (List.getElem_mem hi)) _ (hperm.mem_iff.1 (List.getElem_mem hj)) e
        exact (List.pairwise_iff_getElem.1 hnd i j hi hj hij) this
      have e1 : (d'.toList.map Fin.val)[i] = (d'[i]'(by omega)).1 := by simp
      have e2 : (d'.toList.map Fin.val)[j] = (d'[j]'hj').1 := by simp
      show rowL m.L _ < rowL m.L _
      rw [e1, e2] at hne ⊢
      omega
    · have hl' : (d'.toList.map Fin.val).length = m.O.length := by simp [hd's]
      have := sortWorld_own (fun x : Fin m.L.length => natV x.1) h.ord n d' os hd's
      show World.ownsRow _ _ _ _ _ (d'.toList.map Fin.val).length ((d'.toList.map Fin.val).map natV)
      rw [hl', List.map_map]
      exact this

set_option maxHeartbeats 3200000 in
theorem pRowMove_v {S : Nat → Prop} {w : World} {p c : Nat} {L : List Int} {N : Nat} (h : PmV S w p c L N) (hc : c ≤ 1000000) (hL : L.length ≤ 1000000) (a b : Nat) (ha : a < L.length) (hb : b < L.length) :
    Calls Try.prog 30 #[.pointer (some ⟨p, 0, none⟩), .int .i64 a, .int .i64 b] w fun e w' => e = .returned (.int .i64 0) ∧ PmStep S w w' p c (mvL L a b) N := by
  obtain ⟨q, SA, lv, ov, m, hP0, hV, hml, hS⟩ := h
  have hlt := hP0.lt
  obtain ⟨W, hW⟩ : ∃ W, W = ((w.alloc (.cells #[.pointer (some ⟨p, 0, none⟩)] 43)).alloc (.cells #[.int .i64 (a : Int)] 3)).alloc (.cells #[.int .i64 (b : Int)] 3) := ⟨_, rfl⟩
  have hB : Below w.heap.size w W := by rw [hW]; exact ((below_al w _).alloc (by simp) _).alloc (by simp; omega) _
  have hsz : W.heap.size = w.heap.size + 3 := by rw [hW]; simp
  have c1 : W.cell? ⟨w.heap.size, 0, none⟩ = some (.pointer (some ⟨p, 0, none⟩)) := by
    rw [hW]
    refine ((below_al ((w.alloc (.cells #[.pointer (some ⟨p, 0, none⟩)] 43)).alloc (.cells #[.int .i64 (a : Int)] 3)) (.cells #[.int .i64 (b : Int)] 3)).cell (p := ⟨w.heap.size, 0, none⟩) (by simp; omega)).trans ?_
    exact ((below_al (w.alloc (.cells #[.pointer (some ⟨p, 0, none⟩)] 43)) (.cells #[.int .i64 (a : Int)] 3)).cell (p := ⟨w.heap.size, 0, none⟩) (by simp)).trans (World.cell?_alloc_at _ _ _ _ rfl)
  have c2 : W.cell? ⟨w.heap.size + 1, 0, none⟩ = some (.int .i64 (a : Int)) := by
    rw [hW]
    refine ((below_al ((w.alloc (.cells #[.pointer (some ⟨p, 0, none⟩)] 43)).alloc (.cells #[.int .i64 (a : Int)] 3)) (.cells #[.int .i64 (b : Int)] 3)).cell (p := ⟨w.heap.size + 1, 0, none⟩) (by simp)).trans ?_
    have : ((w.alloc (.cells #[.pointer (some ⟨p, 0, none⟩)] 43)).alloc (.cells #[.int .i64 (a : Int)] 3)).cell? ⟨(w.alloc (.cells #[.pointer (some ⟨p, 0, none⟩)] 43)).heap.size, 0, none⟩ = some (.int .i64 (a : Int)) := World.cell?_alloc_at _ _ _ _ rfl
    rwa [show (w.alloc (.cells #[.pointer (some ⟨p, 0, none⟩)] 43)).heap.size = w.heap.size + 1 by simp] at this
  have c3 : W.cell? ⟨w.heap.size + 2, 0, none⟩ = some (.int .i64 (b : Int)) := by
    rw [hW]
    have : (((w.alloc (.cells #[.pointer (some ⟨p, 0, none⟩)] 43)).alloc (.cells #[.int .i64 (a : Int)] 3)).alloc (.cells #[.int .i64 (b : Int)] 3)).cell? ⟨((w.alloc (.cells #[.pointer (some ⟨p, 0, none⟩)] 43)).alloc (.cells #[.int .i64 (a : Int)] 3)).heap.size, 0, none⟩ = some (.int .i64 (b : Int)) := World.cell?_alloc_at _ _ _ _ rfl
    rwa [show ((w.alloc (.cells #[.pointer (some ⟨p, 0, none⟩)] 43)).alloc (.cells #[.int .i64 (a : Int)] 3)).heap.size = w.heap.size + 2 by simp] at this
  have hP := hP0.below hB
  have hC0 : Chg (pmS p SA lv ov) w W := by rw [hW]; exact ((Chg.refl.alloc _).alloc _).alloc _
  have hR := hV.eR
  have d1 : decide ((a : Int) < 0) = false := decide_eq_false (by omega)
  have d2 : decide (m.R ≤ a) = false := decide_eq_false (by omega)
  have d3 : decide ((b : Int) < 0) = false := decide_eq_false (by omega)
  have d4 : decide (m.R ≤ b) = false := decide_eq_false (by omega)
  obtain ⟨_, _, _, c4, _, c5⟩ := hP.cells
  have HP := Lib.hid hP
  have HC0 := Lib.hid hC0
  have HLT := Lib.hid hlt
  have HV := Lib.hid hV
  have HC1 := Lib.hid c1
  have HC2 := Lib.hid c2
  have HC3 := Lib.hid c3
  have HR := Lib.hid hR
  have hpl : p < w.heap.size := hlt p (Or.inl rfl)
  have HSZ := Lib.hid hsz
  clear c5 hP hP0 hC0 hlt hV hB hR hsz
  go_enter Try.func30, Try.ntmps30
  go_wp2_with fail
  rw [← hW]
  clear hW
  go_quiet (fail)
  obtain ⟨n1, rfl⟩ : ∃ n1, n1 = nq := ⟨_, rfl⟩
  go_wp2_with fail
  have hP1 := HP.out.below (below_dN (Below.refl _ _) n1)
  have hok1 := HV.out.ok
  have key := pEach_any hP1 hok1 (by omega) (fMove a b) 75 #[.pointer (some ⟨w.heap.size + 1, 0, none⟩), .pointer (some ⟨w.heap.size + 2, 0, none⟩)] (enters_of Try.func75 (by kernel_rfl) rfl)
    (fun gl cap hlv W' L k hW hT hLl hk er ep => by
      have hgl := HLT.out gl (Or.inr (Or.inr (Or.inl (by rw [hlv]; rfl))))
      have hb := HV.out.row hk
      have hkl := hok1.lt hk
      have := pMove1_any hT (k := k) (by rw [hLl]; exact hkl) (hW.cell HC2.out (fun e => by have e : w.heap.size + 1 = gl := e; omega)) (hW.cell HC3.out (fun e => by have e : w.heap.size + 2 = gl := e; omega)) (by omega) (by omega) (by rw [er]; omega) (by rw [er]; omega)
      rw [er, ep] at this
      exact this)
  have HK := Lib.hid key
  clear key hP1 hok1 c2 c3 c4
  refine HK.out.mono ?_
  rintro e w1 ⟨rfl, hP1, hC1⟩
  have c1' : w1.cell? ⟨w.heap.size, 0, none⟩ = some (.pointer (some ⟨p, 0, none⟩)) := hC1.cell c1 (fun e => by have := HLT.out _ (Or.inr (Or.inr (Or.inl e))); exact absurd this (Nat.lt_irrefl _))
  have hV1 := HV.out.move ha hb
  have hs := sort_pm hP1 hV1.ok c1' (fun e => by have := HLT.out _ e; exact absurd this (Nat.lt_irrefl _)) (by show (eachL _ _ _).length ≤ _; rw [eachL_len]; omega) (fun x hx y hy e => by
    have h1 := hV1.row hx
    have h2 := hV1.row hy
    have hrow : ∀ z ∈ m.O, mvI a b (rowL (eachL (fMove a b) m.O m.L) z) = rowL m.L z := fun z hz => by
      rw [(eachL_rp (f := fMove a b) hz (HV.out.ok.lt hz)).1]
      exact mv_back a b _
    have e2 : rowL m.L x = rowL m.L y := by rw [← hrow x hx, ← hrow y hy]; exact congrArg _ e
    exact HV.out.row_inj hx hy e2)
  obtain ⟨_, _, c6, _, _, _⟩ := hP1.cells
  have HS := Lib.hid hs
  have HV1 := Lib.hid hV1
  have HCC := Lib.hid hC1
  clear hs hV1 hP1 hC1 c1
  go_wp2_with fail
  refine HS.out.mono ?_
  rintro e w2 ⟨rfl, O', hp, hso, hP2, hC2⟩
  have HP2 := Lib.hid hP2
  have HC2' := Lib.hid hC2
  have HPP := Lib.hid hp
  have HSO := Lib.hid hso
  clear hp hso hP2 hC2
  go_wp2_with fail
  go_ret
  have hv := HV1.out.perm HPP.out HSO.out
  exact ⟨rfl, PmStep.of HP2.out hv (by show (eachL _ _ _).length ≤ c; rw [eachL_len]; exact hml) (fun j hj => Or.inl (hS j hj)) ((((HC0.out.drewN n1).mono hS).trans HCC.out (fun b hb => Or.inl (hS b (Or.inr (Or.inr (Or.inl hb)))))).trans HC2'.out (fun b hb => Or.inl (hS b (Or.inr (Or.inr (Or.inr hb))))))⟩

end Go.Proofs.Ytpbmhdkhkbhgnaa

namespace Go.Proofs.Ytpbmhdkhkbhgnaa
set_option linter.unusedVariables false
set_option linter.unusedSimpArgs false
open Go.RowKit

/-- 'l = append(l, x)' of an element of two cells: the new row is the old one or a new block. -/
theorem wpList_pushP {P : Program} {w : World} {ops : Array Oper} {rest : List Oper} {o : Oper} {a : Act} {Q : Exit → Act → World → Prop} {e' : TypeId} {u1 u2 : Value} (hgd : o.guard = none) (s x : Operand) (t : TypeId)
    (ho : o.op = .call { callee := .builtin .append, args := #[s, x], argTypes := #[t, t] })
    (base : Nat) (e : TypeId) {z : Value} {bytes : Nat} (hinfo : (P.info? e).map (fun i => (i.zero, i.size, i.bytes)) = some (some z, 2, bytes)) (ht : P.underlying t = some (.slice e)) (hz1 : z.cells.size = 2)
    (v : Value) (n : Nat) (xs : List Value) (hs : a.eval s = v) (hown : w.ownsRow base e 2 v n xs)
    (hx : a.eval x = .slice (some ⟨w.heap.size, 0, none⟩) 1 1) (h1 : u1.oneCell' = true) (h2 : u2.oneCell' = true)
    (h63 : n + 1 ≤ maxLen) (hbytes : (n + 1) * bytes ≤ 140737488355328) (hbase : base ≤ w.heap.size)
    (h : ∀ g cap w', w'.ownsRow base e 2 (.slice (some ⟨g, 0, none⟩) (n + 1) cap) (n + 1) (xs ++ [u1, u2]) → w.grownBy w' v.ownBlock → (v.ownBlock = some g ∨ w.heap.size ≤ g) → g < w'.heap.size →
      wpList P ops Q rest (a.put o.dst (.slice (some ⟨g, 0, none⟩) (n + 1) cap)) w') : wpList P ops Q (o :: rest) a (w.alloc (.cells #[u1, u2] e')) := by
  obtain ⟨i, hi, hz, hsz, hby⟩ := info_parts hinfo
  refine wpList_append_lies (w.alloc (.cells #[u1, u2] e')) hgd s x t ho base e i z 2 bytes ht hi hz hsz hby hz1 (by omega) v n xs hs (hown.alloc _) ⟨w.heap.size, 0, none⟩ 1 1 [u1, u2] hx rfl ?_ ?_ (by omega) h63 hbytes ?_ _ rfl ?_
  · intro j u' hj
    match j, hj with
    | 0, hj => simp at hj; subst hj; simp [Addr.add]
    | 1, hj => simp at hj; subst hj; simp [Addr.add]
  · intro u' hu; simp at hu; rcases hu with rfl | rfl <;> assumption
  · simp; omega
  · intro g cap w' h1 h2 h3 h4
    exact h g cap w' h1 ⟨h2.os, h2.tape, h2.output, by have := h2.size; simp at this; omega, fun k hk hne => by
      rw [h2.block k (by simp; omega) hne]; exact Below.heap_alloc w _ k hk⟩ (h3.imp id (fun h => by simp at h; omega)) h4

end Go.Proofs.Ytpbmhdkhkbhgnaa

namespace Go.Proofs.Ytpbmhdkhkbhgnaa
set_option linter.unusedVariables false
set_option linter.unusedSimpArgs false
open Go.RowKit

theorem Try.infoPair : (Try.prog.info? 52).map (fun i => (i.zero, i.size, i.bytes)) = some (some (.agg #[.int .i64 0, .int .i64 0]), 2, 16) := by kernel_rfl

/-- Another arena state beside the same pairs. -/
theorem PmIn.setA {w w' : World} {p q : Nat} {SA SA' : Nat → Prop} {lv ov : Value} {m : Pm} {A' : Ar} (h : PmIn w p q SA lv ov m) (hA : IsArena w' q SA' A') (hc : Chg SA w w') (hs : ∀ k, SA' k → SA k ∨ w.heap.size ≤ k) : PmIn w' p q SA' lv ov ⟨A', m.L, m.O, m.R, m.N⟩ := by
  have hlt := h.lt
  have hn : ∀ k, k < w.heap.size → ¬ SA k → ¬ SA' k := fun k hk hn h => (hs k h).elim hn (fun h => by omega)
  exact ⟨hc.heap h.hp h.d1, hA, hc.own h.tab (fun k hk => (h.d2 k hk).2), hc.own h.ord (fun k hk => (h.d3 k hk).2.1), hn p (hlt p (Or.inl rfl)) h.d1,
    fun g hg => ⟨(h.d2 g hg).1, hn g (hlt g (Or.inr (Or.inr (Or.inl hg)))) (h.d2 g hg).2⟩, fun g hg => ⟨(h.d3 g hg).1, hn g (hlt g (Or.inr (Or.inr (Or.inr hg)))) (h.d3 g hg).2.1, (h.d3 g hg).2.2⟩⟩

/-- A pair is stored. -/
theorem PmIn.setPair {w : World} {p q gl n cap : Nat} {SA : Nat → Prop} {ov : Value} {m : Pm} (h : PmIn w p q SA (.slice (some ⟨gl, 0, none⟩) n cap) ov m) (hn : m.L.length = n) {k : Nat} (hk : k < n) (x y : Int) :
    PmIn ((w.setCell ⟨gl, k * 2, none⟩ (.int .i64 x)).setCell ⟨gl, k * 2 + 1, none⟩ (.int .i64 y)) p q SA (.slice (some ⟨gl, 0, none⟩) n cap) ov ⟨m.A, m.L.set k (x, y), m.O, m.R, m.N⟩ := by
  subst hn
  have hT : TabIs w gl cap m.L := h.tab
  obtain ⟨n1, n2⟩ := h.d2 gl rfl
  have hc : Chg (fun b => b = gl) w ((w.setCell ⟨gl, k * 2, none⟩ (.int .i64 x)).setCell ⟨gl, k * 2 + 1, none⟩ (.int .i64 y)) := (Chg.refl.setCell (S := fun b => b = gl) ⟨gl, k * 2, none⟩ (Or.inl rfl) _).setCell ⟨gl, k * 2 + 1, none⟩ (Or.inl rfl) _
  refine ⟨hc.heap h.hp (fun e => n1 e.symm), h.ar.chg hc (fun j hj e => n2 (by rw [← e]; exact hj)), ?_, hc.own h.ord (fun j hj e => (h.d3 j hj).2.2 (by rw [e]; rfl)), h.d1, h.d2, h.d3⟩
  have h1 := (hT.setRow hk x).setPos (k := k) (by simpa using hk) y
  have e : ((m.L.set k (x, posL m.L k)).set k (rowL (m.L.set k (x, posL m.L k)) k, y)) = m.L.set k (x, y) := by
    rw [List.set_set]; congr 2; simp [rowL, hk]
  rw [e] at h1
  unfold TabIs at h1
  rw [List.length_set] at h1
  show World.ownsRow _ _ _ _ _ (m.L.set k (x, y)).length _
  rw [List.length_set]
  exact h1

/-- Another order beside the same pairs. -/
theorem PmIn.setO {w w' : World} {p q g n c : Nat} {SA : Nat → Prop} {lv ov : Value} {m : Pm} {O' : List Nat} (h : PmIn w p q SA lv ov m) (hn : O'.length = n) (ho : w'.ownsRow 0 3 1 (.slice (some ⟨g, 0, none⟩) n c) n (O'.map natV)) (hc : Chg (fun b => ov.ownBlock = some b) w w') (hg : ov.ownBlock = some g ∨ w.heap.size ≤ g) :
    PmIn (w'.setCell ⟨p, 2, none⟩ (.slice (some ⟨g, 0, none⟩) n c)) p q SA lv (.slice (some ⟨g, 0, none⟩) n c) ⟨m.A, m.L, O', m.R, m.N⟩ := by
  subst hn
  have hlt := h.lt
  have hp : w'.heap[p]? = _ := hc.heap h.hp (fun e => (h.d3 p e).1 rfl)
  have hs : Chg (fun b => b = p) w' (w'.setCell ⟨p, 2, none⟩ (.slice (some ⟨g, 0, none⟩) O'.length c)) := Chg.refl.setCell (S := fun b => b = p) ⟨p, 2, none⟩ (Or.inl rfl) _
  have hgp : g ≠ p ∧ ¬ SA g ∧ lv.ownBlock ≠ some g := by
    rcases hg with hg | hg
    · exact h.d3 g hg
    · exact ⟨fun e => by have := hlt p (Or.inl rfl); omega, fun e => by have := hlt g (Or.inr (Or.inl e)); omega, fun e => by have := hlt g (Or.inr (Or.inr (Or.inl e))); omega⟩
  refine ⟨heap_setCell_same w' p 2 _ _ _ hp, (h.ar.chg hc (fun k hk e => (h.d3 k e).2.1 hk)).chg hs (fun k hk e => h.d1 (by rw [← e]; exact hk)), hs.own (hc.own h.tab (fun k hk e => (h.d3 k e).2.2 hk)) (fun k hk e => (h.d2 k hk).1 e), hs.own ho (fun k hk e => ?_), h.d1, h.d2, fun k hk => ?_⟩
  · injection hk with hk; subst hk; exact hgp.1 e
  · injection hk with hk; subst hk; exact hgp

/-- Another table beside the same order. -/
theorem PmIn.setL {w w' : World} {p q g n c : Nat} {SA : Nat → Prop} {lv ov : Value} {m : Pm} {L' : List (Int × Int)} (h : PmIn w p q SA lv ov m) (hn : L'.length = n) (ho : w'.ownsRow 0 52 2 (.slice (some ⟨g, 0, none⟩) n c) n (cellsL L')) (hc : Chg (fun b => lv.ownBlock = some b) w w') (hg : lv.ownBlock = some g ∨ w.heap.size ≤ g) :
    PmIn (w'.setCell ⟨p, 1, none⟩ (.slice (some ⟨g, 0, none⟩) n c)) p q SA (.slice (some ⟨g, 0, none⟩) n c) ov ⟨m.A, L', m.O, m.R, m.N⟩ := by
  subst hn
  have hlt := h.lt
  have hp : w'.heap[p]? = _ := hc.heap h.hp (fun e => (h.d2 p e).1 rfl)
  have hs : Chg (fun b => b = p) w' (w'.setCell ⟨p, 1, none⟩ (.slice (some ⟨g, 0, none⟩) L'.length c)) := Chg.refl.setCell (S := fun b => b = p) ⟨p, 1, none⟩ (Or.inl rfl) _
  have hgp : g ≠ p ∧ ¬ SA g ∧ ov.ownBlock ≠ some g := by
    rcases hg with hg | hg
    · exact ⟨(h.d2 g hg).1, (h.d2 g hg).2, fun e => (h.d3 g e).2.2 hg⟩
    · exact ⟨fun e => by have := hlt p (Or.inl rfl); omega, fun e => by have := hlt g (Or.inr (Or.inl e)); omega, fun e => by have := hlt g (Or.inr (Or.inr (Or.inr e))); omega⟩
  refine ⟨heap_setCell_same w' p 1 _ _ _ hp, (h.ar.chg hc (fun k hk e => (h.d2 k e).2 hk)).chg hs (fun k hk e => h.d1 (by rw [← e]; exact hk)), hs.own ho (fun k hk e => ?_), hs.own (hc.own h.ord (fun k hk e => (h.d3 k hk).2.2 e)) (fun k hk e => (h.d3 k hk).1 e), h.d1, fun k hk => ?_, fun k hk => ⟨(h.d3 k hk).1, (h.d3 k hk).2.1, fun e => ?_⟩⟩
  · injection hk with hk; subst hk; exact hgp.1 e
  · injection hk with hk; subst hk; exact ⟨hgp.1, hgp.2.1⟩
  · injection e with e; subst e; exact hgp.2.2 hk

set_option maxHeartbeats 6400000 in
theorem pAdd_ok {S : Nat → Prop} {w : World} {p c : Nat} {L : List Int} {N : Nat} (h : PmV S w p c L N) (hc : c ≤ 1000000) (hL : L.length ≤ 1000000) (hN : N ≤ 1000000) (x y : Nat) (hx : x < L.length) (hy : y < N) (h1 : gL L x < 0) (h2 : ∀ r, gL L r ≠ y) :
    Calls Try.prog 28 #[.pointer (some ⟨p, 0, none⟩), .int .i64 x, .int .i64 y] w fun e w' => e = .returned (.int .i64 0) ∧ PmStep S w w' p (c + 1) (L.set x (y : Int)) N := by
  obtain ⟨q, SA, lv, ov, m, hP0, hV, hml, hS⟩ := h
  have hlt := hP0.lt
  have hpl : p < w.heap.size := hlt p (Or.inl rfl)
  have hR := hV.eR
  have hN' := hV.eN
  have d1 : decide ((x : Int) < 0) = false := decide_eq_false (by omega)
  have d2 : decide (m.R ≤ x) = false := decide_eq_false (by omega)
  have d3 : decide ((y : Int) < 0) = false := decide_eq_false (by omega)
  have d4 : decide (m.N ≤ y) = false := decide_eq_false (by omega)
  obtain ⟨_, _, _, c3, c4, _⟩ := hP0.cells
  have hat := pAt_any hP0 hV.ok hV.so (by omega) x
  have his : m.is x = false := by rw [← Bool.not_eq_true, hV.is]; omega
  rw [his] at hat
  have hhas : m.has y = -1 := by
    rcases hV.has y with ⟨i, k, _, _, _, h4, _⟩ | ⟨h4, _⟩
    · exact absurd h4 (h2 _)
    · exact h4
  obtain ⟨at0, hat0⟩ : ∃ at0, m.cnt x = at0 := ⟨_, rfl⟩
  rw [hat0] at hat
  have hal : at0 ≤ m.O.length := by rw [← hat0]; exact List.countP_le_length
  have hol := hV.ok.olen
  have hhas2 : ∀ W, PmIn W p q SA lv ov m → Calls Try.prog 71 #[.pointer (some ⟨p, 0, none⟩), .int .i64 (y : Int)] W fun e w' => e = .returned (.int .i64 (-1)) ∧ Below W.heap.size W w' := fun W hW => by
    have := pHas_any hW hV.ok (by omega) y
    rwa [hhas] at this
  have hlen := hV.ok.len
  have hTm := hP0.ar.ok.le
  have hmost := hV.ok.most
  have hlive : m.A.live ≠ m.A.M := by unfold Ar.live; omega
  have HV := Lib.hid hV
  have HAT := Lib.hid hat
  have HHAS := Lib.hid hhas2
  have HLT := Lib.hid hlt
  have HL := Lib.hid hlive
  have HAT0 := Lib.hid hat0
  have HLEN := Lib.hid hlen
  have HMOST := Lib.hid hmost
  have HR := Lib.hid hR
  have HN := Lib.hid hN'
  have H2 := Lib.hid h2
  have HOL := Lib.hid hol
  clear hat hhas2 hlive hat0 hV hlt hhas his hlen hmost hR hN' h2 hP0 hol
  cases hF : m.A.F.getLast? with
  | some k =>
    have HF := Lib.hid hF
    clear hF
    go_enter Try.func28, Try.ntmps28
    go_wp2_with fail
    refine HAT.out.mono ?_
    rintro e w1 ⟨rfl, hP1, hC1⟩
    have hh := HHAS.out w1 hP1
    have HH := Lib.hid hh
    have HP1 := Lib.hid hP1
    have HC1 := Lib.hid hC1
    clear hh hP1 hC1 c3 c4
    go_wp2_with fail
    refine HH.out.mono ?_
    rintro e w2 ⟨rfl, hB2⟩
    have hP2 := HP1.out.below hB2
    have htk := arTake_pop hP2.ar HL.out HF.out
    obtain ⟨e0, _, _, _, _, _⟩ := hP2.cells
    have HTK := Lib.hid htk
    have HP2 := Lib.hid hP2
    have HB2 := Lib.hid hB2
    clear htk hP2 hB2
    go_wp2_with fail
    refine HTK.out.mono ?_
    rintro e w3 ⟨rfl, SA3, hA3, hC3, hS3⟩
    have hP3 := HP2.out.setA hA3 hC3 hS3
    have hkl : k < m.L.length := by have := HP2.out.ar.ok.last_lt HF.out; have := HLEN.out; omega
    have d5 : decide (m.L.length ≤ k) = false := decide_eq_false (by omega)
    obtain ⟨gl, capl, hlv⟩ : ∃ gl capl, lv = .slice (some ⟨gl, 0, none⟩) m.L.length capl := by
      rcases HP2.out.tab.2 with ⟨_, h0⟩ | ⟨g, cap, cur, hv, _⟩
      · omega
      · exact ⟨g, cap, hv⟩
    have hok' := HP2.out.ar.ok
    have hTf : m.A.T[k]? = some false := (hok'.iff k).2 (List.mem_of_getLast? HF.out)
    have hkO : k ∉ m.O := fun hm => by rw [(HV.out.ok.iff k).2 hm] at hTf; cases hTf
    have hAk : ∀ j, (m.A.pop k).T[j]? = some true ↔ j ∈ m.O ∨ j = k := fun j => by
      show (m.A.T.set k true)[j]? = some true ↔ _
      rw [List.getElem?_set]
      by_cases e : k = j
      · subst e
        rw [if_pos rfl, if_pos (by have := HLEN.out; omega)]; simp
      · rw [if_neg e, HV.out.ok.iff j]
        exact ⟨Or.inl, fun h => h.elim id (fun h => absurd h.symm e)⟩
    have hAl : (m.A.pop k).T.length = m.L.length := by show (m.A.T.set k true).length = _; rw [List.length_set]; exact HLEN.out
    have hT1 : ∀ j ∈ m.O, rowL (m.L.set k ((x : Int), (y : Int))) j = rowL m.L j ∧ posL (m.L.set k ((x : Int), (y : Int))) j = posL m.L j := fun j hj => by
      have : k ≠ j := fun e => hkO (e ▸ hj)
      simp [rowL, posL, List.getElem?_set, this]
    have HFIN := Lib.hid (HV.out.add hx hy h1 H2.out (A' := m.A.pop k) (T' := m.L.set k ((x : Int), (y : Int))) rfl hAk (by rw [List.length_set]; exact hAl) hkO hT1 (by simp [rowL, hkl]) (by simp [posL, hkl]))
    have hTl : (m.L.set k ((x : Int), (y : Int))).length ≤ c + 1 := by rw [List.length_set]; omega
    have HTl := Lib.hid hTl
    clear hAk hAl hT1 hkO hTf hok' hTl
    have HLT0 : Hid (∀ j, pmS p SA3 lv ov j → S j ∨ w.heap.size ≤ j) := by
      intro j hj
      have s1 := HC1.out.size
      have s2 := HB2.out.size
      rcases hj with e | e | e
      · exact Or.inl (hS j (Or.inl e))
      · exact (hS3 j e).imp (fun h => hS j (Or.inr (Or.inl h))) (fun h => by omega)
      · exact Or.inl (hS j (Or.inr (Or.inr e)))
    have HCW : Hid (Chg S w w3) := by
      show Chg S w w3
      exact ((HC1.out.mono (fun b hb => hS b (Or.inr (Or.inr (Or.inr hb))))).trans (Chg.of_below (S := fun _ => False) HB2.out) (fun _ hf => hf.elim)).trans hC3 (fun b hb => Or.inl (hS b (Or.inr (Or.inl hb))))
    have hSlv : ∀ b, lv.ownBlock = some b → S b ∨ w.heap.size ≤ b := fun b hb => Or.inl (hS b (Or.inr (Or.inr (Or.inl hb))))
    have hSov : ∀ b, ov.ownBlock = some b → S b ∨ w.heap.size ≤ b := fun b hb => Or.inl (hS b (Or.inr (Or.inr (Or.inr hb))))
    have HSlv := Lib.hid hSlv
    have HSov := Lib.hid hSov
    clear hSlv hSov
    clear hA3 hC3 hS3
    subst hlv
    obtain ⟨n1, hn1⟩ : ∃ n1, m.L.length = n1 := ⟨_, rfl⟩
    have hT3 : TabIs w3 gl capl m.L := hP3.tab
    obtain ⟨t1, t2, e6⟩ := hT3.cells hkl
    obtain ⟨e0, e1, e2, _, _, e5⟩ := hP3.cells
    rw [hn1] at hP3 e1 hkl d5 HLT0 HSlv
    have HN1 := Lib.hid hn1
    clear hT3 hn1
    obtain ⟨W, hW⟩ : ∃ W, W = w3 := ⟨_, rfl⟩
    obtain ⟨T1, hT1⟩ : ∃ T1, T1 = m.L := ⟨_, rfl⟩
    obtain ⟨A1, hA1⟩ : ∃ A1, A1 = m.A.pop k := ⟨_, rfl⟩
    rw [← hT1] at HFIN HTl HN1 t1 t2 hP3
    rw [← hA1] at HFIN hP3
    rw [← hW] at hP3 t1 t2 e0 e1 e2 e5 e6 HCW ⊢
    clear hW hT1 hA1
    generalize rowL T1 k = r0 at t1
    generalize posL T1 k = p0 at t2
    have j0 : (0 : Int) ≤ (k : Int) := by omega
    have j1 : (k : Int) < (n1 : Int) := by omega
    have n2 : gl ≠ p := (hP3.d2 gl rfl).1
    have n3 : p ≠ gl := fun e => n2 e.symm
    have HP4 := Lib.hid hP3
    clear hP3
    go_wp2_with fail
    refine wp_loop_rounds 1 ?_
    rw [rounds_succ]
    go_wp2_with fail
    have hP5 := HP4.out.setPair HN1.out hkl x y
    have hC5 : Chg S w ((W.setCell ⟨gl, k * 2, none⟩ (.int .i64 (x : Int))).setCell ⟨gl, k * 2 + 1, none⟩ (.int .i64 (y : Int))) := (HCW.out.setCell ⟨gl, k * 2, none⟩ (HSlv.out gl rfl) _).setCell ⟨gl, k * 2 + 1, none⟩ (HSlv.out gl rfl) _
    have hsz5 : ((W.setCell ⟨gl, k * 2, none⟩ (.int .i64 (x : Int))).setCell ⟨gl, k * 2 + 1, none⟩ (.int .i64 (y : Int))).heap.size = W.heap.size := by simp [World.setCell]
    rw [← hsz5]
    generalize (W.setCell ⟨gl, k * 2, none⟩ (.int .i64 (x : Int))).setCell ⟨gl, k * 2 + 1, none⟩ (.int .i64 (y : Int)) = w5 at *
    have hP6 := hP5.below (below_al w5 (.cells #[.int .i64 (k : Int)] 3))
    obtain ⟨oa, oc, hov, hoz, hob⟩ := own_slice hP6.ord
    have hov : ov = .slice oa m.O.length oc := hov
    have hord : (w5.alloc (.cells #[.int .i64 (k : Int)] 3)).ownsRow 0 3 1 (.slice oa m.O.length oc) m.O.length ((natL m.O).map (Value.int .i64)) := by
      rw [← natV_natL, ← hov]; exact hP6.ord
    have hins := insert_own (i := at0) (x := (k : Int)) (vb := w5.heap.size) (vc := 1) hord hal (heap_alloc_new w5 _) (fun b hb e => by
      rw [← hov] at hb
      have := hP5.lt b (Or.inr (Or.inr (Or.inr hb)))
      omega) (by have := HOL.out; omega) (Nat.zero_le _)
    rw [← hov] at hins
    have HINS := Lib.hid hins
    have HP6 := Lib.hid hP6
    have HC6 : Hid (Chg S w (w5.alloc (.cells #[.int .i64 (k : Int)] 3))) := hC5.alloc _
    clear hins hord hov hoz hob hP5 hP6 hC5 hsz5 e0 e1 e2 e5 e6 t1 t2
    refine HINS.out.mono ?_
    rintro e w6 hpost
    obtain ⟨g, c', rfl, ho6, hC7, hg6⟩ := hpost
    have hp6 := hC7.heap HP6.out.hp (fun e => (HP6.out.d3 p e).1 rfl)
    have e2 : w6.cell? ⟨p, 2, none⟩ = some ov := by rw [cell_of_row w6 p 2 _ _ _ hp6]; rfl
    have e5 := frozen_of_row w6 p 2 _ _ hp6
    have hcn : (insA m.O at0 k).map natV = (insA (natL m.O) at0 (k : Int)).map (Value.int .i64) := by
      rw [natV_natL]; congr 1; simp [insA, natL, List.map_take, List.map_drop]
    rw [← hcn] at ho6
    have hP7 := HP6.out.setO (insA_len hal) ho6 hC7 hg6
    have hC8 : Chg S w (w6.setCell ⟨p, 2, none⟩ (.slice (some ⟨g, 0, none⟩) (m.O.length + 1) c')) := (HC6.out.trans hC7 (fun b hb => HSov.out b hb)).setCell ⟨p, 2, none⟩ (HLT0.out p (Or.inl rfl)) _
    have HP7 := Lib.hid hP7
    have HC8 := Lib.hid hC8
    have HG6 := Lib.hid hg6
    clear hp6 hcn ho6 hC7 hg6 hP7 hC8
    go_wp2_with fail
    go_ret
    have hv := HFIN.out
    rw [HAT0.out] at hv
    refine ⟨rfl, PmStep.of HP7.out hv HTl.out (fun j hj => ?_) HC8.out⟩
    rcases hj with hj | hj | hj | hj
    · exact HLT0.out j (Or.inl hj)
    · exact HLT0.out j (Or.inr (Or.inl hj))
    · exact HSlv.out j hj
    · injection hj with hj
      subst hj
      rcases HG6.out with h | h
      · exact HSov.out _ h
      · exact Or.inr (by have := HC6.out.size; show w.heap.size ≤ g; omega)
  | none =>
    have hF0 : m.A.F = [] := List.getLast?_eq_none_iff.1 hF
    have HF := Lib.hid hF0
    clear hF hF0
    obtain ⟨k, hk⟩ : ∃ k, m.L.length = k := ⟨_, rfl⟩
    have HK := Lib.hid hk
    clear hk
    go_enter Try.func28, Try.ntmps28
    go_wp2_with fail
    refine HAT.out.mono ?_
    rintro e w1 ⟨rfl, hP1, hC1⟩
    have hh := HHAS.out w1 hP1
    have HH := Lib.hid hh
    have HP1 := Lib.hid hP1
    have HC1 := Lib.hid hC1
    clear hh hP1 hC1 c3 c4
    go_wp2_with fail
    refine HH.out.mono ?_
    rintro e w2 ⟨rfl, hB2⟩
    have hP2 := HP1.out.below hB2
    have htk := arTake_more hP2.ar HL.out HF.out
    rw [HLEN.out, HK.out] at htk
    obtain ⟨e0, _, _, _, _, _⟩ := hP2.cells
    have HTK := Lib.hid htk
    have HP2 := Lib.hid hP2
    have HB2 := Lib.hid hB2
    clear htk hP2 hB2
    go_wp2_with fail
    refine HTK.out.mono ?_
    rintro e w3 ⟨rfl, SA3, hA3, hC3, hS3⟩
    have hP3 := HP2.out.setA hA3 hC3 hS3
    have hkO : k ∉ m.O := fun hm => by have := HV.out.ok.lt hm; have := HK.out; omega
    have hAk : ∀ j, (m.A.more).T[j]? = some true ↔ j ∈ m.O ∨ j = k := fun j => by
      show (m.A.T ++ [true])[j]? = some true ↔ _
      have hk := HK.out
      have hl := HLEN.out
      rw [List.getElem?_append]
      by_cases e : j < m.A.T.length
      · rw [if_pos e, HV.out.ok.iff j]
        exact ⟨Or.inl, fun h => h.elim id (fun h => by omega)⟩
      · rw [if_neg e]
        constructor
        · intro h
          have := (List.getElem?_eq_some_iff.1 h).1
          simp at this
          exact Or.inr (by omega)
        · rintro (h | h)
          · have := HV.out.ok.lt h; omega
          · have : j - m.A.T.length = 0 := by omega
            rw [this]; rfl
    have hAl : (m.A.more).T.length = k + 1 := by show (m.A.T ++ [true]).length = _; have hk := HK.out; have hl := HLEN.out; simp; omega
    have hTl' : (m.L ++ [((0 : Int), (0 : Int))]).length = k + 1 := by simp; exact HK.out
    have hT1 : ∀ j ∈ m.O, rowL ((m.L ++ [((0 : Int), (0 : Int))]).set k ((x : Int), (y : Int))) j = rowL m.L j ∧ posL ((m.L ++ [((0 : Int), (0 : Int))]).set k ((x : Int), (y : Int))) j = posL m.L j := fun j hj => by
      have h3 : k ≠ j := fun e => hkO (e ▸ hj)
      have h4 := HV.out.ok.lt hj
      simp [rowL, posL, List.getElem?_set, h3, List.getElem?_append, h4]
    have HFIN := Lib.hid (HV.out.add hx hy h1 H2.out (A' := m.A.more) (T' := (m.L ++ [((0 : Int), (0 : Int))]).set k ((x : Int), (y : Int))) rfl hAk (by rw [List.length_set, hTl']; exact hAl) hkO hT1 (by simp [rowL, HK.out]) (by simp [posL, HK.out]))
    have hTl : ((m.L ++ [((0 : Int), (0 : Int))]).set k ((x : Int), (y : Int))).length ≤ c + 1 := by rw [List.length_set, hTl']; have := HK.out; omega
    have HTl := Lib.hid hTl
    clear hAk hAl hT1 hkO hTl
    have HCW : Hid (Chg S w w3) := by
      show Chg S w w3
      exact ((HC1.out.mono (fun b hb => hS b (Or.inr (Or.inr (Or.inr hb))))).trans (Chg.of_below (S := fun _ => False) HB2.out) (fun _ hf => hf.elim)).trans hC3 (fun b hb => Or.inl (hS b (Or.inr (Or.inl hb))))
    have HSA3 : Hid (∀ j, SA3 j → S j ∨ w.heap.size ≤ j) := by
      intro j e
      have s1 := HC1.out.size
      have s2 := HB2.out.size
      exact (hS3 j e).imp (fun h => hS j (Or.inr (Or.inl h))) (fun h => by omega)
    have hSov : ∀ b, ov.ownBlock = some b → S b ∨ w.heap.size ≤ b := fun b hb => Or.inl (hS b (Or.inr (Or.inr (Or.inr hb))))
    have HSov := Lib.hid hSov
    clear hSov
    obtain ⟨la, lc, hlv, hlz, hlb⟩ := own_slice HP2.out.tab
    rw [HK.out] at hlv
    have htab := hP3.tab
    have hk3 : m.L.length = k := HK.out
    have htab' : w3.ownsRow 0 52 2 lv k (cellsL m.L) := by rw [← hk3]; exact htab
    rw [hlv] at htab'
    have hkb : k ≤ 1000000 := by omega
    obtain ⟨e0, e1, e2, _, _, e5⟩ := hP3.cells
    rw [hlv] at e1
    have hlo : ∀ b, lv.ownBlock = some b → S b ∨ w.heap.size ≤ b := fun b hb => Or.inl (hS b (Or.inr (Or.inr (Or.inl hb))))
    have HLO := Lib.hid hlo
    have HLV := Lib.hid hlv
    have HP3 := Lib.hid hP3
    have HSP := Lib.hid (hS p (Or.inl rfl))
    have npl : ∀ g, lv.ownBlock = some g ∨ w3.heap.size ≤ g → g ≠ p ∧ p ≠ g := fun g hg => by
      have := HP3.out.lt p (Or.inl rfl)
      rcases hg with hg | hg
      · exact ⟨(HP3.out.d2 g hg).1, fun e => (HP3.out.d2 g hg).1 e.symm⟩
      · exact ⟨by omega, by omega⟩
    have NPL := Lib.hid npl
    clear hA3 hC3 hS3 hlz hlb htab hP3 hk3 hlo hlv hS npl
    go_wp2_with fail
    refine wp_loop_rounds 2 ?_
    rw [rounds_succ]
    go_wp2_with (at_builtin; refine wpList_pushP rfl _ _ 49 rfl 0 52 Try.infoPair Try.underlying49 rfl _ _ _ rfl htab' rfl rfl rfl ?c1 ?c2 ?c3 ?_)
    case c1 => unfold maxLen; omega
    case c2 => omega
    case c3 => exact Nat.zero_le _
    intro gl capl w4 ho4 hg4 hl4 hb4
    have hsz := hg4.size
    have hb4' : lv.ownBlock = some gl ∨ w3.heap.size ≤ gl := by rw [HLV.out]; exact hl4
    have hc4 : Chg (fun b => lv.ownBlock = some b) w3 w4 := by
      rw [HLV.out]
      exact Chg.refl.grown hg4 (fun k hk => Or.inl hk)
    obtain ⟨n2, n3⟩ := NPL.out gl hb4'
    have hp4 := hc4.heap HP3.out.hp (fun e => (HP3.out.d2 p e).1 rfl)
    have e1' : w4.cell? ⟨p, 1, none⟩ = some lv := by rw [cell_of_row w4 p 1 _ _ _ hp4]; rfl
    have e5' := frozen_of_row w4 p 1 _ _ hp4
    have hcl : cellsL m.L ++ [Value.int .i64 0, Value.int .i64 0] = cellsL (m.L ++ [((0 : Int), (0 : Int))]) := by
      have : ∀ (l : List (Int × Int)), cellsL l ++ [Value.int .i64 0, Value.int .i64 0] = cellsL (l ++ [((0 : Int), (0 : Int))]) := by
        intro l
        induction l with
        | nil => rfl
        | cons a l ih => show _ :: _ :: (cellsL l ++ _) = _ :: _ :: cellsL (l ++ _); rw [ih]
      exact this _
    rw [hcl] at ho4
    have hP5 := HP3.out.setL hTl' ho4 hc4 hb4'
    have hCW5 : Chg S w (w4.setCell ⟨p, 1, none⟩ (.slice (some ⟨gl, 0, none⟩) (k + 1) capl)) := (HCW.out.trans hc4 (fun b hb => HLO.out b hb)).setCell ⟨p, 1, none⟩ (Or.inl HSP.out) _
    have hgS : S gl ∨ w.heap.size ≤ gl := by
      rcases hb4' with h | h
      · exact HLO.out gl h
      · exact Or.inr (by have := HCW.out.size; omega)
    have HP5 := Lib.hid hP5
    have HCW5 := Lib.hid hCW5
    have HGS := Lib.hid hgS
    have HTL := Lib.hid hTl'
    clear hg4 hl4 ho4 hcl hc4 hb4' hp4 e1 htab' hP5 hCW5 hgS hTl' e0 e2 e5
    clear HCW
    go_wp2_with fail
    obtain ⟨W, hW⟩ : ∃ W, W = w4.setCell ⟨p, 1, none⟩ (.slice (some ⟨gl, 0, none⟩) (k + 1) capl) := ⟨_, rfl⟩
    rw [← hW] at HP5 HCW5 ⊢
    clear hW e1' e5' hsz hb4
    have HCW := HCW5
    obtain ⟨n1, hn1⟩ : ∃ n1, n1 = k + 1 := ⟨_, rfl⟩
    obtain ⟨T1, hT1⟩ : ∃ T1, T1 = m.L ++ [((0 : Int), (0 : Int))] := ⟨_, rfl⟩
    obtain ⟨A1, hA1⟩ : ∃ A1, A1 = m.A.more := ⟨_, rfl⟩
    have hP3 := HP5.out
    have hkl : k < n1 := by omega
    rw [← hT1] at HFIN HTl HTL hP3
    rw [← hA1] at HFIN hP3
    rw [← hn1] at HTL hP3
    have hTe := HTL.out
    have hT3 : TabIs W gl capl T1 := by have := hP3.tab; unfold TabIs; rw [hTe]; show World.ownsRow _ _ _ _ _ _ _; rw [← hTe]; rw [← hTe] at this; exact this
    have HN1 : Hid (T1.length = n1) := hTe
    obtain ⟨t1, t2, e6⟩ := hT3.cells (k := k) (by omega)
    obtain ⟨e0, e1, e2, _, _, e5⟩ := hP3.cells
    have d5 : decide (n1 ≤ k) = false := decide_eq_false (by omega)
    have HLT0 : Hid (∀ j, pmS p SA3 (.slice (some ⟨gl, 0, none⟩) n1 capl) ov j → S j ∨ w.heap.size ≤ j) := by
      rintro j (rfl | hj | hj | hj)
      · exact Or.inl HSP.out
      · exact HSA3.out j hj
      · injection hj with hj; subst hj; exact HGS.out
      · exact HSov.out j hj
    have HSlv : Hid (∀ b, (Value.slice (some ⟨gl, 0, none⟩) n1 capl).ownBlock = some b → S b ∨ w.heap.size ≤ b) := by
      intro b hb
      injection hb with hb; subst hb; exact HGS.out
    rw [← hn1] at ⊢
    clear hT3 hTe hn1 hT1 hA1 HTL n2 n3
    generalize rowL T1 k = r0 at t1
    generalize posL T1 k = p0 at t2
    have j0 : (0 : Int) ≤ (k : Int) := by omega
    have j1 : (k : Int) < (n1 : Int) := by omega
    have n2 : gl ≠ p := (hP3.d2 gl rfl).1
    have n3 : p ≠ gl := fun e => n2 e.symm
    have HP4 := Lib.hid hP3
    clear hP3
    rw [rounds_succ]
    go_wp2_with fail
    have hP5 := HP4.out.setPair HN1.out hkl x y
    have hC5 : Chg S w ((W.setCell ⟨gl, k * 2, none⟩ (.int .i64 (x : Int))).setCell ⟨gl, k * 2 + 1, none⟩ (.int .i64 (y : Int))) := (HCW.out.setCell ⟨gl, k * 2, none⟩ (HSlv.out gl rfl) _).setCell ⟨gl, k * 2 + 1, none⟩ (HSlv.out gl rfl) _
    have hsz5 : ((W.setCell ⟨gl, k * 2, none⟩ (.int .i64 (x : Int))).setCell ⟨gl, k * 2 + 1, none⟩ (.int .i64 (y : Int))).heap.size = W.heap.size := by simp [World.setCell]
    rw [← hsz5]
    generalize (W.setCell ⟨gl, k * 2, none⟩ (.int .i64 (x : Int))).setCell ⟨gl, k * 2 + 1, none⟩ (.int .i64 (y : Int)) = w5 at *
    have hP6 := hP5.below (below_al w5 (.cells #[.int .i64 (k : Int)] 3))
    obtain ⟨oa, oc, hov, hoz, hob⟩ := own_slice hP6.ord
    have hov : ov = .slice oa m.O.length oc := hov
    have hord : (w5.alloc (.cells #[.int .i64 (k : Int)] 3)).ownsRow 0 3 1 (.slice oa m.O.length oc) m.O.length ((natL m.O).map (Value.int .i64)) := by
      rw [← natV_natL, ← hov]; exact hP6.ord
    have hins := insert_own (i := at0) (x := (k : Int)) (vb := w5.heap.size) (vc := 1) hord hal (heap_alloc_new w5 _) (fun b hb e => by
      rw [← hov] at hb
      have := hP5.lt b (Or.inr (Or.inr (Or.inr hb)))
      omega) (by have := HOL.out; omega) (Nat.zero_le _)
    rw [← hov] at hins
    have HINS := Lib.hid hins
    have HP6 := Lib.hid hP6
    have HC6 : Hid (Chg S w (w5.alloc (.cells #[.int .i64 (k : Int)] 3))) := hC5.alloc _
    clear hins hord hov hoz hob hP5 hP6 hC5 hsz5 e0 e1 e2 e5 e6 t1 t2
    refine HINS.out.mono ?_
    rintro e w6 hpost
    obtain ⟨g, c', rfl, ho6, hC7, hg6⟩ := hpost
    have hp6 := hC7.heap HP6.out.hp (fun e => (HP6.out.d3 p e).1 rfl)
    have e2 : w6.cell? ⟨p, 2, none⟩ = some ov := by rw [cell_of_row w6 p 2 _ _ _ hp6]; rfl
    have e5 := frozen_of_row w6 p 2 _ _ hp6
    have hcn : (insA m.O at0 k).map natV = (insA (natL m.O) at0 (k : Int)).map (Value.int .i64) := by
      rw [natV_natL]; congr 1; simp [insA, natL, List.map_take, List.map_drop]
    rw [← hcn] at ho6
    have hP7 := HP6.out.setO (insA_len hal) ho6 hC7 hg6
    have hC8 : Chg S w (w6.setCell ⟨p, 2, none⟩ (.slice (some ⟨g, 0, none⟩) (m.O.length + 1) c')) := (HC6.out.trans hC7 (fun b hb => HSov.out b hb)).setCell ⟨p, 2, none⟩ (HLT0.out p (Or.inl rfl)) _
    have HP7 := Lib.hid hP7
    have HC8 := Lib.hid hC8
    have HG6 := Lib.hid hg6
    clear hp6 hcn ho6 hC7 hg6 hP7 hC8
    go_wp2_with fail
    go_ret
    have hv := HFIN.out
    rw [HAT0.out] at hv
    refine ⟨rfl, PmStep.of HP7.out hv HTl.out (fun j hj => ?_) HC8.out⟩
    rcases hj with hj | hj | hj | hj
    · exact HLT0.out j (Or.inl hj)
    · exact HLT0.out j (Or.inr (Or.inl hj))
    · exact HSlv.out j hj
    · injection hj with hj
      subst hj
      rcases HG6.out with h | h
      · exact HSov.out _ h
      · exact Or.inr (by have := HC6.out.size; show w.heap.size ≤ g; omega)

end Go.Proofs.Ytpbmhdkhkbhgnaa

namespace Go.Proofs.Ytpbmhdkhkbhgnaa
set_option linter.unusedVariables false
set_option linter.unusedSimpArgs false
open Go.RowKit

/-- A row of pairs is given. -/
def GivesP (B : Nat) (w : World) (l : List (Int × Int)) (e : Ending) (w' : World) : Prop := ∃ a c, e = .returned (.slice a l.length c) ∧ w'.ownsRow B 52 2 (.slice a l.length c) l.length (cellsL l) ∧ Below B w w'
theorem cellsL_snoc : ∀ (l : List (Int × Int)) (x : Int × Int), cellsL l ++ [.int .i64 x.1, .int .i64 x.2] = cellsL (l ++ [x])
  | [], x => rfl
  | y :: l, x => by show _ :: _ :: (cellsL l ++ _) = _ :: _ :: cellsL (l ++ _); rw [cellsL_snoc l x]

def Pm.prs (m : Pm) (O : List Nat) : List (Int × Int) := O.map fun k => (rowL m.L k, posL m.L k)
theorem Pm.prs_snoc (m : Pm) {O : List Nat} {i k : Nat} (hk : O[i]? = some k) : m.prs (O.take (i + 1)) = m.prs (O.take i) ++ [(rowL m.L k, posL m.L k)] := by
  unfold Pm.prs; rw [List.take_add_one, hk]; simp

set_option maxHeartbeats 3200000 in
theorem pAll_any {w : World} {p q : Nat} {SA : Nat → Prop} {lv ov : Value} {m : Pm} (h : PmIn w p q SA lv ov m) (hok : m.Ok) (hl : m.L.length ≤ 1000000000) :
    Calls Try.prog 34 #[.pointer (some ⟨p, 0, none⟩)] w (GivesP w.heap.size w (m.prs m.O)) := by
  by_cases h0 : m.O.length = 0
  · have e0 : m.O = [] := List.eq_nil_of_length_eq_zero h0
    obtain ⟨_, _, c2, _, _, _⟩ := h.cells
    obtain ⟨a, c, hov, _, _⟩ := own_slice h.ord
    have HE : Hid (GivesP w.heap.size w (m.prs m.O) (.returned (.slice none 0 0)) w) := by
      show GivesP _ _ _ _ _
      rw [e0]
      exact ⟨none, 0, rfl, World.ownsRow_nil _ _ _ _, Below.refl _ _⟩
    rw [hov, h0] at c2
    clear h hok e0 hov
    go_enter Try.func34, Try.ntmps34
    go_wp2_with fail
    go_loopw [3, 13] (fun o v wr => o = .slice none 0 0 ∧ v = .int .i64 0 ∧ wr = w) (fun _ _ _ => 0)
    case atStart => exact ⟨rfl, rfl, rfl⟩
    case round =>
      obtain ⟨rfl, rfl, rfl⟩ := hrel
      go_wp2_with fail
      go_ret
      exact HE.out
  · obtain ⟨g, cap, gl, capl, _, rfl, rfl, _, _, _, _, _⟩ := h.pair hok (i := 0) (by omega)
    have HW : Hid (∀ W, Below w.heap.size w W → W.cell? ⟨p, 1, none⟩ = some (.slice (some ⟨gl, 0, none⟩) m.L.length capl) ∧ ∀ i k : Nat, m.O[i]? = some k → W.cell? ⟨g, i, none⟩ = some (.int .i64 (k : Int)) ∧ W.cell? ⟨gl, k * 2, none⟩ = some (.int .i64 (rowL m.L k)) ∧ W.cell? ⟨gl, k * 2 + 1, none⟩ = some (.int .i64 (posL m.L k))) := by
      intro W hW
      have hP := h.below hW
      refine ⟨hP.cells.2.1, fun i k hk => ?_⟩
      have hi : i < m.O.length := (List.getElem?_eq_some_iff.1 hk).1
      obtain ⟨g', _, gl', _, k', hv1, hv2, hk', _, q1, q2, q3⟩ := hP.pair hok hi
      injection hv1 with e1 _ _
      injection e1 with e1
      injection e1 with e1 _ _
      subst e1
      injection hv2 with e1 _ _
      injection e1 with e1
      injection e1 with e1 _ _
      subst e1
      rw [hk] at hk'
      injection hk' with hk'
      subst hk'
      exact ⟨q1, q2, q3⟩
    obtain ⟨_, _, c2, _, _, _⟩ := h.cells
    have hol := hok.olen
    have HOK := Lib.hid hok
    clear h hok
    go_enter Try.func34, Try.ntmps34
    go_wp2_with fail
    go_loopw [3, 13] (fun o v wr => ∃ i : Nat, i ≤ m.O.length ∧ v = .int .i64 i ∧ wr.ownsRow w.heap.size 52 2 o i (cellsL (m.prs (m.O.take i))) ∧ Below w.heap.size w wr) (fun _ v _ => m.O.length - (intOf v).toNat)
    case atStart => exact ⟨0, Nat.zero_le _, rfl, World.ownsRow_nil _ _ _ _, Below.refl _ _⟩
    case round =>
      obtain ⟨i, hi, rfl, hown, hb⟩ := hrel
      have hs := hb.size
      obtain ⟨a4, c4, rfl, _, _⟩ := own_slice hown
      by_cases hlt : i < m.O.length
      · obtain ⟨k, hk⟩ : ∃ k, m.O[i]? = some k := ⟨_, List.getElem?_eq_getElem hlt⟩
        obtain ⟨c1, hcs⟩ := HW.out wr hb
        obtain ⟨q1, q2, q3⟩ := hcs i k hk
        have hkl := HOK.out.lt (List.mem_of_getElem? hk)
        have hsn := m.prs_snoc hk
        have hsn2 := cellsL_snoc (m.prs (m.O.take i)) (rowL m.L k, posL m.L k)
        rw [← hsn] at hsn2
        have HSN := Lib.hid hsn2
        have j0 : (0 : Int) ≤ (k : Int) := by omega
        have j1 : (k : Int) < (m.L.length : Int) := by omega
        clear hcs hk hsn hsn2
        generalize rowL m.L k = r0 at *
        generalize posL m.L k = p0 at *
        go_wp2_with (at_builtin; refine wpList_pushP rfl _ _ 49 rfl w.heap.size 52 Try.infoPair Try.underlying49 rfl _ _ _ rfl hown rfl rfl rfl ?c1 ?c2 ?c3 ?_)
        case c1 => unfold maxLen; omega
        case c2 => omega
        intro g5 cap5 w5 hown' hgrow _ _
        have hch : Below w.heap.size w w5 := hb.grown hgrow hs (fun j hj => (hown.lt j hj).1)
        rw [HSN.out] at hown'
        have HO := Lib.hid hown'
        have HCH := Lib.hid hch
        clear hown hown' hgrow hch q1 q2 q3 c1
        go_wp2_with fail
        go_roundw
        case rel => exact ⟨i + 1, by omega, by go_num, HO.out, HCH.out⟩
        case measure => simp [intOf]; omega
      · obtain rfl : i = m.O.length := by omega
        rw [List.take_length] at hown
        have hln : (m.prs m.O).length = m.O.length := by unfold Pm.prs; rw [List.length_map]
        have HE : Hid (GivesP w.heap.size w (m.prs m.O) (.returned (.slice a4 m.O.length c4)) wr) := by
          show GivesP _ _ _ _ _
          exact ⟨a4, c4, by rw [hln], by rw [hln]; exact hown, hb⟩
        clear hown hb hln
        go_wp2_with fail
        go_ret
        exact HE.out

/-- The pairs of a list of places, by rows. -/
def prL : Nat → List Int → List (Int × Int)
  | _, [] => []
  | i, x :: l => if 0 ≤ x then ((i : Int), x) :: prL (i + 1) l else prL (i + 1) l
theorem prL_mem : ∀ (l : List Int) (i : Nat) (r p : Int), (r, p) ∈ prL i l ↔ ∃ j : Nat, r = ((i + j : Nat) : Int) ∧ l[j]? = some p ∧ 0 ≤ p
  | [], i, r, p => by simp [prL]
  | x :: l, i, r, p => by
    have ih := prL_mem l (i + 1) r p
    unfold prL
    have key : (r, p) ∈ prL (i + 1) l ↔ ∃ j : Nat, r = ((i + (j + 1) : Nat) : Int) ∧ (x :: l)[j + 1]? = some p ∧ 0 ≤ p := by
      rw [ih]
      constructor
      · rintro ⟨j, h1, h2, h3⟩; exact ⟨j, by omega, by simpa using h2, h3⟩
      · rintro ⟨j, h1, h2, h3⟩; exact ⟨j, by omega, by simpa using h2, h3⟩
    by_cases h : 0 ≤ x
    · rw [if_pos h, List.mem_cons, key]
      constructor
      · rintro (e | ⟨j, h1, h2, h3⟩)
        · injection e with e1 e2; exact ⟨0, by omega, by simp [e2], by omega⟩
        · exact ⟨j + 1, h1, h2, h3⟩
      · rintro ⟨j, h1, h2, h3⟩
        cases j with
        | zero => left; simp at h2; subst h2; congr 1
        | succ j => exact Or.inr ⟨j, h1, h2, h3⟩
    · rw [if_neg h, key]
      constructor
      · rintro ⟨j, h1, h2, h3⟩; exact ⟨j + 1, h1, h2, h3⟩
      · rintro ⟨j, h1, h2, h3⟩
        cases j with
        | zero => simp at h2; omega
        | succ j => exact ⟨j, h1, h2, h3⟩
theorem prL_sorted : ∀ (l : List Int) (i : Nat), (prL i l).Pairwise fun a b => a.1 < b.1
  | [], i => List.Pairwise.nil
  | x :: l, i => by
    unfold prL
    split
    · rw [List.pairwise_cons]
      refine ⟨fun ⟨r, p⟩ h => ?_, prL_sorted l (i + 1)⟩
      obtain ⟨j, h1, _⟩ := (prL_mem l (i + 1) r p).1 h
      show (i : Int) < r
      omega
    · exact prL_sorted l (i + 1)
theorem pairs_ext {l l' : List (Int × Int)} (h : l.Pairwise fun a b => a.1 < b.1) (h' : l'.Pairwise fun a b => a.1 < b.1) (he : ∀ x, x ∈ l ↔ x ∈ l') : l = l' := by
  have hn : ∀ {l : List (Int × Int)}, (l.Pairwise fun a b => a.1 < b.1) → l.Nodup := fun h => h.imp (fun hab e => by rw [e] at hab; omega)
  have hp : l.Perm l' := (List.perm_ext_iff_of_nodup (hn h) (hn h')).2 he
  exact hp.eq_of_pairwise (fun a b _ _ h1 h2 => by omega) h h'
theorem PVw.prs {m : Pm} {L : List Int} {N : Nat} (h : PVw m L N) : m.prs m.O = prL 0 L := by
  refine pairs_ext ?_ (prL_sorted _ _) (fun ⟨r, p⟩ => ?_)
  · unfold Pm.prs
    rw [List.pairwise_map]
    exact h.so
  · rw [prL_mem]
    have hm := h.mem r p
    unfold Pm.prs
    rw [List.mem_map]
    constructor
    · rintro ⟨k, hk, e⟩
      injection e with e1 e2
      obtain ⟨h1, h2⟩ := hm.1 ⟨k, hk, e1, e2⟩
      obtain ⟨i, rfl, hi⟩ := gL_in (L := L) (r := r) (by omega)
      rw [gL_nat, List.getElem?_eq_getElem hi] at h1
      exact ⟨i, by omega, by rw [List.getElem?_eq_getElem hi]; exact congrArg _ h1, h2⟩
    · rintro ⟨j, h1, h2, h3⟩
      obtain ⟨k, hk, e1, e2⟩ := hm.2 ⟨by rw [h1, Nat.zero_add, gL_nat, h2]; rfl, h3⟩
      exact ⟨k, hk, by rw [e1, e2]⟩
theorem pAll_v {S : Nat → Prop} {w : World} {p c : Nat} {L : List Int} {N : Nat} (h : PmV S w p c L N) (hc : c ≤ 1000000) :
    Calls Try.prog 34 #[.pointer (some ⟨p, 0, none⟩)] w (GivesP w.heap.size w (prL 0 L)) := by
  obtain ⟨q, SA, lv, ov, m, hP, hV, hml, hS⟩ := h
  have := pAll_any hP hV.ok (by omega)
  rwa [hV.prs] at this

end Go.Proofs.Ytpbmhdkhkbhgnaa

namespace Go.Proofs.Ytpbmhdkhkbhgnaa
set_option linter.unusedVariables false
set_option linter.unusedSimpArgs false
open Go.RowKit

set_option maxHeartbeats 1600000 in
theorem pAdd_bad {S : Nat → Prop} {w : World} {p c : Nat} {L : List Int} {N : Nat} (h : PmV S w p c L N) (x y : Int) (hb : (x < 0) ∨ ((L.length : Int) ≤ x) ∨ (y < 0) ∨ ((N : Int) ≤ y)) :
    Calls Try.prog 28 #[.pointer (some ⟨p, 0, none⟩), .int .i64 x, .int .i64 y] w fun e w' => e = .returned (.int .i64 2) ∧ Below w.heap.size w w' := by
  obtain ⟨q, SA, lv, ov, m, hP, hV, _, _⟩ := h
  obtain ⟨_, _, _, c3, c4, _⟩ := hP.cells
  have hpl := hP.lt p (Or.inl rfl)
  rw [hV.eR] at c3
  rw [hV.eN] at c4
  clear hP hV
  by_cases h0 : x < 0
  · have d0 : decide (x < 0) = true := decide_eq_true h0
    clear hb h0
    go_enter Try.func28, Try.ntmps28
    go_wp2_with fail
    go_ret
    exact ⟨rfl, Below.refl _ _⟩
  by_cases h1 : (L.length : Int) ≤ x
  · have d0 : decide (x < 0) = false := decide_eq_false h0
    have d1 : decide ((L.length : Int) ≤ x) = true := decide_eq_true h1
    clear hb h0 h1
    go_enter Try.func28, Try.ntmps28
    go_wp2_with fail
    go_ret
    exact ⟨rfl, Below.refl _ _⟩
  by_cases h2 : y < 0
  · have d0 : decide (x < 0) = false := decide_eq_false h0
    have d1 : decide ((L.length : Int) ≤ x) = false := decide_eq_false h1
    have d2 : decide (y < 0) = true := decide_eq_true h2
    clear hb h0 h1 h2
    go_enter Try.func28, Try.ntmps28
    go_wp2_with fail
    go_ret
    exact ⟨rfl, Below.refl _ _⟩
  have h3 : (N : Int) ≤ y := by omega
  have d0 : decide (x < 0) = false := decide_eq_false h0
  have d1 : decide ((L.length : Int) ≤ x) = false := decide_eq_false h1
  have d2 : decide (y < 0) = false := decide_eq_false h2
  have d3 : decide ((N : Int) ≤ y) = true := decide_eq_true h3
  clear hb h0 h1 h2 h3
  go_enter Try.func28, Try.ntmps28
  go_wp2_with fail
  go_ret
  exact ⟨rfl, Below.refl _ _⟩
set_option maxHeartbeats 1600000 in
theorem pRowIn_bad {S : Nat → Prop} {w : World} {p c : Nat} {L : List Int} {N : Nat} (h : PmV S w p c L N) (x : Int) (hb : (x < 0) ∨ ((L.length : Int) < x)) :
    Calls Try.prog 42 #[.pointer (some ⟨p, 0, none⟩), .int .i64 x] w fun e w' => e = .returned (.int .i64 2) ∧ Below w.heap.size w w' := by
  obtain ⟨q, SA, lv, ov, m, hP, hV, _, _⟩ := h
  obtain ⟨_, _, _, c3, c4, _⟩ := hP.cells
  have hpl := hP.lt p (Or.inl rfl)
  rw [hV.eR] at c3
  rw [hV.eN] at c4
  clear hP hV
  by_cases h0 : x < 0
  · have d0 : decide (x < 0) = true := decide_eq_true h0
    clear hb h0
    go_enter Try.func42, Try.ntmps42
    go_wp2_with fail
    go_quiet (fail)
    go_wp2_with fail
    go_ret
    exact ⟨rfl, below_dN (below_al w _) _⟩
  have h1 : (L.length : Int) < x := by omega
  have d0 : decide (x < 0) = false := decide_eq_false h0
  have d1 : decide ((L.length : Int) < x) = true := decide_eq_true h1
  clear hb h0 h1
  go_enter Try.func42, Try.ntmps42
  go_wp2_with fail
  go_quiet (fail)
  go_wp2_with fail
  go_ret
  exact ⟨rfl, below_dN (below_al w _) _⟩
set_option maxHeartbeats 1600000 in
theorem pRowOut_bad {S : Nat → Prop} {w : World} {p c : Nat} {L : List Int} {N : Nat} (h : PmV S w p c L N) (x : Int) (hb : (x < 0) ∨ ((L.length : Int) ≤ x)) :
    Calls Try.prog 36 #[.pointer (some ⟨p, 0, none⟩), .int .i64 x] w fun e w' => e = .returned (.int .i64 2) ∧ Below w.heap.size w w' := by
  obtain ⟨q, SA, lv, ov, m, hP, hV, _, _⟩ := h
  obtain ⟨_, _, _, c3, c4, _⟩ := hP.cells
  have hpl := hP.lt p (Or.inl rfl)
  rw [hV.eR] at c3
  rw [hV.eN] at c4
  clear hP hV
  by_cases h0 : x < 0
  · have d0 : decide (x < 0) = true := decide_eq_true h0
    clear hb h0
    go_enter Try.func36, Try.ntmps36
    go_wp2_with fail
    go_quiet (fail)
    go_wp2_with fail
    go_ret
    exact ⟨rfl, below_dN (below_al w _) _⟩
  have h1 : (L.length : Int) ≤ x := by omega
  have d0 : decide (x < 0) = false := decide_eq_false h0
  have d1 : decide ((L.length : Int) ≤ x) = true := decide_eq_true h1
  clear hb h0 h1
  go_enter Try.func36, Try.ntmps36
  go_wp2_with fail
  go_quiet (fail)
  go_wp2_with fail
  go_ret
  exact ⟨rfl, below_dN (below_al w _) _⟩
set_option maxHeartbeats 1600000 in
theorem pPosIn_bad {S : Nat → Prop} {w : World} {p c : Nat} {L : List Int} {N : Nat} (h : PmV S w p c L N) (x : Int) (hb : (x < 0) ∨ ((N : Int) < x)) :
    Calls Try.prog 46 #[.pointer (some ⟨p, 0, none⟩), .int .i64 x] w fun e w' => e = .returned (.int .i64 2) ∧ Below w.heap.size w w' := by
  obtain ⟨q, SA, lv, ov, m, hP, hV, _, _⟩ := h
  obtain ⟨_, _, _, c3, c4, _⟩ := hP.cells
  have hpl := hP.lt p (Or.inl rfl)
  rw [hV.eR] at c3
  rw [hV.eN] at c4
  clear hP hV
  by_cases h0 : x < 0
  · have d0 : decide (x < 0) = true := decide_eq_true h0
    clear hb h0
    go_enter Try.func46, Try.ntmps46
    go_wp2_with fail
    go_quiet (fail)
    go_wp2_with fail
    go_ret
    exact ⟨rfl, below_dN (below_al w _) _⟩
  have h1 : (N : Int) < x := by omega
  have d0 : decide (x < 0) = false := decide_eq_false h0
  have d1 : decide ((N : Int) < x) = true := decide_eq_true h1
  clear hb h0 h1
  go_enter Try.func46, Try.ntmps46
  go_wp2_with fail
  go_quiet (fail)
  go_wp2_with fail
  go_ret
  exact ⟨rfl, below_dN (below_al w _) _⟩
set_option maxHeartbeats 1600000 in
theorem pPosOut_bad {S : Nat → Prop} {w : World} {p c : Nat} {L : List Int} {N : Nat} (h : PmV S w p c L N) (x : Int) (hb : (x < 0) ∨ ((N : Int) ≤ x)) :
    Calls Try.prog 37 #[.pointer (some ⟨p, 0, none⟩), .int .i64 x] w fun e w' => e = .returned (.int .i64 2) ∧ Below w.heap.size w w' := by
  obtain ⟨q, SA, lv, ov, m, hP, hV, _, _⟩ := h
  obtain ⟨_, _, _, c3, c4, _⟩ := hP.cells
  have hpl := hP.lt p (Or.inl rfl)
  rw [hV.eR] at c3
  rw [hV.eN] at c4
  clear hP hV
  by_cases h0 : x < 0
  · have d0 : decide (x < 0) = true := decide_eq_true h0
    clear hb h0
    go_enter Try.func37, Try.ntmps37
    go_wp2_with fail
    go_quiet (fail)
    go_wp2_with fail
    go_ret
    exact ⟨rfl, below_dN (below_al w _) _⟩
  have h1 : (N : Int) ≤ x := by omega
  have d0 : decide (x < 0) = false := decide_eq_false h0
  have d1 : decide ((N : Int) ≤ x) = true := decide_eq_true h1
  clear hb h0 h1
  go_enter Try.func37, Try.ntmps37
  go_wp2_with fail
  go_quiet (fail)
  go_wp2_with fail
  go_ret
  exact ⟨rfl, below_dN (below_al w _) _⟩
theorem box3 (w : World) (va vb vc : Value) (ta tb tc : TypeId) : ∃ W, W = ((w.alloc (.cells #[va] ta)).alloc (.cells #[vb] tb)).alloc (.cells #[vc] tc) ∧ W.cell? ⟨w.heap.size, 0, none⟩ = some va ∧ W.cell? ⟨w.heap.size + 1, 0, none⟩ = some vb ∧ W.cell? ⟨w.heap.size + 2, 0, none⟩ = some vc ∧ Below w.heap.size w W := by
  refine ⟨_, rfl, ?_, ?_, ?_, ((below_al w _).alloc (by simp) _).alloc (by simp; omega) _⟩
  · refine ((below_al ((w.alloc (.cells #[va] ta)).alloc (.cells #[vb] tb)) (.cells #[vc] tc)).cell (p := ⟨w.heap.size, 0, none⟩) (by simp; omega)).trans ?_
    exact ((below_al (w.alloc (.cells #[va] ta)) (.cells #[vb] tb)).cell (p := ⟨w.heap.size, 0, none⟩) (by simp)).trans (World.cell?_alloc_at _ _ _ _ rfl)
  · refine ((below_al ((w.alloc (.cells #[va] ta)).alloc (.cells #[vb] tb)) (.cells #[vc] tc)).cell (p := ⟨w.heap.size + 1, 0, none⟩) (by simp)).trans ?_
    have : ((w.alloc (.cells #[va] ta)).alloc (.cells #[vb] tb)).cell? ⟨(w.alloc (.cells #[va] ta)).heap.size, 0, none⟩ = some vb := World.cell?_alloc_at _ _ _ _ rfl
    rwa [show (w.alloc (.cells #[va] ta)).heap.size = w.heap.size + 1 by simp] at this
  · have : (((w.alloc (.cells #[va] ta)).alloc (.cells #[vb] tb)).alloc (.cells #[vc] tc)).cell? ⟨((w.alloc (.cells #[va] ta)).alloc (.cells #[vb] tb)).heap.size, 0, none⟩ = some vc := World.cell?_alloc_at _ _ _ _ rfl
    rwa [show ((w.alloc (.cells #[va] ta)).alloc (.cells #[vb] tb)).heap.size = w.heap.size + 2 by simp] at this

set_option maxHeartbeats 1600000 in
theorem pRowMove_bad {S : Nat → Prop} {w : World} {p c : Nat} {L : List Int} {N : Nat} (h : PmV S w p c L N) (x y : Int) (hb : (x < 0) ∨ ((L.length : Int) ≤ x) ∨ (y < 0) ∨ ((L.length : Int) ≤ y)) :
    Calls Try.prog 30 #[.pointer (some ⟨p, 0, none⟩), .int .i64 x, .int .i64 y] w fun e w' => e = .returned (.int .i64 2) ∧ Below w.heap.size w w' := by
  obtain ⟨q, SA, lv, ov, m, hP, hV, _, _⟩ := h
  obtain ⟨_, _, _, c3, c4, _⟩ := hP.cells
  have hpl := hP.lt p (Or.inl rfl)
  rw [hV.eR] at c3
  rw [hV.eN] at c4
  clear hP hV
  obtain ⟨W, hW, b0, b1, b2, hB⟩ := box3 w (.pointer (some ⟨p, 0, none⟩)) (.int .i64 x) (.int .i64 y) 43 3 3
  have c5 := (hB.cell (p := ⟨p, 3, none⟩) hpl).trans c3
  have HB := Lib.hid hB
  clear c3 c4 hB
  by_cases h0 : x < 0
  · have d0 : decide (x < 0) = true := decide_eq_true h0
    clear hb h0
    go_enter Try.func30, Try.ntmps30
    go_wp2_with fail
    rw [← hW]
    clear hW
    go_quiet (fail)
    go_wp2_with fail
    go_ret
    exact ⟨rfl, below_dN (HB.out) _⟩
  by_cases h1 : (L.length : Int) ≤ x
  · have d0 : decide (x < 0) = false := decide_eq_false h0
    have d1 : decide ((L.length : Int) ≤ x) = true := decide_eq_true h1
    clear hb h0 h1
    go_enter Try.func30, Try.ntmps30
    go_wp2_with fail
    rw [← hW]
    clear hW
    go_quiet (fail)
    go_wp2_with fail
    go_ret
    exact ⟨rfl, below_dN (HB.out) _⟩
  by_cases h2 : y < 0
  · have d0 : decide (x < 0) = false := decide_eq_false h0
    have d1 : decide ((L.length : Int) ≤ x) = false := decide_eq_false h1
    have d2 : decide (y < 0) = true := decide_eq_true h2
    clear hb h0 h1 h2
    go_enter Try.func30, Try.ntmps30
    go_wp2_with fail
    rw [← hW]
    clear hW
    go_quiet (fail)
    go_wp2_with fail
    go_ret
    exact ⟨rfl, below_dN (HB.out) _⟩
  have h3 : (L.length : Int) ≤ y := by omega
  have d0 : decide (x < 0) = false := decide_eq_false h0
  have d1 : decide ((L.length : Int) ≤ x) = false := decide_eq_false h1
  have d2 : decide (y < 0) = false := decide_eq_false h2
  have d3 : decide ((L.length : Int) ≤ y) = true := decide_eq_true h3
  clear hb h0 h1 h2 h3
  go_enter Try.func30, Try.ntmps30
  go_wp2_with fail
  rw [← hW]
  clear hW
  go_quiet (fail)
  go_wp2_with fail
  go_ret
  exact ⟨rfl, below_dN (HB.out) _⟩

set_option maxHeartbeats 3200000 in
theorem pAdd_arg {S : Nat → Prop} {w : World} {p c : Nat} {L : List Int} {N : Nat} (h : PmV S w p c L N) (hc : c ≤ 1000000) (x y : Nat) (hx : x < L.length) (hy : y < N) (h1 : 0 ≤ gL L x ∨ ∃ r, gL L r = y) :
    Calls Try.prog 28 #[.pointer (some ⟨p, 0, none⟩), .int .i64 x, .int .i64 y] w fun e w' => e = .returned (.int .i64 1) ∧ PmStep S w w' p c L N := by
  obtain ⟨q, SA, lv, ov, m, hP0, hV, hml, hS⟩ := h
  have hR := hV.eR
  have hN' := hV.eN
  have d1 : decide ((x : Int) < 0) = false := decide_eq_false (by omega)
  have d2 : decide (m.R ≤ x) = false := decide_eq_false (by omega)
  have d3 : decide ((y : Int) < 0) = false := decide_eq_false (by omega)
  have d4 : decide (m.N ≤ y) = false := decide_eq_false (by omega)
  obtain ⟨_, _, _, c3, c4, _⟩ := hP0.cells
  have hat := pAt_any hP0 hV.ok hV.so (by omega) x
  have HV := Lib.hid hV
  generalize m.cnt x = at0 at *
  by_cases hi : m.is x = true
  · rw [hi] at hat
    have HAT := Lib.hid hat
    clear hat hV hR hN' hP0 hi h1
    go_enter Try.func28, Try.ntmps28
    go_wp2_with fail
    refine HAT.out.mono ?_
    rintro e w1 ⟨rfl, hP1, hC1⟩
    have HP1 := Lib.hid hP1
    have HC1 := Lib.hid hC1
    clear hP1 hC1 c3 c4
    go_wp2_with fail
    go_ret
    exact ⟨rfl, PmStep.of HP1.out HV.out hml (fun j hj => Or.inl (hS j hj)) (HC1.out.mono (fun b hb => hS b (Or.inr (Or.inr (Or.inr hb)))))⟩
  · have hi' : m.is x = false := by rw [← Bool.not_eq_true]; exact hi
    rw [hi'] at hat
    have hnot : ¬ 0 ≤ gL L x := fun h => hi ((hV.is x).2 h)
    obtain ⟨i, hix⟩ : ∃ i : Nat, m.has y = i := by
      rcases hV.has y with ⟨i, k, h3, _⟩ | ⟨_, h3⟩
      · exact ⟨i, h3⟩
      · rcases h1 with h1 | ⟨r, h1⟩
        · exact absurd h1 hnot
        · exact absurd h1 (h3 (by omega) r)
    have hhas2 : ∀ W, PmIn W p q SA lv ov m → Calls Try.prog 71 #[.pointer (some ⟨p, 0, none⟩), .int .i64 (y : Int)] W fun e w' => e = .returned (.int .i64 (i : Int)) ∧ Below W.heap.size W w' := fun W hW => by
      have := pHas_any hW hV.ok (by omega) y
      rwa [hix] at this
    have d5 : decide (0 ≤ (i : Int)) = true := decide_eq_true (by omega)
    have HAT := Lib.hid hat
    have HHAS := Lib.hid hhas2
    clear hat hV hR hN' hP0 hi hi' h1 hnot hix hhas2
    go_enter Try.func28, Try.ntmps28
    go_wp2_with fail
    refine HAT.out.mono ?_
    rintro e w1 ⟨rfl, hP1, hC1⟩
    have HH := Lib.hid (HHAS.out w1 hP1)
    have HP1 := Lib.hid hP1
    have HC1 := Lib.hid hC1
    clear hP1 hC1 c3 c4
    go_wp2_with fail
    refine HH.out.mono ?_
    rintro e w2 ⟨rfl, hB2⟩
    have HB2 := Lib.hid hB2
    clear hB2
    go_wp2_with fail
    go_ret
    exact ⟨rfl, PmStep.of (HP1.out.below HB2.out) HV.out hml (fun j hj => Or.inl (hS j hj)) ((HC1.out.mono (fun b hb => hS b (Or.inr (Or.inr (Or.inr hb))))).trans (Chg.of_below (S := fun _ => False) HB2.out) (fun _ hf => hf.elim))⟩

theorem PmV.stay {S : Nat → Prop} {w w' : World} {p c : Nat} {L : List Int} {N : Nat} (h : PmV S w p c L N) (hb : Below w.heap.size w w') : PmStep S w w' p c L N :=
  ⟨(h.below hb).mono (fun k hk => Or.inl hk), Chg.of_below hb⟩
theorem PmStep.more {S : Nat → Prop} {w w' : World} {p c c' : Nat} {L : List Int} {N : Nat} (h : PmStep S w w' p c L N) (hc : c ≤ c') : PmStep S w w' p c' L N := ⟨h.pv.more hc, h.chg⟩

/-- What Add answers; what is there then. -/
def addC (L : List Int) (N : Nat) (x y : Int) : Int := if 0 ≤ x ∧ x < L.length ∧ 0 ≤ y ∧ y < N then (if 0 ≤ gL L x ∨ 0 ≤ aL L y then 1 else 0) else 2
def addL (L : List Int) (N : Nat) (x y : Int) : List Int := if addC L N x y = 0 then L.set x.toNat y else L
theorem addL_len (L : List Int) (N : Nat) (x y : Int) : (addL L N x y).length = L.length := by unfold addL; split <;> simp
theorem aL_pos {L : List Int} {y : Int} (hy : 0 ≤ y) : 0 ≤ aL L y ↔ ∃ r, gL L r = y := by
  rcases aL_spec L y with ⟨i, h1, h2, h3, h4⟩ | ⟨h1, h2⟩
  · exact ⟨fun _ => ⟨i, h3⟩, fun _ => by omega⟩
  · exact ⟨fun h => by omega, fun ⟨r, h⟩ => absurd h (h2 hy r)⟩
theorem pAdd_v {S : Nat → Prop} {w : World} {p c : Nat} {L : List Int} {N : Nat} (h : PmV S w p c L N) (hc : c ≤ 1000000) (hL : L.length ≤ 1000000) (hN : N ≤ 1000000) (x y : Int) :
    Calls Try.prog 28 #[.pointer (some ⟨p, 0, none⟩), .int .i64 x, .int .i64 y] w fun e w' => e = .returned (.int .i64 (addC L N x y)) ∧ PmStep S w w' p (c + 1) (addL L N x y) N := by
  by_cases hr : 0 ≤ x ∧ x < L.length ∧ 0 ≤ y ∧ y < N
  · obtain ⟨i, rfl⟩ := Int.eq_ofNat_of_zero_le hr.1
    obtain ⟨j, rfl⟩ := Int.eq_ofNat_of_zero_le hr.2.2.1
    by_cases ha : 0 ≤ gL L i ∨ 0 ≤ aL L j
    · have e : addC L N i j = 1 := by unfold addC; rw [if_pos hr, if_pos ha]
      have e2 : addL L N i j = L := by unfold addL; rw [e, if_neg (by omega)]
      rw [e, e2]
      refine (pAdd_arg h hc i j (by omega) (by omega) (ha.imp id (fun h => (aL_pos (by omega)).1 h))).mono ?_
      rintro e w' ⟨rfl, hs⟩
      exact ⟨rfl, hs.more (by omega)⟩
    · have e : addC L N i j = 0 := by unfold addC; rw [if_pos hr, if_neg ha]
      have e2 : addL L N i j = L.set i (j : Int) := by unfold addL; rw [e, if_pos rfl, Int.toNat_natCast]
      rw [e, e2]
      exact pAdd_ok h hc hL hN i j (by omega) (by omega) (by omega) (fun r hr => ha (Or.inr ((aL_pos (by omega)).2 ⟨r, hr⟩)))
  · have e : addC L N x y = 2 := by unfold addC; rw [if_neg hr]
    have e2 : addL L N x y = L := by unfold addL; rw [e, if_neg (by omega)]
    rw [e, e2]
    refine (pAdd_bad h x y (by omega)).mono ?_
    rintro e w' ⟨rfl, hs⟩
    exact ⟨rfl, (h.stay hs).more (by omega)⟩

def okC (b : Bool) : Int := if b then 0 else 2
def rowInB (L : List Int) (x : Int) : Bool := decide (0 ≤ x) && decide (x ≤ L.length)
def rowB (L : List Int) (x : Int) : Bool := decide (0 ≤ x) && decide (x < L.length)
def posInB (N : Nat) (x : Int) : Bool := decide (0 ≤ x) && decide (x ≤ N)
def posB (N : Nat) (x : Int) : Bool := decide (0 ≤ x) && decide (x < N)
def rowInL (L : List Int) (x : Int) : List Int := if rowInB L x then insA L x.toNat (-1) else L
def rowOutL (L : List Int) (x : Int) : List Int := if rowB L x then outA L x.toNat else L
def moveL (L : List Int) (x y : Int) : List Int := if rowB L x && rowB L y then mvL L x.toNat y.toNat else L
def posInL (L : List Int) (N : Nat) (x : Int) : List Int := if posInB N x then L.map (upP x) else L
def posInN (N : Nat) (x : Int) : Nat := if posInB N x then N + 1 else N
def posOutL (L : List Int) (N : Nat) (x : Int) : List Int := if posB N x then L.map (outP x) else L
def posOutN (N : Nat) (x : Int) : Nat := if posB N x then N - 1 else N

section
variable {S : Nat → Prop} {w : World} {p c : Nat} {L : List Int} {N : Nat}
theorem pRowIn_c (h : PmV S w p c L N) (hc : c ≤ 1000000) (hL : L.length ≤ 1000000) (x : Int) :
    Calls Try.prog 42 #[.pointer (some ⟨p, 0, none⟩), .int .i64 x] w fun e w' => e = .returned (.int .i64 (okC (rowInB L x))) ∧ PmStep S w w' p c (rowInL L x) N := by
  unfold rowInL
  cases hb : rowInB L x with
  | true =>
    unfold rowInB at hb
    simp at hb
    obtain ⟨i, rfl⟩ := Int.eq_ofNat_of_zero_le hb.1
    rw [if_pos rfl, Int.toNat_natCast]
    exact pRowIn_v h hc hL i (by omega)
  | false =>
    unfold rowInB at hb
    simp at hb
    rw [if_neg (by simp)]
    refine (pRowIn_bad h x (by omega)).mono ?_
    rintro e w' ⟨rfl, hs⟩
    exact ⟨rfl, h.stay hs⟩
theorem pRowOut_c (h : PmV S w p c L N) (hc : c ≤ 1000000) (hL : L.length ≤ 1000000) (x : Int) :
    Calls Try.prog 36 #[.pointer (some ⟨p, 0, none⟩), .int .i64 x] w fun e w' => e = .returned (.int .i64 (okC (rowB L x))) ∧ PmStep S w w' p c (rowOutL L x) N := by
  unfold rowOutL
  cases hb : rowB L x with
  | true =>
    unfold rowB at hb
    simp at hb
    obtain ⟨i, rfl⟩ := Int.eq_ofNat_of_zero_le hb.1
    rw [if_pos rfl, Int.toNat_natCast]
    exact pRowOut_v h hc hL i (by omega)
  | false =>
    unfold rowB at hb
    simp at hb
    rw [if_neg (by simp)]
    refine (pRowOut_bad h x (by omega)).mono ?_
    rintro e w' ⟨rfl, hs⟩
    exact ⟨rfl, h.stay hs⟩
theorem pPosIn_c (h : PmV S w p c L N) (hc : c ≤ 1000000) (hN : N ≤ 1000000) (x : Int) :
    Calls Try.prog 46 #[.pointer (some ⟨p, 0, none⟩), .int .i64 x] w fun e w' => e = .returned (.int .i64 (okC (posInB N x))) ∧ PmStep S w w' p c (posInL L N x) (posInN N x) := by
  unfold posInL posInN
  cases hb : posInB N x with
  | true =>
    unfold posInB at hb
    simp at hb
    obtain ⟨i, rfl⟩ := Int.eq_ofNat_of_zero_le hb.1
    rw [if_pos rfl, if_pos rfl]
    exact pPosIn_v h hc hN i (by omega)
  | false =>
    unfold posInB at hb
    simp at hb
    rw [if_neg (by simp), if_neg (by simp)]
    refine (pPosIn_bad h x (by omega)).mono ?_
    rintro e w' ⟨rfl, hs⟩
    exact ⟨rfl, h.stay hs⟩
theorem pPosOut_c (h : PmV S w p c L N) (hc : c ≤ 1000000) (hN : N ≤ 1000000) (x : Int) :
    Calls Try.prog 37 #[.pointer (some ⟨p, 0, none⟩), .int .i64 x] w fun e w' => e = .returned (.int .i64 (okC (posB N x))) ∧ PmStep S w w' p c (posOutL L N x) (posOutN N x) := by
  unfold posOutL posOutN
  cases hb : posB N x with
  | true =>
    unfold posB at hb
    simp at hb
    obtain ⟨i, rfl⟩ := Int.eq_ofNat_of_zero_le hb.1
    rw [if_pos rfl, if_pos rfl]
    exact pPosOut_v h hc hN i (by omega)
  | false =>
    unfold posB at hb
    simp at hb
    rw [if_neg (by simp), if_neg (by simp)]
    refine (pPosOut_bad h x (by omega)).mono ?_
    rintro e w' ⟨rfl, hs⟩
    exact ⟨rfl, h.stay hs⟩
theorem pRowMove_c (h : PmV S w p c L N) (hc : c ≤ 1000000) (hL : L.length ≤ 1000000) (x y : Int) :
    Calls Try.prog 30 #[.pointer (some ⟨p, 0, none⟩), .int .i64 x, .int .i64 y] w fun e w' => e = .returned (.int .i64 (okC (rowB L x && rowB L y))) ∧ PmStep S w w' p c (moveL L x y) N := by
  unfold moveL
  cases hb : (rowB L x && rowB L y) with
  | true =>
    unfold rowB at hb
    simp at hb
    obtain ⟨i, rfl⟩ := Int.eq_ofNat_of_zero_le hb.1.1
    obtain ⟨j, rfl⟩ := Int.eq_ofNat_of_zero_le hb.2.1
    rw [if_pos rfl, Int.toNat_natCast, Int.toNat_natCast]
    exact pRowMove_v h hc hL i j (by omega) (by omega)
  | false =>
    unfold rowB at hb
    simp at hb
    rw [if_neg (by simp)]
    refine (pRowMove_bad h x y (by omega)).mono ?_
    rintro e w' ⟨rfl, hs⟩
    exact ⟨rfl, h.stay hs⟩
theorem pPos_v (h : PmV S w p c L N) (hc : c ≤ 1000000) (x : Int) :
    Calls Try.prog 29 #[.pointer (some ⟨p, 0, none⟩), .int .i64 x] w fun e w' => e = .returned (.int .i64 (gL L x)) ∧ PmStep S w w' p c L N := by
  obtain ⟨q, SA, lv, ov, m, hP, hV, hml, hS⟩ := h
  have := pPos_any hP hV.ok hV.so (by omega) x
  rw [hV.pos] at this
  refine this.mono ?_
  rintro e w' ⟨rfl, hP1, hC1⟩
  exact ⟨rfl, PmStep.of hP1 hV hml (fun j hj => Or.inl (hS j hj)) (hC1.mono (fun b hb => hS b (Or.inr (Or.inr (Or.inr hb)))))⟩
theorem pRow_v (h : PmV S w p c L N) (hc : c ≤ 1000000) (x : Int) :
    Calls Try.prog 31 #[.pointer (some ⟨p, 0, none⟩), .int .i64 x] w fun e w' => e = .returned (.int .i64 (aL L x)) ∧ Below w.heap.size w w' := by
  obtain ⟨q, SA, lv, ov, m, hP, hV, hml, hS⟩ := h
  have := pRow_any hP hV.ok (by omega) x
  rwa [hV.rowv] at this
theorem pSize_v (h : PmV S w p c L N) :
    Calls Try.prog 49 #[.pointer (some ⟨p, 0, none⟩)] w fun e w' => e = .returned (.tuple #[.int .i64 L.length, .int .i64 N]) ∧ ∃ n, w' = w.drewN n := by
  obtain ⟨q, SA, lv, ov, m, hP, hV, hml, hS⟩ := h
  have := pSize_any hP
  rwa [hV.eR, hV.eN] at this
end

end Go.Proofs.Ytpbmhdkhkbhgnaa

namespace Go.Proofs.Ytpbmhdkhkbhgnaa
set_option linter.unusedVariables false
set_option linter.unusedSimpArgs false
open Go.RowKit

/-- The least place from x on. -/
def bestP (x best y : Int) : Int := if x ≤ y ∧ (best < 0 ∨ y < best) then y else best
def nextP (x : Int) (l : List (Int × Int)) : Int := l.foldl (fun b y => bestP x b y.2) (-1)
theorem nextP_snoc (x : Int) (l : List (Int × Int)) (y : Int × Int) : nextP x (l ++ [y]) = bestP x (nextP x l) y.2 := by unfold nextP; rw [List.foldl_append]; rfl

theorem own_pair {w : World} {B g n cap : Nat} {l : List (Int × Int)} (h : w.ownsRow B 52 2 (.slice (some ⟨g, 0, none⟩) n cap) n (cellsL l)) (hn : l.length = n) {i : Nat} (hi : i < n) :
    w.cell? ⟨g, i * 2, none⟩ = some (.int .i64 (rowL l i)) ∧ w.cell? ⟨g, i * 2 + 1, none⟩ = some (.int .i64 (posL l i)) ∧ g < w.heap.size := by
  subst hn
  have hT : TabIs w g cap l := ⟨h.1, by
    rcases h.2 with h2 | ⟨g', c, cur, h1, h2, h3⟩
    · exact Or.inl h2
    · exact Or.inr ⟨g', c, cur, h1, Nat.zero_le _, h3⟩⟩
  obtain ⟨h1, h2, _⟩ := hT.cells hi
  exact ⟨h1, h2, World.block_lt_of_cell? w _ h1⟩

set_option maxHeartbeats 3200000 in
theorem pNext_v {S : Nat → Prop} {w : World} {p c : Nat} {L : List Int} {N : Nat} (h : PmV S w p c L N) (hc : c ≤ 1000000) (hL : L.length ≤ 1000000) (x : Int) :
    Calls Try.prog 35 #[.pointer (some ⟨p, 0, none⟩), .int .i64 x] w fun e w' => e = .returned (.int .i64 (nextP x (prL 0 L))) ∧ Below w.heap.size w w' := by
  have hall := pAll_v h hc
  have hlen : ∀ (l : List Int) (i : Nat), (prL i l).length ≤ l.length := by
    intro l
    induction l with
    | nil => intro i; exact Nat.le_refl _
    | cons y l ih => intro i; unfold prL; split <;> simp <;> have := ih (i + 1) <;> omega
  have hlen := hlen L 0
  generalize prL 0 L = l at *
  have HALL := Lib.hid hall
  clear hall h
  go_enter Try.func35, Try.ntmps35
  go_wp2_with fail
  refine HALL.out.mono ?_
  rintro e w1 hpost
  obtain ⟨a, cc, rfl, hown, hb1⟩ := hpost
  have hs1 := hb1.size
  have HOWN := Lib.hid hown
  have HB1 := Lib.hid hb1
  clear hown hb1
  go_wp2_with fail
  go_loopw [5, 11] (fun b v wr => ∃ i : Nat, i ≤ l.length ∧ v = .int .i64 i ∧ b = .int .i64 (nextP x (l.take i)) ∧ Below w1.heap.size w1 wr) (fun _ v _ => l.length - (intOf v).toNat)
  case atStart => exact ⟨0, Nat.zero_le _, rfl, rfl, Below.refl _ _⟩
  case round =>
    obtain ⟨i, hi, rfl, rfl, hb⟩ := hrel
    have hs := hb.size
    by_cases hlt : i < l.length
    · obtain ⟨g, cap, rfl, hg1, hcells⟩ : ∃ g cap, a = some ⟨g, 0, none⟩ ∧ cap = cap ∧ ∀ j, j < l.length → w1.cell? ⟨g, j * 2, none⟩ = some (.int .i64 (rowL l j)) ∧ w1.cell? ⟨g, j * 2 + 1, none⟩ = some (.int .i64 (posL l j)) ∧ g < w1.heap.size := by
        obtain ⟨_, hz, _, _⟩ : True ∧ True ∧ True ∧ True := ⟨trivial, trivial, trivial, trivial⟩
        have ho := HOWN.out
        rcases ho.2 with ⟨_, h0⟩ | ⟨g, cap, cur, hv, _⟩
        · omega
        · injection hv with e1 _ _
          subst e1
          exact ⟨g, cap, rfl, rfl, fun j hj => own_pair ho rfl hj⟩
      obtain ⟨q1, q2, hgl⟩ := hcells i hlt
      have q1' := (hb.cell (p := ⟨g, i * 2, none⟩) hgl).trans q1
      have q2' := (hb.cell (p := ⟨g, i * 2 + 1, none⟩) hgl).trans q2
      have hsn : nextP x (l.take (i + 1)) = bestP x (nextP x (l.take i)) (posL l i) := by
        rw [List.take_add_one, List.getElem?_eq_getElem hlt]
        show nextP x (l.take i ++ [l[i]]) = _
        rw [nextP_snoc]; simp [posL, hlt]
      have HSN := Lib.hid hsn
      have HB := Lib.hid hb
      clear hcells q1 q2 hg1 hsn hb
      generalize nextP x (l.take i) = best at *
      generalize rowL l i = r0 at *
      generalize posL l i = y at *
      unfold bestP at HSN
      by_cases h1 : x ≤ y
      · have d1 : decide (x ≤ y) = true := decide_eq_true h1
        by_cases h2 : best < 0
        · have d2 : decide (best < 0) = true := decide_eq_true h2
          have he := HSN.out
          rw [if_pos ⟨h1, Or.inl h2⟩] at he
          have HE := Lib.hid he
          clear h1 h2 he HSN
          go_wp2_with fail
          go_roundw
          case rel => exact ⟨i + 1, by omega, by go_num, by rw [HE.out], HB.out.alloc hs _⟩
          case measure => simp [intOf]; omega
        · have d2 : decide (best < 0) = false := decide_eq_false h2
          by_cases h3 : y < best
          · have d3 : decide (y < best) = true := decide_eq_true h3
            have he := HSN.out
            rw [if_pos ⟨h1, Or.inr h3⟩] at he
            have HE := Lib.hid he
            clear h1 h2 h3 he HSN
            go_wp2_with fail
            go_roundw
            case rel => exact ⟨i + 1, by omega, by go_num, by rw [HE.out], HB.out.alloc hs _⟩
            case measure => simp [intOf]; omega
          · have d3 : decide (y < best) = false := decide_eq_false h3
            have he := HSN.out
            rw [if_neg (fun h => h.2.elim h2 h3)] at he
            have HE := Lib.hid he
            clear h1 h2 h3 he HSN
            go_wp2_with fail
            go_roundw
            case rel => exact ⟨i + 1, by omega, by go_num, by rw [HE.out], HB.out.alloc hs _⟩
            case measure => simp [intOf]; omega
      · have d1 : decide (x ≤ y) = false := decide_eq_false h1
        have he := HSN.out
        rw [if_neg (fun h => h1 h.1)] at he
        have HE := Lib.hid he
        clear h1 he HSN
        go_wp2_with fail
        go_roundw
        case rel => exact ⟨i + 1, by omega, by go_num, by rw [HE.out], HB.out.alloc hs _⟩
        case measure => simp [intOf]; omega
    · obtain rfl : i = l.length := by omega
      rw [List.take_length]
      go_wp2_with fail
      go_ret
      exact ⟨rfl, HB1.out.trans (hb.mono hs1)⟩

/-- The rows behind all these pairs; nothing, where one of them can't be added. -/
def addAll (N : Nat) : List Int → List (Int × Int) → Option (List Int)
  | L, [] => some L
  | L, x :: l => if addC L N x.1 x.2 = 0 then addAll N (addL L N x.1 x.2) l else none
theorem addAll_cons (N : Nat) (L : List Int) (y : Int × Int) (l : List (Int × Int)) : addAll N L (y :: l) = if addC L N y.1 y.2 = 0 then addAll N (addL L N y.1 y.2) l else none := rfl
theorem addAll_snoc (N : Nat) : ∀ (L : List Int) (l : List (Int × Int)) (x : Int × Int), addAll N L (l ++ [x]) = (addAll N L l).bind fun L' => if addC L' N x.1 x.2 = 0 then some (addL L' N x.1 x.2) else none
  | L, [], x => by show (if _ then _ else _) = _; rfl
  | L, y :: l, x => by
    rw [List.cons_append, addAll_cons, addAll_cons]
    split
    · exact addAll_snoc N _ l x
    · rfl
theorem addAll_len (N : Nat) : ∀ (L : List Int) (l : List (Int × Int)) (L' : List Int), addAll N L l = some L' → L'.length = L.length
  | L, [], L', h => by injection h with h; rw [h]
  | L, y :: l, L', h => by
    unfold addAll at h
    split at h
    · rw [addAll_len N _ l L' h, addL_len]
    · cases h
theorem addAll_take {N : Nat} {L L' : List Int} {l : List (Int × Int)} (h : addAll N L l = some L') (k : Nat) : ∃ L'', addAll N L (l.take k) = some L'' := by
  have key : ∀ (a b : List (Int × Int)) (L : List Int), addAll N L (a ++ b) = (addAll N L a).bind fun L => addAll N L b := by
    intro a
    induction a with
    | nil => intro b L; rfl
    | cons y a ih => intro b L; rw [List.cons_append, addAll_cons, addAll_cons]; split <;> first | exact ih _ _ | rfl
  have := key (l.take k) (l.drop k) L
  rw [List.take_append_drop, h] at this
  cases hh : addAll N L (l.take k) with
  | none => rw [hh] at this; cases this
  | some L'' => exact ⟨L'', rfl⟩

def NewPost (w : World) (n : Nat) (l : List (Int × Int)) (e : Ending) (w' : World) : Prop := match addAll n (List.replicate n (-1)) l with
  | some L => ∃ p, e = .returned (.tuple #[.pointer (some ⟨p, 0, none⟩), .int .i64 0]) ∧ PmV (fun k => w.heap.size ≤ k) w' p l.length L n ∧ Below w.heap.size w w'
  | none => e = .returned (.tuple #[.pointer none, .int .i64 1]) ∧ Below w.heap.size w w'

theorem gL_rep (n : Nat) (r : Int) : gL (List.replicate n (-1)) r = -1 := by
  unfold gL
  split
  · by_cases h : r.toNat < n
    · simp [h]
    · rw [List.getElem?_eq_none (by simp; omega)]; rfl
  · rfl
theorem pvw_new (n : Nat) : PVw ⟨Ar.new 268435456, [], [], n, n⟩ (List.replicate n (-1)) n := by
  refine ⟨⟨⟨rfl, List.nodup_nil, fun k => by simp [Ar.new], rfl⟩, by simp, rfl, fun r p => ?_, fun r => ?_, fun r s h => ?_⟩, List.Pairwise.nil⟩
  · rw [gL_rep]
    constructor
    · rintro ⟨k, hk, _⟩; simp at hk
    · rintro ⟨h1, h2⟩; omega
  · rw [gL_rep]; omega
  · rw [gL_rep] at h; omega

set_option maxHeartbeats 3200000 in
theorem pNew_v (w : World) (n : Nat) (hn : n ≤ 1000) (l : List (Int × Int)) (a : Option Addr) (c : Nat) (hr : ReadsV w a (cellsL l)) (hl : l.length ≤ 1000) :
    Calls Try.prog 27 #[.int .i64 n, .slice a l.length c] w (NewPost w n l) := by
  have d1 : decide ((n : Int) < 0) = false := by simp
  have d2 : decide ((2147483648 : Int) < (n : Int)) = false := by simp; omega
  have HNEW : Hid (Calls Try.prog 69 #[.int .i64 (268435456 : Int)] w fun e w' => e = .returned (.pointer (some ⟨w.heap.size, 0, none⟩)) ∧ IsArena w' w.heap.size (fun k => k = w.heap.size) (Ar.new 268435456) ∧ Chg (fun _ => False) w w') := arNew_good 268435456 w (by omega)
  have HR := Lib.hid hr
  have HLC : Hid (∀ i, i < l.length → ∃ b off, a = some ⟨b, off, none⟩ ∧ b < w.heap.size ∧ w.cell? ⟨b, off + i * 2, none⟩ = some (.int .i64 (rowL l i)) ∧ w.cell? ⟨b, off + i * 2 + 1, none⟩ = some (.int .i64 (posL l i))) := by
    intro i hi
    obtain ⟨b, off, ha, hb, hc⟩ := hr.some (by rw [cellsL_len]; omega)
    obtain ⟨e1, e2⟩ := cellsL_get l i hi
    exact ⟨b, off, ha, hb, hc _ _ e1, by rw [Nat.add_assoc]; exact hc _ _ e2⟩
  clear hr
  go_enter Try.func27, Try.ntmps27
  go_wp2_with fail
  refine HNEW.out.mono ?_
  rintro e w1 ⟨rfl, hA, hC⟩
  have HA := Lib.hid hA
  have HC := Lib.hid hC
  clear hA hC
  go_wp2_with fail
  have hC := HC.out.alloc (.cells #[.pointer (some ⟨w.heap.size, 0, none⟩), .slice none 0 0, .slice none 0 0, .int .i64 (n : Int), .int .i64 (n : Int)] 84)
  have hqlt := HA.out.lt _ HA.out.self
  have hP : PmIn (w1.alloc (.cells #[.pointer (some ⟨w.heap.size, 0, none⟩), .slice none 0 0, .slice none 0 0, .int .i64 (n : Int), .int .i64 (n : Int)] 84)) w1.heap.size w.heap.size (fun k => k = w.heap.size) (.slice none 0 0) (.slice none 0 0) ⟨Ar.new 268435456, [], [], n, n⟩ :=
    ⟨heap_alloc_new w1 _, HA.out.chg (S' := fun _ => False) (Chg.refl.alloc _) (fun _ _ h => h), World.ownsRow_nil _ _ _ _, World.ownsRow_nil _ _ _ _, fun e => by omega, fun g hg => by simp [Value.ownBlock] at hg, fun g hg => by simp [Value.ownBlock] at hg⟩
  have hs1 := HC.out.size
  have hV : PmV (fun k => w.heap.size ≤ k) (w1.alloc (.cells #[.pointer (some ⟨w.heap.size, 0, none⟩), .slice none 0 0, .slice none 0 0, .int .i64 (n : Int), .int .i64 (n : Int)] 84)) w1.heap.size 0 (List.replicate n (-1)) n :=
    ⟨_, _, _, _, _, hP, pvw_new n, Nat.le_refl _, fun k hk => by
      rcases hk with rfl | hk | hk | hk
      · exact hs1
      · have : k = w.heap.size := hk; omega
      · simp [Value.ownBlock] at hk
      · simp [Value.ownBlock] at hk⟩
  have hB : Below w.heap.size w (w1.alloc (.cells #[.pointer (some ⟨w.heap.size, 0, none⟩), .slice none 0 0, .slice none 0 0, .int .i64 (n : Int), .int .i64 (n : Int)] 84)) := hC.below (fun b hb => hb.elim) (Nat.le_refl _)
  generalize w1.alloc (.cells #[.pointer (some ⟨w.heap.size, 0, none⟩), .slice none 0 0, .slice none 0 0, .int .i64 (n : Int), .int .i64 (n : Int)] 84) = w2 at *
  have HV := Lib.hid hV
  have HB := Lib.hid hB
  obtain ⟨p, hp⟩ : ∃ p, w1.heap.size = p := ⟨_, rfl⟩
  rw [hp] at HV ⊢
  clear hP hV hB hC hp hs1 hqlt HA HC
  go_loopw [22] (fun v wr => ∃ (i : Nat) (L : List Int), i ≤ l.length ∧ v = .int .i64 i ∧ addAll n (List.replicate n (-1)) (l.take i) = some L ∧ PmV (fun k => w.heap.size ≤ k) wr p i L n ∧ Below w.heap.size w wr) (fun v _ => l.length - (intOf v).toNat)
  case atStart => exact ⟨0, _, Nat.zero_le _, rfl, rfl, HV.out, HB.out⟩
  case round =>
    obtain ⟨i, L, hi, rfl, hall, hv, hb⟩ := hrel
    have hs := hb.size
    have hLl := addAll_len _ _ _ _ hall
    rw [List.length_replicate] at hLl
    by_cases hlt : i < l.length
    · obtain ⟨b, off, rfl, hbl, q1, q2⟩ := HLC.out i hlt
      have q1' := (hb.cell (p := ⟨b, off + i * 2, none⟩) hbl).trans q1
      have q2' := (hb.cell (p := ⟨b, off + i * 2 + 1, none⟩) hbl).trans q2
      have hsn : l.take (i + 1) = l.take i ++ [(rowL l i, posL l i)] := by
        rw [List.take_add_one, List.getElem?_eq_getElem hlt]
        show _ ++ [l[i]] = _
        congr 1; simp [rowL, posL, hlt]
      have hsn2 := addAll_snoc n (List.replicate n (-1)) (l.take i) (rowL l i, posL l i)
      rw [← hsn, hall] at hsn2
      have hadd : Calls Try.prog 28 #[.pointer (some ⟨p, 0, none⟩), .int .i64 (rowL l i), .int .i64 (posL l i)] (wr.alloc (.cells #[.int .i64 (rowL l i), .int .i64 (posL l i)] 52)) fun e w' => e = .returned (.int .i64 (addC L n (rowL l i) (posL l i))) ∧ PmStep (fun k => w.heap.size ≤ k) (wr.alloc (.cells #[.int .i64 (rowL l i), .int .i64 (posL l i)] 52)) w' p (i + 1) (addL L n (rowL l i) (posL l i)) n :=
        pAdd_v (hv.below (below_al wr _)) (by omega) (by omega) (by omega) _ _
      have hlast : ∀ (h : ¬ addC L n (rowL l i) (posL l i) = 0), addAll n (List.replicate n (-1)) l = none := fun h => by
        cases hx : addAll n (List.replicate n (-1)) l with
        | none => rfl
        | some L' =>
          obtain ⟨L'', h2⟩ := addAll_take hx (i + 1)
          rw [h2] at hsn2
          show _ = _
          have : (some L'' : Option (List Int)) = if addC L n (rowL l i) (posL l i) = 0 then some (addL L n (rowL l i) (posL l i)) else none := hsn2
          rw [if_neg h] at this; cases this
      have HSN : Hid (addAll n (List.replicate n (-1)) (l.take (i + 1)) = if addC L n (rowL l i) (posL l i) = 0 then some (addL L n (rowL l i) (posL l i)) else none) := hsn2
      have HADD := Lib.hid hadd
      have HLAST := Lib.hid hlast
      have HB2 := Lib.hid hb
      clear hsn hsn2 hadd hall hv q1 q2 hlast hb
      generalize rowL l i = r0 at *
      generalize posL l i = p0 at *
      obtain ⟨code, hcode⟩ : ∃ code, addC L n r0 p0 = code := ⟨_, rfl⟩
      rw [hcode] at HSN HADD HLAST
      clear hcode
      go_wp2_with fail
      refine HADD.out.mono ?_
      rintro e w4 ⟨rfl, hst⟩
      obtain ⟨hv4, hb4⟩ := hst.own (by simp; omega)
      have hb5 : Below w.heap.size w w4 := (HB2.out.alloc hs _).trans hb4
      have HV4 := Lib.hid hv4
      have HB5 := Lib.hid hb5
      clear hst hv4 hb4 hb5
      by_cases hz : code = 0
      · have he := HSN.out
        rw [if_pos hz] at he
        have HE := Lib.hid he
        have dz : (code != 0) = false := by simp [hz]
        have dz2 : (code == 0) = true := by simp [hz]
        clear he hz HSN HLAST
        go_wp2_with fail
        go_roundw
        case rel => exact ⟨i + 1, _, by omega, by go_num, HE.out, HV4.out, HB5.out⟩
        case measure => simp [intOf]; omega
      · have he := HLAST.out hz
        have HE : Hid (NewPost w n l (.returned (.tuple #[.pointer none, .int .i64 1])) w4) := by
          show NewPost _ _ _ _ _
          unfold NewPost
          rw [he]
          exact ⟨rfl, HB5.out⟩
        have dz : (code != 0) = true := by simp [hz]
        have dz2 : (code == 0) = false := by simp [hz]
        clear he hz HSN HLAST
        go_wp2_with fail
        go_ret2
        exact HE.out
    · obtain rfl : i = l.length := by omega
      rw [List.take_length] at hall
      have HE : Hid (NewPost w n l (.returned (.tuple #[.pointer (some ⟨p, 0, none⟩), .int .i64 0])) wr) := by
        show NewPost _ _ _ _ _
        unfold NewPost
        rw [hall]
        exact ⟨p, rfl, hv, hb⟩
      clear hall hv hb
      go_wp2_with fail
      go_ret2
      exact HE.out

theorem pNew_bad (w : World) (n : Int) (hn : n < 0 ∨ 2147483648 < n) (v : Value) :
    Calls Try.prog 27 #[.int .i64 n, v] w fun e w' => e = .returned (.tuple #[.pointer none, .int .i64 1]) ∧ w = w' := by
  by_cases h : n < 0
  · have d1 : decide (n < 0) = true := decide_eq_true h
    clear hn
    go_enter Try.func27, Try.ntmps27
    go_wp2_with fail
    go_ret2
    exact ⟨rfl, rfl⟩
  · have d1 : decide (n < 0) = false := decide_eq_false h
    have d2 : decide ((2147483648 : Int) < n) = true := decide_eq_true (by omega)
    clear hn
    go_enter Try.func27, Try.ntmps27
    go_wp2_with fail
    go_ret2
    exact ⟨rfl, rfl⟩
theorem pAdd_nil (x y : Int) (w : World) : Calls Try.prog 28 #[.pointer none, .int .i64 x, .int .i64 y] w fun e w' => e = .returned (.int .i64 6) ∧ w = w' := by
  go_enter Try.func28, Try.ntmps28
  go_wp2_with fail
  go_ret
  exact ⟨rfl, rfl⟩

end Go.Proofs.Ytpbmhdkhkbhgnaa

namespace Go.Proofs.Ytpbmhdkhkbhgnaa
set_option linter.unusedVariables false
set_option linter.unusedSimpArgs false
open Go.RowKit

/-- A Perm all of whose blocks lie from B on. -/
def PmO (B : Nat) (w : World) (p c : Nat) (L : List Int) (N : Nat) : Prop := PmV (fun k => B ≤ k) w p c L N ∧ c ≤ 1000000 ∧ L.length ≤ 1000000 ∧ N ≤ 1000000 ∧ B ≤ w.heap.size

section
variable {B : Nat} {w w' : World} {p c : Nat} {L : List Int} {N : Nat}
theorem PmO.below (h : PmO B w p c L N) (hb : Below w.heap.size w w') : PmO B w' p c L N := ⟨h.1.below hb, h.2.1, h.2.2.1, h.2.2.2.1, Nat.le_trans h.2.2.2.2 hb.size⟩
theorem PmO.of {c' : Nat} {L' : List Int} {N' : Nat} (h : PmO B w p c L N) (hs : PmStep (fun k => B ≤ k) w w' p c' L' N') (hc : c' ≤ 1000000) (hL : L'.length ≤ 1000000) (hN : N' ≤ 1000000) : PmO B w' p c' L' N' ∧ Below B w w' := by
  obtain ⟨h1, h2⟩ := hs.own h.2.2.2.2
  exact ⟨⟨h1, hc, hL, hN, Nat.le_trans h.2.2.2.2 h2.size⟩, h2⟩
theorem add_o (h : PmO B w p c L N) (hc : c < 1000000) {x y code : Int} {L' : List Int} (hr : addC L N x y = code) (hl : addL L N x y = L') :
    Calls Try.prog 28 #[.pointer (some ⟨p, 0, none⟩), .int .i64 x, .int .i64 y] w fun e w' => e = .returned (.int .i64 code) ∧ PmO B w' p (c + 1) L' N ∧ Below B w w' := by
  subst hr; subst hl
  refine (pAdd_v h.1 h.2.1 h.2.2.1 h.2.2.2.1 x y).mono ?_
  rintro e w' ⟨rfl, hs⟩
  exact ⟨rfl, h.of hs (by omega) (by rw [addL_len]; exact h.2.2.1) h.2.2.2.1⟩
theorem drop_o (h : PmO B w p c L N) {x code : Int} {L' : List Int} (hr : (if 0 ≤ gL L x then 0 else 7) = code) (hl : dropL L x = L') :
    Calls Try.prog 40 #[.pointer (some ⟨p, 0, none⟩), .int .i64 x] w fun e w' => e = .returned (.int .i64 code) ∧ PmO B w' p c L' N ∧ Below B w w' := by
  subst hr; subst hl
  refine (pDrop_v h.1 h.2.1 x).mono ?_
  rintro e w' ⟨rfl, hs⟩
  exact ⟨rfl, h.of hs h.2.1 (by unfold dropL; split <;> (try rw [List.length_set]) <;> exact h.2.2.1) h.2.2.2.1⟩
theorem pos_o (h : PmO B w p c L N) {x code : Int} (hr : gL L x = code) :
    Calls Try.prog 29 #[.pointer (some ⟨p, 0, none⟩), .int .i64 x] w fun e w' => e = .returned (.int .i64 code) ∧ PmO B w' p c L N ∧ Below B w w' := by
  subst hr
  refine (pPos_v h.1 h.2.1 x).mono ?_
  rintro e w' ⟨rfl, hs⟩
  exact ⟨rfl, h.of hs h.2.1 h.2.2.1 h.2.2.2.1⟩
theorem row_o (h : PmO B w p c L N) {x code : Int} (hr : aL L x = code) :
    Calls Try.prog 31 #[.pointer (some ⟨p, 0, none⟩), .int .i64 x] w fun e w' => e = .returned (.int .i64 code) ∧ PmO B w' p c L N ∧ Below B w w' := by
  subst hr
  refine (pRow_v h.1 h.2.1 x).mono ?_
  rintro e w' ⟨rfl, hs⟩
  exact ⟨rfl, h.below hs, hs.mono h.2.2.2.2⟩
theorem next_o (h : PmO B w p c L N) {x code : Int} (hr : nextP x (prL 0 L) = code) :
    Calls Try.prog 35 #[.pointer (some ⟨p, 0, none⟩), .int .i64 x] w fun e w' => e = .returned (.int .i64 code) ∧ PmO B w' p c L N ∧ Below B w w' := by
  subst hr
  refine (pNext_v h.1 h.2.1 h.2.2.1 x).mono ?_
  rintro e w' ⟨rfl, hs⟩
  exact ⟨rfl, h.below hs, hs.mono h.2.2.2.2⟩
theorem rowIn_o (h : PmO B w p c L N) {x code : Int} {L' : List Int} (hr : okC (rowInB L x) = code) (hl : rowInL L x = L') (hL : L'.length ≤ 1000000) :
    Calls Try.prog 42 #[.pointer (some ⟨p, 0, none⟩), .int .i64 x] w fun e w' => e = .returned (.int .i64 code) ∧ PmO B w' p c L' N ∧ Below B w w' := by
  subst hr; subst hl
  refine (pRowIn_c h.1 h.2.1 h.2.2.1 x).mono ?_
  rintro e w' ⟨rfl, hs⟩
  exact ⟨rfl, h.of hs h.2.1 hL h.2.2.2.1⟩
theorem rowOutL_len (L : List Int) (x : Int) : (rowOutL L x).length ≤ L.length := by
  unfold rowOutL
  split
  · rename_i h
    unfold rowB at h
    simp at h
    rw [outA_len (by omega)]; omega
  · exact Nat.le_refl _
theorem rowOut_o (h : PmO B w p c L N) {x code : Int} {L' : List Int} (hr : okC (rowB L x) = code) (hl : rowOutL L x = L') :
    Calls Try.prog 36 #[.pointer (some ⟨p, 0, none⟩), .int .i64 x] w fun e w' => e = .returned (.int .i64 code) ∧ PmO B w' p c L' N ∧ Below B w w' := by
  subst hr; subst hl
  refine (pRowOut_c h.1 h.2.1 h.2.2.1 x).mono ?_
  rintro e w' ⟨rfl, hs⟩
  exact ⟨rfl, h.of hs h.2.1 (Nat.le_trans (rowOutL_len L x) h.2.2.1) h.2.2.2.1⟩
theorem moveL_len (L : List Int) (x y : Int) : (moveL L x y).length = L.length := by
  unfold moveL
  split
  · rename_i h
    unfold rowB at h
    simp at h
    rw [mvL_len (by omega) (by omega)]
  · rfl
theorem rowMove_o (h : PmO B w p c L N) {x y code : Int} {L' : List Int} (hr : okC (rowB L x && rowB L y) = code) (hl : moveL L x y = L') :
    Calls Try.prog 30 #[.pointer (some ⟨p, 0, none⟩), .int .i64 x, .int .i64 y] w fun e w' => e = .returned (.int .i64 code) ∧ PmO B w' p c L' N ∧ Below B w w' := by
  subst hr; subst hl
  refine (pRowMove_c h.1 h.2.1 h.2.2.1 x y).mono ?_
  rintro e w' ⟨rfl, hs⟩
  exact ⟨rfl, h.of hs h.2.1 (by rw [moveL_len]; exact h.2.2.1) h.2.2.2.1⟩
theorem posIn_o (h : PmO B w p c L N) {x code : Int} {L' : List Int} {N' : Nat} (hr : okC (posInB N x) = code) (hl : posInL L N x = L') (hn : posInN N x = N') (hN : N' ≤ 1000000) :
    Calls Try.prog 46 #[.pointer (some ⟨p, 0, none⟩), .int .i64 x] w fun e w' => e = .returned (.int .i64 code) ∧ PmO B w' p c L' N' ∧ Below B w w' := by
  subst hr; subst hl; subst hn
  refine (pPosIn_c h.1 h.2.1 h.2.2.2.1 x).mono ?_
  rintro e w' ⟨rfl, hs⟩
  exact ⟨rfl, h.of hs h.2.1 (by unfold posInL; split <;> (try rw [List.length_map]) <;> exact h.2.2.1) hN⟩
theorem posOut_o (h : PmO B w p c L N) {x code : Int} {L' : List Int} {N' : Nat} (hr : okC (posB N x) = code) (hl : posOutL L N x = L') (hn : posOutN N x = N') :
    Calls Try.prog 37 #[.pointer (some ⟨p, 0, none⟩), .int .i64 x] w fun e w' => e = .returned (.int .i64 code) ∧ PmO B w' p c L' N' ∧ Below B w w' := by
  subst hr; subst hl; subst hn
  refine (pPosOut_c h.1 h.2.1 h.2.2.2.1 x).mono ?_
  rintro e w' ⟨rfl, hs⟩
  exact ⟨rfl, h.of hs h.2.1 (by unfold posOutL; split <;> (try rw [List.length_map]) <;> exact h.2.2.1) (by have := h.2.2.2.1; unfold posOutN; split <;> omega)⟩
theorem size_o (h : PmO B w p c L N) {r s : Int} (hr : (L.length : Int) = r) (hs : (N : Int) = s) :
    Calls Try.prog 49 #[.pointer (some ⟨p, 0, none⟩)] w fun e w' => e = .returned (.tuple #[.int .i64 r, .int .i64 s]) ∧ PmO B w' p c L N ∧ Below B w w' := by
  subst hr; subst hs
  refine (pSize_v h.1).mono ?_
  rintro e w' ⟨rfl, n, rfl⟩
  exact ⟨rfl, h.below (below_dN (Below.refl _ _) n), below_dN (Below.refl _ _) n⟩
theorem all_o (h : PmO B w p c L N) {l : List (Int × Int)} (hr : prL 0 L = l) :
    Calls Try.prog 34 #[.pointer (some ⟨p, 0, none⟩)] w (GivesP w.heap.size w l) := by
  subst hr
  exact pAll_v h.1 h.2.1
theorem new_o {w : World} (n : Nat) {N : Int} (hN : N = n) (hn : n ≤ 1000) :
    Calls Try.prog 27 #[.int .i64 N, .slice none 0 0] w fun e w' => ∃ p, e = .returned (.tuple #[.pointer (some ⟨p, 0, none⟩), .int .i64 0]) ∧ PmO w.heap.size w' p 0 (List.replicate n (-1)) n ∧ Below w.heap.size w w' := by
  subst hN
  refine (pNew_v w n hn [] none 0 ReadsV.nil (by simp)).mono ?_
  intro e w' h
  obtain ⟨p, rfl, h1, h2⟩ := h
  exact ⟨p, rfl, ⟨h1, by simp, by simp; omega, by omega, h2.size⟩, h2⟩
theorem new1_o {w : World} (n : Nat) {N : Int} (hN : N = n) (hn : n ≤ 1000) (x : Int × Int) {T : TypeId} {L : List Int} (hr : addAll n (List.replicate n (-1)) [x] = some L) :
    Calls Try.prog 27 #[.int .i64 N, .slice (some ⟨w.heap.size, 0, none⟩) 1 1] (w.alloc (.cells #[.int .i64 x.1, .int .i64 x.2] T)) fun e w' => ∃ p, e = .returned (.tuple #[.pointer (some ⟨p, 0, none⟩), .int .i64 0]) ∧ PmO w.heap.size w' p 1 L n ∧ Below w.heap.size w w' := by
  subst hN
  have hb := below_al w (.cells #[.int .i64 x.1, .int .i64 x.2] T)
  have hs := hb.size
  refine (pNew_v _ n hn [x] (some ⟨w.heap.size, 0, none⟩) 1 (readsV_block (heap_alloc_new w _)) (by simp)).mono ?_
  intro e w' h
  unfold NewPost at h
  rw [hr] at h
  obtain ⟨p, rfl, h1, h2⟩ := h
  have h2s : (w.alloc (.cells #[.int .i64 x.1, .int .i64 x.2] T)).heap.size ≤ w'.heap.size := h2.size
  exact ⟨p, rfl, ⟨h1.mono (fun k hk => by simp at hk; omega), by simp, by have := addAll_len _ _ _ _ hr; rw [List.length_replicate] at this; omega, by omega, by omega⟩, hb.trans (h2.mono hs)⟩
theorem new1_bad {w : World} (n : Nat) {N : Int} (hN : N = n) (hn : n ≤ 1000) (x : Int × Int) {T : TypeId} (hr : addAll n (List.replicate n (-1)) [x] = none) :
    Calls Try.prog 27 #[.int .i64 N, .slice (some ⟨w.heap.size, 0, none⟩) 1 1] (w.alloc (.cells #[.int .i64 x.1, .int .i64 x.2] T)) fun e w' => e = .returned (.tuple #[.pointer none, .int .i64 1]) ∧ Below w.heap.size w w' := by
  subst hN
  have hb := below_al w (.cells #[.int .i64 x.1, .int .i64 x.2] T)
  refine (pNew_v _ n hn [x] (some ⟨w.heap.size, 0, none⟩) 1 (readsV_block (heap_alloc_new w _)) (by simp)).mono ?_
  intro e w' h
  unfold NewPost at h
  rw [hr] at h
  exact ⟨h.1, hb.trans (h.2.mono hb.size)⟩
end

set_option maxHeartbeats 6400000 in
set_option maxRecDepth 100000 in
theorem told11_any (w : World) : Calls Try.prog 32 #[] w fun e w' => e = .returned (.bool true) ∧ Below w.heap.size w w' := by
  go_enter Try.func32, Try.ntmps32
  go_wp2_with fail
  refine (new1_o (w := w) 6 rfl (by omega) (2, 5) (L := [-1, -1, 5, -1, -1, -1]) (by decide)).mono ?_
  rintro e w1 ⟨p, rfl, h1, hb1⟩
  have hs1 := hb1.size
  go_wp2_with fail
  refine (new1_bad (w := w1) 2 rfl (by omega) (2, 0) (by decide)).mono ?_
  rintro e w2 ⟨rfl, hb2⟩
  have h2 := h1.below hb2
  have hb2 := hb1.trans (hb2.mono hs1)
  clear h1 hb1 hs1
  go_wp2_with fail
  refine (add_o h2 (by omega) (code := 1) (L' := [-1, -1, 5, -1, -1, -1]) (by decide) (by decide)).mono ?_
  rintro e w3 ⟨rfl, h3, hb3⟩
  have hb3 := hb2.trans hb3
  clear h2 hb2
  go_wp2_with fail
  refine (add_o h3 (by omega) (code := 2) (L' := [-1, -1, 5, -1, -1, -1]) (by decide) (by decide)).mono ?_
  rintro e w2 ⟨rfl, h2, hb2⟩
  have hb2 := hb3.trans hb2
  clear h3 hb3
  go_wp2_with fail
  refine (rowIn_o h2 (code := 0) (L' := [-1, -1, -1, 5, -1, -1, -1]) (by decide) (by decide) (by simp)).mono ?_
  rintro e w3 ⟨rfl, h3, hb3⟩
  have hb3 := hb2.trans hb3
  clear h2 hb2
  go_wp2_with fail
  refine (posOut_o h3 (code := 0) (L' := [-1, -1, -1, 4, -1, -1, -1]) (N' := 5) (by decide) (by decide) (by decide)).mono ?_
  rintro e w2 ⟨rfl, h2, hb2⟩
  have hb2 := hb3.trans hb2
  clear h3 hb3
  go_wp2_with fail
  refine (pos_o h2 (code := 4) (by decide)).mono ?_
  rintro e w3 ⟨rfl, h3, hb3⟩
  have hb3 := hb2.trans hb3
  clear h2 hb2
  go_wp2_with fail
  refine (row_o h3 (code := 3) (by decide)).mono ?_
  rintro e w2 ⟨rfl, h2, hb2⟩
  have hb2 := hb3.trans hb2
  clear h3 hb3
  go_wp2_with fail
  refine (rowMove_o h2 (code := 0) (L' := [-1, -1, -1, -1, -1, -1, 4]) (by decide) (by decide)).mono ?_
  rintro e w3 ⟨rfl, h3, hb3⟩
  have hb3 := hb2.trans hb3
  clear h2 hb2
  go_wp2_with fail
  refine (size_o h3 (r := 7) (s := 5) rfl rfl).mono ?_
  rintro e w2 ⟨rfl, h2, hb2⟩
  have hb2 := hb3.trans hb2
  clear h3 hb3
  go_wp2_with fail
  refine (drop_o h2 (code := 0) (L' := [-1, -1, -1, -1, -1, -1, -1]) (by decide) (by decide)).mono ?_
  rintro e w3 ⟨rfl, h3, hb3⟩
  have hb3 := hb2.trans hb3
  clear h2 hb2
  go_wp2_with fail
  refine (drop_o h3 (code := 7) (L' := [-1, -1, -1, -1, -1, -1, -1]) (by decide) (by decide)).mono ?_
  rintro e w2 ⟨rfl, h2, hb2⟩
  have hb2 := hb3.trans hb2
  clear h3 hb3
  have hs2 := hb2.size
  go_wp2_with fail
  refine (all_o h2 (l := []) (by decide)).mono ?_
  rintro e w3 hg
  obtain ⟨a, cc, rfl, _, hb3⟩ := hg
  have h3 := h2.below hb3
  have hb3 := hb2.trans (hb3.mono hs2)
  clear h2 hb2 hs2
  go_wp2_with fail
  refine (next_o h3 (code := -1) (by decide)).mono ?_
  rintro e w2 ⟨rfl, h2, hb2⟩
  have hb2 := hb3.trans hb2
  clear h3 hb3
  go_wp2_with (first
    | (go_at_call 28; refine (pAdd_nil _ _ _).mono ?_; rintro e w' ⟨rfl, rfl⟩)
    | (go_at_call 29; refine (pPos_nil _ _).mono ?_; rintro e w' ⟨rfl, rfl⟩))
  go_ret
  exact ⟨rfl, hb2⟩

end Go.Proofs.Ytpbmhdkhkbhgnaa

namespace Go.Proofs.Ytpbmhdkhkbhgnaa
open Go.ChangeShapes Go.WideShapes Go.ChangeAt Go.RowKit

/-- A row of pairs that came in. -/
structure ArgP (w : World) (a : Option Addr) (cap : Nat) (xs : List (Int × Int)) : Prop where
  reads : ∀ i, i < xs.length → ∃ b off, a = some ⟨b, off, none⟩ ∧ b < w.heap.size ∧ ∀ j, j < xs.length →
    w.cell? ⟨b, off + j * 2, none⟩ = some (.int .i64 (xs[j]?.getD (0, 0)).1) ∧ w.cell? ⟨b, off + j * 2 + 1, none⟩ = some (.int .i64 (xs[j]?.getD (0, 0)).2)
  le : xs.length ≤ cap
  max : cap ≤ maxLen

variable {H : Type} {enc : TypeId × Value → H} {P : Program} {w : World} {base : Nat} {sp : Nat → Bool} {held : Bool}

theorem argP_of {t e : TypeId} {f0 f1 : Field} {fuel : Nat} {a : Option Addr} {len cap : Nat} {x : DataW H × List MemPlace} (ht : P.underlying t = some (.slice e)) (he : P.underlying e = some (.struct #[f0, f1]))
    (ce : P.cellsOf e = 2) (o0 : f0.offset = 0) (o1 : f1.offset = 1) (c0 : P.cellsOf f0.type = 1) (c1 : P.cellsOf f1.type = 1) (i0 : P.underlying f0.type = some (.int .i64)) (i1 : P.underlying f1.type = some (.int .i64))
    (hf : DataW.trod enc P w base sp held fuel t (Value.slice a len cap).cells.toList = some x) : ∃ xs : List (Int × Int), len = xs.length ∧ ArgP w a cap xs := by
  rcases Go.Deep.open_slice_pairs ht he ce o0 o1 c0 c1 hf with ⟨hcs, _⟩ | ⟨x, l, c, m, n, V0, V1, D0, D1, P0, P1, hcs, _, hl, hm, hmm, _, hx⟩
  · simp [Value.cells] at hcs
    obtain ⟨rfl, rfl, rfl⟩ := hcs
    exact ⟨[], rfl, ⟨fun i hi => absurd hi (by simp), by simp, by unfold maxLen; omega⟩⟩
  · simp [Value.cells] at hcs
    obtain ⟨rfl, rfl, rfl⟩ := hcs
    have hlm : len ≤ m := by rw [hmm]; split <;> omega
    have hz : ∀ i, i < m → ∃ z : Int × Int, V0 i = .int .i64 z.1 ∧ V1 i = .int .i64 z.2 := fun i hi => by
      obtain ⟨_, _, h0, h1⟩ := hx i hi
      obtain ⟨n0, e0, _⟩ := DataW.trod_int i0 h0
      obtain ⟨n1, e1, _⟩ := DataW.trod_int i1 h1
      injection e0 with e0
      injection e1 with e1
      exact ⟨(n0, n1), e0, e1⟩
    obtain ⟨z, hzz⟩ := Go.Deep.choose_lt hz
    have hlen : ((List.range len).map z).length = len := by simp
    refine ⟨(List.range len).map z, hlen.symm, ⟨fun i hi => ?_, by rw [hlen]; exact hl, hm⟩⟩
    rw [hlen] at hi ⊢
    obtain ⟨b, off, spot⟩ := x
    have h0 := (hx 0 (by omega)).1
    have hspot : spot = none := by simpa [Addr.add] using World.cell?_spot h0
    subst hspot
    refine ⟨b, off, rfl, World.block_lt_of_cell? w _ (by simpa [Addr.add] using h0), fun j hj => ?_⟩
    obtain ⟨g0, g1, _⟩ := hx j (by omega)
    obtain ⟨z0, z1⟩ := hzz j (by omega)
    rw [z0, Addr.add_lit] at g0
    rw [z1, Addr.add_lit] at g1
    have e : (((List.range len).map z)[j]?.getD (0, 0)) = z j := by simp [hj]
    rw [e]
    exact ⟨g0, g1⟩

end Go.Proofs.Ytpbmhdkhkbhgnaa

namespace Go.Proofs.Ytpbmhdkhkbhgnaa
set_option linter.unusedVariables false
set_option linter.unusedSimpArgs false
open Go.RowKit

/-- Block p, from B on, holds a tally. -/
def TAt (B : Nat) (w : World) (p : Nat) (t : Tl) : Prop := IsTally w p t ∧ B ≤ p

theorem TAt.chg {B : Nat} {w w' : World} {p : Nat} {t : Tl} (h : TAt B w p t) (hb : Below w.heap.size w w') : TAt B w' p t :=
  ⟨h.1.chg (S := fun _ => False) (Chg.of_below hb) (fun hf => hf), h.2⟩

theorem tnew_at {w : World} (l : List Int) {a : Option Addr} {c n : Nat} (hl : Reads w .i64 a l) (hn : n = l.length) (hs : ∀ x ∈ l, 0 ≤ x ∧ x < 257) (hlen : l.length ≤ 2147483648) :
    Calls Try.prog 59 #[.slice a n c] w fun e w' => ∃ p, e = .returned (.tuple #[.pointer (some ⟨p, 0, none⟩), .int .i64 0]) ∧ TAt w.heap.size w' p (Tl.of l) ∧ Below w.heap.size w w' := by
  subst hn
  refine (tNew_good hl hs hlen).mono ?_
  rintro e w' ⟨rfl, h1, h2⟩
  exact ⟨_, rfl, ⟨h1, Nat.le_refl _⟩, h2⟩

theorem tnew_lit {w : World} {t : TypeId} (l : List Int) (cs : Array Value) (n : Nat) (hcs : cs = (l.map (Value.int .i64)).toArray) (hn : n = l.length) (hs : ∀ x ∈ l, 0 ≤ x ∧ x < 257) (hlen : l.length ≤ 2147483648) :
    Calls Try.prog 59 #[.slice (some ⟨w.heap.size, 0, none⟩) n n] (w.alloc (.cells cs t)) fun e w' => ∃ p, e = .returned (.tuple #[.pointer (some ⟨p, 0, none⟩), .int .i64 0]) ∧ TAt w.heap.size w' p (Tl.of l) ∧ Below w.heap.size w w' := by
  subst hcs
  have hrd : Reads (w.alloc (.cells (l.map (Value.int .i64)).toArray t)) .i64 (some ⟨w.heap.size, 0, none⟩) l := fun i hi => ⟨_, _, rfl, by simp, fun j hj => by
    rw [Nat.zero_add, World.cell?_alloc_at _ _ _ _ rfl]
    simp [List.getElem?_eq_getElem hj]⟩
  refine (tnew_at l hrd hn hs hlen).mono ?_
  rintro e w' ⟨p, rfl, h1, h2⟩
  refine ⟨p, rfl, ⟨h1.1, ?_⟩, ((Below.refl _ _).alloc (Nat.le_refl _) _).trans (h2.mono (by simp))⟩
  have := h1.2; simp at this; omega

theorem tadd_at {B : Nat} {w : World} {p : Nat} {t t' : Tl} {s n x : Int} (h : TAt B w p t) (hB : B ≤ w.heap.size) (hr : t.step s n = (x, t')) :
    Calls Try.prog 89 #[.pointer (some ⟨p, 0, none⟩), .int .i64 s, .int .i64 n] w fun e w' => e = .returned (.int .i64 x) ∧ TAt B w' p t' ∧ Below B w w' := by
  refine (tAdd_any h.1 s n).mono ?_
  rintro e w' ⟨rfl, h1, h2⟩
  rw [hr] at h1 ⊢
  exact ⟨rfl, ⟨h1, h.2⟩, h2.below (fun b hb => by rw [hb]; exact h.2) hB⟩

theorem tof_at {B : Nat} {w : World} {p : Nat} {t : Tl} {s x : Int} (h : TAt B w p t) (hx : tOf t s = x) : Calls Try.prog 60 #[.pointer (some ⟨p, 0, none⟩), .int .i64 s] w fun e w' => e = .returned (.int .i64 x) ∧ w = w' := by
  subst hx; exact tOf_any h.1 s
theorem tbelow_at {B : Nat} {w : World} {p : Nat} {t : Tl} {s x : Int} (h : TAt B w p t) (hx : tBelow t s = x) : Calls Try.prog 61 #[.pointer (some ⟨p, 0, none⟩), .int .i64 s] w fun e w' => e = .returned (.int .i64 x) ∧ w = w' := by
  subst hx; exact tBelow_any h.1 s
def t8 : Tl := Tl.of [0, 5, 5, 256]
def t8' : Tl := t8.add 5 (-2)
theorem t8_1 : t8.step 5 (-2) = (0, t8') := rfl
theorem t8_2 : t8'.step 0 (-2) = (2, t8') := rfl
theorem t8_3 : t8'.step 300 1 = (1, t8') := rfl
theorem t8_4 : t8'.step 7 2147483648 = (2, t8') := rfl
theorem t8_5 : tOf t8' 5 = 0 := rfl
theorem t8_6 : tOf t8' 256 = 1 := rfl
theorem bl8 (k : Nat) : bl t8'.N k = (if 0 < k then 1 else 0) + (if 256 < k then 1 else 0) := by
  have e : bl t8.N k = (if 0 < k then 1 else 0) + (if 5 < k then 2 else 0) + (if 256 < k then 1 else 0) := by
    induction k with
    | zero => rfl
    | succ k ih =>
      have h : t8.N k = (if k = 0 then 1 else 0) + (if k = 5 then 2 else 0) + (if k = 256 then 1 else 0) := by
        show ((cnt [0, 5, 5, 256] (k : Int) : Nat) : Int) = _
        unfold cnt
        simp only [List.countP_cons, List.countP_nil, beq_iff_eq]
        by_cases h0 : k = 0
        · subst h0; rfl
        · by_cases h5 : k = 5
          · subst h5; rfl
          · by_cases h6 : k = 256
            · subst h6; rfl
            · simp only [if_neg h0, if_neg h5, if_neg h6, if_neg (show ¬ (0 : Int) = (k : Int) from by omega), if_neg (show ¬ (5 : Int) = (k : Int) from by omega), if_neg (show ¬ (256 : Int) = (k : Int) from by omega)]; rfl
      simp only [bl, ih, h]
      repeat' split
      all_goals omega
  unfold t8' Tl.add
  rw [bl_upd, e]
  have e5 : t8.N 5 = 2 := rfl
  rw [e5]
  repeat' split
  all_goals omega
theorem t8_b1 : bl t8'.N 256 = 1 := (bl8 256).trans rfl
theorem t8_b2 : bl t8'.N 257 = 2 := (bl8 257).trans rfl
theorem t8_7 : tBelow t8' 256 = 1 := t8_b1
theorem t8_8 : tBelow t8' 999 = 2 := t8_b2
theorem t8_9 : tBelow t8' (-4) = 0 := (bl8 0).trans rfl
theorem t8_all : t8'.all = 2 := rfl
theorem t8_w1 : IsWhich t8' 1 256 := by
  have h1 := t8_all
  have h2 := t8_b1
  have h3 := t8_b2
  unfold IsWhich
  refine ⟨fun h => ?_, fun _ => ⟨256, by omega, rfl, ?_, ?_⟩⟩
  · exfalso; rw [h1] at h; omega
  · exact Int.le_of_eq h2
  · show 1 < bl t8'.N 257
    rw [h3]; omega
theorem t8_w2 : IsWhich t8' 2 (-1) := by
  have h1 := t8_all
  unfold IsWhich
  refine ⟨fun _ => rfl, fun h => ?_⟩
  exfalso; rw [h1] at h; omega

end Go.Proofs.Ytpbmhdkhkbhgnaa

namespace Go.Proofs.Ytpbmhdkhkbhgnaa
set_option linter.unusedVariables false
set_option linter.unusedSimpArgs false
open Go.RowKit

theorem u64_of2 (a : Int) : ∃ u : Int, 0 ≤ u ∧ IntKind.u64.wrap a = u := ⟨IntKind.u64.wrap a, by rw [IntKind.wrap_u64]; omega, rfl⟩

theorem step_ok {t : Tl} {s : Nat} {n : Int} (hs : s < 257) (h1 : -t.N s ≤ n) (h2 : n ≤ 2147483648 - t.all) : t.step (s : Int) n = (0, t.add s n) := by
  unfold Tl.step
  rw [if_pos (by omega), Int.toNat_natCast, if_neg (by omega)]
theorem step_range {t : Tl} {s : Nat} {n : Int} (hs : s < 257) (h1 : n < -t.N s ∨ 2147483648 - t.all < n) : t.step (s : Int) n = (2, t) := by
  unfold Tl.step
  rw [if_pos (by omega), Int.toNat_natCast, if_pos h1]

theorem tBelow_nat (t : Tl) {s : Nat} (h : s ≤ 257) : tBelow t (s : Int) = bl t.N s := by
  unfold tBelow clamp
  congr 1
  omega
theorem tBelow_next (t : Tl) {s : Nat} (h : s < 257) : tBelow t ((s : Int) + 1) = bl t.N (s + 1) := tBelow_nat t (s := s + 1) (by omega)
theorem tOf_nat (t : Tl) {s : Nat} (h : s < 257) : tOf t (s : Int) = t.N s := by
  unfold tOf
  rw [if_pos (by omega), Int.toNat_natCast]

theorem tnew_none (w : World) : Calls Try.prog 59 #[.slice none 0 0] w fun e w' => ∃ p, e = .returned (.tuple #[.pointer (some ⟨p, 0, none⟩), .int .i64 0]) ∧ TAt w.heap.size w' p (Tl.of []) ∧ Below w.heap.size w w' :=
  tnew_at [] Reads.nil rfl (by simp) (by simp)

end Go.Proofs.Ytpbmhdkhkbhgnaa

namespace Go.Proofs.Ytpbmhdkhkbhgnaa
set_option linter.unusedVariables false
set_option linter.unusedSimpArgs false
open Go.RowKit

/-- A row of pairs that is read. -/
def RdP (w : World) (a : Option Addr) (l : List (Int × Int)) : Prop := ∀ i, i < l.length → ∃ b off, a = some ⟨b, off, none⟩ ∧ b < w.heap.size ∧ ∀ j, j < l.length → w.cell? ⟨b, off + j * 2, none⟩ = some (.int .i64 (rowL l j)) ∧ w.cell? ⟨b, off + j * 2 + 1, none⟩ = some (.int .i64 (posL l j))
theorem RdP.below {w w' : World} {a : Option Addr} {l : List (Int × Int)} (h : RdP w a l) (hb : Below w.heap.size w w') : RdP w' a l := by
  intro i hi
  obtain ⟨b, off, rfl, hlt, hc⟩ := h i hi
  exact ⟨b, off, rfl, by have := hb.size; omega, fun j hj => ⟨(hb.cell (p := ⟨b, off + j * 2, none⟩) hlt).trans (hc j hj).1, (hb.cell (p := ⟨b, off + j * 2 + 1, none⟩) hlt).trans (hc j hj).2⟩⟩
theorem rdp_own {w : World} {B n cap : Nat} {a : Option Addr} {l : List (Int × Int)} (h : w.ownsRow B 52 2 (.slice a n cap) n (cellsL l)) (hn : l.length = n) : RdP w a l := by
  intro i hi
  rcases h.2 with ⟨_, h0⟩ | ⟨g, c, cur, hv, _⟩
  · omega
  · injection hv with e1 _ _
    subst e1
    refine ⟨g, 0, rfl, (own_pair h hn (i := i) (by omega)).2.2, fun j hj => ?_⟩
    obtain ⟨h1, h2, _⟩ := own_pair h hn (i := j) (by omega)
    rw [Nat.zero_add]
    exact ⟨h1, h2⟩

set_option maxHeartbeats 1600000 in
theorem pairs_true {w : World} {a b : Option Addr} {n m c d : Nat} (l : List (Int × Int)) (hn : n = l.length) (hm : m = l.length) (ha : RdP w a l) (hb : RdP w b l) (hl : l.length ≤ 1000000) :
    Calls Try.prog 33 #[.slice a n c, .slice b m d] w fun e w' => e = .returned (.bool true) ∧ Below w.heap.size w w' := by
  subst hn; subst hm
  have HA := Lib.hid ha
  have HB := Lib.hid hb
  clear ha hb
  go_enter Try.func33, Try.ntmps33
  go_wp2_with fail
  go_loopw [5] (fun v wr => ∃ i : Nat, i ≤ l.length ∧ v = .int .i64 i ∧ Below w.heap.size w wr) (fun v _ => l.length - (intOf v).toNat)
  case atStart => exact ⟨0, Nat.zero_le _, rfl, Below.refl _ _⟩
  case round =>
    obtain ⟨i, hi, rfl, hbl⟩ := hrel
    have hs := hbl.size
    by_cases hlt : i < l.length
    · obtain ⟨g, off, rfl, hg, hc⟩ := (HA.out.below hbl) i hlt
      obtain ⟨g2, off2, rfl, hg2, hc2⟩ := (HB.out.below hbl) i hlt
      obtain ⟨q1, q2⟩ := hc i hlt
      obtain ⟨q3, q4⟩ := hc2 i hlt
      generalize rowL l i = r0 at *
      generalize posL l i = p0 at *
      have i0 : (0 : Int) ≤ (i : Int) := by omega
      have i1 : (i : Int) < (l.length : Int) := by omega
      have HBL := Lib.hid hbl
      clear hc hc2 hbl HA HB
      go_wp2_with fail
      go_quiet (fail)
      go_wp2_with fail
      go_roundw
      case rel => exact ⟨i + 1, by omega, by go_num, below_dN HBL.out _⟩
      case measure => simp [intOf]; omega
    · obtain rfl : i = l.length := by omega
      go_wp2_with fail
      go_ret
      exact ⟨rfl, hbl⟩

end Go.Proofs.Ytpbmhdkhkbhgnaa

namespace Go.Proofs.Ytpbmhdkhkbhgnaa
set_option linter.unusedVariables false
set_option linter.unusedSimpArgs false
open Go.RowKit

theorem PmV.lts {S : Nat → Prop} {w : World} {p c : Nat} {L : List Int} {N : Nat} (h : PmV S w p c L N) : PmV (fun k => S k ∧ k < w.heap.size) w p c L N := by
  obtain ⟨q, SA, lv, ov, m, h1, h2, h3, h4⟩ := h
  exact ⟨q, SA, lv, ov, m, h1, h2, h3, fun k hk => ⟨h4 k hk, h1.lt k hk⟩⟩

/-- The blocks from B on, but for some. -/
def exS (B : Nat) (X : Nat → Prop) (k : Nat) : Prop := B ≤ k ∧ ¬ X k
/-- A Perm whose blocks lie from B on and are none of X. -/
structure PmE (B : Nat) (X : Nat → Prop) (w : World) (p c : Nat) (L : List Int) (N : Nat) : Prop where
  pv : PmV (exS B X) w p c L N
  c6 : c ≤ 1000000
  l6 : L.length ≤ 1000000
  n6 : N ≤ 1000000
  le : B ≤ w.heap.size
  x : ∀ k, X k → k < w.heap.size

section
variable {B : Nat} {X : Nat → Prop} {w w' : World} {p c : Nat} {L : List Int} {N : Nat}
theorem PmE.of_own (h : PmO B w p c L N) : PmE B (fun _ => False) w p c L N := ⟨h.1.mono (fun k hk => ⟨hk, id⟩), h.2.1, h.2.2.1, h.2.2.2.1, h.2.2.2.2, fun _ hf => hf.elim⟩
/-- Blocks that came later are none of the Perm's. -/
theorem PmE.less (h : PmE B X w p c L N) (hb : Below w.heap.size w w') {Y : Nat → Prop} (hy : ∀ k, Y k → X k ∨ w.heap.size ≤ k) (hl : ∀ k, Y k → k < w'.heap.size) : PmE B Y w' p c L N :=
  ⟨(h.pv.lts.below hb).mono (fun k hk => ⟨hk.1.1, fun hY => (hy k hY).elim hk.1.2 (fun h => by omega)⟩), h.c6, h.l6, h.n6, Nat.le_trans h.le hb.size, hl⟩
theorem PmE.below (h : PmE B X w p c L N) (hb : Below w.heap.size w w') : PmE B X w' p c L N := ⟨h.pv.below hb, h.c6, h.l6, h.n6, Nat.le_trans h.le hb.size, fun k hk => Nat.lt_of_lt_of_le (h.x k hk) hb.size⟩
theorem PmE.chg {S : Nat → Prop} (h : PmE B X w p c L N) (hc : Chg S w w') (hd : ∀ k, exS B X k → k < w.heap.size → ¬ S k) : PmE B X w' p c L N :=
  ⟨((h.pv.lts).chg hc (fun k hk => hd k hk.1 hk.2)).mono (fun k hk => hk.1), h.c6, h.l6, h.n6, Nat.le_trans h.le hc.size, fun k hk => Nat.lt_of_lt_of_le (h.x k hk) hc.size⟩
theorem PmE.of {c' : Nat} {L' : List Int} {N' : Nat} (h : PmE B X w p c L N) (hs : PmStep (exS B X) w w' p c' L' N') (hc : c' ≤ 1000000) (hL : L'.length ≤ 1000000) (hN : N' ≤ 1000000) : PmE B X w' p c' L' N' ∧ Chg (exS B X) w w' :=
  ⟨⟨hs.pv.mono (fun k hk => hk.elim id (fun hk => ⟨by have := h.le; omega, fun hx => by have := h.x k hx; omega⟩)), hc, hL, hN, Nat.le_trans h.le hs.chg.size, fun k hk => Nat.lt_of_lt_of_le (h.x k hk) hs.chg.size⟩, hs.chg⟩
theorem exS_below (hc : Chg (exS B X) w w') (hB : B ≤ w.heap.size) : Below B w w' := hc.below (fun b hb => hb.1) hB
theorem RdP.chg {S : Nat → Prop} {a : Option Addr} {l : List (Int × Int)} (h : RdP w a l) (hc : Chg S w w') (hn : ∀ ad, a = some ad → ¬ S ad.block) : RdP w' a l := by
  intro i hi
  obtain ⟨b, off, rfl, hlt, hcc⟩ := h i hi
  exact ⟨b, off, rfl, by have := hc.size; omega, fun j hj => ⟨hc.cell (hcc j hj).1 (hn ⟨b, off, none⟩ rfl), hc.cell (hcc j hj).2 (hn ⟨b, off, none⟩ rfl)⟩⟩

theorem add_e (h : PmE B X w p c L N) (hc : c < 1000000) {x y code : Int} {L' : List Int} (hr : addC L N x y = code) (hl : addL L N x y = L') :
    Calls Try.prog 28 #[.pointer (some ⟨p, 0, none⟩), .int .i64 x, .int .i64 y] w fun e w' => e = .returned (.int .i64 code) ∧ PmE B X w' p (c + 1) L' N ∧ Chg (exS B X) w w' := by
  subst hr; subst hl
  refine (pAdd_v h.pv h.c6 h.l6 h.n6 x y).mono ?_
  rintro e w' ⟨rfl, hs⟩
  exact ⟨rfl, h.of hs (by omega) (by rw [addL_len]; exact h.l6) h.n6⟩
theorem drop_e (h : PmE B X w p c L N) {x code : Int} {L' : List Int} (hr : (if 0 ≤ gL L x then 0 else 7) = code) (hl : dropL L x = L') :
    Calls Try.prog 40 #[.pointer (some ⟨p, 0, none⟩), .int .i64 x] w fun e w' => e = .returned (.int .i64 code) ∧ PmE B X w' p c L' N ∧ Chg (exS B X) w w' := by
  subst hr; subst hl
  refine (pDrop_v h.pv h.c6 x).mono ?_
  rintro e w' ⟨rfl, hs⟩
  exact ⟨rfl, h.of hs h.c6 (by unfold dropL; split <;> (try rw [List.length_set]) <;> exact h.l6) h.n6⟩
theorem pos_e (h : PmE B X w p c L N) {x code : Int} (hr : gL L x = code) :
    Calls Try.prog 29 #[.pointer (some ⟨p, 0, none⟩), .int .i64 x] w fun e w' => e = .returned (.int .i64 code) ∧ PmE B X w' p c L N ∧ Chg (exS B X) w w' := by
  subst hr
  refine (pPos_v h.pv h.c6 x).mono ?_
  rintro e w' ⟨rfl, hs⟩
  exact ⟨rfl, h.of hs h.c6 h.l6 h.n6⟩
theorem row_e (h : PmE B X w p c L N) {x code : Int} (hr : aL L x = code) :
    Calls Try.prog 31 #[.pointer (some ⟨p, 0, none⟩), .int .i64 x] w fun e w' => e = .returned (.int .i64 code) ∧ PmE B X w' p c L N ∧ Chg (exS B X) w w' := by
  subst hr
  refine (pRow_v h.pv h.c6 x).mono ?_
  rintro e w' ⟨rfl, hs⟩
  exact ⟨rfl, h.below hs, Chg.of_below hs⟩
theorem next_e (h : PmE B X w p c L N) {x code : Int} (hr : nextP x (prL 0 L) = code) :
    Calls Try.prog 35 #[.pointer (some ⟨p, 0, none⟩), .int .i64 x] w fun e w' => e = .returned (.int .i64 code) ∧ PmE B X w' p c L N ∧ Chg (exS B X) w w' := by
  subst hr
  refine (pNext_v h.pv h.c6 h.l6 x).mono ?_
  rintro e w' ⟨rfl, hs⟩
  exact ⟨rfl, h.below hs, Chg.of_below hs⟩
theorem rowIn_e (h : PmE B X w p c L N) {x code : Int} {L' : List Int} (hr : okC (rowInB L x) = code) (hl : rowInL L x = L') (hL : L'.length ≤ 1000000) :
    Calls Try.prog 42 #[.pointer (some ⟨p, 0, none⟩), .int .i64 x] w fun e w' => e = .returned (.int .i64 code) ∧ PmE B X w' p c L' N ∧ Chg (exS B X) w w' := by
  subst hr; subst hl
  refine (pRowIn_c h.pv h.c6 h.l6 x).mono ?_
  rintro e w' ⟨rfl, hs⟩
  exact ⟨rfl, h.of hs h.c6 hL h.n6⟩
theorem rowOut_e (h : PmE B X w p c L N) {x code : Int} {L' : List Int} (hr : okC (rowB L x) = code) (hl : rowOutL L x = L') :
    Calls Try.prog 36 #[.pointer (some ⟨p, 0, none⟩), .int .i64 x] w fun e w' => e = .returned (.int .i64 code) ∧ PmE B X w' p c L' N ∧ Chg (exS B X) w w' := by
  subst hr; subst hl
  refine (pRowOut_c h.pv h.c6 h.l6 x).mono ?_
  rintro e w' ⟨rfl, hs⟩
  exact ⟨rfl, h.of hs h.c6 (Nat.le_trans (rowOutL_len L x) h.l6) h.n6⟩
theorem rowMove_e (h : PmE B X w p c L N) {x y code : Int} {L' : List Int} (hr : okC (rowB L x && rowB L y) = code) (hl : moveL L x y = L') :
    Calls Try.prog 30 #[.pointer (some ⟨p, 0, none⟩), .int .i64 x, .int .i64 y] w fun e w' => e = .returned (.int .i64 code) ∧ PmE B X w' p c L' N ∧ Chg (exS B X) w w' := by
  subst hr; subst hl
  refine (pRowMove_c h.pv h.c6 h.l6 x y).mono ?_
  rintro e w' ⟨rfl, hs⟩
  exact ⟨rfl, h.of hs h.c6 (by rw [moveL_len]; exact h.l6) h.n6⟩
theorem posIn_e (h : PmE B X w p c L N) {x code : Int} {L' : List Int} {N' : Nat} (hr : okC (posInB N x) = code) (hl : posInL L N x = L') (hn : posInN N x = N') (hN : N' ≤ 1000000) :
    Calls Try.prog 46 #[.pointer (some ⟨p, 0, none⟩), .int .i64 x] w fun e w' => e = .returned (.int .i64 code) ∧ PmE B X w' p c L' N' ∧ Chg (exS B X) w w' := by
  subst hr; subst hl; subst hn
  refine (pPosIn_c h.pv h.c6 h.n6 x).mono ?_
  rintro e w' ⟨rfl, hs⟩
  exact ⟨rfl, h.of hs h.c6 (by unfold posInL; split <;> (try rw [List.length_map]) <;> exact h.l6) hN⟩
theorem posOut_e (h : PmE B X w p c L N) {x code : Int} {L' : List Int} {N' : Nat} (hr : okC (posB N x) = code) (hl : posOutL L N x = L') (hn : posOutN N x = N') :
    Calls Try.prog 37 #[.pointer (some ⟨p, 0, none⟩), .int .i64 x] w fun e w' => e = .returned (.int .i64 code) ∧ PmE B X w' p c L' N' ∧ Chg (exS B X) w w' := by
  subst hr; subst hl; subst hn
  refine (pPosOut_c h.pv h.c6 h.n6 x).mono ?_
  rintro e w' ⟨rfl, hs⟩
  exact ⟨rfl, h.of hs h.c6 (by unfold posOutL; split <;> (try rw [List.length_map]) <;> exact h.l6) (by have := h.n6; unfold posOutN; split <;> omega)⟩
theorem size_e (h : PmE B X w p c L N) {r s : Int} (hr : (L.length : Int) = r) (hs : (N : Int) = s) :
    Calls Try.prog 49 #[.pointer (some ⟨p, 0, none⟩)] w fun e w' => e = .returned (.tuple #[.int .i64 r, .int .i64 s]) ∧ PmE B X w' p c L N ∧ Chg (exS B X) w w' := by
  subst hr; subst hs
  refine (pSize_v h.pv).mono ?_
  rintro e w' ⟨rfl, n, rfl⟩
  exact ⟨rfl, h.below (below_dN (Below.refl _ _) n), Chg.refl.drewN n⟩
theorem all_e (h : PmE B X w p c L N) {l : List (Int × Int)} (hr : prL 0 L = l) :
    Calls Try.prog 34 #[.pointer (some ⟨p, 0, none⟩)] w (GivesP w.heap.size w l) := by
  subst hr
  exact pAll_v h.pv h.c6
end

end Go.Proofs.Ytpbmhdkhkbhgnaa
