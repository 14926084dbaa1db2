/- Lemmas and contracts under the claims of this seat: The document's answer for perm: row, pos, Pos, At, Row, Drop, RowIn, RowOut, RowMove, Add. The document's answer for perm: RowIn, RowOut, RowMove, PosIn, PosOut, All, Next. The document's answer for perm: PosIn, PosOut. The document's answer for perm: NewPerm. A Perm and the document's Perm beside one another. What a walk is told of an argument that is a row of structs of two integers and a bool. What a walk is told of an argument that is a row of structs of three integers. -/
import Derived.Test.YtpbmhdkhkbhgnaaZp5
import Derived.Test.YtpbmhdkhkbhgnaaZp3
import Derived.Deep.SlicePairs

namespace Go.Proofs.Ytpbmhdkhkbhgnaa
set_option linter.unusedVariables false
set_option linter.unusedSimpArgs false
open Go.RowKit

/-- Block r holds the document's Perm: its row v, how many places. -/
structure RfIn (w : World) (r : Nat) (v : Value) (L : List Int) (N : Nat) : Prop where
  hp : w.heap[r]? = some (.cells #[v, .int .i64 N] 63 (0, 0))
  own : w.ownsRow 0 3 1 v L.length (L.map (Value.int .i64))
  ne : ∀ k, v.ownBlock = some k → k ≠ r

section
variable {w w' : World} {r : Nat} {v : Value} {L : List Int} {N : Nat}
theorem RfIn.chg {S : Nat → Prop} (h : RfIn w r v L N) (hc : Chg S w w') (h1 : ¬ S r) (h2 : ∀ k, v.ownBlock = some k → ¬ S k) : RfIn w' r v L N := ⟨hc.heap h.hp h1, hc.own h.own h2, h.ne⟩
theorem RfIn.below (h : RfIn w r v L N) (hb : Below w.heap.size w w') : RfIn w' r v L N := h.chg (Chg.of_below (S := fun _ => False) hb) id (fun _ _ => id)
theorem RfIn.see (h : RfIn w r v L N) : ∃ a c, v = .slice a L.length c ∧ w.cell? ⟨r, 0, none⟩ = some (.slice a L.length c) ∧ w.cell? ⟨r, 1, none⟩ = some (.int .i64 N) ∧ (∀ j, w.frozen? ⟨r, j, none⟩ = false) ∧ (a = none → L.length = 0 ∧ c = 0) ∧ ReadsV w a (L.map (Value.int .i64)) ∧ L.length ≤ c ∧ c ≤ maxLen := by
  obtain ⟨a, c, hv, hz, _⟩ := own_slice h.own
  have hcap : L.length ≤ c ∧ c ≤ maxLen := by
    rcases h.own.2 with ⟨e, h0⟩ | ⟨g, cap, cur, e, _, _, h1, h2, _⟩
    · rw [hv] at e; injection e with _ _ e; rw [e, h0]; exact ⟨Nat.le_refl _, Nat.zero_le _⟩
    · rw [hv] at e; injection e with _ _ e; rw [e]; exact ⟨h1, h2⟩
  refine ⟨a, c, hv, ?_, ?_, fun j => frozen_of_row w r j _ _ h.hp, hz, readsV_own (by have := h.own; rwa [hv] at this), hcap.1, hcap.2⟩
  · rw [cell_of_row w r 0 _ _ _ h.hp, hv]; rfl
  · rw [cell_of_row w r 1 _ _ _ h.hp]; rfl
/-- One number of the row. -/
theorem RfIn.at (h : RfIn w r v L N) {i : Nat} (hi : i < L.length) : ∃ g c, v = .slice (some ⟨g, 0, none⟩) L.length c ∧ w.cell? ⟨g, i, none⟩ = some (.int .i64 (gL L i)) ∧ w.frozen? ⟨g, i, none⟩ = false := by
  obtain ⟨g, cap, hv, _, hg, _, _, hcell, hfr⟩ := own_some h.own (by omega)
  refine ⟨g, cap, hv, ?_, hfr i⟩
  rw [hcell i hi, List.getElem?_map, gL_nat, List.getElem?_eq_getElem hi]; rfl
end

set_option maxHeartbeats 800000 in
theorem rRow_b {w : World} {r : Nat} {v : Value} {L : List Int} {N : Nat} (h : RfIn w r v L N) (x : Int) :
    Calls Try.prog 81 #[.pointer (some ⟨r, 0, none⟩), .int .i64 x] w fun e w' => e = .returned (.bool (rowB L x)) ∧ w = w' := by
  obtain ⟨a, c, rfl, c0, c1, _, _, _, _, _⟩ := h.see
  unfold rowB
  clear h
  by_cases h0 : 0 ≤ x
  · have d1 : decide (0 ≤ x) = true := decide_eq_true h0
    rw [d1, Bool.true_and]
    clear h0
    go_enter Try.func81, Try.ntmps81
    go_wp2_with fail
    go_ret
    exact ⟨rfl, rfl⟩
  · have d1 : decide (0 ≤ x) = false := decide_eq_false h0
    rw [d1, Bool.false_and]
    clear h0
    go_enter Try.func81, Try.ntmps81
    go_wp2_with fail
    go_ret
    exact ⟨rfl, rfl⟩
set_option maxHeartbeats 800000 in
theorem rPos_b {w : World} {r : Nat} {v : Value} {L : List Int} {N : Nat} (h : RfIn w r v L N) (x : Int) :
    Calls Try.prog 82 #[.pointer (some ⟨r, 0, none⟩), .int .i64 x] w fun e w' => e = .returned (.bool (posB N x)) ∧ w = w' := by
  obtain ⟨a, c, rfl, c0, c1, _, _, _, _, _⟩ := h.see
  unfold posB
  clear h
  by_cases h0 : 0 ≤ x
  · have d1 : decide (0 ≤ x) = true := decide_eq_true h0
    rw [d1, Bool.true_and]
    clear h0
    go_enter Try.func82, Try.ntmps82
    go_wp2_with fail
    go_ret
    exact ⟨rfl, rfl⟩
  · have d1 : decide (0 ≤ x) = false := decide_eq_false h0
    rw [d1, Bool.false_and]
    clear h0
    go_enter Try.func82, Try.ntmps82
    go_wp2_with fail
    go_ret
    exact ⟨rfl, rfl⟩

theorem gL_no {L : List Int} {x : Int} (h : rowB L x = false) : gL L x = -1 := by
  unfold rowB at h
  simp at h
  by_cases h0 : x < 0
  · exact gL_neg h0
  · exact gL_over (by omega)
set_option maxHeartbeats 800000 in
theorem rPos_any {w : World} {r : Nat} {v : Value} {L : List Int} {N : Nat} (h : RfIn w r v L N) (x : Int) :
    Calls Try.prog 51 #[.pointer (some ⟨r, 0, none⟩), .int .i64 x] w fun e w' => e = .returned (.int .i64 (gL L x)) ∧ w = w' := by
  have hrow := rRow_b h x
  cases hb : rowB L x with
  | false =>
    rw [hb] at hrow
    rw [gL_no hb]
    have HR := Lib.hid hrow
    clear hrow h hb
    go_enter Try.func51, Try.ntmps51
    go_wp2_with (go_at_call 81; refine HR.out.mono ?_; rintro e w' ⟨rfl, rfl⟩)
    go_ret
    exact ⟨rfl, rfl⟩
  | true =>
    rw [hb] at hrow
    have HR := Lib.hid hrow
    unfold rowB at hb
    simp at hb
    obtain ⟨i, rfl⟩ := Int.eq_ofNat_of_zero_le hb.1
    obtain ⟨g, c, hv, hc, _⟩ := h.at (i := i) (by omega)
    obtain ⟨a, c', hv', c0, c1, _⟩ := h.see
    rw [hv] at hv'
    injection hv' with e1 _ e3
    subst e1; subst e3
    generalize gL L i = y at *
    have i0 : (0 : Int) ≤ (i : Int) := by omega
    have i1 : (i : Int) < (L.length : Int) := by omega
    clear hrow h hb hv
    go_enter Try.func51, Try.ntmps51
    go_wp2_with (go_at_call 81; refine HR.out.mono ?_; rintro e w' ⟨rfl, rfl⟩)
    go_ret
    exact ⟨rfl, rfl⟩

/-- The first place of a number in a row. -/
theorem aL_first {L : List Int} {x : Int} (hx : 0 ≤ x) {i : Nat} (hi : i < L.length) (he : gL L i = x) (hn : ∀ j, j < i → gL L j ≠ x) : aL L x = i := by
  unfold aL
  rw [if_neg (by omega)]
  have : L.findIdx? (fun y => y == x) = some i := by
    rw [List.findIdx?_eq_some_iff_getElem]
    refine ⟨hi, ?_, fun j hj => ?_⟩
    · rw [gL_nat, List.getElem?_eq_getElem hi] at he
      have he : L[i] = x := he
      simp [he]
    · have := hn j hj
      rw [gL_nat, List.getElem?_eq_getElem (by omega)] at this
      have this : L[j] ≠ x := this
      simp [this]
  rw [this]
set_option maxHeartbeats 800000 in
theorem rAt_any {w : World} {a : Option Addr} {n c : Nat} {L : List Int} (hn : n = L.length) (hr : ReadsV w a (L.map (Value.int .i64))) (hl : L.length ≤ 1000000) (x : Int) (hx : 0 ≤ x) :
    Calls Try.prog 86 #[.slice a n c, .int .i64 x] w fun e w' => e = .returned (.int .i64 (aL L x)) ∧ w = w' := by
  subst hn
  have HRD : Hid (∀ i, i < L.length → ∃ b off, a = some ⟨b, off, none⟩ ∧ w.cell? ⟨b, off + i, none⟩ = some (.int .i64 (gL L i))) := by
    intro i hi
    obtain ⟨b, off, ha, _, hc⟩ := hr.some (by simp; omega)
    exact ⟨b, off, ha, hc i _ (by rw [List.getElem?_map, gL_nat, List.getElem?_eq_getElem hi]; rfl)⟩
  clear hr
  go_enter Try.func86, Try.ntmps86
  go_wp2_with fail
  go_loopw [5] (fun v wr => ∃ i : Nat, i ≤ L.length ∧ v = .int .i64 i ∧ (∀ j, j < i → gL L j ≠ x) ∧ wr = w) (fun v _ => L.length - (intOf v).toNat)
  case atStart => exact ⟨0, Nat.zero_le _, rfl, fun j hj => absurd hj (Nat.not_lt_zero _), rfl⟩
  case round =>
    obtain ⟨i, hi, rfl, hno, rfl⟩ := hrel
    by_cases hlt : i < L.length
    · obtain ⟨b, off, rfl, hc⟩ := HRD.out i hlt
      have i0 : (0 : Int) ≤ (i : Int) := by omega
      have i1 : (i : Int) < (L.length : Int) := by omega
      by_cases he : gL L i = x
      · have hf := aL_first hx hlt he hno
        rw [he] at hc
        have HF := Lib.hid hf
        have dx : (x == x) = true := by simp
        clear HRD hno hf he
        go_wp2_with fail
        go_ret
        exact ⟨ret_int HF.out.symm, rfl⟩
      · have hno2 : ∀ j, j < i + 1 → gL L j ≠ x := fun j hj => by
          rcases Nat.lt_or_ge j i with q | q
          · exact hno j q
          · obtain rfl : j = i := by omega
            exact he
        have HN := Lib.hid hno2
        have dx : (gL L i == x) = false := by simp [he]
        generalize gL L i = y at *
        clear hno hno2 he
        go_wp2_with fail
        go_roundw
        case rel => exact ⟨i + 1, by omega, by go_num, HN.out, trivial⟩
        case measure => simp [intOf]; omega
    · obtain rfl : i = L.length := by omega
      have hf : aL L x = -1 := by
        rcases aL_spec L x with ⟨j, _, h2, h3, _⟩ | ⟨h1, _⟩
        · exact absurd h3 (hno j h2)
        · exact h1
      have HF := Lib.hid hf
      clear HRD hno hf
      go_wp2_with fail
      go_ret
      exact ⟨ret_int HF.out.symm, rfl⟩

set_option maxHeartbeats 800000 in
theorem rRow_any {w : World} {r : Nat} {v : Value} {L : List Int} {N : Nat} (h : RfIn w r v L N) (hl : L.length ≤ 1000000) (hrg : ∀ i, gL L i < N) (x : Int) :
    Calls Try.prog 52 #[.pointer (some ⟨r, 0, none⟩), .int .i64 x] w fun e w' => e = .returned (.int .i64 (aL L x)) ∧ w = w' := by
  have hpos := rPos_b h x
  cases hb : posB N x with
  | false =>
    rw [hb] at hpos
    have ha : aL L x = -1 := by
      unfold posB at hb
      simp at hb
      rcases aL_spec L x with ⟨j, _, h2, h3, h4⟩ | ⟨h1, _⟩
      · have := hrg j
        omega
      · exact h1
    rw [ha]
    have HR := Lib.hid hpos
    clear hpos h hb ha hrg
    go_enter Try.func52, Try.ntmps52
    go_wp2_with (go_at_call 82; refine HR.out.mono ?_; rintro e w' ⟨rfl, rfl⟩)
    go_ret
    exact ⟨rfl, rfl⟩
  | true =>
    rw [hb] at hpos
    have HR := Lib.hid hpos
    unfold posB at hb
    simp at hb
    obtain ⟨a, c, rfl, c0, c1, _, _, hrd, _, _⟩ := h.see
    have HAT := Lib.hid (rAt_any (c := c) rfl hrd hl x hb.1)
    clear hpos h hb hrd hrg
    go_enter Try.func52, Try.ntmps52
    go_wp2_with (first | (go_at_call 82; refine HR.out.mono ?_; rintro e w' ⟨rfl, rfl⟩) | (go_at_call 86; refine HAT.out.mono ?_; rintro e w' ⟨rfl, rfl⟩))
    go_ret
    exact ⟨rfl, rfl⟩

/-- Block r holds the document's Perm that is this list; its blocks are of S. -/
def RfV (S : Nat → Prop) (w : World) (r : Nat) (L : List Int) (N : Nat) : Prop := ∃ v, RfIn w r v L N ∧ S r ∧ ∀ k, v.ownBlock = some k → S k
structure RfStep (S : Nat → Prop) (w w' : World) (r : Nat) (L : List Int) (N : Nat) : Prop where
  rv : RfV (fun k => S k ∨ (w.heap.size ≤ k ∧ k < w'.heap.size)) w' r L N
  chg : Chg S w w'
section
variable {S : Nat → Prop} {w w' : World} {r : Nat} {L : List Int} {N : Nat}
theorem RfV.mono {S' : Nat → Prop} (h : RfV S w r L N) (hs : ∀ k, S k → S' k) : RfV S' w r L N := by
  obtain ⟨v, h1, h2, h3⟩ := h
  exact ⟨v, h1, hs _ h2, fun k hk => hs k (h3 k hk)⟩
theorem RfV.lts (h : RfV S w r L N) : RfV (fun k => S k ∧ k < w.heap.size) w r L N := by
  obtain ⟨v, h1, h2, h3⟩ := h
  exact ⟨v, h1, ⟨h2, (Array.getElem?_eq_some_iff.1 h1.hp).1⟩, fun k hk => ⟨h3 k hk, (own_lt h1.own hk).2⟩⟩
theorem RfV.chg {S' : Nat → Prop} (h : RfV S w r L N) (hc : Chg S' w w') (hd : ∀ k, S k → ¬ S' k) : RfV S w' r L N := by
  obtain ⟨v, h1, h2, h3⟩ := h
  exact ⟨v, h1.chg hc (hd _ h2) (fun k hk => hd k (h3 k hk)), h2, h3⟩
theorem RfV.below (h : RfV S w r L N) (hb : Below w.heap.size w w') : RfV S w' r L N := h.chg (Chg.of_below (S := fun _ => False) hb) (fun _ _ => id)
theorem RfV.stay (h : RfV S w r L N) (hb : Below w.heap.size w w') : RfStep S w w' r L N := ⟨(h.below hb).mono (fun k hk => Or.inl hk), Chg.of_below hb⟩
end

/-- A store into the row. -/
theorem RfIn.set {w : World} {r g c : Nat} {L : List Int} {N : Nat} (h : RfIn w r (.slice (some ⟨g, 0, none⟩) L.length c) L N) (i : Nat) (x : Int) :
    RfIn (w.setCell ⟨g, i, none⟩ (.int .i64 x)) r (.slice (some ⟨g, 0, none⟩) L.length c) (L.set i x) N ∧ Chg (fun b => b = g) w (w.setCell ⟨g, i, none⟩ (.int .i64 x)) := by
  have hc : Chg (fun b => b = g) w (w.setCell ⟨g, i, none⟩ (.int .i64 x)) := Chg.refl.setCell (S := fun b => b = g) ⟨g, i, none⟩ (Or.inl rfl) _
  refine ⟨⟨hc.heap h.hp (fun e => h.ne g rfl e.symm), ?_, h.ne⟩, hc⟩
  have := own_set h.own i (.int .i64 x)
  rw [← List.map_set] at this
  rw [List.length_set]
  exact this
/-- Another row. -/
theorem RfIn.put {w w' : World} {r g n c : Nat} {v : Value} {L L' : List Int} {N : Nat} (h : RfIn w r v L N) (hb : Below w.heap.size w w') {a : Option Addr} (hn : L'.length = n) (ho : w'.ownsRow w.heap.size 3 1 (.slice a n c) n (L'.map (Value.int .i64))) :
    RfIn (w'.setCell ⟨r, 0, none⟩ (.slice a n c)) r (.slice a n c) L' N := by
  subst hn
  have hr := (Array.getElem?_eq_some_iff.1 h.hp).1
  have hp := (h.below hb).hp
  have hs : Chg (fun b => b = r) w' (w'.setCell ⟨r, 0, none⟩ (.slice a L'.length c)) := Chg.refl.setCell (S := fun b => b = r) ⟨r, 0, none⟩ (Or.inl rfl) _
  have hne : ∀ k, (Value.slice a L'.length c).ownBlock = some k → k ≠ r := fun k hk e => by have := (own_lt ho hk).1; omega
  exact ⟨heap_setCell_same w' r 0 _ _ _ hp, hs.own (own_mono ho (Nat.zero_le _)) (fun k hk e => hne k hk e), hne⟩
theorem RfStep.set {S : Nat → Prop} {w W : World} {r g c : Nat} {L : List Int} {N : Nat} (hb : Below w.heap.size w W) (h : RfIn W r (.slice (some ⟨g, 0, none⟩) L.length c) L N) (hr : S r) (hg : S g) (i : Nat) (x : Int) :
    RfStep S w (W.setCell ⟨g, i, none⟩ (.int .i64 x)) r (L.set i x) N := by
  obtain ⟨h1, h2⟩ := h.set i x
  exact ⟨⟨_, h1, Or.inl hr, fun k hk => by injection hk with hk; subst hk; exact Or.inl hg⟩, (Chg.of_below hb).trans (h2.mono (S' := S) (fun b e => by rw [e]; exact hg)) (fun b hb => Or.inl hb)⟩
theorem RfStep.put {S : Nat → Prop} {w w' : World} {r n c : Nat} {v : Value} {L L' : List Int} {N : Nat} (h : RfIn w r v L N) (hr : S r) (hb : Below w.heap.size w w') {a : Option Addr} (hn : L'.length = n) (ho : w'.ownsRow w.heap.size 3 1 (.slice a n c) n (L'.map (Value.int .i64))) :
    RfStep S w (w'.setCell ⟨r, 0, none⟩ (.slice a n c)) r L' N := by
  refine ⟨⟨_, h.put (g := 0) hb hn ho, Or.inl hr, fun k hk => Or.inr ?_⟩, (Chg.of_below hb).setCell ⟨r, 0, none⟩ (Or.inl hr) _⟩
  have := own_lt ho hk
  simp [World.setCell]
  omega

set_option maxHeartbeats 1600000 in
theorem rDrop_v {S : Nat → Prop} {w : World} {r : Nat} {L : List Int} {N : Nat} (h : RfV S w r L N) (x : Int) :
    Calls Try.prog 41 #[.pointer (some ⟨r, 0, none⟩), .int .i64 x] w fun e w' => e = .returned (.int .i64 (if 0 ≤ gL L x then 0 else 7)) ∧ RfStep S w w' r (dropL L x) N := by
  obtain ⟨v, hR, hSr, hSv⟩ := h
  have hpos := rPos_any hR x
  unfold dropL
  by_cases h0 : 0 ≤ gL L x
  · rw [if_pos h0, if_pos h0]
    obtain ⟨i, rfl, hi⟩ := gL_in (L := L) (r := x) (by omega)
    obtain ⟨g, c, rfl, hc, hfz⟩ := hR.at hi
    obtain ⟨a, c', hv', c0, c1, _⟩ := hR.see
    injection hv' with e1 _ e3
    subst e1; subst e3
    have HSET := Lib.hid (RfStep.set (S := S) (w := w) (Below.refl _ _) hR hSr (hSv g rfl) i (-1))
    have HPOS := Lib.hid hpos
    have d1 : decide (gL L i < 0) = false := decide_eq_false (by omega)
    generalize gL L i = y at *
    have i0 : (0 : Int) ≤ (i : Int) := by omega
    have i1 : (i : Int) < (L.length : Int) := by omega
    rw [Int.toNat_natCast]
    clear hR hpos h0
    go_enter Try.func41, Try.ntmps41
    go_wp2_with (go_at_call 51; refine HPOS.out.mono ?_; rintro e w' ⟨rfl, rfl⟩)
    go_ret
    exact ⟨rfl, HSET.out⟩
  · rw [if_neg h0, if_neg h0]
    have HST := Lib.hid (RfV.stay (S := S) (L := L) (N := N) ⟨v, hR, hSr, hSv⟩ (Below.refl _ _))
    have HPOS := Lib.hid hpos
    have d1 : decide (gL L x < 0) = true := decide_eq_true (by omega)
    generalize gL L x = y at *
    clear hR hpos h0
    go_enter Try.func41, Try.ntmps41
    go_wp2_with (go_at_call 51; refine HPOS.out.mono ?_; rintro e w' ⟨rfl, rfl⟩)
    go_ret
    exact ⟨rfl, HST.out⟩

set_option maxHeartbeats 1600000 in
theorem rAdd_v {S : Nat → Prop} {w : World} {r : Nat} {L : List Int} {N : Nat} (h : RfV S w r L N) (hl : L.length ≤ 1000000) (hrg : ∀ i, gL L i < N) (x y : Int) :
    Calls Try.prog 39 #[.pointer (some ⟨r, 0, none⟩), .int .i64 x, .int .i64 y] w fun e w' => e = .returned (.int .i64 (addC L N x y)) ∧ RfStep S w w' r (addL L N x y) N := by
  obtain ⟨v, hR, hSr, hSv⟩ := h
  have HST := Lib.hid (RfV.stay (S := S) (L := L) (N := N) ⟨v, hR, hSr, hSv⟩ (Below.refl _ _))
  have HROW := Lib.hid (rRow_b hR x)
  have HPOS := Lib.hid (rPos_b hR y)
  have HR := Lib.hid (rRow_any hR hl hrg y)
  cases hb1 : rowB L x with
  | false =>
    have e1 : addC L N x y = 2 := by unfold addC; rw [if_neg (by unfold rowB at hb1; simp at hb1; omega)]
    have e2 : addL L N x y = L := by unfold addL; rw [e1, if_neg (by omega)]
    rw [e1, e2]
    rw [hb1] at HROW
    clear hb1 e1 e2 hR hrg
    go_enter Try.func39, Try.ntmps39
    go_wp2_with (go_at_call 81; refine HROW.out.mono ?_; rintro e w' ⟨rfl, rfl⟩)
    go_ret
    exact ⟨rfl, HST.out⟩
  | true =>
    cases hb2 : posB N y with
    | false =>
      have e1 : addC L N x y = 2 := by unfold addC; rw [if_neg (by unfold posB at hb2; simp at hb2; omega)]
      have e2 : addL L N x y = L := by unfold addL; rw [e1, if_neg (by omega)]
      rw [e1, e2]
      rw [hb1] at HROW
      rw [hb2] at HPOS
      clear hb1 hb2 e1 e2 hR hrg
      go_enter Try.func39, Try.ntmps39
      go_wp2_with (first | (go_at_call 81; refine HROW.out.mono ?_; rintro e w' ⟨rfl, rfl⟩) | (go_at_call 82; refine HPOS.out.mono ?_; rintro e w' ⟨rfl, rfl⟩))
      go_ret
      exact ⟨rfl, HST.out⟩
    | true =>
      have hr1 := hb1
      have hr2 := hb2
      unfold rowB at hr1
      unfold posB at hr2
      simp at hr1 hr2
      obtain ⟨i, rfl⟩ := Int.eq_ofNat_of_zero_le hr1.1
      have hi : i < L.length := by omega
      obtain ⟨g, c, rfl, hc, hfz⟩ := hR.at hi
      obtain ⟨a, c', hv', c0, c1, _⟩ := hR.see
      injection hv' with q1 _ q3
      subst q1; subst q3
      have HSET := Lib.hid (RfStep.set (S := S) (w := w) (Below.refl _ _) hR hSr (hSv g rfl) i y)
      rw [hb1] at HROW
      rw [hb2] at HPOS
      have i0 : (0 : Int) ≤ (i : Int) := by omega
      have i1 : (i : Int) < (L.length : Int) := by omega
      by_cases h0 : 0 ≤ gL L i
      · have e1 : addC L N i y = 1 := by unfold addC; rw [if_pos ⟨by omega, by omega, by omega, by omega⟩, if_pos (Or.inl h0)]
        have e2 : addL L N i y = L := by unfold addL; rw [e1, if_neg (by omega)]
        rw [e1, e2]
        have d1 : decide (0 ≤ gL L i) = true := decide_eq_true h0
        generalize gL L i = z at *
        clear hb1 hb2 e1 e2 hR hrg h0
        go_enter Try.func39, Try.ntmps39
        go_wp2_with (first | (go_at_call 81; refine HROW.out.mono ?_; rintro e w' ⟨rfl, rfl⟩) | (go_at_call 82; refine HPOS.out.mono ?_; rintro e w' ⟨rfl, rfl⟩))
        go_ret
        exact ⟨rfl, HST.out⟩
      · have d1 : decide (0 ≤ gL L i) = false := decide_eq_false h0
        by_cases h3 : 0 ≤ aL L y
        · have e1 : addC L N i y = 1 := by unfold addC; rw [if_pos ⟨by omega, by omega, by omega, by omega⟩, if_pos (Or.inr h3)]
          have e2 : addL L N i y = L := by unfold addL; rw [e1, if_neg (by omega)]
          rw [e1, e2]
          have d2 : decide (0 ≤ aL L y) = true := decide_eq_true h3
          generalize gL L i = z at *
          generalize aL L y = t at *
          clear hb1 hb2 e1 e2 hR hrg h0 h3
          go_enter Try.func39, Try.ntmps39
          go_wp2_with (first | (go_at_call 81; refine HROW.out.mono ?_; rintro e w' ⟨rfl, rfl⟩) | (go_at_call 82; refine HPOS.out.mono ?_; rintro e w' ⟨rfl, rfl⟩) | (go_at_call 52; refine HR.out.mono ?_; rintro e w' ⟨rfl, rfl⟩))
          go_ret
          exact ⟨rfl, HST.out⟩
        · have e1 : addC L N i y = 0 := by unfold addC; rw [if_pos ⟨by omega, by omega, by omega, by omega⟩, if_neg (by omega)]
          have e2 : addL L N i y = L.set i y := by unfold addL; rw [e1, if_pos rfl, Int.toNat_natCast]
          rw [e1, e2]
          have d2 : decide (0 ≤ aL L y) = false := decide_eq_false h3
          generalize gL L i = z at *
          generalize aL L y = t at *
          clear hb1 hb2 e1 e2 hR hrg h0 h3
          go_enter Try.func39, Try.ntmps39
          go_wp2_with (first | (go_at_call 81; refine HROW.out.mono ?_; rintro e w' ⟨rfl, rfl⟩) | (go_at_call 82; refine HPOS.out.mono ?_; rintro e w' ⟨rfl, rfl⟩) | (go_at_call 52; refine HR.out.mono ?_; rintro e w' ⟨rfl, rfl⟩))
          go_ret
          exact ⟨rfl, HSET.out⟩

end Go.Proofs.Ytpbmhdkhkbhgnaa

namespace Go.Proofs.Ytpbmhdkhkbhgnaa
set_option linter.unusedVariables false
set_option linter.unusedSimpArgs false
open Go.RowKit

section
variable {S : Nat → Prop} {w : World} {r : Nat} {L : List Int} {N : Nat}

set_option maxHeartbeats 1600000 in
theorem rRowIn_v (h : RfV S w r L N) (hl : L.length ≤ 1000000) (x : Int) :
    Calls Try.prog 43 #[.pointer (some ⟨r, 0, none⟩), .int .i64 x] w fun e w' => e = .returned (.int .i64 (okC (rowInB L x))) ∧ RfStep S w w' r (rowInL L x) N := by
  obtain ⟨v, hR, hSr, hSv⟩ := h
  have HST := Lib.hid (RfV.stay (S := S) (L := L) (N := N) ⟨v, hR, hSr, hSv⟩ (Below.refl w.heap.size w))
  obtain ⟨a, c, rfl, c0, c1, hfz, hnil, hrd, hc1, hc2⟩ := hR.see
  unfold rowInL
  by_cases hx : x < 0
  · have e : rowInB L x = false := by unfold rowInB; simp; omega
    have d1 : decide (x < 0) = true := decide_eq_true hx
    rw [e]
    clear hR hrd hnil hx e
    go_enter Try.func43, Try.ntmps43
    go_wp2_with fail
    go_ret
    exact ⟨rfl, HST.out⟩
  · have d1 : decide (x < 0) = false := decide_eq_false hx
    by_cases hy : (L.length : Int) < x
    · have e : rowInB L x = false := by unfold rowInB; simp; omega
      have d2 : decide ((L.length : Int) < x) = true := decide_eq_true hy
      rw [e]
      clear hR hrd hnil hx hy e
      go_enter Try.func43, Try.ntmps43
      go_wp2_with fail
      go_ret
      exact ⟨rfl, HST.out⟩
    · have e : rowInB L x = true := by unfold rowInB; simp; omega
      obtain ⟨i, rfl⟩ := Int.eq_ofNat_of_zero_le (Int.not_lt.1 hx)
      have d2 : decide (L.length < i) = false := decide_eq_false (by omega)
      rw [e, if_pos rfl, Int.toNat_natCast]
      have HIN := Lib.hid (ref6In_any a c L i (-1) w hrd (by omega) hc1 hc2 hl hnil)
      have HR := Lib.hid hR
      clear hR hrd hnil hx hy e
      go_enter Try.func43, Try.ntmps43
      go_wp2_with fail
      refine HIN.out.mono ?_
      rintro e w1 hg
      obtain ⟨v1, rfl, hown, hb⟩ := hg
      obtain ⟨a1, k1, rfl, _, _⟩ := own_slice hown
      have hR1 := HR.out.below hb
      obtain ⟨_, _, _, c2, _, c3, _⟩ := hR1.see
      have c4 := c3 0
      have HSTEP := Lib.hid (RfStep.put (S := S) HR.out hSr hb rfl hown)
      clear c3 hown hb hR1
      go_wp2_with fail
      go_ret
      exact ⟨rfl, HSTEP.out⟩

set_option maxHeartbeats 1600000 in
theorem rRowOut_v (h : RfV S w r L N) (hl : L.length ≤ 1000000) (x : Int) :
    Calls Try.prog 44 #[.pointer (some ⟨r, 0, none⟩), .int .i64 x] w fun e w' => e = .returned (.int .i64 (okC (rowB L x))) ∧ RfStep S w w' r (rowOutL L x) N := by
  obtain ⟨v, hR, hSr, hSv⟩ := h
  have HST := Lib.hid (RfV.stay (S := S) (L := L) (N := N) ⟨v, hR, hSr, hSv⟩ (Below.refl w.heap.size w))
  have HROW := Lib.hid (rRow_b hR x)
  obtain ⟨a, c, rfl, c0, c1, hfz, hnil, hrd, hc1, hc2⟩ := hR.see
  unfold rowOutL
  cases hb1 : rowB L x with
  | false =>
    rw [hb1] at HROW
    clear hR hrd hnil hb1
    go_enter Try.func44, Try.ntmps44
    go_wp2_with (go_at_call 81; refine HROW.out.mono ?_; rintro e w' ⟨rfl, rfl⟩)
    go_ret
    exact ⟨rfl, HST.out⟩
  | true =>
    rw [hb1] at HROW
    unfold rowB at hb1
    simp at hb1
    obtain ⟨i, rfl⟩ := Int.eq_ofNat_of_zero_le hb1.1
    rw [if_pos rfl, Int.toNat_natCast]
    have HOUT := Lib.hid (ref6Out_any a c L i w hrd (by omega) hc1 hc2 hl hnil)
    have HR := Lib.hid hR
    clear hR hrd hnil hb1
    go_enter Try.func44, Try.ntmps44
    go_wp2_with (go_at_call 81; refine HROW.out.mono ?_; rintro e w' ⟨rfl, rfl⟩)
    refine HOUT.out.mono ?_
    rintro e w1 hg
    obtain ⟨v1, rfl, hown, hb⟩ := hg
    obtain ⟨a1, k1, rfl, _, _⟩ := own_slice hown
    have hR1 := HR.out.below hb
    obtain ⟨_, _, _, c2, _, c3, _⟩ := hR1.see
    have c4 := c3 0
    have HSTEP := Lib.hid (RfStep.put (S := S) HR.out hSr hb rfl hown)
    clear c3 hown hb hR1
    go_wp2_with fail
    go_ret
    exact ⟨rfl, HSTEP.out⟩

set_option maxHeartbeats 3200000 in
theorem rRowMove_v (h : RfV S w r L N) (hl : L.length ≤ 1000000) (x y : Int) :
    Calls Try.prog 45 #[.pointer (some ⟨r, 0, none⟩), .int .i64 x, .int .i64 y] w fun e w' => e = .returned (.int .i64 (okC (rowB L x && rowB L y))) ∧ RfStep S w w' r (moveL L x y) N := by
  obtain ⟨v, hR, hSr, hSv⟩ := h
  have HST := Lib.hid (RfV.stay (S := S) (L := L) (N := N) ⟨v, hR, hSr, hSv⟩ (Below.refl w.heap.size w))
  have HROW := Lib.hid (rRow_b hR x)
  have HROW2 := Lib.hid (rRow_b hR y)
  obtain ⟨a, c, rfl, c0, c1, hfz, hnil, hrd, hc1, hc2⟩ := hR.see
  unfold moveL
  cases hb1 : rowB L x with
  | false =>
    rw [hb1] at HROW
    clear hR hrd hnil hb1
    go_enter Try.func45, Try.ntmps45
    go_wp2_with fail
    refine HROW.out.mono ?_
    rintro e w' ⟨rfl, rfl⟩
    go_wp2_with fail
    go_ret
    exact ⟨rfl, HST.out⟩
  | true =>
    cases hb2 : rowB L y with
    | false =>
      rw [hb1] at HROW
      rw [hb2] at HROW2
      clear hR hrd hnil hb1 hb2
      go_enter Try.func45, Try.ntmps45
      go_wp2_with fail
      refine HROW.out.mono ?_
      rintro e w' ⟨rfl, rfl⟩
      go_wp2_with fail
      refine HROW2.out.mono ?_
      rintro e w' ⟨rfl, rfl⟩
      go_wp2_with fail
      go_ret
      exact ⟨rfl, HST.out⟩
    | true =>
      rw [hb1] at HROW
      rw [hb2] at HROW2
      unfold rowB at hb1 hb2
      simp at hb1 hb2
      obtain ⟨i, rfl⟩ := Int.eq_ofNat_of_zero_le hb1.1
      obtain ⟨j, rfl⟩ := Int.eq_ofNat_of_zero_le hb2.1
      have hi : i < L.length := by omega
      rw [if_pos (by rfl), Int.toNat_natCast, Int.toNat_natCast]
      have HOUT := Lib.hid (ref6Out_any a c L i w hrd hi hc1 hc2 hl hnil)
      have HR := Lib.hid hR
      obtain ⟨g, c', hv', hcc, _⟩ := hR.at hi
      injection hv' with q1 _ q3
      subst q1; subst q3
      have HMV : Hid (mvL L i j = insA (outA L i) j (gL L i)) := rfl
      obtain ⟨z, hz⟩ : ∃ z, gL L i = z := ⟨_, rfl⟩
      rw [hz] at HMV hcc
      have hol := outA_len hi
      have hjl : j ≤ (outA L i).length := by omega
      have hol6 : (outA L i).length ≤ 1000000 := by omega
      have i0 : (0 : Int) ≤ (i : Int) := by omega
      have i1 : (i : Int) < (L.length : Int) := by omega
      clear hR hrd hnil hb1 hb2 hz hol
      go_enter Try.func45, Try.ntmps45
      go_wp2_with fail
      refine HROW.out.mono ?_
      rintro e w' ⟨rfl, rfl⟩
      go_wp2_with fail
      refine HROW2.out.mono ?_
      rintro e w' ⟨rfl, rfl⟩
      go_wp2_with fail
      refine HOUT.out.mono ?_
      rintro e w1 hg
      obtain ⟨v1, rfl, hown, hb⟩ := hg
      obtain ⟨a1, k1, rfl, hz1, _⟩ := own_slice hown
      have hcap : (outA L i).length ≤ k1 ∧ k1 ≤ maxLen := by
        rcases hown.2 with ⟨e, h0⟩ | ⟨g, cap, cur, e, _, _, h1, h2, _⟩
        · injection e with _ _ e; rw [e, h0]; exact ⟨Nat.le_refl _, Nat.zero_le _⟩
        · injection e with _ _ e; rw [e]; exact ⟨h1, h2⟩
      have HIN := Lib.hid (ref6In_any a1 k1 (outA L i) j z w1 (readsV_own hown) hjl hcap.1 hcap.2 hol6 hz1)
      have HB := Lib.hid hb
      clear hown hb hz1 hcap
      go_wp2_with fail
      refine HIN.out.mono ?_
      rintro e w2 hg
      obtain ⟨v2, rfl, hown, hb2⟩ := hg
      obtain ⟨a2, k2, rfl, _, _⟩ := own_slice hown
      have hb3 : Below w.heap.size w w2 := HB.out.trans (hb2.mono HB.out.size)
      have hR1 := HR.out.below hb3
      obtain ⟨_, _, _, c2, _, c3, _⟩ := hR1.see
      have c4 := c3 0
      rw [← HMV.out] at hown ⊢
      have HSTEP := Lib.hid (RfStep.put (S := S) HR.out hSr hb3 rfl (own_mono hown HB.out.size))
      clear c3 hown hb2 hb3 hR1
      go_wp2_with fail
      go_ret
      exact ⟨rfl, HSTEP.out⟩

/-- A fold of the document's Next. -/
theorem nextR_eq (k : Int) : ∀ (L : List Int) (i : Nat) (b : Int), L.foldl (bestP (max k 0)) b = (prL i L).foldl (fun b y => bestP k b y.2) b
  | [], i, b => rfl
  | v :: L, i, b => by
    rw [List.foldl_cons]
    unfold prL
    by_cases h : 0 ≤ v
    · rw [if_pos h, List.foldl_cons]
      have e : bestP (max k 0) b v = bestP k b v := by unfold bestP; (repeat' split) <;> omega
      rw [e]
      exact nextR_eq k L (i + 1) _
    · rw [if_neg h]
      have e : bestP (max k 0) b v = b := by unfold bestP; rw [if_neg (by omega)]
      rw [e]
      exact nextR_eq k L (i + 1) b
set_option maxHeartbeats 3200000 in
theorem rNext_v (h : RfV S w r L N) (hl : L.length ≤ 1000000) (k : Int) :
    Calls Try.prog 53 #[.pointer (some ⟨r, 0, none⟩), .int .i64 k] w fun e w' => e = .returned (.int .i64 (nextP k (prL 0 L))) ∧ w = w' := by
  obtain ⟨v, hR, hSr, hSv⟩ := h
  have hfin : nextP k (prL 0 L) = L.foldl (bestP (max k 0)) (-1) := (nextR_eq k L 0 (-1)).symm
  rw [hfin]
  clear hfin
  have HAT : Hid (∀ i, i < L.length → ∃ g c, v = .slice (some ⟨g, 0, none⟩) L.length c ∧ w.cell? ⟨g, i, none⟩ = some (.int .i64 (gL L i))) := fun i hi => by
    obtain ⟨g, c, h1, h2, _⟩ := hR.at hi
    exact ⟨g, c, h1, h2⟩
  obtain ⟨a, c, hv, c0, c1, _⟩ := hR.see
  subst hv
  clear hR hSr hSv
  go_enter Try.func53, Try.ntmps53
  go_wp2_with fail
  go_loopw [5, 6] (fun b v wr => ∃ i : Nat, i ≤ L.length ∧ v = .int .i64 i ∧ b = .int .i64 ((L.take i).foldl (bestP (max k 0)) (-1)) ∧ wr = w) (fun _ v _ => L.length - (intOf v).toNat)
  case atStart => exact ⟨0, Nat.zero_le _, rfl, rfl, rfl⟩
  case round =>
    obtain ⟨i, hi, rfl, rfl, rfl⟩ := hrel
    by_cases hlt : i < L.length
    · obtain ⟨g, c', hv', hc⟩ := HAT.out i hlt
      injection hv' with q1 _ q3
      subst q1; subst q3
      have i0 : (0 : Int) ≤ (i : Int) := by omega
      have i1 : (i : Int) < (L.length : Int) := by omega
      have hsn : (L.take (i + 1)).foldl (bestP (max k 0)) (-1) = bestP (max k 0) ((L.take i).foldl (bestP (max k 0)) (-1)) (gL L i) := by
        rw [List.take_add_one, List.getElem?_eq_getElem hlt, List.foldl_append, gL_nat, List.getElem?_eq_getElem hlt]; rfl
      generalize (L.take i).foldl (bestP (max k 0)) (-1) = best at *
      generalize gL L i = y at *
      unfold bestP at hsn
      have HSN := Lib.hid hsn
      clear hsn HAT
      by_cases h1 : max k 0 ≤ y
      · have d1 : decide (max k 0 ≤ y) = true := decide_eq_true h1
        by_cases h2 : best < 0
        · have d2 : decide (best < 0) = true := decide_eq_true h2
          have HE := Lib.hid (HSN.out.trans (if_pos ⟨h1, Or.inl h2⟩))
          clear h1 h2 HSN
          go_wp2_with fail
          go_roundw
          case rel => exact ⟨i + 1, by omega, by go_num, by rw [← HE.out]; rfl, trivial⟩
          case measure => simp [intOf]; omega
        · have d2 : decide (best < 0) = false := decide_eq_false h2
          by_cases h3 : y < best
          · have d3 : decide (y < best) = true := decide_eq_true h3
            have HE := Lib.hid (HSN.out.trans (if_pos ⟨h1, Or.inr h3⟩))
            clear h1 h2 h3 HSN
            go_wp2_with fail
            go_roundw
            case rel => exact ⟨i + 1, by omega, by go_num, by rw [← HE.out]; rfl, trivial⟩
            case measure => simp [intOf]; omega
          · have d3 : decide (y < best) = false := decide_eq_false h3
            have HE := Lib.hid (HSN.out.trans (if_neg (fun h => h.2.elim h2 h3)))
            clear h1 h2 h3 HSN
            go_wp2_with fail
            go_roundw
            case rel => exact ⟨i + 1, by omega, by go_num, by rw [← HE.out]; rfl, trivial⟩
            case measure => simp [intOf]; omega
      · have d1 : decide (max k 0 ≤ y) = false := decide_eq_false h1
        have HE := Lib.hid (HSN.out.trans (if_neg (fun h => h1 h.1)))
        clear h1 HSN
        go_wp2_with fail
        go_roundw
        case rel => exact ⟨i + 1, by omega, by go_num, by rw [← HE.out]; rfl, trivial⟩
        case measure => simp [intOf]; omega
    · obtain rfl : i = L.length := by omega
      rw [List.take_length]
      clear HAT
      go_wp2_with fail
      go_ret
      exact ⟨rfl, rfl⟩

theorem prL_snoc : ∀ (L : List Int) (i : Nat) (v : Int), prL i (L ++ [v]) = prL i L ++ (if 0 ≤ v then [(((i + L.length : Nat) : Int), v)] else [])
  | [], i, v => by unfold prL; rw [List.nil_append]; unfold prL; simp [prL]
  | x :: L, i, v => by
    rw [List.cons_append]
    unfold prL
    rw [prL_snoc L (i + 1) v, show i + 1 + L.length = i + (x :: L).length by simp; omega]
    split <;> simp
set_option maxHeartbeats 3200000 in
theorem rAll_v (h : RfV S w r L N) (hl : L.length ≤ 1000000) :
    Calls Try.prog 50 #[.pointer (some ⟨r, 0, none⟩)] w (GivesP w.heap.size w (prL 0 L)) := by
  obtain ⟨v, hR, hSr, hSv⟩ := h
  have HAT : Hid (∀ W, Below w.heap.size w W → ∀ i, i < L.length → ∃ g c, v = .slice (some ⟨g, 0, none⟩) L.length c ∧ W.cell? ⟨g, i, none⟩ = some (.int .i64 (gL L i))) := fun W hW i hi => by
    obtain ⟨g, c, h1, h2, _⟩ := (hR.below hW).at hi
    exact ⟨g, c, h1, h2⟩
  obtain ⟨a, c, hv, c0, c1, _⟩ := hR.see
  subst hv
  have HCC : Hid (∀ W, Below w.heap.size w W → W.cell? ⟨r, 0, none⟩ = some (.slice a L.length c)) := fun W hW => (hW.cell (p := ⟨r, 0, none⟩) (Array.getElem?_eq_some_iff.1 hR.hp).1).trans c0
  clear hR hSr hSv
  go_enter Try.func50, Try.ntmps50
  go_wp2_with fail
  go_loopw [3, 4] (fun o v wr => ∃ i : Nat, i ≤ L.length ∧ v = .int .i64 i ∧ wr.ownsRow w.heap.size 52 2 o (prL 0 (L.take i)).length (cellsL (prL 0 (L.take i))) ∧ (prL 0 (L.take i)).length ≤ i ∧ Below w.heap.size w wr) (fun _ v _ => L.length - (intOf v).toNat)
  case atStart => exact ⟨0, Nat.zero_le _, rfl, World.ownsRow_nil _ _ _ _, by simp [prL], Below.refl _ _⟩
  case round =>
    obtain ⟨i, hi, rfl, hown, hle, hb⟩ := hrel
    have hs := hb.size
    have c0' := HCC.out wr hb
    obtain ⟨a4, c4, rfl, _, _⟩ := own_slice hown
    by_cases hlt : i < L.length
    · obtain ⟨g, c', hv', hc⟩ := HAT.out wr hb i hlt
      injection hv' with q1 _ q3
      subst q1; subst q3
      have i0 : (0 : Int) ≤ (i : Int) := by omega
      have i1 : (i : Int) < (L.length : Int) := by omega
      have hsn : prL 0 (L.take (i + 1)) = prL 0 (L.take i) ++ (if 0 ≤ gL L i then [((i : Int), gL L i)] else []) := by
        rw [List.take_add_one, List.getElem?_eq_getElem hlt]
        show prL 0 (L.take i ++ [L[i]]) = _
        rw [prL_snoc, gL_nat, List.getElem?_eq_getElem hlt]
        simp [show min i L.length = i by omega]
      generalize prL 0 (L.take i) = l at *
      generalize gL L i = y at *
      by_cases h0 : 0 ≤ y
      · have d1 : decide (0 ≤ y) = true := decide_eq_true h0
        rw [if_pos h0] at hsn
        have hcs := cellsL_snoc l ((i : Int), y)
        rw [← hsn] at hcs
        have HCS := Lib.hid hcs
        have hln : (prL 0 (L.take (i + 1))).length = l.length + 1 := by rw [hsn]; simp
        have HLN := Lib.hid hln
        clear hsn hcs h0 hln
        go_wp2_with (at_builtin; refine wpList_pushP rfl _ _ 49 rfl w.heap.size 52 Try.infoPair Try.underlying49 rfl _ _ _ rfl hown rfl rfl rfl ?k1 ?k2 hs ?_)
        case k1 => unfold maxLen; omega
        case k2 => omega
        intro g5 cap5 w5 hown' hgrow _ _
        have hch : Below w.heap.size w w5 := hb.grown hgrow hs (fun j hj => (hown.lt j hj).1)
        rw [HCS.out] at hown'
        have HO := Lib.hid hown'
        have HCH := Lib.hid hch
        clear hown hown' hgrow hch hc c0'
        go_wp2_with fail
        go_roundw
        case rel => exact ⟨i + 1, by omega, by go_num, by rw [HLN.out]; exact HO.out, by rw [HLN.out]; omega, HCH.out⟩
        case measure => simp [intOf]; omega
      · have d1 : decide (0 ≤ y) = false := decide_eq_false h0
        rw [if_neg h0, List.append_nil] at hsn
        have HSN := Lib.hid hsn
        have HO := Lib.hid hown
        have HB := Lib.hid hb
        clear hsn hown hb h0
        go_wp2_with fail
        go_roundw
        case rel => exact ⟨i + 1, by omega, by go_num, by rw [HSN.out]; exact HO.out, by rw [HSN.out]; omega, HB.out⟩
        case measure => simp [intOf]; omega
    · obtain rfl : i = L.length := by omega
      rw [List.take_length] at hown ⊢
      have HE : Hid (GivesP w.heap.size w (prL 0 L) (.returned (.slice a4 (prL 0 L).length c4)) wr) := by
        show GivesP _ _ _ _ _
        exact ⟨a4, c4, rfl, hown, hb⟩
      clear hown hb HAT HCC
      go_wp2_with fail
      go_ret
      exact HE.out
end

end Go.Proofs.Ytpbmhdkhkbhgnaa

namespace Go.Proofs.Ytpbmhdkhkbhgnaa
set_option linter.unusedVariables false
set_option linter.unusedSimpArgs false
open Go.RowKit

def mapTo (f : Int → Int) (i : Nat) (L : List Int) : List Int := (L.take i).map f ++ L.drop i
theorem mapTo_len (f : Int → Int) (i : Nat) (L : List Int) : (mapTo f i L).length = L.length := by unfold mapTo; simp; omega
theorem mapTo_zero (f : Int → Int) (L : List Int) : mapTo f 0 L = L := by simp [mapTo]
theorem mapTo_all (f : Int → Int) (L : List Int) : mapTo f L.length L = L.map f := by simp [mapTo]
theorem mapTo_get (f : Int → Int) {i : Nat} {L : List Int} (hi : i < L.length) (j : Nat) : (mapTo f i L)[j]? = if j < i then L[j]?.map f else L[j]? := by
  unfold mapTo
  rw [List.getElem?_append]
  have hl : ((L.take i).map f).length = i := by simp; omega
  rw [hl]
  by_cases h : j < i
  · rw [if_pos h, if_pos h, List.getElem?_map, List.getElem?_take, if_pos h]
  · rw [if_neg h, if_neg h, List.getElem?_drop]; congr 1; omega
theorem mapTo_gL (f : Int → Int) {i : Nat} {L : List Int} (hi : i < L.length) : gL (mapTo f i L) i = gL L i := by
  rw [gL_nat, gL_nat, mapTo_get f hi, if_neg (by omega)]
theorem mapTo_set (f : Int → Int) {i : Nat} {L : List Int} (hi : i < L.length) : (mapTo f i L).set i (f (gL L i)) = mapTo f (i + 1) L := by
  apply List.ext_getElem?
  intro j
  have h2 : (mapTo f (i + 1) L)[j]? = if j < i + 1 then L[j]?.map f else L[j]? := by
    by_cases e : i + 1 < L.length
    · exact mapTo_get f e j
    · have : i + 1 = L.length := by omega
      rw [this, mapTo_all, List.getElem?_map]
      split
      · rfl
      · rw [List.getElem?_eq_none (by omega)]; rfl
  rw [h2, List.getElem?_set, mapTo_len, mapTo_get f hi]
  by_cases e : i = j
  · subst e
    rw [if_pos rfl, if_pos hi, if_pos (by omega), gL_nat, List.getElem?_eq_getElem hi]; rfl
  · rw [if_neg e]
    by_cases e2 : j < i
    · rw [if_pos e2, if_pos (by omega)]
    · rw [if_neg e2, if_neg (by omega)]
theorem mapTo_same (f : Int → Int) {i : Nat} {L : List Int} (hi : i < L.length) (h : f (gL L i) = gL L i) : mapTo f i L = mapTo f (i + 1) L := by
  rw [← mapTo_set f hi, h]
  apply List.ext_getElem?
  intro j
  rw [List.getElem?_set, mapTo_len]
  by_cases e : i = j
  · subst e
    rw [if_pos rfl, if_pos hi, mapTo_get f hi, if_neg (by omega), gL_nat, List.getElem?_eq_getElem hi]; rfl
  · rw [if_neg e]

theorem RfIn.at2 {w : World} {r n c : Nat} {a : Option Addr} {L : List Int} {N : Nat} (h : RfIn w r (.slice a n c) L N) (hn : L.length = n) {i : Nat} (hi : i < n) : ∃ g, a = some ⟨g, 0, none⟩ ∧ w.cell? ⟨g, i, none⟩ = some (.int .i64 (gL L i)) ∧ w.frozen? ⟨g, i, none⟩ = false ∧ w.cell? ⟨r, 0, none⟩ = some (.slice a n c) ∧ g ≠ r := by
  subst hn
  obtain ⟨g, c', hv, h1, h2⟩ := h.at hi
  obtain ⟨a', c'', hv', h3, _⟩ := h.see
  injection hv' with _ _ e
  subst e
  injection hv with e1 _ _
  subst e1
  refine ⟨g, rfl, h1, h2, ?_, h.ne g rfl⟩
  rw [cell_of_row w r 0 _ _ _ h.hp]; rfl
theorem RfIn.set2 {w : World} {r g n c : Nat} {L : List Int} {N : Nat} (h : RfIn w r (.slice (some ⟨g, 0, none⟩) n c) L N) (hn : L.length = n) (i : Nat) (x : Int) :
    RfIn (w.setCell ⟨g, i, none⟩ (.int .i64 x)) r (.slice (some ⟨g, 0, none⟩) n c) (L.set i x) N ∧ Chg (fun b => b = g) w (w.setCell ⟨g, i, none⟩ (.int .i64 x)) := by
  subst hn; exact h.set i x
theorem RfIn.setN {w : World} {r : Nat} {v : Value} {L : List Int} {N : Nat} (h : RfIn w r v L N) (n : Nat) : RfIn (w.setCell ⟨r, 1, none⟩ (.int .i64 (n : Int))) r v L n := by
  have hc : Chg (fun b => b = r) w (w.setCell ⟨r, 1, none⟩ (.int .i64 (n : Int))) := Chg.refl.setCell (S := fun b => b = r) ⟨r, 1, none⟩ (Or.inl rfl) _
  exact ⟨heap_setCell_same w r 1 _ _ _ h.hp, hc.own h.own (fun k hk e => h.ne k hk e), h.ne⟩

/-- A copy of the row: 'append([]int{}, p.L...)', and what stands behind it. -/
theorem copy_ok {w w1 : World} {r : Nat} {v : Value} {L : List Int} {N : Nat} {a1 : Option Addr} {c1 : Nat} (h : RfIn w r v L N) (hown : w1.ownsRow w.heap.size 3 1 (.slice a1 L.length c1) L.length (L.map (Value.int .i64))) (hb : Below w.heap.size w w1) :
    RfIn (w1.setCell ⟨r, 0, none⟩ (.slice a1 L.length c1)) r (.slice a1 L.length c1) L N ∧ (∀ g, a1 = some ⟨g, 0, none⟩ → w.heap.size ≤ g) := by
  refine ⟨h.put (g := 0) hb rfl hown, fun g hg => ?_⟩
  subst hg
  exact (own_lt hown rfl).1

section
variable {S : Nat → Prop} {w : World} {r : Nat} {L : List Int} {N : Nat}

set_option maxHeartbeats 3200000 in
theorem rPosIn_v (h : RfV S w r L N) (hl : L.length ≤ 1000000) (hN : N ≤ 1000000) (hrg : ∀ i, -1 ≤ gL L i ∧ gL L i < N) (x : Int) :
    Calls Try.prog 47 #[.pointer (some ⟨r, 0, none⟩), .int .i64 x] w fun e w' => e = .returned (.int .i64 (okC (posInB N x))) ∧ RfStep S w w' r (posInL L N x) (posInN N x) := by
  obtain ⟨v, hR, hSr, hSv⟩ := h
  have HST := Lib.hid (RfV.stay (S := S) (L := L) (N := N) ⟨v, hR, hSr, hSv⟩ (Below.refl w.heap.size w))
  obtain ⟨a, c, rfl, e0, e1, hfz, hnil, hrd, hc1, hc2⟩ := hR.see
  unfold posInL posInN
  by_cases hx : x < 0
  · have e : posInB N x = false := by unfold posInB; simp; omega
    have d1 : decide (x < 0) = true := decide_eq_true hx
    rw [e]
    clear hR hrd hnil hx e hrg
    go_enter Try.func47, Try.ntmps47
    go_wp2_with fail
    go_ret
    exact ⟨rfl, HST.out⟩
  have d1 : decide (x < 0) = false := decide_eq_false hx
  by_cases hy : (N : Int) < x
  · have e : posInB N x = false := by unfold posInB; simp; omega
    have d2 : decide ((N : Int) < x) = true := decide_eq_true hy
    rw [e]
    clear hR hrd hnil hx hy e hrg
    go_enter Try.func47, Try.ntmps47
    go_wp2_with fail
    go_ret
    exact ⟨rfl, HST.out⟩
  have e : posInB N x = true := by unfold posInB; simp; omega
  have d2 : decide ((N : Int) < x) = false := decide_eq_false hy
  rw [e, if_pos rfl, if_pos rfl]
  have hb0 := below_al w (.cells #[] 3)
  have hown0 : (w.alloc (.cells #[] 3)).ownsRow w.heap.size 3 1 (.slice (some ⟨w.heap.size, 0, none⟩) 0 0) 0 [] := own_zero (Nat.le_refl _) (heap_alloc_new _ _)
  have a0 : (w.alloc (.cells #[] 3)).cell? ⟨r, 0, none⟩ = some (.slice a L.length c) := (hb0.cell (p := ⟨r, 0, none⟩) (Array.getElem?_eq_some_iff.1 hR.hp).1).trans e0
  have HRT := Lib.hid (hrd.below' hb0)
  have HR := Lib.hid hR
  have HO0 := Lib.hid hown0
  have HB0 := Lib.hid hb0
  have HNIL := Lib.hid hnil
  have HRG := Lib.hid hrg
  have z0 := hfz 0
  clear hR hrd hnil hx hy e hrg hown0 hb0
  go_enter Try.func47, Try.ntmps47
  go_wp2_with (at_builtin; refine wpList_appendL rfl _ _ 22 rfl w.heap.size 3 Try.infoIntG Try.underlying22 rfl _ 0 _ rfl HO0.out a L.length c (L.map (Value.int .i64)) rfl (by simp) HNIL.out HRT.out.hnews (oneI .i64 _) (by unfold maxLen; omega) (by omega) HB0.out.size ?_)
  intro a1 k1 w1 hown hgrow _
  have hb1 : Below w.heap.size w w1 := HB0.out.grown hgrow HB0.out.size (fun j hj => by simp [Value.ownBlock] at hj; omega)
  obtain ⟨hR2, hg1⟩ := copy_ok HR.out hown hb1
  have hch : Chg S w (w1.setCell ⟨r, 0, none⟩ (.slice a1 L.length k1)) := (Chg.of_below hb1).setCell ⟨r, 0, none⟩ (Or.inl hSr) _
  have hR1 := HR.out.below hb1
  obtain ⟨_, _, _, e2, _, e3, _⟩ := hR1.see
  have e4 := e3 0
  have HR2 := Lib.hid hR2
  have HG1 := Lib.hid hg1
  have HCH := Lib.hid hch
  clear hown hgrow hb1 hR2 hg1 hch hR1 e3 hfz
  go_wp2_with fail
  generalize w1.setCell ⟨r, 0, none⟩ (.slice a1 L.length k1) = w2 at *
  clear e0 e1 e2 e4 z0 a0
  go_loopw [5] (fun v wr => ∃ i : Nat, i ≤ L.length ∧ v = .int .i64 i ∧ RfIn wr r (.slice a1 L.length k1) (mapTo (upP x) i L) N ∧ Chg S w wr) (fun v _ => L.length - (intOf v).toNat)
  case atStart => exact ⟨0, Nat.zero_le _, rfl, by rw [mapTo_zero]; exact HR2.out, HCH.out⟩
  case round =>
    obtain ⟨i, hi, rfl, hR, hch⟩ := hrel
    clear HR2 HCH
    by_cases hlt : i < L.length
    · obtain ⟨g, rfl, q1, q2, q3, q4⟩ := hR.at2 (mapTo_len _ _ _) hlt
      rw [mapTo_gL _ hlt] at q1
      have i0 : (0 : Int) ≤ (i : Int) := by omega
      have i1 : (i : Int) < (L.length : Int) := by omega
      have hset := hR.set2 (mapTo_len _ _ _) i (upP x (gL L i))
      rw [mapTo_set _ hlt] at hset
      have hsame := mapTo_same (upP x) hlt
      obtain ⟨r0, r1⟩ := HRG.out i
      have hgS := HG1.out g rfl
      by_cases h0 : x ≤ gL L i
      · have e : upP x (gL L i) = gL L i + 1 := if_pos h0
        rw [e] at hset
        have d3 : decide (x ≤ gL L i) = true := decide_eq_true h0
        have HSET := Lib.hid hset.1
        have HC2 : Hid (Chg S w (wr.setCell ⟨g, i, none⟩ (.int .i64 (gL L i + 1)))) := hch.setCell ⟨g, i, none⟩ (Or.inr hgS) _
        generalize gL L i = y at *
        have y1 : y + 1 ≤ 1000001 := by omega
        clear hR hch hset hsame e h0
        go_wp2_with fail
        go_roundw
        case rel => exact ⟨i + 1, by omega, by go_num, HSET.out, HC2.out⟩
        case measure => simp [intOf]; omega
      · have e : upP x (gL L i) = gL L i := if_neg h0
        have d3 : decide (x ≤ gL L i) = false := decide_eq_false h0
        have HSM := Lib.hid (hsame e)
        have HR3 := Lib.hid hR
        have HC2 := Lib.hid hch
        generalize gL L i = y at *
        clear hR hch hset hsame e h0
        go_wp2_with fail
        go_roundw
        case rel => exact ⟨i + 1, by omega, by go_num, by rw [← HSM.out]; exact HR3.out, HC2.out⟩
        case measure => simp [intOf]; omega
    · obtain rfl : i = L.length := by omega
      rw [mapTo_all] at hR
      have q1 : wr.cell? ⟨r, 0, none⟩ = some (.slice a1 L.length k1) := by rw [cell_of_row wr r 0 _ _ _ hR.hp]; rfl
      have q2 : wr.cell? ⟨r, 1, none⟩ = some (.int .i64 (N : Int)) := by rw [cell_of_row wr r 1 _ _ _ hR.hp]; rfl
      have q3 := frozen_of_row wr r 1 _ _ hR.hp
      have HSTEP : Hid (RfStep S w (wr.setCell ⟨r, 1, none⟩ (.int .i64 ((N : Int) + 1))) r (L.map (upP x)) (N + 1)) := by
        have h1 := hR.setN (N + 1)
        refine ⟨⟨_, h1, Or.inl hSr, fun k hk => Or.inr ?_⟩, hch.setCell ⟨r, 1, none⟩ (Or.inl hSr) _⟩
        have hlt := (own_lt hR.own hk).2
        obtain ⟨_, _, hv, _, hb⟩ := own_slice hR.own
        injection hv with ea _ _
        cases ha : a1 with
        | none => rw [ha] at hk; simp [Value.ownBlock] at hk
        | some ad =>
          obtain ⟨g, hg, _, _, ho⟩ := hb ad (by rw [← ea, ha])
          subst hg
          rw [ha] at hk
          injection hk with hk
          subst hk
          exact ⟨HG1.out _ ha, by simp [World.setCell]; exact hlt⟩
      clear hR hch
      go_wp2_with fail
      go_ret
      exact ⟨rfl, HSTEP.out⟩

set_option maxHeartbeats 3200000 in
theorem rPosOut_v (h : RfV S w r L N) (hl : L.length ≤ 1000000) (hN : N ≤ 1000000) (hrg : ∀ i, -1 ≤ gL L i ∧ gL L i < N) (x : Int) :
    Calls Try.prog 48 #[.pointer (some ⟨r, 0, none⟩), .int .i64 x] w fun e w' => e = .returned (.int .i64 (okC (posB N x))) ∧ RfStep S w w' r (posOutL L N x) (posOutN N x) := by
  obtain ⟨v, hR, hSr, hSv⟩ := h
  have HST := Lib.hid (RfV.stay (S := S) (L := L) (N := N) ⟨v, hR, hSr, hSv⟩ (Below.refl w.heap.size w))
  have HPOS := Lib.hid (rPos_b hR x)
  obtain ⟨a, c, rfl, e0, e1, hfz, hnil, hrd, hc1, hc2⟩ := hR.see
  unfold posOutL posOutN
  cases hb : posB N x with
  | false =>
    rw [hb] at HPOS
    clear hR hrd hnil hb hrg
    go_enter Try.func48, Try.ntmps48
    go_wp2_with (go_at_call 82; refine HPOS.out.mono ?_; rintro e w' ⟨rfl, rfl⟩)
    go_ret
    exact ⟨rfl, HST.out⟩
  | true =>
  rw [hb] at HPOS
  unfold posB at hb
  simp at hb
  rw [if_pos rfl, if_pos rfl]
  have hb0 := below_al w (.cells #[] 3)
  have hown0 : (w.alloc (.cells #[] 3)).ownsRow w.heap.size 3 1 (.slice (some ⟨w.heap.size, 0, none⟩) 0 0) 0 [] := own_zero (Nat.le_refl _) (heap_alloc_new _ _)
  have a0 : (w.alloc (.cells #[] 3)).cell? ⟨r, 0, none⟩ = some (.slice a L.length c) := (hb0.cell (p := ⟨r, 0, none⟩) (Array.getElem?_eq_some_iff.1 hR.hp).1).trans e0
  have HRT := Lib.hid (hrd.below' hb0)
  have HR := Lib.hid hR
  have HO0 := Lib.hid hown0
  have HB0 := Lib.hid hb0
  have HNIL := Lib.hid hnil
  have HRG := Lib.hid hrg
  have z0 := hfz 0
  have hx0 := hb.1
  have hxN := hb.2
  clear hR hrd hnil hb hrg hown0 hb0
  go_enter Try.func48, Try.ntmps48
  go_wp2_with fail
  refine HPOS.out.mono ?_
  rintro e w' ⟨rfl, rfl⟩
  go_wp2_with (at_builtin; refine wpList_appendL rfl _ _ 22 rfl w.heap.size 3 Try.infoIntG Try.underlying22 rfl _ 0 _ rfl HO0.out a L.length c (L.map (Value.int .i64)) rfl (by simp) HNIL.out HRT.out.hnews (oneI .i64 _) (by unfold maxLen; omega) (by omega) HB0.out.size ?_)
  intro a1 k1 w1 hown hgrow _
  have hb1 : Below w.heap.size w w1 := HB0.out.grown hgrow HB0.out.size (fun j hj => by simp [Value.ownBlock] at hj; omega)
  obtain ⟨hR2, hg1⟩ := copy_ok HR.out hown hb1
  have hch : Chg S w (w1.setCell ⟨r, 0, none⟩ (.slice a1 L.length k1)) := (Chg.of_below hb1).setCell ⟨r, 0, none⟩ (Or.inl hSr) _
  have hR1 := HR.out.below hb1
  obtain ⟨_, _, _, e2, _, e3, _⟩ := hR1.see
  have e4 := e3 0
  have HR2 := Lib.hid hR2
  have HG1 := Lib.hid hg1
  have HCH := Lib.hid hch
  clear hown hgrow hb1 hR2 hg1 hch hR1 e3 hfz
  go_wp2_with fail
  generalize w1.setCell ⟨r, 0, none⟩ (.slice a1 L.length k1) = w2 at *
  clear e0 e1 e2 e4 z0 a0
  go_loopw [5] (fun v wr => ∃ i : Nat, i ≤ L.length ∧ v = .int .i64 i ∧ RfIn wr r (.slice a1 L.length k1) (mapTo (outP x) i L) N ∧ Chg S w wr) (fun v _ => L.length - (intOf v).toNat)
  case atStart => exact ⟨0, Nat.zero_le _, rfl, by rw [mapTo_zero]; exact HR2.out, HCH.out⟩
  case round =>
    obtain ⟨i, hi, rfl, hR, hch⟩ := hrel
    clear HR2 HCH
    by_cases hlt : i < L.length
    · obtain ⟨g, rfl, q1, q2, q3, q4⟩ := hR.at2 (mapTo_len _ _ _) hlt
      rw [mapTo_gL _ hlt] at q1
      have i0 : (0 : Int) ≤ (i : Int) := by omega
      have i1 : (i : Int) < (L.length : Int) := by omega
      have hset := hR.set2 (mapTo_len _ _ _) i (outP x (gL L i))
      rw [mapTo_set _ hlt] at hset
      have hsame := mapTo_same (outP x) hlt
      obtain ⟨r0, r1⟩ := HRG.out i
      have hgS := HG1.out g rfl
      by_cases h0 : gL L i = x
      · have e : outP x (gL L i) = -1 := if_pos h0
        rw [e] at hset
        have d3 : (gL L i == x) = true := by simp [h0]
        have HSET := Lib.hid hset.1
        have HC2 : Hid (Chg S w (wr.setCell ⟨g, i, none⟩ (.int .i64 (-1)))) := hch.setCell ⟨g, i, none⟩ (Or.inr hgS) _
        generalize gL L i = y at *
        clear hR hch hset hsame e h0
        go_wp2_with fail
        go_roundw
        case rel => exact ⟨i + 1, by omega, by go_num, HSET.out, HC2.out⟩
        case measure => simp [intOf]; omega
      · have d3 : (gL L i == x) = false := by simp [h0]
        by_cases h1 : x < gL L i
        · have e : outP x (gL L i) = gL L i - 1 := by unfold outP; rw [if_neg h0, if_pos h1]
          rw [e] at hset
          have d4 : decide (x < gL L i) = true := decide_eq_true h1
          have HSET := Lib.hid hset.1
          have HC2 : Hid (Chg S w (wr.setCell ⟨g, i, none⟩ (.int .i64 (gL L i - 1)))) := hch.setCell ⟨g, i, none⟩ (Or.inr hgS) _
          generalize gL L i = y at *
          have y1 : y ≤ 1000001 := by omega
          clear hR hch hset hsame e h0 h1
          go_wp2_with fail
          go_roundw
          case rel => exact ⟨i + 1, by omega, by go_num, HSET.out, HC2.out⟩
          case measure => simp [intOf]; omega
        · have e : outP x (gL L i) = gL L i := by unfold outP; rw [if_neg h0, if_neg h1]
          have d4 : decide (x < gL L i) = false := decide_eq_false h1
          have HSM := Lib.hid (hsame e)
          have HR3 := Lib.hid hR
          have HC2 := Lib.hid hch
          generalize gL L i = y at *
          clear hR hch hset hsame e h0 h1
          go_wp2_with fail
          go_roundw
          case rel => exact ⟨i + 1, by omega, by go_num, by rw [← HSM.out]; exact HR3.out, HC2.out⟩
          case measure => simp [intOf]; omega
    · obtain rfl : i = L.length := by omega
      rw [mapTo_all] at hR
      have q1 : wr.cell? ⟨r, 0, none⟩ = some (.slice a1 L.length k1) := by rw [cell_of_row wr r 0 _ _ _ hR.hp]; rfl
      have q2 : wr.cell? ⟨r, 1, none⟩ = some (.int .i64 (N : Int)) := by rw [cell_of_row wr r 1 _ _ _ hR.hp]; rfl
      have q3 := frozen_of_row wr r 1 _ _ hR.hp
      have HSTEP : Hid (RfStep S w (wr.setCell ⟨r, 1, none⟩ (.int .i64 ((N : Int) - 1))) r (L.map (outP x)) (N - 1)) := by
        have h1 := hR.setN (N - 1)
        rw [show (((N - 1 : Nat)) : Int) = (N : Int) - 1 by omega] at h1
        refine ⟨⟨_, h1, Or.inl hSr, fun k hk => Or.inr ?_⟩, hch.setCell ⟨r, 1, none⟩ (Or.inl hSr) _⟩
        have hlt := (own_lt hR.own hk).2
        obtain ⟨_, _, hv, _, hb⟩ := own_slice hR.own
        injection hv with ea _ _
        cases ha : a1 with
        | none => rw [ha] at hk; simp [Value.ownBlock] at hk
        | some ad =>
          obtain ⟨g, hg, _, _, ho⟩ := hb ad (by rw [← ea, ha])
          subst hg
          rw [ha] at hk
          injection hk with hk
          subst hk
          exact ⟨HG1.out _ ha, by simp [World.setCell]; exact hlt⟩
      clear hR hch
      go_wp2_with fail
      go_ret
      exact ⟨rfl, HSTEP.out⟩
end

end Go.Proofs.Ytpbmhdkhkbhgnaa

namespace Go.Proofs.Ytpbmhdkhkbhgnaa
set_option linter.unusedVariables false
set_option linter.unusedSimpArgs false
open Go.RowKit

def NewRPost (w : World) (n : Nat) (l : List (Int × Int)) (e : Ending) (w' : World) : Prop := match addAll n (List.replicate n (-1)) l with
  | some L => ∃ r, e = .returned (.pointer (some ⟨r, 0, none⟩)) ∧ RfV (fun k => w.heap.size ≤ k) w' r L n ∧ Below w.heap.size w w'
  | none => e = .returned (.pointer none) ∧ Below w.heap.size w w'

theorem below_dr3 (w : World) : Below w.heap.size w w.drew := ⟨rfl, rfl, rfl, Nat.le_refl _, fun _ _ => rfl⟩

theorem gL_rng_add {L : List Int} {N : Nat} (h : ∀ i, gL L i < N) (x y : Int) : ∀ i, gL (addL L N x y) i < N := by
  intro i
  unfold addL
  split
  · rename_i hc
    unfold addC at hc
    split at hc
    · rename_i hr
      rw [gL_set (by omega)]
      split
      · omega
      · exact h i
    · omega
  · exact h i

set_option maxHeartbeats 3200000 in
theorem rNew_v (w : World) (n : Nat) (hn : n ≤ 1000) (l : List (Int × Int)) (a : Option Addr) (c : Nat) (hr : RdP w a l) (hl : l.length ≤ 1000) :
    Calls Try.prog 38 #[.int .i64 n, .slice a l.length c] w (NewRPost w n l) := by
  have d1 : decide ((n : Int) < 0) = false := by simp
  have d2 : decide ((2147483648 : Int) < (n : Int)) = false := by simp; omega
  have HRD := Lib.hid hr
  clear hr
  go_enter Try.func38, Try.ntmps38
  go_wp2_with fail
  have hR0 : RfIn (w.alloc (.cells #[.slice none 0 0, .int .i64 (n : Int)] 63)) w.heap.size (.slice none 0 0) (List.replicate 0 (-1)) n :=
    ⟨heap_alloc_new w _, World.ownsRow_nil _ _ _ _, fun k hk => by simp [Value.ownBlock] at hk⟩
  have hB0 := below_al w (.cells #[.slice none 0 0, .int .i64 (n : Int)] 63)
  generalize w.alloc (.cells #[.slice none 0 0, .int .i64 (n : Int)] 63) = w1 at *
  have HR0 := Lib.hid hR0
  have HB0 := Lib.hid hB0
  clear hR0 hB0
  go_loopw [6] (fun v wr => ∃ (i : Nat) (rv : Value), i ≤ n ∧ v = .int .i64 i ∧ RfIn wr w.heap.size rv (List.replicate i (-1)) n ∧ (∀ k, rv.ownBlock = some k → w.heap.size ≤ k) ∧ Below w.heap.size w wr) (fun v _ => n - (intOf v).toNat)
  case atStart => exact ⟨0, _, Nat.zero_le _, rfl, HR0.out, fun k hk => by simp [Value.ownBlock] at hk, HB0.out⟩
  case round =>
    obtain ⟨i, rv, hi, rfl, hR, hrv, hb⟩ := hrel
    clear HR0 HB0
    have hs := hb.size
    by_cases hlt : i < n
    · obtain ⟨ra, rc, rfl, q1, _, q3, _⟩ := hR.see
      rw [List.length_replicate] at q1
      have hown := hR.own
      rw [List.length_replicate, List.map_replicate] at hown
      have d3 : decide (i < n) = true := decide_eq_true hlt
      have hrl : w.heap.size < wr.heap.size := (Array.getElem?_eq_some_iff.1 hR.hp).1
      have HR := Lib.hid hR
      have HRV := Lib.hid hrv
      have HB := Lib.hid hb
      have q4 := q3 0
      rw [List.length_replicate] at HR HRV
      clear hR hrv hb q3
      go_wp2_with (at_builtin; refine wpList_pushL rfl _ _ 22 rfl 0 3 Try.infoIntG Try.underlying22 rfl _ _ _ rfl hown rfl rfl ?k1 ?k2 (Nat.zero_le _) ?_)
      case k1 => unfold maxLen; omega
      case k2 => omega
      intro g5 cap5 w5 hown' hgrow hl5 hg5
      have hown2 : w5.ownsRow 0 3 1 (.slice (some ⟨g5, 0, none⟩) (i + 1) cap5) (i + 1) ((List.replicate (i + 1) (-1)).map (Value.int .i64)) := by
        rw [List.map_replicate, List.replicate_succ']; exact hown'
      have hch : Below w.heap.size w w5 := HB.out.grown hgrow hs (fun j hj => HRV.out j hj)
      have hg5B : w.heap.size ≤ g5 := hl5.elim (fun h => HRV.out g5 h) (fun h => by omega)
      have hg5n : g5 ≠ w.heap.size := hl5.elim (fun h => HR.out.ne g5 h) (fun h => by omega)
      have hc5 : Chg (fun b => (Value.slice ra i rc).ownBlock = some b) wr w5 := Chg.refl.grown hgrow (fun k hk => Or.inl hk)
      have hp5 : w5.heap[w.heap.size]? = _ := hc5.heap HR.out.hp (fun e => HR.out.ne _ e rfl)
      have q5 : w5.cell? ⟨w.heap.size, 0, none⟩ = some (.slice ra i rc) := by rw [cell_of_row w5 _ 0 _ _ _ hp5]; rfl
      have q6 := frozen_of_row w5 w.heap.size 0 _ _ hp5
      have hRn : RfIn (w5.setCell ⟨w.heap.size, 0, none⟩ (.slice (some ⟨g5, 0, none⟩) (i + 1) cap5)) w.heap.size (.slice (some ⟨g5, 0, none⟩) (i + 1) cap5) (List.replicate (i + 1) (-1)) n := by
        have hsc : Chg (fun b => b = w.heap.size) w5 (w5.setCell ⟨w.heap.size, 0, none⟩ (.slice (some ⟨g5, 0, none⟩) (i + 1) cap5)) := Chg.refl.setCell (S := fun b => b = w.heap.size) ⟨w.heap.size, 0, none⟩ (Or.inl rfl) _
        refine ⟨heap_setCell_same w5 w.heap.size 0 _ _ _ hp5, ?_, fun k hk => by injection hk with hk; subst hk; exact hg5n⟩
        rw [List.length_replicate]
        exact hsc.own hown2 (fun k hk e => by injection hk with hk; exact hg5n (hk.trans e))
      have hbn : Below w.heap.size w (w5.setCell ⟨w.heap.size, 0, none⟩ (.slice (some ⟨g5, 0, none⟩) (i + 1) cap5)) := below_setQ hch (by have := hch.size; omega) (Nat.le_refl _) _
      have HRN := Lib.hid hRn
      have HBN := Lib.hid hbn
      have HG5 := Lib.hid hg5B
      clear hown hown' hown2 hgrow hl5 hc5 hp5 hRn hbn hch hg5B q1 q4
      go_wp2_with fail
      go_roundw
      case rel => exact ⟨i + 1, _, by omega, by go_num, HRN.out, fun k hk => by injection hk with hk; rw [← hk]; exact HG5.out, HBN.out⟩
      case measure => simp [intOf]; omega
    · obtain rfl : i = n := by omega
      have HV : Hid (RfV (fun k => w.heap.size ≤ k) wr w.heap.size (List.replicate i (-1)) i) := ⟨rv, hR, Nat.le_refl _, hrv⟩
      have HB := Lib.hid hb
      clear hR hrv hb
      go_wp2_with fail
      go_loopw [7] (fun v wt => ∃ (j : Nat) (L : List Int), j ≤ l.length ∧ v = .int .i64 j ∧ addAll i (List.replicate i (-1)) (l.take j) = some L ∧ RfV (fun k => w.heap.size ≤ k) wt w.heap.size L i ∧ (∀ t, gL L t < i) ∧ Below w.heap.size w wt) (fun v _ => l.length - (intOf v).toNat)
      case atStart => exact ⟨0, _, Nat.zero_le _, rfl, rfl, HV.out, fun t => by rw [gL_rep]; omega, HB.out⟩
      case round =>
        obtain ⟨j, L, hj, rfl, hall, hV, hrg, hb⟩ := hrel
        obtain ⟨wt, hwt⟩ : ∃ wt, wt = wr := ⟨_, rfl⟩
        rw [← hwt] at hV hb ⊢
        clear hwt HV HB
        have hLl := addAll_len _ _ _ _ hall
        rw [List.length_replicate] at hLl
        by_cases hlt2 : j < l.length
        · obtain ⟨b, off, rfl, hbl, hcs⟩ := HRD.out j hlt2
          obtain ⟨p1, p2⟩ := hcs j hlt2
          have q1 := (hb.cell (p := ⟨b, off + j * 2, none⟩) hbl).trans p1
          have q2 := (hb.cell (p := ⟨b, off + j * 2 + 1, none⟩) hbl).trans p2
          have hsn : l.take (j + 1) = l.take j ++ [(rowL l j, posL l j)] := by
            rw [List.take_add_one, List.getElem?_eq_getElem hlt2]
            show _ ++ [l[j]] = _
            congr 1; simp [rowL, posL, hlt2]
          have hsn2 := addAll_snoc i (List.replicate i (-1)) (l.take j) (rowL l j, posL l j)
          rw [← hsn, hall] at hsn2
          have hlast : ∀ (h : ¬ addC L i (rowL l j) (posL l j) = 0), addAll i (List.replicate i (-1)) l = none := fun h => by
            cases hx : addAll i (List.replicate i (-1)) l with
            | none => rfl
            | some L' =>
              obtain ⟨L'', h2⟩ := addAll_take hx (j + 1)
              rw [h2] at hsn2
              have : (some L'' : Option (List Int)) = if addC L i (rowL l j) (posL l j) = 0 then some (addL L i (rowL l j) (posL l j)) else none := hsn2
              rw [if_neg h] at this; cases this
          have HSN : Hid (addAll i (List.replicate i (-1)) (l.take (j + 1)) = if addC L i (rowL l j) (posL l j) = 0 then some (addL L i (rowL l j) (posL l j)) else none) := hsn2
          have hrg2 := gL_rng_add hrg (rowL l j) (posL l j)
          generalize rowL l j = r0 at *
          generalize posL l j = p0 at *
          have HADD := Lib.hid (rAdd_v (hV.below (below_dr3 wt)) (by omega) hrg r0 p0)
          have hbd : Below w.heap.size w wt.drew := hb.trans ⟨rfl, rfl, rfl, Nat.le_refl _, fun _ _ => rfl⟩
          have KP : Hid (∀ W, Below w.heap.size w W → W.cell? ⟨b, off + j * 2, none⟩ = some (.int .i64 r0) ∧ W.cell? ⟨b, off + j * 2 + 1, none⟩ = some (.int .i64 p0)) := fun W hW =>
            ⟨(hW.cell (p := ⟨b, off + j * 2, none⟩) hbl).trans p1, (hW.cell (p := ⟨b, off + j * 2 + 1, none⟩) hbl).trans p2⟩
          obtain ⟨code, hcode⟩ : ∃ code, addC L i r0 p0 = code := ⟨_, rfl⟩
          rw [hcode] at HADD HSN hlast
          have HLAST := Lib.hid hlast
          have HRG2 := Lib.hid hrg2
          have HBD := Lib.hid hbd
          have i0 : (0 : Int) ≤ (j : Int) := by omega
          have i1 : (j : Int) < (l.length : Int) := by omega
          clear hsn hsn2 hall hV hrg hb hcs p1 p2 hlast hrg2 hbd hcode
          go_upto_region 11 with fail
          -- REGION
          refine reg_start (fun w' => w'.cell? ⟨b, off + j * 2, none⟩ = some (.int .i64 r0) ∧ w'.cell? ⟨b, off + j * 2 + 1, none⟩ = some (.int .i64 p0)) (by kernel_rfl) (⟨q1, q2⟩) (fun hHeld => ?_)
          refine reg_take (i := 0) (v := ?vn0) rfl (by kernel_rfl) rfl hHeld ?yn0 ?rn0
          case yn0 => (intro w hSw; (try dsimp only at hSw); go_simp; all_goals with_reducible rfl)
          try simp only [Act.put, List.setIfInBounds_toArray, List.set_cons_zero, List.set_cons_succ]
          refine reg_take (i := 1) (v := ?vn1) rfl (by kernel_rfl) rfl hHeld ?yn1 ?rn1
          case yn1 => (intro w hSw; (try dsimp only at hSw); go_simp; all_goals with_reducible rfl)
          try simp only [Act.put, List.setIfInBounds_toArray, List.set_cons_zero, List.set_cons_succ]
          refine reg_take (i := 2) (v := ?vn2) rfl (by kernel_rfl) rfl hHeld ?yn2 ?rn2
          case yn2 => (intro w hSw; (try dsimp only at hSw); go_simp; all_goals with_reducible rfl)
          try simp only [Act.put, List.setIfInBounds_toArray, List.set_cons_zero, List.set_cons_succ]
          refine reg_take (i := 3) (v := ?vn3) rfl (by kernel_rfl) rfl hHeld ?yn3 ?rn3
          case yn3 => (intro w hSw; (try dsimp only at hSw); go_simp; all_goals with_reducible rfl)
          try simp only [Act.put, List.setIfInBounds_toArray, List.set_cons_zero, List.set_cons_succ]
          refine reg_take (i := 4) (v := ?vn4) rfl (by kernel_rfl) rfl hHeld ?yn4 ?rn4
          case yn4 => (intro w hSw; (try dsimp only at hSw); go_simp; all_goals with_reducible rfl)
          try simp only [Act.put, List.setIfInBounds_toArray, List.set_cons_zero, List.set_cons_succ]
          refine reg_take (i := 5) (v := ?vn5) rfl (by kernel_rfl) rfl hHeld ?yn5 ?rn5
          case yn5 => (intro w hSw; (try dsimp only at hSw); go_simp; all_goals with_reducible rfl)
          try simp only [Act.put, List.setIfInBounds_toArray, List.set_cons_zero, List.set_cons_succ]
          refine reg_take (i := 6) (v := ?vn6) rfl (by kernel_rfl) rfl hHeld ?yn6 ?rn6
          case yn6 => (intro w hSw; (try dsimp only at hSw); go_simp; all_goals with_reducible rfl)
          try simp only [Act.put, List.setIfInBounds_toArray, List.set_cons_zero, List.set_cons_succ]
          refine reg_take (i := 7) (v := ?vn7) rfl (by kernel_rfl) rfl hHeld ?yn7 ?rn7
          case yn7 => (intro w hSw; (try dsimp only at hSw); go_simp; all_goals with_reducible rfl)
          try simp only [Act.put, List.setIfInBounds_toArray, List.set_cons_zero, List.set_cons_succ]
          refine reg_take (i := 8) (v := ?vn8) rfl (by kernel_rfl) rfl hHeld ?yn8 ?rn8
          case yn8 => (intro w hSw; (try dsimp only at hSw); go_simp; all_goals with_reducible rfl)
          try simp only [Act.put, List.setIfInBounds_toArray, List.set_cons_zero, List.set_cons_succ]
          refine reg_take (i := 9) (v := ?vn9) rfl (by kernel_rfl) rfl hHeld ?yn9 ?rn9
          case yn9 => (intro w hSw; (try dsimp only at hSw); go_simp; all_goals with_reducible rfl)
          try simp only [Act.put, List.setIfInBounds_toArray, List.set_cons_zero, List.set_cons_succ]
          refine reg_take (i := 10) (v := ?vn10) rfl (by kernel_rfl) rfl hHeld ?yn10 ?rn10
          case yn10 => (intro w hSw; (try dsimp only at hSw); go_simp; all_goals with_reducible rfl)
          try simp only [Act.put, List.setIfInBounds_toArray, List.set_cons_zero, List.set_cons_succ]
          refine reg_loud (i := 11) rfl (by kernel_rfl) rfl (fun K hK => ?_)
          go_simp
          ((with_reducible refine (HADD.out).mono ?_))
          rintro e w5 ⟨rfl, hs5⟩
          have hb5 : Below w.heap.size w w5 := HBD.out.trans (hs5.chg.below (fun b hb => hb) HBD.out.size)
          have hv5 := hs5.rv.mono (S' := fun k => w.heap.size ≤ k) (fun k hk => by have := HBD.out.size; omega)
          have HV5 := Lib.hid hv5
          have HB5 := Lib.hid hb5
          have hk5 := KP.out w5 hb5
          clear hs5 hb5 hv5
          refine hK.out _ _ (hk5) (fun hNew => ?_)
          clear hK K hHeld
          have hHeld := hNew
          clear hNew
          try simp only [Act.put, List.setIfInBounds_toArray, List.set_cons_zero, List.set_cons_succ]
          refine reg_take (i := 12) (v := ?vn12) rfl (by kernel_rfl) rfl hHeld ?yn12 ?rn12
          case yn12 => (intro w hSw; (try dsimp only at hSw); go_simp; all_goals with_reducible rfl)
          try simp only [Act.put, List.setIfInBounds_toArray, List.set_cons_zero, List.set_cons_succ]
          refine reg_done (by kernel_rfl) ?_ _
          -- END
          clear hHeld hk5
          by_cases hz : code = 0
          · have he := HSN.out
            rw [if_pos hz] at he
            have HE := Lib.hid he
            have dz : (code != 0) = false := by simp [hz]
            clear he hz HSN HLAST
            go_wp2_with fail
            go_roundw
            case rel => exact ⟨j + 1, _, by omega, by go_num, HE.out, HV5.out, HRG2.out, HB5.out⟩
            case measure => simp [intOf]; omega
          · have he := HLAST.out hz
            have HE : Hid (NewRPost w i l (.returned (.pointer none)) w5) := by
              show NewRPost _ _ _ _ _
              unfold NewRPost
              rw [he]
              exact ⟨rfl, HB5.out⟩
            have dz : (code != 0) = true := by simp [hz]
            clear he hz HSN HLAST
            go_wp2_with fail
            go_ret
            exact HE.out
        · obtain rfl : j = l.length := by omega
          rw [List.take_length] at hall
          have HE : Hid (NewRPost w i l (.returned (.pointer (some ⟨w.heap.size, 0, none⟩))) wt) := by
            show NewRPost _ _ _ _ _
            unfold NewRPost
            rw [hall]
            exact ⟨_, rfl, hV, hb⟩
          clear hall hV hb hrg
          go_wp2_with fail
          go_ret
          exact HE.out

end Go.Proofs.Ytpbmhdkhkbhgnaa

namespace Go.Proofs.Ytpbmhdkhkbhgnaa
set_option linter.unusedVariables false
set_option linter.unusedSimpArgs false
open Go.RowKit

/-- A Perm at p and the document's at r, on blocks apart from one another, from B on. -/
def PR (B : Nat) (w : World) (p r c : Nat) (L : List Int) (N : Nat) (L2 : List Int) (N2 : Nat) : Prop := ∃ Sp Sm : Nat → Prop, PmV Sp w p c L N ∧ RfV Sm w r L2 N2 ∧ (∀ k, Sp k → ¬ Sm k) ∧ (∀ k, Sp k → B ≤ k) ∧ (∀ k, Sm k → B ≤ k) ∧ B ≤ w.heap.size

section
variable {B : Nat} {w w' : World} {p r c : Nat} {L L2 : List Int} {N N2 : Nat}
theorem PR.below (h : PR B w p r c L N L2 N2) (hb : Below w.heap.size w w') : PR B w' p r c L N L2 N2 := by
  obtain ⟨Sp, Sm, h1, h2, h3, h4, h5, h6⟩ := h
  exact ⟨Sp, Sm, h1.below hb, h2.below hb, h3, h4, h5, Nat.le_trans h6 hb.size⟩
theorem PR.callP {f : FuncId} {args : Array Value} {code : Value} {c' : Nat} {L' : List Int} {N' : Nat} (h : PR B w p r c L N L2 N2)
    (hcon : ∀ S, PmV S w p c L N → Calls Try.prog f args w fun e w' => e = .returned code ∧ PmStep S w w' p c' L' N') :
    Calls Try.prog f args w fun e w' => e = .returned code ∧ PR B w' p r c' L' N' L2 N2 ∧ Below B w w' := by
  obtain ⟨Sp, Sm, h1, h2, h3, h4, h5, h6⟩ := h
  refine (hcon (fun k => Sp k ∧ k < w.heap.size) h1.lts).mono ?_
  rintro e w' ⟨rfl, hs⟩
  refine ⟨rfl, ⟨_, fun k => Sm k ∧ k < w.heap.size, hs.pv, h2.lts.chg hs.chg (fun k hk hk' => h3 k hk'.1 hk.1), fun k hk hk' => ?_, fun k hk => ?_, fun k hk => h5 k hk.1, Nat.le_trans h6 hs.chg.size⟩, hs.chg.below (fun k hk => h4 k hk.1) h6⟩
  · rcases hk with hk | hk
    · exact h3 k hk.1 hk'.1
    · have := hk'.2; omega
  · rcases hk with hk | hk
    · exact h4 k hk.1
    · omega
theorem PR.callR {f : FuncId} {args : Array Value} {code : Value} {L' : List Int} {N' : Nat} (h : PR B w p r c L N L2 N2)
    (hcon : ∀ S, RfV S w r L2 N2 → Calls Try.prog f args w fun e w' => e = .returned code ∧ RfStep S w w' r L' N') :
    Calls Try.prog f args w fun e w' => e = .returned code ∧ PR B w' p r c L N L' N' ∧ Below B w w' := by
  obtain ⟨Sp, Sm, h1, h2, h3, h4, h5, h6⟩ := h
  refine (hcon (fun k => Sm k ∧ k < w.heap.size) h2.lts).mono ?_
  rintro e w' ⟨rfl, hs⟩
  refine ⟨rfl, ⟨fun k => Sp k ∧ k < w.heap.size, _, h1.lts.chg hs.chg (fun k hk hk' => h3 k hk.1 hk'.1), hs.rv, fun k hk hk' => ?_, fun k hk => h4 k hk.1, fun k hk => ?_, Nat.le_trans h6 hs.chg.size⟩, hs.chg.below (fun k hk => h5 k hk.1) h6⟩
  · rcases hk' with hk' | hk'
    · exact h3 k hk.1 hk'.1
    · have := hk.2; omega
  · rcases hk with hk | hk
    · exact h5 k hk.1
    · omega
theorem PR.rng (h : PR B w p r c L N L2 N2) : ∀ i, -1 ≤ gL L i ∧ gL L i < N := by
  obtain ⟨Sp, Sm, h1, _⟩ := h
  exact h1.rng
theorem PR.le (h : PR B w p r c L N L2 N2) : B ≤ w.heap.size := by
  obtain ⟨Sp, Sm, _, _, _, _, _, h⟩ := h
  exact h
/-- Two new ones. -/
theorem PR.of {w1 w2 : World} (hp : PmV (fun k => w.heap.size ≤ k) w1 p c L N) (hb1 : Below w.heap.size w w1) (hr : RfV (fun k => w1.heap.size ≤ k) w2 r L2 N2) (hb2 : Below w1.heap.size w1 w2) : PR w.heap.size w2 p r c L N L2 N2 :=
  ⟨fun k => w.heap.size ≤ k ∧ k < w1.heap.size, _, hp.lts.below hb2, hr, fun k hk hk' => by have := hk.2; omega, fun k hk => hk.1, fun k hk => Nat.le_trans hb1.size hk, Nat.le_trans hb1.size hb2.size⟩

/-- What a step's kind makes. -/
def opC (kd : Nat) (L : List Int) (N : Nat) (a b : Int) : Int := match kd with
  | 0 => addC L N a b
  | 1 => addC L N a b
  | 2 => if 0 ≤ gL L a then 0 else 7
  | 3 => okC (rowInB L a)
  | 4 => okC (rowB L a)
  | 5 => okC (rowB L a && rowB L b)
  | 6 => okC (posInB N b)
  | _ => okC (posB N b)
def opL (kd : Nat) (L : List Int) (N : Nat) (a b : Int) : List Int := match kd with
  | 0 => addL L N a b
  | 1 => addL L N a b
  | 2 => dropL L a
  | 3 => rowInL L a
  | 4 => rowOutL L a
  | 5 => moveL L a b
  | 6 => posInL L N b
  | _ => posOutL L N b
def opN (kd : Nat) (N : Nat) (b : Int) : Nat := match kd with
  | 6 => posInN N b
  | 7 => posOutN N b
  | _ => N
theorem rowInL_len (L : List Int) (x : Int) : (rowInL L x).length ≤ L.length + 1 := by
  unfold rowInL
  split
  · rename_i h
    unfold rowInB at h
    simp at h
    rw [insA_len (by omega)]; omega
  · omega
theorem opL_len (kd : Nat) (L : List Int) (N : Nat) (a b : Int) : (opL kd L N a b).length ≤ L.length + 1 := by
  unfold opL
  split
  · rw [addL_len]; omega
  · rw [addL_len]; omega
  · unfold dropL; split <;> (try rw [List.length_set]) <;> omega
  · exact rowInL_len L a
  · have := rowOutL_len L a; omega
  · rw [moveL_len]; omega
  · unfold posInL; split <;> (try rw [List.length_map]) <;> omega
  · unfold posOutL; split <;> (try rw [List.length_map]) <;> omega
theorem opN_le (kd : Nat) (N : Nat) (b : Int) : opN kd N b ≤ N + 1 := by
  unfold opN
  split
  · unfold posInN; split <;> omega
  · unfold posOutN; split <;> omega
  · omega
end

end Go.Proofs.Ytpbmhdkhkbhgnaa

namespace Go.Proofs.Ytpbmhdkhkbhgnaa
open Go.ChangeShapes Go.WideShapes Go.ChangeAt Go.RowKit

/-- A row of such structs that came in. -/
structure ArgO (w : World) (a : Option Addr) (cap : Nat) (xs : List (Int × Int × Bool)) : Prop where
  reads : ∀ i, i < xs.length → ∃ b off, a = some ⟨b, off, none⟩ ∧ b < w.heap.size ∧ ∀ j, j < xs.length →
    w.cell? ⟨b, off + j * 3, none⟩ = some (.int .i64 (xs[j]?.getD default).1) ∧ w.cell? ⟨b, off + j * 3 + 1, none⟩ = some (.int .i64 (xs[j]?.getD default).2.1) ∧ w.cell? ⟨b, off + j * 3 + 2, none⟩ = some (.bool (xs[j]?.getD default).2.2)
  wf : ∀ i, i < xs.length → (Lit.int .i64 (xs[i]?.getD default).2.1).wf = true
  le : xs.length ≤ cap
  max : cap ≤ maxLen

variable {H : Type} {enc : TypeId × Value → H} {P : Program} {w : World} {base : Nat} {sp : Nat → Bool} {held : Bool}

theorem trod_int_wf {t : TypeId} {k : IntKind} {fuel : Nat} {v : Value} {x : DataW H × List MemPlace} (ht : P.underlying t = some (.int k)) (hf : DataW.trod enc P w base sp held fuel t [v] = some x) : ∃ n, v = .int k n ∧ (Lit.int k n).wf = true := by
  cases fuel with
  | zero => simp [DataW.trod] at hf
  | succ fuel =>
    cases v <;> simp [DataW.trod, ht] at hf
    rename_i k' n
    obtain ⟨⟨rfl, h⟩, _⟩ := hf
    exact ⟨n, rfl, h⟩
theorem trod_bool_v {t : TypeId} {fuel : Nat} {v : Value} {x : DataW H × List MemPlace} (ht : P.underlying t = some .bool) (hf : DataW.trod enc P w base sp held fuel t [v] = some x) : ∃ b, v = .bool b := by
  cases fuel with
  | zero => simp [DataW.trod] at hf
  | succ fuel =>
    cases v <;> simp [DataW.trod, ht] at hf
    exact ⟨_, rfl⟩

theorem argO_of {t e : TypeId} {f0 f1 f2 : Field} {fuel : Nat} {a : Option Addr} {len cap : Nat} {x : DataW H × List MemPlace} (ht : P.underlying t = some (.slice e)) (he : P.underlying e = some (.struct #[f0, f1, f2]))
    (ce : P.cellsOf e = 3) (o0 : f0.offset = 0) (o1 : f1.offset = 1) (o2 : f2.offset = 2) (c0 : P.cellsOf f0.type = 1) (c1 : P.cellsOf f1.type = 1) (c2 : P.cellsOf f2.type = 1)
    (i0 : P.underlying f0.type = some (.int .i64)) (i1 : P.underlying f1.type = some (.int .i64)) (i2 : P.underlying f2.type = some .bool)
    (hf : DataW.trod enc P w base sp held fuel t (Value.slice a len cap).cells.toList = some x) : ∃ xs : List (Int × Int × Bool), len = xs.length ∧ ArgO w a cap xs := by
  rcases Go.Deep.open_slice ht hf with ⟨hcs, _⟩ | ⟨x, l, c, m, n, D, Pl, hcs, _, hl, hm, hmm, _, hx⟩
  · simp [Value.cells] at hcs
    obtain ⟨rfl, rfl, rfl⟩ := hcs
    exact ⟨[], rfl, ⟨fun i hi => absurd hi (by simp), fun i hi => absurd hi (by simp), by simp, by unfold maxLen; omega⟩⟩
  · simp [Value.cells] at hcs
    obtain ⟨rfl, rfl, rfl⟩ := hcs
    have hlm : len ≤ m := by rw [hmm]; split <;> omega
    have hz : ∀ i, i < m → ∃ z : Int × Int × Bool, w.cell? (x.add (i * 3)) = some (.int .i64 z.1) ∧ w.cell? (x.add (i * 3 + 1)) = some (.int .i64 z.2.1) ∧ w.cell? (x.add (i * 3 + 2)) = some (.bool z.2.2) ∧ (Lit.int .i64 z.2.1).wf = true := fun i hi => by
      obtain ⟨cs', h1, h2⟩ := hx i hi
      rw [ce] at h1
      obtain ⟨_, hlen, hcell⟩ := World.cells?_some h1
      obtain ⟨xs, k, hk, hxy, _, hxl, hfs⟩ := DataW.trod_struct he h2
      match xs, hxl, cs', hlen with
      | [y0, y1, y2], _, [v0, v1, v2], _ =>
        have g0 := hfs 0 f0 rfl
        have g1 := hfs 1 f1 rfl
        have g2 := hfs 2 f2 rfl
        simp [o0, o1, o2, c0, c1, c2] at g0 g1 g2
        have e0 := hcell 0 (by omega)
        have e1 := hcell 1 (by omega)
        have e2 := hcell 2 (by omega)
        rw [Go.Deep.add_add] at e0 e1 e2
        obtain ⟨n0, rfl, _⟩ := trod_int_wf i0 g0
        obtain ⟨n1, rfl, hw⟩ := trod_int_wf i1 g1
        obtain ⟨b2, rfl⟩ := trod_bool_v i2 g2
        exact ⟨(n0, n1, b2), by simpa using e0, by simpa using e1, by simpa using e2, hw⟩
    obtain ⟨z, hzz⟩ := Go.Deep.choose_lt hz
    have hlen : ((List.range len).map z).length = len := by simp
    have hget : ∀ j, j < len → ((List.range len).map z)[j]?.getD default = z j := fun j hj => by simp [hj]
    refine ⟨(List.range len).map z, hlen.symm, ⟨fun i hi => ?_, fun i hi => ?_, by rw [hlen]; exact hl, hm⟩⟩
    · rw [hlen] at hi ⊢
      obtain ⟨b, off, spot⟩ := x
      have h0 := (hzz 0 (by omega)).1
      have hspot : spot = none := by simpa [Addr.add] using World.cell?_spot h0
      subst hspot
      refine ⟨b, off, rfl, World.block_lt_of_cell? w _ (by simpa [Addr.add] using h0), fun j hj => ?_⟩
      obtain ⟨g0, g1, g2, _⟩ := hzz j (by omega)
      rw [Addr.add_lit] at g0 g1 g2
      rw [hget j hj]
      exact ⟨g0, g1, g2⟩
    · rw [hlen] at hi
      rw [hget i hi]
      exact (hzz i (by omega)).2.2.2

end Go.Proofs.Ytpbmhdkhkbhgnaa

namespace Go.Proofs.Ytpbmhdkhkbhgnaa
open Go.ChangeShapes Go.WideShapes Go.ChangeAt Go.RowKit

/-- A row of such structs that came in. -/
structure ArgT (w : World) (a : Option Addr) (cap : Nat) (xs : List (Int × Int × Int)) : Prop where
  reads : ∀ i, i < xs.length → ∃ b off, a = some ⟨b, off, none⟩ ∧ b < w.heap.size ∧ ∀ j, j < xs.length →
    w.cell? ⟨b, off + j * 3, none⟩ = some (.int .i64 (xs[j]?.getD default).1) ∧ w.cell? ⟨b, off + j * 3 + 1, none⟩ = some (.int .i64 (xs[j]?.getD default).2.1) ∧ w.cell? ⟨b, off + j * 3 + 2, none⟩ = some (.int .i64 (xs[j]?.getD default).2.2)
  wf : ∀ i, i < xs.length → (Lit.int .i64 (xs[i]?.getD default).1).wf = true ∧ (Lit.int .i64 (xs[i]?.getD default).2.1).wf = true ∧ (Lit.int .i64 (xs[i]?.getD default).2.2).wf = true
  le : xs.length ≤ cap
  max : cap ≤ maxLen

variable {H : Type} {enc : TypeId × Value → H} {P : Program} {w : World} {base : Nat} {sp : Nat → Bool} {held : Bool}

theorem argT_of {t e : TypeId} {f0 f1 f2 : Field} {fuel : Nat} {a : Option Addr} {len cap : Nat} {x : DataW H × List MemPlace} (ht : P.underlying t = some (.slice e)) (he : P.underlying e = some (.struct #[f0, f1, f2]))
    (ce : P.cellsOf e = 3) (o0 : f0.offset = 0) (o1 : f1.offset = 1) (o2 : f2.offset = 2) (c0 : P.cellsOf f0.type = 1) (c1 : P.cellsOf f1.type = 1) (c2 : P.cellsOf f2.type = 1)
    (i0 : P.underlying f0.type = some (.int .i64)) (i1 : P.underlying f1.type = some (.int .i64)) (i2 : P.underlying f2.type = some (.int .i64))
    (hf : DataW.trod enc P w base sp held fuel t (Value.slice a len cap).cells.toList = some x) : ∃ xs : List (Int × Int × Int), len = xs.length ∧ ArgT w a cap xs := by
  rcases Go.Deep.open_slice ht hf with ⟨hcs, _⟩ | ⟨x, l, c, m, n, D, Pl, hcs, _, hl, hm, hmm, _, hx⟩
  · simp [Value.cells] at hcs
    obtain ⟨rfl, rfl, rfl⟩ := hcs
    exact ⟨[], rfl, ⟨fun i hi => absurd hi (by simp), fun i hi => absurd hi (by simp), by simp, by unfold maxLen; omega⟩⟩
  · simp [Value.cells] at hcs
    obtain ⟨rfl, rfl, rfl⟩ := hcs
    have hlm : len ≤ m := by rw [hmm]; split <;> omega
    have hz : ∀ i, i < m → ∃ z : Int × Int × Int, w.cell? (x.add (i * 3)) = some (.int .i64 z.1) ∧ w.cell? (x.add (i * 3 + 1)) = some (.int .i64 z.2.1) ∧ w.cell? (x.add (i * 3 + 2)) = some (.int .i64 z.2.2) ∧ (Lit.int .i64 z.1).wf = true ∧ (Lit.int .i64 z.2.1).wf = true ∧ (Lit.int .i64 z.2.2).wf = true := fun i hi => by
      obtain ⟨cs', h1, h2⟩ := hx i hi
      rw [ce] at h1
      obtain ⟨_, hlen, hcell⟩ := World.cells?_some h1
      obtain ⟨xs, k, hk, hxy, _, hxl, hfs⟩ := DataW.trod_struct he h2
      match xs, hxl, cs', hlen with
      | [y0, y1, y2], _, [v0, v1, v2], _ =>
        have g0 := hfs 0 f0 rfl
        have g1 := hfs 1 f1 rfl
        have g2 := hfs 2 f2 rfl
        simp [o0, o1, o2, c0, c1, c2] at g0 g1 g2
        have e0 := hcell 0 (by omega)
        have e1 := hcell 1 (by omega)
        have e2 := hcell 2 (by omega)
        rw [Go.Deep.add_add] at e0 e1 e2
        obtain ⟨n0, rfl, hw0⟩ := trod_int_wf i0 g0
        obtain ⟨n1, rfl, hw⟩ := trod_int_wf i1 g1
        obtain ⟨b2, rfl, hw2⟩ := trod_int_wf i2 g2
        exact ⟨(n0, n1, b2), by simpa using e0, by simpa using e1, by simpa using e2, hw0, hw, hw2⟩
    obtain ⟨z, hzz⟩ := Go.Deep.choose_lt hz
    have hlen : ((List.range len).map z).length = len := by simp
    have hget : ∀ j, j < len → ((List.range len).map z)[j]?.getD default = z j := fun j hj => by simp [hj]
    refine ⟨(List.range len).map z, hlen.symm, ⟨fun i hi => ?_, fun i hi => ?_, by rw [hlen]; exact hl, hm⟩⟩
    · rw [hlen] at hi ⊢
      obtain ⟨b, off, spot⟩ := x
      have h0 := (hzz 0 (by omega)).1
      have hspot : spot = none := by simpa [Addr.add] using World.cell?_spot h0
      subst hspot
      refine ⟨b, off, rfl, World.block_lt_of_cell? w _ (by simpa [Addr.add] using h0), fun j hj => ?_⟩
      obtain ⟨g0, g1, g2, _⟩ := hzz j (by omega)
      rw [Addr.add_lit] at g0 g1 g2
      rw [hget j hj]
      exact ⟨g0, g1, g2⟩
    · rw [hlen] at hi
      rw [hget i hi]
      exact (hzz i (by omega)).2.2.2

end Go.Proofs.Ytpbmhdkhkbhgnaa
