/- Tallies of the call's own: contracts for the laws; scrimshawlaw8.told. -/
import Derived.Test.YteapkoomingdfaaTallyA
namespace Go.Proofs.Yteapkoomingdfaa
set_option linter.unusedVariables false
set_option linter.unusedSimpArgs false
open Go.RowKit

/-- Block p, from B on, holds a tally. -/
def TAt (B : Nat) (w : World) (p : Nat) (t : Tl) : Prop := IsTally w p t ∧ B ≤ p

theorem TAt.chg {B : Nat} {w w' : World} {p : Nat} {t : Tl} (h : TAt B w p t) (hb : Below w.heap.size w w') : TAt B w' p t :=
  ⟨h.1.chg (S := fun _ => False) (Chg.of_below hb) (fun hf => hf), h.2⟩

theorem tnew_at {w : World} (l : List Int) {a : Option Addr} {c n : Nat} (hl : Reads w .i64 a l) (hn : n = l.length) (hs : ∀ x ∈ l, 0 ≤ x ∧ x < 257) (hlen : l.length ≤ 2147483648) :
    Calls Try.prog 41 #[.slice a n c] w fun e w' => ∃ p, e = .returned (.tuple #[.pointer (some ⟨p, 0, none⟩), .int .i64 0]) ∧ TAt w.heap.size w' p (Tl.of l) ∧ Below w.heap.size w w' := by
  subst hn
  refine (tNew_good hl hs hlen).mono ?_
  rintro e w' ⟨rfl, h1, h2⟩
  exact ⟨_, rfl, ⟨h1, Nat.le_refl _⟩, h2⟩

theorem tnew_lit {w : World} {t : TypeId} (l : List Int) (cs : Array Value) (n : Nat) (hcs : cs = (l.map (Value.int .i64)).toArray) (hn : n = l.length) (hs : ∀ x ∈ l, 0 ≤ x ∧ x < 257) (hlen : l.length ≤ 2147483648) :
    Calls Try.prog 41 #[.slice (some ⟨w.heap.size, 0, none⟩) n n] (w.alloc (.cells cs t)) fun e w' => ∃ p, e = .returned (.tuple #[.pointer (some ⟨p, 0, none⟩), .int .i64 0]) ∧ TAt w.heap.size w' p (Tl.of l) ∧ Below w.heap.size w w' := by
  subst hcs
  have hrd : Reads (w.alloc (.cells (l.map (Value.int .i64)).toArray t)) .i64 (some ⟨w.heap.size, 0, none⟩) l := fun i hi => ⟨_, _, rfl, by simp, fun j hj => by
    rw [Nat.zero_add, World.cell?_alloc_at _ _ _ _ rfl]
    simp [List.getElem?_eq_getElem hj]⟩
  refine (tnew_at l hrd hn hs hlen).mono ?_
  rintro e w' ⟨p, rfl, h1, h2⟩
  refine ⟨p, rfl, ⟨h1.1, ?_⟩, ((Below.refl _ _).alloc (Nat.le_refl _) _).trans (h2.mono (by simp))⟩
  have := h1.2; simp at this; omega

theorem tadd_at {B : Nat} {w : World} {p : Nat} {t t' : Tl} {s n x : Int} (h : TAt B w p t) (hB : B ≤ w.heap.size) (hr : t.step s n = (x, t')) :
    Calls Try.prog 42 #[.pointer (some ⟨p, 0, none⟩), .int .i64 s, .int .i64 n] w fun e w' => e = .returned (.int .i64 x) ∧ TAt B w' p t' ∧ Below B w w' := by
  refine (tAdd_any h.1 s n).mono ?_
  rintro e w' ⟨rfl, h1, h2⟩
  rw [hr] at h1 ⊢
  exact ⟨rfl, ⟨h1, h.2⟩, h2.below (fun b hb => by rw [hb]; exact h.2) hB⟩

theorem tof_at {B : Nat} {w : World} {p : Nat} {t : Tl} {s x : Int} (h : TAt B w p t) (hx : tOf t s = x) : Calls Try.prog 47 #[.pointer (some ⟨p, 0, none⟩), .int .i64 s] w fun e w' => e = .returned (.int .i64 x) ∧ w = w' := by
  subst hx; exact tOf_any h.1 s
theorem tbelow_at {B : Nat} {w : World} {p : Nat} {t : Tl} {s x : Int} (h : TAt B w p t) (hx : tBelow t s = x) : Calls Try.prog 46 #[.pointer (some ⟨p, 0, none⟩), .int .i64 s] w fun e w' => e = .returned (.int .i64 x) ∧ w = w' := by
  subst hx; exact tBelow_any h.1 s
theorem tlen_at {B : Nat} {w : World} {p : Nat} {t : Tl} {x : Int} (h : TAt B w p t) (hx : t.all = x) : Calls Try.prog 43 #[.pointer (some ⟨p, 0, none⟩)] w fun e w' => e = .returned (.int .i64 x) ∧ w = w' := by
  subst hx; exact tLen_any h.1
theorem twhich_at {B : Nat} {w : World} {p : Nat} {t : Tl} {k x : Int} (h : TAt B w p t) (hk : -9223372036854775808 ≤ k) (hk2 : k ≤ 9223372036854775807) (hx : IsWhich t k x) :
    Calls Try.prog 45 #[.pointer (some ⟨p, 0, none⟩), .int .i64 k] w fun e w' => e = .returned (.int .i64 x) ∧ w = w' := by
  refine (tWhich_any h.1 k hk hk2).mono ?_
  rintro e w' ⟨⟨r, rfl, hr⟩, rfl⟩
  exact ⟨by rw [IsWhich.unique h.1.ok hr hx], rfl⟩

theorem tWhich_nil (k : Int) (w : World) : Calls Try.prog 45 #[.pointer none, .int .i64 k] w fun e w' => e = .returned (.int .i64 (-1)) ∧ w = w' := by
  go_enter Try.func45, Try.ntmps45
  go_wp2
  go_ret
  exact ⟨rfl, rfl⟩

def t8 : Tl := Tl.of [0, 5, 5, 256]
def t8' : Tl := t8.add 5 (-2)
theorem t8_1 : t8.step 5 (-2) = (0, t8') := rfl
theorem t8_2 : t8'.step 0 (-2) = (2, t8') := rfl
theorem t8_3 : t8'.step 300 1 = (1, t8') := rfl
theorem t8_4 : t8'.step 7 2147483648 = (2, t8') := rfl
theorem t8_5 : tOf t8' 5 = 0 := rfl
theorem t8_6 : tOf t8' 256 = 1 := rfl
theorem bl8 (k : Nat) : bl t8'.N k = (if 0 < k then 1 else 0) + (if 256 < k then 1 else 0) := by
  have e : bl t8.N k = (if 0 < k then 1 else 0) + (if 5 < k then 2 else 0) + (if 256 < k then 1 else 0) := by
    induction k with
    | zero => rfl
    | succ k ih =>
      have h : t8.N k = (if k = 0 then 1 else 0) + (if k = 5 then 2 else 0) + (if k = 256 then 1 else 0) := by
        show ((cnt [0, 5, 5, 256] (k : Int) : Nat) : Int) = _
        unfold cnt
        simp only [List.countP_cons, List.countP_nil, beq_iff_eq]
        by_cases h0 : k = 0
        · subst h0; rfl
        · by_cases h5 : k = 5
          · subst h5; rfl
          · by_cases h6 : k = 256
            · subst h6; rfl
            · simp only [if_neg h0, if_neg h5, if_neg h6, if_neg (show ¬ (0 : Int) = (k : Int) from by omega), if_neg (show ¬ (5 : Int) = (k : Int) from by omega), if_neg (show ¬ (256 : Int) = (k : Int) from by omega)]; rfl
      simp only [bl, ih, h]
      repeat' split
      all_goals omega
  unfold t8' Tl.add
  rw [bl_upd, e]
  have e5 : t8.N 5 = 2 := rfl
  rw [e5]
  repeat' split
  all_goals omega
theorem t8_b1 : bl t8'.N 256 = 1 := (bl8 256).trans rfl
theorem t8_b2 : bl t8'.N 257 = 2 := (bl8 257).trans rfl
theorem t8_7 : tBelow t8' 256 = 1 := t8_b1
theorem t8_8 : tBelow t8' 999 = 2 := t8_b2
theorem t8_9 : tBelow t8' (-4) = 0 := (bl8 0).trans rfl
theorem t8_all : t8'.all = 2 := rfl
theorem t8_w1 : IsWhich t8' 1 256 := by
  have h1 := t8_all
  have h2 := t8_b1
  have h3 := t8_b2
  unfold IsWhich
  refine ⟨fun h => ?_, fun _ => ⟨256, by omega, rfl, ?_, ?_⟩⟩
  · exfalso; rw [h1] at h; omega
  · exact Int.le_of_eq h2
  · show 1 < bl t8'.N 257
    rw [h3]; omega
theorem t8_w2 : IsWhich t8' 2 (-1) := by
  have h1 := t8_all
  unfold IsWhich
  refine ⟨fun _ => rfl, fun h => ?_⟩
  exfalso; rw [h1] at h; omega

set_option maxHeartbeats 3200000 in
set_option maxRecDepth 100000 in
theorem told8_any (w : World) : Calls Try.prog 44 #[] w fun e w' => e = .returned (.bool true) ∧ Below w.heap.size w w' := by
  go_enter Try.func44, Try.ntmps44
  go_wp2_with fail
  refine (tnew_lit [0, 5, 5, 256] _ _ rfl rfl (by simp) (by simp)).mono ?_
  rintro e w1 ⟨p, rfl, (hT : TAt w.heap.size w1 p t8), hb1⟩
  have hs1 := hb1.size
  go_wp2_with fail
  have hT0 := hT.chg (w' := w1.alloc (.cells #[.int .i64 (-1)] 3)) ((Below.refl _ _).alloc (Nat.le_refl _) _)
  have hrd : Reads (w1.alloc (.cells #[.int .i64 (-1)] 3)) .i64 (some ⟨w1.heap.size, 0, none⟩) [-1] := reads_one (by rw [World.cell?_alloc_at _ _ _ _ rfl]; rfl)
  refine (tNew_bad (l := []) hrd (by omega) (by simp)).mono ?_
  rintro e w2 ⟨rfl, hb2⟩
  have hb12 : Below w.heap.size w w2 := (hb1.alloc (by omega) _).trans (hb2.mono (by simp; omega))
  have hT2 := hT0.chg hb2
  clear hT hT0 hrd hb1 hb2
  have hs2 := hb12.size
  go_wp2_with fail
  refine (tadd_at hT2 hs2 t8_1).mono ?_
  rintro e w3 ⟨rfl, hT3, hb3⟩
  have hb13 := hb12.trans hb3
  have hs3 := hb13.size
  clear hT2 hb3 hb12
  go_wp2_with fail
  refine (tadd_at hT3 hs3 t8_2).mono ?_
  rintro e w4 ⟨rfl, hT4, hb4⟩
  have hb14 := hb13.trans hb4
  have hs4 := hb14.size
  clear hT3 hb4 hb13
  go_wp2_with fail
  refine (tadd_at hT4 hs4 t8_3).mono ?_
  rintro e w5 ⟨rfl, hT5, hb5⟩
  have hb15 := hb14.trans hb5
  have hs5 := hb15.size
  clear hT4 hb5 hb14
  go_wp2_with fail
  refine (tadd_at hT5 hs5 t8_4).mono ?_
  rintro e w6 ⟨rfl, hT6, hb6⟩
  have hb16 := hb15.trans hb6
  clear hT5 hb6 hb15 hs1 hs2 hs3 hs4 hs5
  go_wp2_with fail
  refine (tof_at hT6 t8_5).mono ?_
  rintro e w' ⟨rfl, rfl⟩
  go_wp2_with fail
  refine (tof_at hT6 t8_6).mono ?_
  rintro e w' ⟨rfl, rfl⟩
  go_wp2_with fail
  refine (tbelow_at hT6 t8_7).mono ?_
  rintro e w' ⟨rfl, rfl⟩
  go_wp2_with fail
  refine (tbelow_at hT6 t8_8).mono ?_
  rintro e w' ⟨rfl, rfl⟩
  go_wp2_with fail
  refine (tbelow_at hT6 t8_9).mono ?_
  rintro e w' ⟨rfl, rfl⟩
  go_wp2_with fail
  refine (twhich_at hT6 (by omega) (by omega) t8_w1).mono ?_
  rintro e w' ⟨rfl, rfl⟩
  go_wp2_with fail
  refine (twhich_at hT6 (by omega) (by omega) t8_w2).mono ?_
  rintro e w' ⟨rfl, rfl⟩
  go_wp2_with fail
  refine (tlen_at hT6 t8_all).mono ?_
  rintro e w' ⟨rfl, rfl⟩
  go_wp2_with fail
  refine (tAdd_nil _ _ _).mono ?_
  rintro e w' ⟨rfl, rfl⟩
  go_wp2_with fail
  refine (tWhich_nil _ _).mono ?_
  rintro e w' ⟨rfl, rfl⟩
  go_wp2_with fail
  go_ret
  exact ⟨rfl, hb16⟩

end Go.Proofs.Yteapkoomingdfaa
