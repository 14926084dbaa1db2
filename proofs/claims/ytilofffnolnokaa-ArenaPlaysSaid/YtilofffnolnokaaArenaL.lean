/- Arenas all of whose blocks are the call's own: contracts for the laws; scrimshawlaw3.told. -/
import Derived.Test.YtilofffnolnokaaArenaF
namespace Go.Proofs.Ytilofffnolnokaa
set_option linter.unusedVariables false
set_option linter.unusedSimpArgs false
open Go.RowKit

/-- Block p holds an arena all of whose blocks lie from B on. -/
def ArAt (B : Nat) (w : World) (p : Nat) (a : Ar) : Prop := ∃ S, IsArena w p S a ∧ ∀ k, S k → B ≤ k

theorem ArAt.ok {B : Nat} {w : World} {p : Nat} {a : Ar} (h : ArAt B w p a) : a.Ok := by obtain ⟨S, h, _⟩ := h; exact h.ok
theorem ArAt.chg {B : Nat} {w w' : World} {p : Nat} {a : Ar} (h : ArAt B w p a) (hb : Below w.heap.size w w') : ArAt B w' p a := by
  obtain ⟨S, h, hs⟩ := h
  exact ⟨S, h.chg (S' := fun _ => False) (Chg.of_below hb) (fun _ _ hf => hf), hs⟩
theorem ArStep.at {B : Nat} {w w' : World} {p : Nat} {S : Nat → Prop} {a' : Ar} (h : ArStep w w' p S a') (hs : ∀ k, S k → B ≤ k) (hB : B ≤ w.heap.size) : ArAt B w' p a' ∧ Below B w w' := by
  obtain ⟨S', h1, h2, h3⟩ := h
  exact ⟨⟨S', h1, fun k hk => (h3 k hk).elim (hs k) (fun h => by omega)⟩, h2.below hs hB⟩

theorem arTake_any {w : World} {p : Nat} {S : Nat → Prop} {a : Ar} (h : IsArena w p S a) :
    Calls Try.prog 7 #[.pointer (some ⟨p, 0, none⟩)] w fun e w' => e = .returned (.tuple #[.int .i64 a.take.1, .int .i64 a.take.2.1]) ∧ ArStep w w' p S a.take.2.2 := by
  by_cases hl : a.live = a.M
  · have e1 : a.take = (-1, 3, a) := if_pos hl
    rw [e1]
    refine (arTake_full h hl).mono ?_
    rintro e w' ⟨rfl, n, rfl⟩
    exact ⟨rfl, S, h.chg (S' := fun _ => False) (Chg.refl.drewN n) (fun _ _ hf => hf), Chg.refl.drewN n, fun k hk => Or.inl hk⟩
  · cases hk : a.F.getLast? with
    | some k =>
      have e1 : a.take = ((k : Int), 0, a.pop k) := by unfold Ar.take; rw [if_neg hl, hk]
      rw [e1]
      exact arTake_pop h hl hk
    | none =>
      have e1 : a.take = ((a.T.length : Int), 0, a.more) := by unfold Ar.take; rw [if_neg hl, hk]
      rw [e1]
      exact arTake_more h hl (List.getLast?_eq_none_iff.1 hk)

theorem new_at (m : Nat) (w : World) (h : m ≤ 268435456) :
    Calls Try.prog 4 #[.int .i64 m] w fun e w' => ∃ p, e = .returned (.pointer (some ⟨p, 0, none⟩)) ∧ ArAt w.heap.size w' p (Ar.new m) ∧ Below w.heap.size w w' ∧ p < w'.heap.size := by
  refine (arNew_good m w h).mono ?_
  rintro e w' ⟨rfl, hA, hc⟩
  exact ⟨_, rfl, ⟨_, hA, fun k hk => by rw [hk]; exact Nat.le_refl _⟩, hc.below (fun b hb => hb.elim) (Nat.le_refl _), hA.lt _ hA.self⟩

theorem take_at {B : Nat} {w : World} {p : Nat} {a a' : Ar} {k x : Int} (h : ArAt B w p a) (hB : B ≤ w.heap.size) (hr : a.take = (k, x, a')) :
    Calls Try.prog 7 #[.pointer (some ⟨p, 0, none⟩)] w fun e w' => e = .returned (.tuple #[.int .i64 k, .int .i64 x]) ∧ ArAt B w' p a' ∧ Below B w w' := by
  obtain ⟨S, h, hs⟩ := h
  refine (arTake_any h).mono ?_
  rintro e w' ⟨rfl, hst⟩
  rw [hr] at hst ⊢
  exact ⟨rfl, hst.at hs hB⟩

theorem live_at {B : Nat} {w : World} {p : Nat} {a : Ar} (h : ArAt B w p a) :
    Calls Try.prog 11 #[.pointer (some ⟨p, 0, none⟩)] w fun e w' => e = .returned (.int .i64 a.live) ∧ ∃ n, w' = w.drewN n := by
  obtain ⟨S, h, hs⟩ := h
  exact arLive_any h
theorem made_at {B : Nat} {w : World} {p : Nat} {a : Ar} (h : ArAt B w p a) :
    Calls Try.prog 13 #[.pointer (some ⟨p, 0, none⟩)] w fun e w' => e = .returned (.int .i64 a.T.length) ∧ w = w' := by
  obtain ⟨S, h, hs⟩ := h
  exact arMade_any h
theorem is_at {B : Nat} {w : World} {p : Nat} {a : Ar} (k : Int) (h : ArAt B w p a) :
    Calls Try.prog 14 #[.pointer (some ⟨p, 0, none⟩), .int .i64 k] w fun e w' => e = .returned (.bool (arIs a.T k)) ∧ w = w' := by
  obtain ⟨S, h, hs⟩ := h
  exact arIs_any k h

/-- Free of numbers that were just written out. -/
theorem free_new {B : Nat} {w : World} {p : Nat} {a a' : Ar} {x : Int} {t : TypeId} {l : List Int} {n : Nat} (h : ArAt B w p a) (hB : B ≤ w.heap.size) (hn : n = l.length) (hlen : l.length ≤ 1000000000) (hr : a.free l = (x, a')) :
    Calls Try.prog 9 #[.pointer (some ⟨p, 0, none⟩), .slice (some ⟨w.heap.size, 0, none⟩) n n] (w.alloc (.cells (l.map (Value.int .i64)).toArray t)) fun e w' =>
      e = .returned (.int .i64 x) ∧ ArAt B w' p a' ∧ Below B w w' := by
  subst hn
  obtain ⟨S, h, hs⟩ := h
  have h' : IsArena (w.alloc (.cells (l.map (Value.int .i64)).toArray t)) p S a := h.chg (S' := fun _ => False) (Chg.refl.alloc _) (fun _ _ hf => hf)
  have hrd : Reads (w.alloc (.cells (l.map (Value.int .i64)).toArray t)) .i64 (some ⟨w.heap.size, 0, none⟩) l := fun i hi => ⟨_, _, rfl, by simp, fun j hj => by
    rw [Nat.zero_add, World.cell?_alloc_at _ _ _ _ rfl]
    simp [List.getElem?_eq_getElem hj]⟩
  refine (arFree_any h' l _ l.length hrd (fun e => by cases e) (fun ad e hS => ?_) hlen (Nat.le_refl _)).mono ?_
  · cases e
    have := h.lt _ hS
    exact Nat.lt_irrefl _ this
  · rintro e w' ⟨rfl, hst⟩
    rw [hr] at hst ⊢
    obtain ⟨h1, h2⟩ := hst.at hs (by simp; omega)
    exact ⟨rfl, h1, ((Below.refl _ _).alloc hB _).trans h2⟩

theorem free_lit {B : Nat} {w : World} {p : Nat} {a a' : Ar} {x : Int} {t : TypeId} (l : List Int) (cs : Array Value) (n : Nat) (h : ArAt B w p a) (hB : B ≤ w.heap.size) (hcs : cs = (l.map (Value.int .i64)).toArray) (hn : n = l.length) (hlen : l.length ≤ 1000000000) (hr : a.free l = (x, a')) :
    Calls Try.prog 9 #[.pointer (some ⟨p, 0, none⟩), .slice (some ⟨w.heap.size, 0, none⟩) n n] (w.alloc (.cells cs t)) fun e w' =>
      e = .returned (.int .i64 x) ∧ ArAt B w' p a' ∧ Below B w w' := by
  subst hcs
  exact free_new h hB hn hlen hr

theorem arTake_nil (w : World) : Calls Try.prog 7 #[.pointer none] w fun e w' => e = .returned (.tuple #[.int .i64 (-1), .int .i64 6]) ∧ w = w' := by
  go_enter Try.func7, Try.ntmps7
  go_wp2
  go_ret2
  exact ⟨rfl, rfl⟩
theorem arLive_nil (w : World) : Calls Try.prog 11 #[.pointer none] w fun e w' => e = .returned (.int .i64 0) ∧ w = w' := by
  go_enter Try.func11, Try.ntmps11
  go_wp2
  go_ret
  exact ⟨rfl, rfl⟩

set_option maxHeartbeats 3200000 in
set_option maxRecDepth 100000 in
theorem told3_any (w : World) : Calls Try.prog 6 #[] w fun e w' => e = .returned (.bool true) ∧ Below w.heap.size w w' := by
  go_enter Try.func6, Try.ntmps6
  go_wp2_with fail
  refine (new_at 2 w (by omega)).mono ?_
  rintro e w1 ⟨p, rfl, hA, hb1, hpl⟩
  go_wp2_with fail
  refine (take_at (k := 0) (x := 0) (a' := ⟨[true], [], 2⟩) hA hb1.size rfl).mono ?_
  rintro e w2 ⟨rfl, hA2, hb2⟩
  have hs2 := (hb1.trans hb2).size
  go_wp2_with fail
  refine (take_at (k := 1) (x := 0) (a' := ⟨[true, true], [], 2⟩) hA2 hs2 rfl).mono ?_
  rintro e w3 ⟨rfl, hA3, hb3⟩
  have hs3 := ((hb1.trans hb2).trans hb3).size
  go_wp2_with fail
  refine (take_at (k := -1) (x := 3) (a' := ⟨[true, true], [], 2⟩) hA3 hs3 rfl).mono ?_
  rintro e w4 ⟨rfl, hA4, hb4⟩
  have hs4 := (((hb1.trans hb2).trans hb3).trans hb4).size
  go_wp2_with fail
  refine (free_lit [0, 0] _ _ (x := 7) (a' := ⟨[true, true], [], 2⟩) hA4 hs4 rfl rfl (by simp) rfl).mono ?_
  rintro e w5 ⟨rfl, hA5, hb5⟩
  have hs5 := ((((hb1.trans hb2).trans hb3).trans hb4).trans hb5).size
  go_wp2_with fail
  refine (free_lit [0, 1] _ _ (x := 0) (a' := ⟨[false, false], [0, 1], 2⟩) hA5 hs5 rfl rfl (by simp) rfl).mono ?_
  rintro e w6 ⟨rfl, hA6, hb6⟩
  have hb := ((((hb1.trans hb2).trans hb3).trans hb4).trans hb5).trans hb6
  clear hb1 hb2 hb3 hb4 hb5 hb6
  have hs6 := hb.size
  go_wp2_with fail
  refine (take_at (k := 1) (x := 0) (a' := ⟨[false, true], [0], 2⟩) hA6 hs6 rfl).mono ?_
  rintro e w7 ⟨rfl, hA7, hb7⟩
  have hbb := hb.trans hb7
  clear hA hA2 hA3 hA4 hA5 hA6 hb hb7
  go_wp2_with fail
  refine (arTake_nil _).mono ?_
  rintro e w' ⟨rfl, rfl⟩
  go_wp2_with fail
  refine (live_at hA7).mono ?_
  rintro e w' ⟨rfl, n, rfl⟩
  have hA8 := hA7.chg (w' := w7.drewN n) (below_drewN (Below.refl _ _) n)
  have hbn := below_drewN hbb n
  have l1 : Ar.live ⟨[false, true], [0], 2⟩ = 1 := rfl
  have i1 : arIs [false, true] 1 = true := rfl
  have i2 : arIs [false, true] 0 = false := rfl
  have i3 : arIs [false, true] (-1) = false := rfl
  go_wp2_with fail
  refine (made_at hA8).mono ?_
  rintro e w' ⟨rfl, rfl⟩
  go_wp2_with (first
    | (go_at_call 14; refine (is_at _ hA8).mono ?_; rintro e w' ⟨rfl, rfl⟩)
    | (go_at_call 4; refine (arNew_bad _ _ (Or.inl (by omega))).mono ?_; rintro e w' ⟨rfl, rfl⟩)
    | (go_at_call 11; refine (arLive_nil _).mono ?_; rintro e w' ⟨rfl, rfl⟩)
    | (go_at_call 9; refine (arFree_nil _ _ _ _).mono ?_; rintro e w' ⟨rfl, rfl⟩))
  go_ret
  exact ⟨rfl, hbn⟩

end Go.Proofs.Ytilofffnolnokaa
