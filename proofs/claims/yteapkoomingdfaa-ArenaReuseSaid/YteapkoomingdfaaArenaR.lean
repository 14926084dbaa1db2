/- An arena beside a row of the call's own; plain steps of arenas for the laws. -/
import Derived.Test.YteapkoomingdfaaArenaL
namespace Go.Proofs.Yteapkoomingdfaa
set_option linter.unusedVariables false
set_option linter.unusedSimpArgs false
open Go.RowKit

/-- An arena and an own row of ints, apart from one another, all from block B on. -/
def ArRow (B : Nat) (w : World) (p : Nat) (a : Ar) (v : Value) (n : Nat) (xs : List Value) : Prop :=
  ∃ S, IsArena w p S a ∧ (∀ k, S k → B ≤ k) ∧ w.ownsRow B 3 1 v n xs ∧ ∀ g, v.ownBlock = some g → ¬ S g

theorem ArRow.at {B : Nat} {w : World} {p : Nat} {a : Ar} {v : Value} {n : Nat} {xs : List Value} (h : ArRow B w p a v n xs) : ArAt B w p a := by
  obtain ⟨S, h, hs, _⟩ := h; exact ⟨S, h, hs⟩
theorem ArRow.own {B : Nat} {w : World} {p : Nat} {a : Ar} {v : Value} {n : Nat} {xs : List Value} (h : ArRow B w p a v n xs) : w.ownsRow B 3 1 v n xs := by
  obtain ⟨S, _, _, h, _⟩ := h; exact h
theorem ArRow.of_at {B : Nat} {w : World} {p : Nat} {a : Ar} (h : ArAt B w p a) : ArRow B w p a (.slice none 0 0) 0 [] := by
  obtain ⟨S, h, hs⟩ := h
  exact ⟨S, h, hs, World.ownsRow_nil _ _ _ _, fun g hg => by simp [Value.ownBlock] at hg⟩
theorem ArRow.chg {B : Nat} {w w' : World} {p : Nat} {a : Ar} {v : Value} {n : Nat} {xs : List Value} (h : ArRow B w p a v n xs) (hb : Below w.heap.size w w') : ArRow B w' p a v n xs := by
  obtain ⟨S, h, hs, ho, hd⟩ := h
  exact ⟨S, h.chg (S' := fun _ => False) (Chg.of_below hb) (fun _ _ hf => hf), hs, (Chg.of_below (S := fun _ => False) hb).own ho (fun _ _ hf => hf), hd⟩

theorem take_row {B : Nat} {w : World} {p : Nat} {a a' : Ar} {v : Value} {n : Nat} {xs : List Value} {k x : Int} (h : ArRow B w p a v n xs) (hB : B ≤ w.heap.size) (hr : a.take = (k, x, a')) :
    Calls Try.prog 30 #[.pointer (some ⟨p, 0, none⟩)] w fun e w' => e = .returned (.tuple #[.int .i64 k, .int .i64 x]) ∧ ArRow B w' p a' v n xs ∧ Below B w w' := by
  obtain ⟨S, h, hs, ho, hd⟩ := h
  refine (arTake_any h).mono ?_
  rintro e w' ⟨rfl, hst⟩
  rw [hr] at hst ⊢
  obtain ⟨S', h1, h2, h3⟩ := hst
  refine ⟨rfl, ⟨S', h1, fun k hk => (h3 k hk).elim (hs k) (fun h => by omega), h2.own ho hd, fun g hg hS => ?_⟩, h2.below hs hB⟩
  rcases h3 g hS with h4 | h4
  · exact hd g hg h4
  · have := (own_lt ho hg).2; omega

theorem free_row {B : Nat} {w : World} {p : Nat} {a a' : Ar} {v : Value} {m : Nat} {xs : List Value} {x : Int} {t : TypeId} (l : List Int) (cs : Array Value) (n : Nat) (h : ArRow B w p a v m xs) (hB : B ≤ w.heap.size)
    (hcs : cs = (l.map (Value.int .i64)).toArray) (hn : n = l.length) (hlen : l.length ≤ 1000000000) (hr : a.free l = (x, a')) :
    Calls Try.prog 31 #[.pointer (some ⟨p, 0, none⟩), .slice (some ⟨w.heap.size, 0, none⟩) n n] (w.alloc (.cells cs t)) fun e w' =>
      e = .returned (.int .i64 x) ∧ ArRow B w' p a' v m xs ∧ Below B w w' := by
  subst hcs
  subst hn
  obtain ⟨S, h, hs, ho, hd⟩ := h
  have h' : IsArena (w.alloc (.cells (l.map (Value.int .i64)).toArray t)) p S a := h.chg (S' := fun _ => False) (Chg.refl.alloc _) (fun _ _ hf => hf)
  have hrd : Reads (w.alloc (.cells (l.map (Value.int .i64)).toArray t)) .i64 (some ⟨w.heap.size, 0, none⟩) l := fun i hi => ⟨_, _, rfl, by simp, fun j hj => by
    rw [Nat.zero_add, World.cell?_alloc_at _ _ _ _ rfl]
    simp [List.getElem?_eq_getElem hj]⟩
  refine (arFree_any h' l _ l.length hrd (fun e => by cases e) (fun ad e hS => ?_) hlen (Nat.le_refl _)).mono ?_
  · cases e
    have := h.lt _ hS
    exact Nat.lt_irrefl _ this
  · rintro e w' ⟨rfl, hst⟩
    rw [hr] at hst ⊢
    obtain ⟨S', h1, h2, h3⟩ := hst
    refine ⟨rfl, ⟨S', h1, fun k hk => (h3 k hk).elim (hs k) (fun h => by simp at h; omega), h2.own (ho.alloc _) hd, fun g hg hS => ?_⟩, ((Below.refl _ _).alloc hB _).trans (h2.below hs (by simp; omega))⟩
    rcases h3 g hS with h4 | h4
    · exact hd g hg h4
    · have := (own_lt ho hg).2; simp at h4; omega

/-- Free of the own row itself. -/
theorem free_own {B : Nat} {w : World} {p : Nat} {a a' : Ar} {x : Int} {l : List Int} {la : Option Addr} {n c : Nat} (h : ArRow B w p a (.slice la n c) n (l.map (Value.int .i64))) (hB : B ≤ w.heap.size) (hlen : l.length ≤ 1000000000) (hr : a.free l = (x, a')) :
    Calls Try.prog 31 #[.pointer (some ⟨p, 0, none⟩), .slice la n c] w fun e w' =>
      e = .returned (.int .i64 x) ∧ ArRow B w' p a' (.slice la n c) n (l.map (Value.int .i64)) ∧ Below B w w' := by
  obtain ⟨S, h, hs, ho, hd⟩ := h
  have hl : n = l.length := by have := own_len ho; simpa using this.symm
  subst hl
  have hrd := own_reads ho
  obtain ⟨la', c', hv, hn1, hn2⟩ := own_slice ho
  injection hv with e1 e2 e3
  subst e1; subst e3
  have hcap : l.length ≤ c := by
    rcases ho.2 with ⟨hx, h0⟩ | ⟨g, cap, cur, hv, _, _, hc, _⟩
    · omega
    · injection hv with _ _ e3; omega
  refine (arFree_any h l la c hrd (fun e => by have := hn1 e; exact this) (fun ad e hS => ?_) hlen hcap).mono ?_
  · obtain ⟨g, rfl, _, _, hg⟩ := hn2 ad e
    exact hd g hg hS
  · rintro e w' ⟨rfl, hst⟩
    rw [hr] at hst ⊢
    obtain ⟨S', h1, h2, h3⟩ := hst
    refine ⟨rfl, ⟨S', h1, fun k hk => (h3 k hk).elim (hs k) (fun h => by omega), h2.own ho hd, fun g hg hS => ?_⟩, h2.below hs hB⟩
    rcases h3 g hS with h4 | h4
    · exact hd g hg h4
    · have := (own_lt ho hg).2; omega

/-- The row grows. -/
theorem ArRow.push {B : Nat} {w w' : World} {p : Nat} {a : Ar} {v : Value} {n g cap : Nat} {xs : List Value} {u : Value} (h : ArRow B w p a v n xs) (hg : w.grownBy w' v.ownBlock)
    (hown : w'.ownsRow B 3 1 (.slice (some ⟨g, 0, none⟩) (n + 1) cap) (n + 1) (xs ++ [u])) (hor : v.ownBlock = some g ∨ w.heap.size ≤ g) :
    ArRow B w' p a (.slice (some ⟨g, 0, none⟩) (n + 1) cap) (n + 1) (xs ++ [u]) := by
  obtain ⟨S, h, hs, ho, hd⟩ := h
  refine ⟨S, h.chg (S' := fun k => v.ownBlock = some k) (Chg.refl.grown hg (fun k hk => Or.inl hk)) (fun k hk hv => hd k hv hk), hs, hown, fun g' hg' hS => ?_⟩
  simp [Value.ownBlock] at hg'
  subst hg'
  rcases hor with e | e
  · exact hd _ e hS
  · have := h.lt _ hS; omega
theorem ArRow.push_below {B : Nat} {w w' : World} {p : Nat} {a : Ar} {v : Value} {n : Nat} {xs : List Value} (h : ArRow B w p a v n xs) (hB : B ≤ w.heap.size) (hg : w.grownBy w' v.ownBlock) : Below B w w' := by
  obtain ⟨S, h, hs, ho, hd⟩ := h
  exact (Below.refl _ _).grown hg hB (fun k hk => (own_lt ho hk).1)

/-! ### Plain steps -/

theorem take_true {k m : Nat} (h : k < m) : (Ar.mk (List.replicate k true) [] m).take = ((k : Int), 0, ⟨List.replicate (k + 1) true, [], m⟩) := by
  have hl : ¬ Ar.live ⟨List.replicate k true, [], m⟩ = m := by simp [Ar.live]; omega
  unfold Ar.take
  rw [if_neg hl]
  simp [Ar.more, List.replicate_succ']
theorem take_full (m : Nat) : (Ar.mk (List.replicate m true) [] m).take = (-1, 3, ⟨List.replicate m true, [], m⟩) := by
  unfold Ar.take
  rw [if_pos (by simp [Ar.live])]

theorem free_one {a : Ar} (h : a.Ok) {i : Nat} (hi : i < a.T.length) (hn : i ∉ a.F) : a.free [(i : Int)] = (0, ⟨a.T.set i false, a.F ++ [i], a.M⟩) := by
  have hv : a.T[i]? = some true := by
    have h1 : ¬ a.T[i]? = some false := fun e => hn ((h.iff i).1 e)
    rw [List.getElem?_eq_getElem hi] at h1 ⊢
    cases hb : a.T[i]
    · rw [hb] at h1; exact absurd rfl h1
    · rfl
  have hIs : arIs a.T (i : Int) = true := arIs_iff.2 ⟨by omega, by simpa using hv⟩
  unfold Ar.free
  simp only [clr, hIs, if_true, Int.toNat_natCast]
  rfl
theorem free_none {a : Ar} {k : Int} (h : arIs a.T k = false) : a.free [k] = (7, a) := by
  unfold Ar.free
  simp [clr, h]

theorem take_last {a : Ar} (h : a.Ok) {k : Nat} (hk : a.F.getLast? = some k) : a.take = ((k : Int), 0, a.pop k) := by
  have hne : 0 < a.F.length := by cases hF : a.F with | nil => rw [hF] at hk; cases hk | cons x l => simp
  have hl : ¬ a.live = a.M := by have := h.le; have := h.fle; simp only [Ar.live]; omega
  unfold Ar.take
  rw [if_neg hl, hk]

end Go.Proofs.Yteapkoomingdfaa
