/- The document's arena in memory: NewArena, Live, Is. -/
import Derived.Test.YtilofffnolnokaaArenaF
import Derived.Test.YtilofffnolnokaaRowsV
import Derived.Test.YtilofffnolnokaaReg
namespace Go.Proofs.Ytilofffnolnokaa
set_option linter.unusedVariables false
set_option linter.unusedSimpArgs false
open Go.RowKit

/-- The row of those given back: an own row, or a row whose capacity is its length. -/
def GoneR (w : World) (ga : Option Addr) (n gc : Nat) (xs : List Value) : Prop :=
  w.ownsRow 0 3 1 (.slice ga n gc) n xs ∨ (gc = n ∧ xs.length = n ∧ ∃ g, ga = some ⟨g, 0, none⟩ ∧ g < w.heap.size ∧ ∀ j u, xs[j]? = some u → w.cell? ⟨g, j, none⟩ = some u)
section
variable {w w' : World} {ga : Option Addr} {n gc : Nat} {xs : List Value}
theorem GoneR.len (h : GoneR w ga n gc xs) : xs.length = n := by
  rcases h with h | ⟨_, h, _⟩
  · have := own_len h; simpa using this
  · exact h
theorem GoneR.ad (h : GoneR w ga n gc xs) {ad : Addr} (ha : ga = some ad) : ∃ g, ad = ⟨g, 0, none⟩ ∧ g < w.heap.size := by
  rcases h with h | ⟨_, _, g, e, hl, _⟩
  · obtain ⟨a, c, hv, _, hb⟩ := own_slice h
    injection hv with e1 _ _
    subst e1
    obtain ⟨g, e, _, hl, _⟩ := hb _ ha
    exact ⟨g, e, hl⟩
  · rw [e] at ha; cases ha; exact ⟨g, rfl, hl⟩
theorem GoneR.cells (h : GoneR w ga n gc xs) (hn : 0 < n) : ∃ g, ga = some ⟨g, 0, none⟩ ∧ g < w.heap.size ∧ n ≤ gc ∧ gc ≤ maxLen + n ∧ ∀ j u, xs[j]? = some u → w.cell? ⟨g, j, none⟩ = some u := by
  rcases h with h | ⟨e, _, g, hg, hl, hc⟩
  · obtain ⟨g, cap, hv, _, h1, h2, h3, hcell, _⟩ := own_some h hn
    injection hv with e1 _ e3
    subst e1 e3
    refine ⟨g, rfl, by assumption, by omega, by omega, fun j u hj => ?_⟩
    have hj' := (List.getElem?_eq_some_iff.1 hj).1
    have := own_len h
    rw [hcell j (by omega), hj]
  · exact ⟨g, hg, hl, by omega, by omega, hc⟩
theorem GoneR.chg {S : Nat → Prop} (h : GoneR w ga n gc xs) (hc : Chg S w w') (hn : ∀ g, ga = some ⟨g, 0, none⟩ → ¬ S g) : GoneR w' ga n gc xs := by
  rcases h with h | ⟨h1, h2, g, hg, hl, hcell⟩
  · left
    obtain ⟨a, c, hv, _, hb⟩ := own_slice h
    injection hv with e1 _ e3
    subst e1 e3
    refine hc.own h (fun k hk => ?_)
    cases ga with
    | none => simp [Value.ownBlock] at hk
    | some ad =>
      obtain ⟨g, rfl, _⟩ := hb _ rfl
      simp [Value.ownBlock] at hk
      subst hk
      exact hn _ rfl
  · right
    exact ⟨h1, h2, g, hg, by have := hc.size; omega, fun j u hj => hc.cell (hcell j u hj) (hn g hg)⟩
theorem GoneR.pop (h : GoneR w ga (n + 1) gc xs) : GoneR w ga n n (xs.take n) := by
  have hl := h.len
  obtain ⟨g, hg, hlt, _, _, hc⟩ := h.cells (by omega)
  right
  refine ⟨rfl, by rw [List.length_take]; omega, g, hg, hlt, fun j u hj => hc j u ?_⟩
  rw [List.getElem?_take] at hj
  split at hj
  · exact hj
  · cases hj
end

/-- Block p holds the document's arena. -/
structure RfP (w : World) (p : Nat) (ta : Option Addr) (tc : Nat) (ga : Option Addr) (gc : Nat) (a : Ar) : Prop where
  ok : a.Ok
  hd : w.heap[p]? = some (.cells #[.int .i64 a.M, .slice ta a.T.length tc, .slice ga a.F.length gc] 38 (0, 0))
  t : w.ownsRow 0 4 1 (.slice ta a.T.length tc) a.T.length (a.T.map Value.bool)
  g : GoneR w ga a.F.length gc (a.F.map natA)
  n1 : ∀ g, ta = some ⟨g, 0, none⟩ → g ≠ p ∧ ga ≠ some ⟨g, 0, none⟩
  n2 : ∀ g, ga = some ⟨g, 0, none⟩ → g ≠ p
/-- .. all whose blocks are R. -/
def RfS (w : World) (p : Nat) (R : Nat → Prop) (a : Ar) : Prop := ∃ ta tc ga gc, RfP w p ta tc ga gc a ∧ ∀ k, R k ↔ k = p ∨ ta = some ⟨k, 0, none⟩ ∨ ga = some ⟨k, 0, none⟩
def RfStep (w w' : World) (p : Nat) (R : Nat → Prop) (a' : Ar) : Prop := ∃ R', RfS w' p R' a' ∧ Chg R w w' ∧ ∀ k, R' k → R k ∨ w.heap.size ≤ k

section
variable {w w' : World} {p : Nat} {ta : Option Addr} {tc : Nat} {ga : Option Addr} {gc : Nat} {a : Ar} {R : Nat → Prop}
theorem RfP.tad (h : RfP w p ta tc ga gc a) {ad : Addr} (ha : ta = some ad) : ∃ g, ad = ⟨g, 0, none⟩ ∧ g < w.heap.size := by
  obtain ⟨x, c, hv, _, hb⟩ := own_slice h.t
  injection hv with e1 _ _
  subst e1
  obtain ⟨g, e, _, hl, _⟩ := hb _ ha
  exact ⟨g, e, hl⟩
theorem RfP.plt (h : RfP w p ta tc ga gc a) : p < w.heap.size := (Array.getElem?_eq_some_iff.1 h.hd).1
theorem RfP.c0 (h : RfP w p ta tc ga gc a) : w.cell? ⟨p, 0, none⟩ = some (.int .i64 a.M) := by rw [cell_of_row w p 0 _ _ _ h.hd]; rfl
theorem RfP.c1 (h : RfP w p ta tc ga gc a) : w.cell? ⟨p, 1, none⟩ = some (.slice ta a.T.length tc) := by rw [cell_of_row w p 1 _ _ _ h.hd]; rfl
theorem RfP.c2 (h : RfP w p ta tc ga gc a) : w.cell? ⟨p, 2, none⟩ = some (.slice ga a.F.length gc) := by rw [cell_of_row w p 2 _ _ _ h.hd]; rfl
theorem RfS.ok (h : RfS w p R a) : a.Ok := by obtain ⟨_, _, _, _, h, _⟩ := h; exact h.ok
theorem RfS.lt (h : RfS w p R a) {k : Nat} (hk : R k) : k < w.heap.size := by
  obtain ⟨ta, tc, ga, gc, h, hR⟩ := h
  rcases (hR k).1 hk with rfl | e | e
  · exact h.plt
  · obtain ⟨g, e2, hl⟩ := h.tad e; cases e2; exact hl
  · obtain ⟨g, e2, hl⟩ := h.g.ad e; cases e2; exact hl
theorem RfP.chg {S : Nat → Prop} (h : RfP w p ta tc ga gc a) (hc : Chg S w w') (hp : ¬ S p) (ht : ∀ g, ta = some ⟨g, 0, none⟩ → ¬ S g) (hg : ∀ g, ga = some ⟨g, 0, none⟩ → ¬ S g) : RfP w' p ta tc ga gc a := by
  refine ⟨h.ok, hc.heap h.hd hp, hc.own h.t (fun k hk => ?_), h.g.chg hc hg, h.n1, h.n2⟩
  cases hta : ta with
  | none => rw [hta] at hk; simp [Value.ownBlock] at hk
  | some ad =>
    obtain ⟨g, rfl, _⟩ := h.tad hta
    rw [hta] at hk
    simp [Value.ownBlock] at hk
    subst hk
    exact ht _ hta
theorem RfS.chg {S : Nat → Prop} (h : RfS w p R a) (hc : Chg S w w') (hd : ∀ k, R k → ¬ S k) : RfS w' p R a := by
  obtain ⟨ta, tc, ga, gc, h, hR⟩ := h
  exact ⟨ta, tc, ga, gc, h.chg hc (hd p ((hR p).2 (Or.inl rfl))) (fun g e => hd g ((hR g).2 (Or.inr (Or.inl e)))) (fun g e => hd g ((hR g).2 (Or.inr (Or.inr e)))), hR⟩
theorem RfS.drewN (h : RfS w p R a) (n : Nat) : RfS (w.drewN n) p R a := h.chg (S := fun _ => False) (Chg.refl.drewN n) (fun _ _ hf => hf)
end

theorem rfNew_bad (m : Int) (w : World) (h : m < 0 ∨ 268435456 < m) :
    Calls Try.prog 5 #[.int .i64 m] w fun e w' => e = .returned (.pointer none) ∧ w = w' := by
  rcases h with h | h
  · have hd : decide (m < 0) = true := by simp; omega
    go_enter Try.func5, Try.ntmps5
    go_wp2
    go_ret
    exact ⟨rfl, rfl⟩
  · have hd : decide (m < 0) = false := by simp; omega
    go_enter Try.func5, Try.ntmps5
    go_wp2
    go_ret
    exact ⟨rfl, rfl⟩
theorem rfNew_good (m : Nat) (w : World) (h : m ≤ 268435456) :
    Calls Try.prog 5 #[.int .i64 m] w fun e w' => e = .returned (.pointer (some ⟨w.heap.size, 0, none⟩)) ∧ RfS w' w.heap.size (fun k => k = w.heap.size) (Ar.new m) ∧ Chg (fun _ => False) w w' := by
  have hd : decide ((m : Int) < 0) = false := by simp
  have hd2 : decide ((268435456 : Int) < (m : Int)) = false := by simp; omega
  go_enter Try.func5, Try.ntmps5
  go_wp2
  go_ret
  refine ⟨rfl, ⟨none, 0, none, 0, ⟨Ar.new_ok h, heap_alloc_new w _, World.ownsRow_nil _ _ _ _, Or.inl (World.ownsRow_nil _ _ _ _), (fun g hg => by cases hg), (fun g hg => by cases hg)⟩, fun k => by simp⟩, Chg.refl.alloc _⟩

theorem rfLive_any {w : World} {p : Nat} {R : Nat → Prop} {a : Ar} (h : RfS w p R a) :
    Calls Try.prog 12 #[.pointer (some ⟨p, 0, none⟩)] w fun e w' => e = .returned (.int .i64 a.live) ∧ ∃ n, w' = w.drewN n := by
  obtain ⟨ta, tc, ga, gc, h, hR⟩ := h
  have h0 := h.c0
  have h1 := h.c1
  have h2 := h.c2
  have hle := h.ok.fle
  have hl : (a.T.length : Int) - (a.F.length : Int) = (a.live : Int) := by unfold Ar.live; omega
  have hmx := h.ok.max
  have hm2 := h.ok.le
  have HL := Lib.hid hl
  clear hl h hR
  go_enter Try.func12, Try.ntmps12
  go_wp2_with fail
  go_quiet (fail)
  go_wp2
  go_ret
  exact ⟨ret_int HL.out, _, rfl⟩

theorem rfIs_any {w : World} {p : Nat} {R : Nat → Prop} {a : Ar} (k : Int) (h : RfS w p R a) :
    Calls Try.prog 15 #[.pointer (some ⟨p, 0, none⟩), .int .i64 k] w fun e w' => e = .returned (.bool (arIs a.T k)) ∧ w = w' := by
  obtain ⟨ta, tc, ga, gc, h, hR⟩ := h
  have h1 := h.c1
  have hmx := h.ok.max
  have hm2 := h.ok.le
  have ht := h.t
  clear h hR
  by_cases hk0 : 0 ≤ k
  · have d0 : decide (0 ≤ k) = true := by simpa using hk0
    by_cases hk1 : k < a.T.length
    · have d1 : decide (k < (a.T.length : Int)) = true := by simpa using hk1
      obtain ⟨g, cap, hv, _, _, _, _, hcell, _⟩ := own_some ht (by omega)
      injection hv with e1 e2 e3
      subst e1; subst e3
      have hc := hcell k.toNat (by omega)
      rw [List.getElem?_map, List.getElem?_eq_getElem (by omega)] at hc
      simp only [Option.map_some] at hc
      have HR : Hid (a.T[k.toNat] = arIs a.T k) := by
        show _ = (decide (0 ≤ k) && _)
        rw [d0, List.getElem?_eq_getElem (by omega)]; simp
      generalize a.T[k.toNat] = b at *
      clear hcell ht
      go_enter Try.func15, Try.ntmps15
      go_wp2
      go_ret
      exact ⟨ret_bool HR.out, rfl⟩
    · have d1 : decide (k < (a.T.length : Int)) = false := by simpa using hk1
      have HR : Hid (false = arIs a.T k) := by
        show _ = (decide (0 ≤ k) && _)
        rw [List.getElem?_eq_none (by omega)]; simp
      clear ht
      go_enter Try.func15, Try.ntmps15
      go_wp2
      go_ret
      exact ⟨ret_bool HR.out, rfl⟩
  · have d0 : decide (0 ≤ k) = false := by simpa using hk0
    have HR : Hid (false = arIs a.T k) := by
      show _ = (decide (0 ≤ k) && _)
      rw [d0]; rfl
    clear ht
    go_enter Try.func15, Try.ntmps15
    go_wp2
    go_ret
    exact ⟨ret_bool HR.out, rfl⟩

end Go.Proofs.Ytilofffnolnokaa
