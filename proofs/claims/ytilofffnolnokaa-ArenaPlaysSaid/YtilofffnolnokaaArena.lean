/- Contracts of package arena: New, Take, Free, Is, Live, Made. -/
import Derived.Test.YtilofffnolnokaaPush
import Derived.Test.YtilofffnolnokaaArenaP
import Derived.Deep.QuietTactic
import Derived.BigQuiet
namespace Go.Proofs.Ytilofffnolnokaa
set_option linter.unusedVariables false
set_option linter.unusedSimpArgs false
open Go.RowKit

def natA (k : Nat) : Value := .int .i64 k

/-- Block p holds an arena; its own blocks are S. -/
structure IsArena (w : World) (p : Nat) (S : Nat → Prop) (a : Ar) : Prop where
  ok : a.Ok
  ex : ∃ tv fv, w.heap[p]? = some (.cells #[tv, fv, .int .i64 a.M] 42 (0, 0)) ∧ w.ownsRow 0 4 1 tv a.T.length (a.T.map Value.bool) ∧
    w.ownsRow 0 3 1 fv a.F.length (a.F.map natA) ∧ tv.ownBlock ≠ some p ∧ fv.ownBlock ≠ some p ∧ (∀ g, tv.ownBlock = some g → fv.ownBlock ≠ some g) ∧
    (∀ k, S k ↔ k = p ∨ tv.ownBlock = some k ∨ fv.ownBlock = some k)

theorem IsArena.lt {w : World} {p : Nat} {S : Nat → Prop} {a : Ar} (h : IsArena w p S a) : ∀ k, S k → k < w.heap.size := by
  obtain ⟨tv, fv, hp, ht, hf, _, _, _, hS⟩ := h.ex
  intro k hk
  rcases (hS k).1 hk with rfl | h | h
  · exact (Array.getElem?_eq_some_iff.1 hp).1
  · exact (own_lt ht h).2
  · exact (own_lt hf h).2

theorem IsArena.self {w : World} {p : Nat} {S : Nat → Prop} {a : Ar} (h : IsArena w p S a) : S p := by
  obtain ⟨tv, fv, hp, ht, hf, _, _, _, hS⟩ := h.ex
  exact (hS p).2 (Or.inl rfl)

theorem IsArena.chg {w w' : World} {p : Nat} {S S' : Nat → Prop} {a : Ar} (h : IsArena w p S a) (hc : Chg S' w w') (hd : ∀ k, S k → ¬ S' k) : IsArena w' p S a := by
  obtain ⟨hok, tv, fv, hp, ht, hf, n1, n2, n3, hS⟩ := h
  exact ⟨hok, tv, fv, hc.heap hp (hd p ((hS p).2 (Or.inl rfl))), hc.own ht (fun k hk => hd k ((hS k).2 (Or.inr (Or.inl hk)))), hc.own hf (fun k hk => hd k ((hS k).2 (Or.inr (Or.inr hk)))), n1, n2, n3, hS⟩

/-- What a walk sees of an arena. -/
theorem IsArena.see {w : World} {p : Nat} {S : Nat → Prop} {a : Ar} (h : IsArena w p S a) :
    ∃ ta tc fa fc, w.cell? ⟨p, 0, none⟩ = some (.slice ta a.T.length tc) ∧ w.cell? ⟨p, 1, none⟩ = some (.slice fa a.F.length fc) ∧ w.cell? ⟨p, 2, none⟩ = some (.int .i64 a.M) ∧
      (∀ j, w.frozen? ⟨p, j, none⟩ = false) ∧ w.heap[p]? = some (.cells #[.slice ta a.T.length tc, .slice fa a.F.length fc, .int .i64 a.M] 42 (0, 0)) ∧
      w.ownsRow 0 4 1 (.slice ta a.T.length tc) a.T.length (a.T.map Value.bool) ∧ w.ownsRow 0 3 1 (.slice fa a.F.length fc) a.F.length (a.F.map natA) ∧
      (∀ g, ta = some ⟨g, 0, none⟩ → g ≠ p ∧ g < w.heap.size ∧ fa ≠ some ⟨g, 0, none⟩) ∧ (∀ g, fa = some ⟨g, 0, none⟩ → g ≠ p ∧ g < w.heap.size) ∧
      (∀ ad, ta = some ad → ∃ g, ad = ⟨g, 0, none⟩) ∧ (∀ ad, fa = some ad → ∃ g, ad = ⟨g, 0, none⟩) ∧
      (∀ k, S k ↔ k = p ∨ ta = some ⟨k, 0, none⟩ ∨ fa = some ⟨k, 0, none⟩) ∧ p < w.heap.size := by
  obtain ⟨hok, tv, fv, hp, ht, hf, n1, n2, n3, hS⟩ := h
  obtain ⟨ta, tc, rfl, hta, htb⟩ := own_slice ht
  obtain ⟨fa, fc, rfl, hfa, hfb⟩ := own_slice hf
  have ob : ∀ (x : Option Addr) (n c : Nat) (k : Nat), (∀ ad, x = some ad → ∃ g, ad = ⟨g, 0, none⟩ ∧ 0 ≤ g ∧ g < w.heap.size ∧ (Value.slice x n c).ownBlock = some g) → ((Value.slice x n c).ownBlock = some k ↔ x = some ⟨k, 0, none⟩) := by
    intro x n c k h
    cases x with
    | none => simp [Value.ownBlock]
    | some ad =>
      obtain ⟨g, rfl, _⟩ := h ad rfl
      simp [Value.ownBlock]
  refine ⟨ta, tc, fa, fc, by rw [cell_of_row w p 0 _ _ _ hp]; rfl, by rw [cell_of_row w p 1 _ _ _ hp]; rfl, by rw [cell_of_row w p 2 _ _ _ hp]; rfl, fun j => frozen_of_row w p j _ _ hp, hp, ht, hf, ?_, ?_, ?_, ?_, ?_, (Array.getElem?_eq_some_iff.1 hp).1⟩
  · intro g hg
    obtain ⟨g', e, _, hlt, ho⟩ := htb _ hg
    cases e
    exact ⟨fun e => n1 (e ▸ ho), hlt, fun e => n3 g ho ((ob fa _ fc g hfb).2 e)⟩
  · intro g hg
    obtain ⟨g', e, _, hlt, ho⟩ := hfb _ hg
    cases e
    exact ⟨fun e => n2 (e ▸ ho), hlt⟩
  · intro ad h; obtain ⟨g, e, _⟩ := htb ad h; exact ⟨g, e⟩
  · intro ad h; obtain ⟨g, e, _⟩ := hfb ad h; exact ⟨g, e⟩
  · intro k
    rw [hS k, ob ta _ tc k htb, ob fa _ fc k hfb]

theorem arNew_bad (m : Int) (w : World) (h : m < 0 ∨ 268435456 < m) :
    Calls Try.prog 4 #[.int .i64 m] w fun e w' => e = .returned (.pointer none) ∧ w = w' := by
  rcases h with h | h
  · go_enter Try.func4, Try.ntmps4
    go_wp2
    go_ret
    exact ⟨rfl, rfl⟩
  · have hd : decide (m < 0) = false := by simp; omega
    go_enter Try.func4, Try.ntmps4
    go_wp2
    go_ret
    exact ⟨rfl, rfl⟩

theorem arNew_good (m : Nat) (w : World) (h : m ≤ 268435456) :
    Calls Try.prog 4 #[.int .i64 m] w fun e w' => e = .returned (.pointer (some ⟨w.heap.size, 0, none⟩)) ∧ IsArena w' w.heap.size (fun k => k = w.heap.size) (Ar.new m) ∧ Chg (fun _ => False) w w' := by
  have hd : decide ((m : Int) < 0) = false := by simp
  have hd2 : decide ((268435456 : Int) < (m : Int)) = false := by simp; omega
  go_enter Try.func4, Try.ntmps4
  go_wp2
  go_ret
  refine ⟨rfl, ⟨Ar.new_ok h, .slice none 0 0, .slice none 0 0, heap_alloc_new w _, World.ownsRow_nil _ _ _ _, World.ownsRow_nil _ _ _ _, by simp [Value.ownBlock], by simp [Value.ownBlock], fun g hg => by simp [Value.ownBlock] at hg, fun k => by simp [Value.ownBlock]⟩, Chg.refl.alloc _⟩

theorem arLive_any {w : World} {p : Nat} {S : Nat → Prop} {a : Ar} (h : IsArena w p S a) :
    Calls Try.prog 11 #[.pointer (some ⟨p, 0, none⟩)] w fun e w' => e = .returned (.int .i64 a.live) ∧ ∃ n, w' = w.drewN n := by
  obtain ⟨ta, tc, fa, fc, h0, h1, h2, hfz, hp, ht, hf, n1, n2, n3, n4, hS, hpl⟩ := h.see
  have hle := h.ok.fle
  have hl : (a.T.length : Int) - (a.F.length : Int) = (a.live : Int) := by unfold Ar.live; omega
  have hmx := h.ok.max
  have hm2 := h.ok.le
  clear hp ht hf n1 n2 n3 n4 hS hfz
  have HL := Lib.hid hl; clear hl
  go_enter Try.func11, Try.ntmps11
  go_wp2_with fail
  go_quiet (fail)
  go_wp2
  go_ret
  exact ⟨ret_int HL.out, _, rfl⟩

theorem arMade_any {w : World} {p : Nat} {S : Nat → Prop} {a : Ar} (h : IsArena w p S a) :
    Calls Try.prog 13 #[.pointer (some ⟨p, 0, none⟩)] w fun e w' => e = .returned (.int .i64 a.T.length) ∧ w = w' := by
  obtain ⟨ta, tc, fa, fc, h0, h1, h2, hfz, hp, ht, hf, n1, n2, n3, n4, hS, hpl⟩ := h.see
  clear hp ht hf n1 n2 n3 n4 hS hfz
  go_enter Try.func13, Try.ntmps13
  go_wp2
  go_ret
  exact ⟨rfl, rfl⟩

theorem arIs_any {w : World} {p : Nat} {S : Nat → Prop} {a : Ar} (k : Int) (h : IsArena w p S a) :
    Calls Try.prog 14 #[.pointer (some ⟨p, 0, none⟩), .int .i64 k] w fun e w' => e = .returned (.bool (arIs a.T k)) ∧ w = w' := by
  obtain ⟨ta, tc, fa, fc, h0, h1, h2, hfz, hp, ht, hf, n1, n2, n3, n4, hS, hpl⟩ := h.see
  have hmx := h.ok.max
  have hm2 := h.ok.le
  clear hp hf n1 n2 n4 hS hfz
  by_cases hk0 : 0 ≤ k
  · have d0 : decide (0 ≤ k) = true := by simpa using hk0
    by_cases hk1 : k < a.T.length
    · have d1 : decide (k < (a.T.length : Int)) = true := by simpa using hk1
      obtain ⟨g, cap, hv, _, _, _, _, hcell, _⟩ := own_some ht (by omega)
      injection hv with e1 e2 e3
      subst e1; subst e3
      have hc := hcell k.toNat (by omega)
      rw [List.getElem?_map, List.getElem?_eq_getElem (by omega)] at hc
      simp only [Option.map_some] at hc
      have HR : Hid (a.T[k.toNat] = arIs a.T k) := by
        show _ = (decide (0 ≤ k) && _)
        rw [d0, List.getElem?_eq_getElem (by omega)]; simp
      generalize a.T[k.toNat] = b at *
      clear hcell ht
      go_enter Try.func14, Try.ntmps14
      go_wp2
      go_ret
      exact ⟨ret_bool HR.out, rfl⟩
    · have d1 : decide (k < (a.T.length : Int)) = false := by simpa using hk1
      have HR : Hid (false = arIs a.T k) := by
        show _ = (decide (0 ≤ k) && _)
        rw [List.getElem?_eq_none (by omega)]; simp
      clear ht
      go_enter Try.func14, Try.ntmps14
      go_wp2
      go_ret
      exact ⟨ret_bool HR.out, rfl⟩
  · have d0 : decide (0 ≤ k) = false := by simpa using hk0
    have HR : Hid (false = arIs a.T k) := by
      show _ = (decide (0 ≤ k) && _)
      rw [d0]; rfl
    clear ht
    go_enter Try.func14, Try.ntmps14
    go_wp2
    go_ret
    exact ⟨ret_bool HR.out, rfl⟩

end Go.Proofs.Ytilofffnolnokaa
