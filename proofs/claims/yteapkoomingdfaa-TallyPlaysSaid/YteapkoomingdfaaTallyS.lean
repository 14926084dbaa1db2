/- Steps of a tally, for the laws. -/
import Derived.Test.YteapkoomingdfaaTallyL
namespace Go.Proofs.Yteapkoomingdfaa
set_option linter.unusedVariables false
set_option linter.unusedSimpArgs false
open Go.RowKit

theorem u64_of2 (a : Int) : ∃ u : Int, 0 ≤ u ∧ IntKind.u64.wrap a = u := ⟨IntKind.u64.wrap a, by rw [IntKind.wrap_u64]; omega, rfl⟩

theorem step_ok {t : Tl} {s : Nat} {n : Int} (hs : s < 257) (h1 : -t.N s ≤ n) (h2 : n ≤ 2147483648 - t.all) : t.step (s : Int) n = (0, t.add s n) := by
  unfold Tl.step
  rw [if_pos (by omega), Int.toNat_natCast, if_neg (by omega)]
theorem step_range {t : Tl} {s : Nat} {n : Int} (hs : s < 257) (h1 : n < -t.N s ∨ 2147483648 - t.all < n) : t.step (s : Int) n = (2, t) := by
  unfold Tl.step
  rw [if_pos (by omega), Int.toNat_natCast, if_pos h1]

theorem twhich_in {B : Nat} {w : World} {p : Nat} {t : Tl} {k : Int} (h : TAt B w p t) (h0 : 0 ≤ k) (h1 : k < t.all) :
    Calls Try.prog 45 #[.pointer (some ⟨p, 0, none⟩), .int .i64 k] w fun e w' => ∃ s : Nat, e = .returned (.int .i64 s) ∧ w = w' ∧ s < 257 ∧ bl t.N s ≤ k ∧ k < bl t.N (s + 1) := by
  have hm := h.1.ok.max
  refine (tWhich_any h.1 k (by omega) (by omega)).mono ?_
  rintro e w' ⟨⟨r, rfl, hr⟩, rfl⟩
  obtain ⟨s, hs, rfl, h2, h3⟩ := hr.2 ⟨h0, h1⟩
  exact ⟨s, rfl, rfl, hs, h2, h3⟩
theorem twhich_out {B : Nat} {w : World} {p : Nat} {t : Tl} {k : Int} (h : TAt B w p t) (h0 : 0 ≤ k) (h1 : t.all ≤ k) (h2 : k ≤ 9223372036854775807) :
    Calls Try.prog 45 #[.pointer (some ⟨p, 0, none⟩), .int .i64 k] w fun e w' => e = .returned (.int .i64 (-1)) ∧ w = w' := by
  refine (tWhich_any h.1 k (by omega) h2).mono ?_
  rintro e w' ⟨⟨r, rfl, hr⟩, rfl⟩
  exact ⟨by rw [hr.1 (Or.inr h1)], rfl⟩

theorem tBelow_nat (t : Tl) {s : Nat} (h : s ≤ 257) : tBelow t (s : Int) = bl t.N s := by
  unfold tBelow clamp
  congr 1
  omega
theorem tBelow_next (t : Tl) {s : Nat} (h : s < 257) : tBelow t ((s : Int) + 1) = bl t.N (s + 1) := tBelow_nat t (s := s + 1) (by omega)
theorem tOf_nat (t : Tl) {s : Nat} (h : s < 257) : tOf t (s : Int) = t.N s := by
  unfold tOf
  rw [if_pos (by omega), Int.toNat_natCast]

theorem tnew_none (w : World) : Calls Try.prog 41 #[.slice none 0 0] w fun e w' => ∃ p, e = .returned (.tuple #[.pointer (some ⟨p, 0, none⟩), .int .i64 0]) ∧ TAt w.heap.size w' p (Tl.of []) ∧ Below w.heap.size w w' :=
  tnew_at [] Reads.nil rfl (by simp) (by simp)

end Go.Proofs.Yteapkoomingdfaa
