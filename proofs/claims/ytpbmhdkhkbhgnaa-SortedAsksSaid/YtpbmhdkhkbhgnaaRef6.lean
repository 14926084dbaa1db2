/- Contracts of the document's answer for symbols: Is, Bit, Path, Syms, Same. -/
import Derived.Test.YtpbmhdkhkbhgnaaAllN
import Derived.Laws.BytesArg
import Derived.Deep.QuietTactic
import Derived.BigQuiet
namespace Go.Proofs.Ytpbmhdkhkbhgnaa
open Go.RowKit

theorem take_snoc (s : ByteArray) (k : Nat) (h : k < s.size) : s.data.toList.take (k + 1) = s.data.toList.take k ++ [s[k]] := by
  rw [List.take_succ_eq_append_getElem (by simpa using h)]; rfl

/-- A string's byte as a symbol's value. -/
def symB (b : UInt8) : Value := .int .i64 ((b.toNat : Int) + 1)

/-- Are two lists of numbers one? -/
def sameI (xs ys : List Int) : Bool := decide (xs = ys)

theorem take_eq_step {xs ys : List Int} {k : Nat} (hx : k < xs.length) (hy : k < ys.length) (h : xs.take k = ys.take k) (he : xs[k]?.getD 0 = ys[k]?.getD 0) : xs.take (k + 1) = ys.take (k + 1) := by
  rw [List.take_add_one, List.take_add_one, h, List.getElem?_eq_getElem hx, List.getElem?_eq_getElem hy]
  rw [List.getElem?_eq_getElem hx, List.getElem?_eq_getElem hy] at he
  simp only [Option.getD_some] at he
  rw [he]

set_option maxHeartbeats 1600000 in
set_option maxRecDepth 100000 in
theorem refSame_any (a b : Option Addr) (c d : Nat) (xs ys : List Int) (w : World) (hx : Reads w .i64 a xs) (hy : Reads w .i64 b ys) (hm : xs.length ≤ 9223372036854775806) :
    Calls Try.prog 22 #[.slice a xs.length c, .slice b ys.length d] w fun e w' => e = .returned (.bool (sameI xs ys)) ∧ ∃ n, w' = w.drewN n := by
  by_cases hl : xs.length = ys.length
  · have hlb : ((xs.length : Int) != (ys.length : Int)) = false := by simp [hl]
    have HL := Lib.hid hl
    rw [← hl] at hlb ⊢
    clear hl
    go_enter Try.func22, Try.ntmps22
    go_wp2
    go_loopw [5] (fun i wr => ∃ k : Nat, k ≤ xs.length ∧ i = .int .i64 k ∧ xs.take k = ys.take k ∧ ∃ n, wr = w.drewN n) (fun i _ => xs.length - (intOf i).toNat)
    case atStart => exact ⟨0, Nat.zero_le _, rfl, rfl, 0, rfl⟩
    case round =>
      obtain ⟨k, hk, rfl, ht, nd, rfl⟩ := hrel
      have HT := Lib.hid ht; clear ht
      by_cases hlt : k < xs.length
      · obtain ⟨b0, o0, rfl, _, hc0⟩ := hx.some (by omega)
        obtain ⟨b1, o1, rfl, _, hc1⟩ := hy.some (by have := HL.out; omega)
        have h0 := hc0 k hlt
        have h1 := hc1 k (by have := HL.out; omega)
        clear hc0 hc1 hx hy
        have HD : Hid ((xs[k]?.getD 0 = ys[k]?.getD 0 → xs.take (k + 1) = ys.take (k + 1)) ∧ (xs[k]?.getD 0 ≠ ys[k]?.getD 0 → sameI xs ys = false)) :=
          ⟨fun he => take_eq_step hlt (by have := HL.out; omega) HT.out he, fun hne => decide_eq_false fun he => hne (by rw [he])⟩
        generalize xs[k]?.getD 0 = x at *
        generalize ys[k]?.getD 0 = y at *
        have hi0 : (0 : Int) ≤ (k : Int) := by omega
        have hi1 : (k : Int) < (xs.length : Int) := by omega
        by_cases hxy : x = y
        · subst hxy
          go_wp2_with fail
          go_quiet (fail)
          go_wp2
          go_roundw
          case rel => exact ⟨k + 1, by omega, by simp, HD.out.1 (by trivial), _, rfl⟩
          case measure => simp [intOf]; omega
        · have hne : (x != y) = true := by simp [hxy]
          have HS : Hid (sameI xs ys = false) := HD.out.2 hxy
          clear hxy
          go_wp2_with fail
          go_quiet (fail)
          go_wp2
          go_ret
          exact ⟨ret_bool HS.out.symm, _, World.drewN_drewN _ _ _⟩
      · obtain rfl : k = xs.length := by omega
        have HS : Hid (sameI xs ys = true) := decide_eq_true (by
          have := HT.out
          rwa [List.take_length, HL.out, List.take_length] at this)
        go_wp2
        go_ret
        exact ⟨ret_bool HS.out.symm, _, rfl⟩
  · have hlb : ((xs.length : Int) != (ys.length : Int)) = true := by rw [bne_iff_ne]; omega
    have hsm : sameI xs ys = false := decide_eq_false fun h => hl (by rw [h])
    rw [hsm]
    clear hsm hl
    go_enter Try.func22, Try.ntmps22
    go_wp2
    go_ret
    exact ⟨rfl, 0, rfl⟩

theorem refSame_len (a b : Option Addr) (n m c d : Nat) (xs ys : List Int) (w : World) (hx : Reads w .i64 a xs) (hy : Reads w .i64 b ys) (hn : n = xs.length) (hm : m = ys.length) (hmx : xs.length ≤ 9223372036854775806) :
    Calls Try.prog 22 #[.slice a n c, .slice b m d] w fun e w' => e = .returned (.bool (sameI xs ys)) ∧ ∃ k, w' = w.drewN k := by
  subst hn; subst hm
  exact refSame_any a b c d xs ys w hx hy hmx

/-- The symbols of bytes, and the end. -/
def symsOf (xs : List Int) : List Int := xs.map (· + 1) ++ [0]
theorem symsOf_len (xs : List Int) : (symsOf xs).length = xs.length + 1 := by simp [symsOf]
theorem symsOf_vals (xs : List Int) : (symsOf xs).map (Value.int .i64) = xs.map symV ++ [.int .i64 0] := by
  simp only [symsOf, List.map_append, List.map_map, List.map_cons, List.map_nil]; rfl

/-- An own row of symbols, as a slice that is read. -/
theorem own_syms {w : World} {base : Nat} {v : Value} {xs : List Int} (h : w.ownsRow base 3 1 v (xs.length + 1) (xs.map symV ++ [.int .i64 0])) :
    ∃ g cap, v = .slice (some ⟨g, 0, none⟩) (xs.length + 1) cap ∧ base ≤ g ∧ g < w.heap.size ∧ Reads w .i64 (some ⟨g, 0, none⟩) (symsOf xs) := by
  obtain ⟨g, cap, rfl, hg1, hg2, hc1, hc2, hcell, hfr⟩ := own_some h (by omega)
  exact ⟨g, cap, rfl, hg1, hg2, own_reads (by rw [symsOf_vals]; exact h)⟩

theorem refIs_any (s : Int) (w : World) : Calls Try.prog 91 #[.int .i64 s] w fun e w' => e = .returned (.bool (symIs s)) ∧ w = w' := by
  by_cases h0 : 0 ≤ s
  · have d0 : decide (0 ≤ s) = true := decide_eq_true h0
    by_cases h1 : s < 257
    · rw [symIs_true h0 h1]
      have d1 : decide (s < 257) = true := decide_eq_true h1
      go_enter Try.func91, Try.ntmps91
      go_wp2
      go_ret
      exact ⟨rfl, rfl⟩
    · rw [symIs_false (by omega)]
      have d1 : decide (s < 257) = false := decide_eq_false h1
      go_enter Try.func91, Try.ntmps91
      go_wp2
      go_ret
      exact ⟨rfl, rfl⟩
  · have d0 : decide (0 ≤ s) = false := decide_eq_false h0
    rw [symIs_false (by omega)]
    go_enter Try.func91, Try.ntmps91
    go_wp2
    go_ret
    exact ⟨rfl, rfl⟩

end Go.Proofs.Ytpbmhdkhkbhgnaa
