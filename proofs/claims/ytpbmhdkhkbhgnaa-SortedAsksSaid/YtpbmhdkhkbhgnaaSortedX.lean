/- More helpers for the laws of layer 9: rows as numbers, late rows, literals of the call's own. -/
import Derived.Test.YtpbmhdkhkbhgnaaSortedW
import Derived.Test.YtpbmhdkhkbhgnaaArgs
namespace Go.Proofs.Ytpbmhdkhkbhgnaa
set_option linter.unusedVariables false
set_option linter.unusedSimpArgs false
open Go.RowKit

def natL (r : List Nat) : List Int := r.map fun x : Nat => (x : Int)
theorem natL_len (r : List Nat) : (natL r).length = r.length := by simp [natL]
theorem natV_natL (r : List Nat) : r.map natV = (natL r).map (Value.int .i64) := by simp [natL, natV, Function.comp]
/-- A literal of the call's own. -/
theorem own_lit {e : TypeId} {base n : Nat} (xs : List Value) (W : World) (hn : n = xs.length) (hb : base ≤ W.heap.size) (hm : n ≤ maxLen) : (W.alloc (.cells xs.toArray e)).ownsRow base e 1 (.slice (some ⟨W.heap.size, 0, none⟩) n n) n xs :=
  ⟨by omega, .inr ⟨W.heap.size, n, xs.toArray, rfl, hb, heap_alloc_new W _, Nat.le_refl _, hm, by simp [hn], by simp [hn]⟩⟩
/-- The rows from u on, so much earlier. -/
def lateL (r : List Nat) (u k : Nat) : List Nat := ((r.take k).filter fun i => decide (u ≤ i)).map (· - u)
theorem lateL_zero (r : List Nat) (u : Nat) : lateL r u 0 = [] := rfl
theorem lateL_succ {r : List Nat} {u k : Nat} (h : k < r.length) : lateL r u (k + 1) = lateL r u k ++ (if u ≤ r[k] then [r[k] - u] else []) := by
  unfold lateL
  rw [List.take_add_one, List.getElem?_eq_getElem h, Option.toList_some, List.filter_append, List.map_append]
  congr 1
  by_cases e : u ≤ r[k]
  · simp [e]
  · simp [e]
theorem lateL_len (r : List Nat) (u k : Nat) : (lateL r u k).length ≤ k := by
  unfold lateL
  rw [List.length_map]
  have := List.length_filter_le (fun i => decide (u ≤ i)) (r.take k)
  rw [List.length_take] at this
  omega
theorem lateL_all {r : List Nat} {u n : Nat} (h : r.length = n) : lateL r u n = (r.filter fun i => decide (u ≤ i)).map (· - u) := by
  unfold lateL; rw [List.take_of_length_le (by omega)]
theorem bytes_appendG {s t : List Int} (h : Bytes s) (k : Bytes t) : Bytes (s ++ t) := by
  intro i hi
  rw [List.getElem?_append]
  split
  · exact h i (by assumption)
  · rw [List.length_append] at hi
    exact k _ (by omega)
theorem symsT_append (s t : List Int) : symsT (s ++ t) = s.map (· + 1) ++ symsT t := by simp [symsT]

/-- The row of a slice that the call owns, as one that is read. -/
theorem own_readsN {w : World} {base n c : Nat} {a : Option Addr} {r : List Nat} (h : w.ownsRow base 3 1 (.slice a n c) n (r.map natV)) : Reads w .i64 a (natL r) := by
  rw [natV_natL] at h; exact own_reads h

end Go.Proofs.Ytpbmhdkhkbhgnaa
