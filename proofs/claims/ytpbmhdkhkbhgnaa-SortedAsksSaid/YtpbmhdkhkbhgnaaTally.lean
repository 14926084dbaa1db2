/- Contracts of package tally. -/
import Derived.Test.YtpbmhdkhkbhgnaaChg
import Derived.Test.YtpbmhdkhkbhgnaaSym
import Derived.Test.YtpbmhdkhkbhgnaaTallyP
import Derived.Deep.MidRow
namespace Go.Proofs.Ytpbmhdkhkbhgnaa
set_option linter.unusedVariables false
set_option linter.unusedSimpArgs false
open Go.RowKit

/-- A tally's counts, as cells. -/
def ofV (N : Nat → Int) : List Value := (List.range 257).map fun s => Value.int .i64 (N s)
/-- A tally's cells. -/
def tlV (t : Tl) : Array Value := (ofV t.N ++ [Value.int .i64 t.all]).toArray

theorem ofV_len (N : Nat → Int) : (ofV N).length = 257 := by simp [ofV]
theorem ofV_get (N : Nat → Int) {s : Nat} (h : s < 257) : (ofV N)[s]? = some (.int .i64 (N s)) := by simp [ofV, h]
theorem tlV_get (t : Tl) {s : Nat} (h : s < 257) : (tlV t)[s]? = some (.int .i64 (t.N s)) := by
  unfold tlV
  rw [List.getElem?_toArray, List.getElem?_append_left (by rw [ofV_len]; exact h), ofV_get _ h]
theorem tlV_all (t : Tl) : (tlV t)[257]? = some (.int .i64 t.all) := by
  unfold tlV
  rw [List.getElem?_toArray, List.getElem?_append_right (by rw [ofV_len]; omega), ofV_len]; rfl
theorem ofV_set (N : Nat → Int) {s : Nat} (h : s < 257) (v : Int) : (ofV N).set s (.int .i64 v) = ofV (upd N s v) := by
  apply List.ext_getElem?
  intro j
  rw [List.getElem?_set, ofV_len]
  by_cases e : s = j
  · subst e; rw [if_pos rfl, if_pos h, ofV_get _ h]; simp [upd]
  · rw [if_neg e]
    by_cases hj : j < 257
    · have e2 : ¬ j = s := fun h => e h.symm
      rw [ofV_get _ hj, ofV_get _ hj]; simp [upd, e2]
    · rw [List.getElem?_eq_none (by rw [ofV_len]; omega), List.getElem?_eq_none (by rw [ofV_len]; omega)]
theorem tlV_add (t : Tl) {s : Nat} (h : s < 257) (n : Int) : ((tlV t).setIfInBounds s (.int .i64 (t.N s + n))).setIfInBounds 257 (.int .i64 (t.all + n)) = tlV (t.add s n) := by
  unfold tlV
  rw [List.setIfInBounds_toArray, List.setIfInBounds_toArray, List.set_append, if_pos (by rw [ofV_len]; exact h), ofV_set _ h, List.set_append, if_neg (by rw [ofV_len]; omega), ofV_len, Nat.sub_self, List.set_cons_zero]
  unfold Tl.add
  rfl

theorem tzero (w : World) : (zeroValue 97).run Try.prog w = .ok (.agg (tlV Tl.zero)) w := by kernel_rfl

/-- Block p holds a tally. -/
structure IsTally (w : World) (p : Nat) (t : Tl) : Prop where
  ok : t.Ok
  at_ : w.heap[p]? = some (.cells (tlV t) 97 (0, 0))

theorem IsTally.chg {w w' : World} {p : Nat} {S : Nat → Prop} {t : Tl} (h : IsTally w p t) (hc : Chg S w w') (hS : ¬ S p) : IsTally w' p t := ⟨h.ok, hc.heap h.at_ hS⟩
theorem IsTally.lt {w : World} {p : Nat} {t : Tl} (h : IsTally w p t) : p < w.heap.size := (Array.getElem?_eq_some_iff.1 h.at_).1

/-- How many there are of a symbol. -/
def tOf (t : Tl) (s : Int) : Int := if 0 ≤ s ∧ s < 257 then t.N s.toNat else 0

theorem tOf_any {w : World} {p : Nat} {t : Tl} (h : IsTally w p t) (s : Int) : Calls Try.prog 60 #[.pointer (some ⟨p, 0, none⟩), .int .i64 s] w fun e w' => e = .returned (.int .i64 (tOf t s)) ∧ w = w' := by
  by_cases hs : 0 ≤ s ∧ s < 257
  · have HR : Hid (t.N s.toNat = tOf t s) := (if_pos hs).symm
    have e : symIs s = true := symIs_true hs.1 hs.2
    obtain ⟨hs0, hs1⟩ := hs
    have hc : w.cell? ⟨p, s.toNat, none⟩ = some (.int .i64 (t.N s.toNat)) := by rw [cell_of_row w p s.toNat _ _ _ h.at_, tlV_get t (by omega)]
    go_enter Try.func60, Try.ntmps60
    go_wp2_with (go_at_call 90; refine (symIs_any _ _).mono ?_; rintro e w' ⟨rfl, rfl⟩)
    go_ret
    exact ⟨ret_int HR.out, rfl⟩
  · have HR : Hid (0 = tOf t s) := (if_neg hs).symm
    have e : symIs s = false := symIs_false hs
    go_enter Try.func60, Try.ntmps60
    go_wp2_with (go_at_call 90; refine (symIs_any _ _).mono ?_; rintro e w' ⟨rfl, rfl⟩)
    go_ret
    exact ⟨ret_int HR.out, rfl⟩

end Go.Proofs.Ytpbmhdkhkbhgnaa
