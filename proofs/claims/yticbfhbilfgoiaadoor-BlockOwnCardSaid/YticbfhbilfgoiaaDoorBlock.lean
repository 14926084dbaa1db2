/- Contracts of package block that read: Len, has, Get, Ones, Rank, Select. -/
import Derived.Test.YticbfhbilfgoiaaDoorBitsL
import Derived.Test.YticbfhbilfgoiaaDoorBlockP
import Derived.Test.YticbfhbilfgoiaaDoorRowsV
import Derived.Test.YticbfhbilfgoiaaDoorReg
import Derived.LoopN
namespace Go.Proofs.YticbfhbilfgoiaaDoor
set_option linter.unusedVariables false
set_option linter.unusedSimpArgs false
open Go.RowKit

/-- Block p holds a block of bits. -/
def IsBlock (w : World) (p : Nat) (l : List Bool) : Prop :=
  l.length ≤ 128 ∧ w.heap[p]? = some (.cells #[.int .i64 l.length, .int .u64 (loW l), .int .u64 (hiW l)] 70 (0, 0))

section
variable {w w' : World} {p : Nat} {l : List Bool}
theorem IsBlock.lt (h : IsBlock w p l) : p < w.heap.size := (Array.getElem?_eq_some_iff.1 h.2).1
theorem IsBlock.chg {S : Nat → Prop} (h : IsBlock w p l) (hc : Chg S w w') (hn : ¬ S p) : IsBlock w' p l := ⟨h.1, hc.heap h.2 hn⟩
theorem IsBlock.below {B : Nat} (h : IsBlock w p l) (hb : Below B w w') (hp : p < B) : IsBlock w' p l := ⟨h.1, (hb.block p hp).trans h.2⟩
theorem IsBlock.below' (h : IsBlock w p l) (hb : Below w.heap.size w w') : IsBlock w' p l := h.below hb h.lt
theorem IsBlock.drewN (h : IsBlock w p l) (n : Nat) : IsBlock (w.drewN n) p l := h
theorem IsBlock.cells (h : IsBlock w p l) : w.cell? ⟨p, 0, none⟩ = some (.int .i64 l.length) ∧ w.cell? ⟨p, 1, none⟩ = some (.int .u64 (loW l)) ∧ w.cell? ⟨p, 2, none⟩ = some (.int .u64 (hiW l)) ∧ ∀ j, w.frozen? ⟨p, j, none⟩ = false :=
  ⟨by rw [cell_of_row w p 0 _ _ _ h.2]; rfl, by rw [cell_of_row w p 1 _ _ _ h.2]; rfl, by rw [cell_of_row w p 2 _ _ _ h.2]; rfl, fun j => frozen_of_row w p j _ _ h.2⟩
end

theorem blkLen_nil (w : World) : Calls Tryd.prog 38 #[.pointer none] w fun e w' => e = .returned (.int .i64 0) ∧ w = w' := by
  go_enter Tryd.func38, Tryd.ntmps38
  go_wp2_with fail
  go_ret
  exact ⟨rfl, rfl⟩
theorem blkLen {w : World} {p : Nat} {l : List Bool} (h : IsBlock w p l) : Calls Tryd.prog 38 #[.pointer (some ⟨p, 0, none⟩)] w fun e w' => e = .returned (.int .i64 l.length) ∧ w = w' := by
  obtain ⟨h0, _⟩ := h.cells
  go_enter Tryd.func38, Tryd.ntmps38
  go_wp2_with fail
  go_ret
  exact ⟨rfl, rfl⟩

/-- Is there such a bit? -/
def hasL (l : List Bool) (k : Int) : Int := if 0 ≤ k ∧ k < l.length then 0 else 2
theorem blkHas {w : World} {p : Nat} {l : List Bool} (h : IsBlock w p l) (k : Int) : Calls Tryd.prog 52 #[.pointer (some ⟨p, 0, none⟩), .int .i64 k] w fun e w' => e = .returned (.int .i64 (hasL l k)) ∧ w = w' := by
  obtain ⟨h0, _⟩ := h.cells
  by_cases h1 : k < 0
  · have hR := Lib.hid (show (2 : Int) = hasL l k by unfold hasL; rw [if_neg (by omega)])
    go_enter Tryd.func52, Tryd.ntmps52
    go_wp2_with fail
    go_ret
    exact ⟨ret_int hR.out, rfl⟩
  · by_cases h2 : k < l.length
    · have hR := Lib.hid (show (0 : Int) = hasL l k by unfold hasL; rw [if_pos (by omega)])
      have d : decide ((l.length : Int) ≤ k) = false := by simp; omega
      go_enter Tryd.func52, Tryd.ntmps52
      go_wp2_with fail
      go_ret
      exact ⟨ret_int hR.out, rfl⟩
    · have hR := Lib.hid (show (2 : Int) = hasL l k by unfold hasL; rw [if_neg (by omega)])
      have d : decide ((l.length : Int) ≤ k) = true := by simp; omega
      go_enter Tryd.func52, Tryd.ntmps52
      go_wp2_with fail
      go_ret
      exact ⟨ret_int hR.out, rfl⟩

theorem ret_bi {k : IntKind} {b b' : Bool} {a a' : Int} (h : b = b') (h' : a = a') : Ending.returned (.tuple #[.bool b, .int k a]) = Ending.returned (.tuple #[.bool b', .int k a']) := by rw [h, h']
theorem blkGet_bad {w : World} {p : Nat} {l : List Bool} (h : IsBlock w p l) (k : Int) (hk : k < 0 ∨ (l.length : Int) ≤ k) :
    Calls Tryd.prog 45 #[.pointer (some ⟨p, 0, none⟩), .int .i64 k] w fun e w' => e = .returned (.tuple #[.bool false, .int .i64 2]) ∧ w = w' := by
  have hR : hasL l k = 2 := by unfold hasL; rw [if_neg (by omega)]
  have HR := Lib.hid hR
  clear hR
  go_enter Tryd.func45, Tryd.ntmps45
  go_wp2_with fail
  refine (blkHas h k).mono ?_
  rintro e w' ⟨rfl, rfl⟩
  rw [HR.out]
  go_wp2_with fail
  go_ret2
  exact ⟨rfl, rfl⟩
theorem blkGet {w : World} {p : Nat} {l : List Bool} (h : IsBlock w p l) (k : Nat) (hk : k < l.length) :
    Calls Tryd.prog 45 #[.pointer (some ⟨p, 0, none⟩), .int .i64 k] w fun e w' => e = .returned (.tuple #[.bool (bitAt l k), .int .i64 0]) ∧ w = w' := by
  obtain ⟨h0, h1, h2, _⟩ := h.cells
  have hR : hasL l k = 0 := by unfold hasL; rw [if_pos (by omega)]
  have hm := h.1
  have HR := Lib.hid hR
  have HB := Lib.hid h
  clear hR h
  by_cases hk64 : k < 64
  · have b1 := bitk_walk (loW_lt l) hk64
    rw [loW_bit hk64] at b1
    have B1 := Lib.hid b1
    have q1 : (k : Int) / 64 = 0 := by omega
    have q2 : (k : Int) % 64 = k := by omega
    clear b1 h2
    go_enter Tryd.func45, Tryd.ntmps45
    go_wp2_with fail
    refine (blkHas HB.out k).mono ?_
    rintro e w' ⟨rfl, rfl⟩
    rw [HR.out]
    go_wp2_with fail
    go_ret2
    exact ⟨ret_bi B1.out rfl, rfl⟩
  · obtain ⟨m, rfl⟩ := Nat.exists_eq_add_of_le (show 64 ≤ k by omega)
    have hm64 : m < 64 := by omega
    have b1 := bitk_walk (hiW_lt l) hm64
    rw [hiW_bit hm64] at b1
    have B1 := Lib.hid b1
    have q1 : ((64 + m : Nat) : Int) / 64 = 1 := by omega
    have q2 : ((64 + m : Nat) : Int) % 64 = m := by omega
    clear b1 h1
    generalize hg : 64 + m = k at *
    have HG := Lib.hid hg
    clear hg
    go_enter Tryd.func45, Tryd.ntmps45
    go_wp2_with fail
    refine (blkHas HB.out k).mono ?_
    rintro e w' ⟨rfl, rfl⟩
    rw [HR.out]
    go_wp2_with fail
    go_ret2
    exact ⟨ret_bi B1.out rfl, rfl⟩

theorem blkOnes_nil (w : World) : Calls Tryd.prog 43 #[.pointer none] w fun e w' => e = .returned (.int .i64 0) ∧ w = w' := by
  go_enter Tryd.func43, Tryd.ntmps43
  go_wp2_with fail
  go_ret
  exact ⟨rfl, rfl⟩
theorem blkOnes {w : World} {p : Nat} {l : List Bool} (h : IsBlock w p l) : Calls Tryd.prog 43 #[.pointer (some ⟨p, 0, none⟩)] w fun e w' => e = .returned (.int .i64 (l.count true)) ∧ w = w' := by
  obtain ⟨h0, h1, h2, _⟩ := h.cells
  have hc : pcs [loW l, hiW l] = l.count true := by simp [pcs]; exact pc_both h.1
  have HC := Lib.hid hc
  have hr : Reads w .u64 (some ⟨p, 1, none⟩) ([loW l, hiW l].map natI) := by
    intro i hi
    refine ⟨p, 1, rfl, h.lt, fun j hj => ?_⟩
    match j, hj with
    | 0, _ => exact h1
    | 1, _ => exact h2
  have HR := Lib.hid hr
  clear hr hc h0 h1 h2
  go_enter Tryd.func43, Tryd.ntmps43
  go_wp2_with fail
  refine (count_lit (Y := (l.count true : Int)) [loW l, hiW l] _ rfl HR.out (by intro x hx; simp only [List.mem_cons, List.not_mem_nil, or_false] at hx; rcases hx with rfl | rfl; exact loW_lt l; exact hiW_lt l) (by simp) (by rw [HC.out])).mono ?_
  rintro e w' ⟨rfl, rfl⟩
  go_wp2_with fail
  go_ret
  exact ⟨rfl, rfl⟩

end Go.Proofs.YticbfhbilfgoiaaDoor
