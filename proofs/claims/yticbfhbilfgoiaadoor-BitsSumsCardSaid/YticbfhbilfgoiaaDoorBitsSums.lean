/- The walk of BitsSums. -/
import Derived.Test.YticbfhbilfgoiaaDoorBitsL
namespace Go.Proofs.YticbfhbilfgoiaaDoor
set_option linter.unusedVariables false
set_option linter.unusedSimpArgs false
open Go.RowKit

theorem extra_any (x : Nat) (n : Nat) (w : World) (hx : x < 2 ^ 64) (hn : n < 65) :
    Calls Tryd.prog 26 #[.int .u64 x, .int .i64 n] w fun e w' => e = .returned (.int .i64 (if n = 64 then pc x 64 else 0 : Nat)) ∧ Below w.heap.size w w' := by
  by_cases h : n = 64
  · rw [if_pos h]
    subst h
    go_enter Tryd.func26, Tryd.ntmps26
    go_wp2_with fail
    refine (count_one x _ _ _ _ (by simp [go_sem]) hx).mono ?_
    rintro e w' ⟨rfl, rfl⟩
    go_wp2_with fail
    go_ret
    exact ⟨rfl, below_alloc _ _⟩
  · rw [if_neg h]
    have hd : ((n : Int) == 64) = false := by simp; omega
    go_enter Tryd.func26, Tryd.ntmps26
    go_wp2_with fail
    go_ret
    exact ⟨rfl, Below.refl _ _⟩

set_option maxHeartbeats 1600000 in
set_option maxRecDepth 100000 in
theorem walk_BitsSums (w : World) (hT : BitTab w) (a0 : Int) (w0 : (Lit.int .u64 a0).wf = true) (a1 : Int) (w1 : (Lit.int .i64 a1).wf = true) :
    Calls Tryd.prog 7 #[.int .u64 a0, .int .i64 a1] w fun e w' => e = .returned (.bool true) ∧ Below w.heap.size w w' := by
  obtain ⟨x, rfl, hx⟩ := u64_nat w0
  obtain ⟨n, hn, en⟩ := mod_nat a1 65 (by omega) (by omega)
  rw [show ((65 : Nat) : Int) = 65 from rfl] at en
  have hnx := not_run hx
  have hnl := notW_lt x
  have en2 : min ((n : Int)).toNat 64 = n := by omega
  have hsum := pc_not hx n (by omega)
  have hsum2 : ((pc x n : Nat) : Int) + (pc (notW x) n : Nat) = n := by omega
  have hcount : ((pc x 64 : Nat) : Int) = (pc x n : Nat) + (pc (x / 2 ^ (n % 64)) 64 : Nat) - ((if n = 64 then pc x 64 else 0 : Nat) : Int) := by
    by_cases h : n = 64
    · subst h; simp
    · have h64 : n % 64 = n := Nat.mod_eq_of_lt (by omega)
      have := pc_shift hx (n := n) (by omega)
      rw [if_neg h, h64, this]; simp
  have hdv : x / 2 ^ (n % 64) < 2 ^ 64 := Nat.lt_of_le_of_lt (Nat.div_le_self _ _) hx
  have hdv2 : (((x / 2 ^ (n % 64) : Nat)) : Int) = (x : Int) / 2 ^ ((n : Int) % 64).toNat := by
    rw [show ((n : Int) % 64).toNat = n % 64 by omega]; simp
  have q3 := pc_le (x / 2 ^ (n % 64)) 64
  have q4 : (if n = 64 then pc x 64 else 0) ≤ 64 := by have := pc_le x 64; split <;> omega
  have HM := Lib.hid en2
  have HDV := Lib.hid hdv2
  have HE := Lib.hid hcount
  have HT := Lib.hid hT
  have q0 := pc_le x n
  have q1 := pc_le x 64
  have q2 := pc_le (notW x) n
  clear en2 hdv2 hcount hsum hT
  go_enter Tryd.func7, Tryd.ntmps7
  go_wp2_with fail
  refine (rank_lit (Y := ((pc x n : Nat) : Int)) x _ hx rfl (by rw [HM.out])).mono ?_
  rintro e w1 ⟨rfl, hb1⟩
  have hs1 := hb1.size
  go_wp2_with fail
  refine (rank_lit (Y := ((pc (notW x) n : Nat) : Int)) (notW x) _ hnl rfl (by rw [HM.out])).mono ?_
  rintro e w2 ⟨rfl, hb2⟩
  have hb := hb1.trans (hb2.mono hs1)
  have hs2 := hb.size
  clear hb1 hb2 hs1
  go_wp2_with fail
  refine (told1_any _ (HT.out.below' hb)).mono ?_
  rintro e w3 ⟨rfl, hb3⟩
  have hb := hb.trans (hb3.mono hs2)
  have hs3 := hb.size
  clear hb3 hs2
  go_wp2_with fail
  refine (count_one x _ _ _ _ (by simp [go_sem]) hx).mono ?_
  rintro e w' ⟨rfl, rfl⟩
  have hb := hb.alloc hs3 (.cells #[.int .u64 x] 22)
  have hs4 := hb.size
  clear hs3
  generalize w3.alloc (.cells #[.int .u64 x] 22) = w4 at *
  go_wp2_with fail
  refine (rank_lit (Y := ((pc x n : Nat) : Int)) x _ hx rfl (by rw [HM.out])).mono ?_
  rintro e w5 ⟨rfl, hb5⟩
  have hb := hb.trans (hb5.mono hs4)
  have hs5 := hb.size
  clear hb5 hs4
  go_wp2_with fail
  refine (count_lit (Y := ((pc (x / 2 ^ (n % 64)) 64 : Nat) : Int)) [x / 2 ^ (n % 64)] _ rfl (by exact reads_cells (xs := [((x / 2 ^ (n % 64) : Nat) : Int)]) (by rw [HDV.out]; exact heap_alloc_new _ _)) (by simpa using hdv) (by simp) (by simp [pcs])).mono ?_
  rintro e w' ⟨rfl, rfl⟩
  go_wp2_with fail
  refine (extra_any x n _ hx hn).mono ?_
  rintro e w6 ⟨rfl, hb6⟩
  generalize pc (x / 2 ^ (n % 64)) 64 = p4 at *
  generalize pc x 64 = p1 at *
  generalize pc x n = p2 at *
  generalize pc (notW x) n = p3 at *
  generalize (if n = 64 then p1 else 0) = p5 at *
  go_wp2_with fail
  go_ret
  exact ⟨ret_bool (by simp [HE.out]), (hb.alloc hs5 _).trans (hb6.mono (by simp; omega))⟩
end Go.Proofs.YticbfhbilfgoiaaDoor
