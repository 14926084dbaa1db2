/- The walk of BitsChain. -/
import Derived.Test.YticbfhbilfgoiaaDoorBitsL
namespace Go.Proofs.YticbfhbilfgoiaaDoor
set_option linter.unusedVariables false
set_option linter.unusedSimpArgs false
open Go.RowKit

set_option maxHeartbeats 1600000 in
set_option maxRecDepth 100000 in
theorem walk_BitsChain (w : World) (hT : BitTab w) (a0 : Int) (w0 : (Lit.int .u64 a0).wf = true) (a1 : Int) (w1 : (Lit.int .u64 a1).wf = true) (a2 : Int) (w2 : (Lit.int .i64 a2).wf = true) (b : Bool) :
    Calls Tryd.prog 8 #[.int .u64 a0, .int .u64 a1, .int .i64 a2, .bool b] w fun e w' => e = .returned (.bool true) ∧ Below w.heap.size w w' := by
  obtain ⟨x, rfl, hx⟩ := u64_nat w0
  obtain ⟨y, rfl, hy⟩ := u64_nat w1
  obtain ⟨n, hn, en⟩ := mod_nat a2 64 (by omega) (by omega)
  rw [show ((64 : Nat) : Int) = 64 from rfl] at en
  have h0 : (0 : Nat) < 64 := by omega
  have HC := Lib.hid (cut_put b hx hn)
  have HB := Lib.hid (put_bit (x := x) b hn)
  have hpc := pc_put (x := x) b hn
  have hpx := putW_lt x n b
  obtain ⟨o, ho⟩ : ∃ o, x.testBit 63 = o := ⟨_, rfl⟩
  have HX63 := Lib.hid ho
  rw [ho] at hpc
  have HC := Lib.hid (by have := HC.out; rw [ho] at this; exact this)
  clear ho
  have HC2 := Lib.hid (cut_put o hy h0)
  have HB2 := Lib.hid (put_bit (x := y) o h0)
  have hpc2 := pc_put (x := y) o h0
  have hpy := putW_lt y 0 o
  obtain ⟨l, hl⟩ : ∃ l, y.testBit 63 = l := ⟨_, rfl⟩
  have HY63 := Lib.hid hl
  rw [hl] at hpc2
  have HC2 := Lib.hid (by have := HC2.out; rw [hl] at this; exact this)
  clear hl
  have he : ((pc x 64 : Nat) : Int) + (pc y 64 : Int) = (pc (putW x n b) 64 : Int) + (pc (putW y 0 o) 64 : Int) - (b.toNat : Int) + (l.toNat : Int) := by omega
  have HE := Lib.hid he
  have b1 := Bool.toNat_le b
  have b2 := Bool.toNat_le o
  have b3 := Bool.toNat_le l
  have q1 := pc_le x 64
  have q2 := pc_le y 64
  have q3 := pc_le (putW x n b) 64
  have q4 := pc_le (putW y 0 o) 64
  clear hpc hpc2 he
  go_enter Tryd.func8, Tryd.ntmps8
  go_wp2_with fail
  refine (put_good x n b _ hx hn).mono ?_
  rintro e w' ⟨rfl, rfl⟩
  rw [HX63.out]
  generalize putW x n b = x' at *
  go_wp2_with fail
  refine (put_lit (Y := ((putW y 0 o : Nat) : Int)) (c := l) y 0 _ hy h0 rfl rfl rfl HY63.out).mono ?_
  rintro e w' ⟨rfl, rfl⟩
  generalize putW y 0 o = y' at *
  go_wp2_with fail
  refine (cut_lit (Y := y) (c := o) y' 0 _ hpy h0 rfl rfl (by rw [HC2.out]) HB2.out).mono ?_
  rintro e w' ⟨rfl, rfl⟩
  go_wp2_with fail
  refine (cut_lit (Y := x) (c := b) x' n _ hpx hn rfl rfl (by rw [HC.out]) HB.out).mono ?_
  rintro e w' ⟨rfl, rfl⟩
  go_wp2_with fail
  refine (told1_any _ hT).mono ?_
  rintro e w2 ⟨rfl, hb⟩
  have hs := hb.size
  go_wp2_with fail
  refine (count_lit (Y := (pc x 64 : Int) + pc y 64) [x, y] _ rfl (by exact reads_cells (xs := [(x : Int), (y : Int)]) (heap_alloc_new _ _)) (by simp [hx, hy]) (by simp) (by simp [pcs])).mono ?_
  rintro e w' ⟨rfl, rfl⟩
  have hb := hb.alloc hs (.cells #[.int .u64 x, .int .u64 y] 22)
  have hs := hb.size
  generalize w2.alloc (.cells #[.int .u64 x, .int .u64 y] 22) = w3 at *
  go_wp2_with fail
  refine (count_lit (Y := (pc x' 64 : Int) + pc y' 64) [x', y'] _ rfl (by exact reads_cells (xs := [(x' : Int), (y' : Int)]) (heap_alloc_new _ _)) (by simp [hpx, hpy]) (by simp) (by simp [pcs])).mono ?_
  rintro e w' ⟨rfl, rfl⟩
  generalize pc x 64 = p1 at *
  generalize pc y 64 = p2 at *
  generalize pc x' 64 = p3 at *
  generalize pc y' 64 = p4 at *
  go_wp2_with (go_at_call 25; refine (one_any _ _).mono ?_; rintro e w' ⟨rfl, rfl⟩)
  go_ret
  exact ⟨ret_bool (by simp [HE.out]), hb.alloc hs _⟩

end Go.Proofs.YticbfhbilfgoiaaDoor
