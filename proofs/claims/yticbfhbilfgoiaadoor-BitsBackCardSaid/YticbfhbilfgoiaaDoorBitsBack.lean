/- The walk of BitsBack. -/
import Derived.Test.YticbfhbilfgoiaaDoorBitsL
namespace Go.Proofs.YticbfhbilfgoiaaDoor
set_option linter.unusedVariables false
set_option linter.unusedSimpArgs false
open Go.RowKit

set_option maxHeartbeats 1600000 in
set_option maxRecDepth 100000 in
theorem walk_BitsBack (w : World) (hT : BitTab w) (a0 : Int) (w0 : (Lit.int .u64 a0).wf = true) (a1 : Int) (w1 : (Lit.int .i64 a1).wf = true) (a2 : Bool) :
    Calls Tryd.prog 5 #[.int .u64 a0, .int .i64 a1, .bool a2] w fun e w' => e = .returned (.bool true) ∧ Below w.heap.size w w' := by
  obtain ⟨x, rfl, hx⟩ := u64_nat w0
  obtain ⟨n, hn, en⟩ := mod_nat a1 64 (by omega) (by omega)
  rw [show ((64 : Nat) : Int) = 64 from rfl] at en
  have HC := Lib.hid (cut_put a2 hx hn)
  have HP := Lib.hid (put_cut a2 hx hn)
  have HB := Lib.hid (put_bit (x := x) a2 hn)
  have HT2 := Lib.hid (cut_top (x := x) a2 hn)
  have hpc := pc_put (x := x) a2 hn
  have hp1 := pc_le x 64
  have hp2 := pc_le (putW x n a2) 64
  have ho1 := Bool.toNat_le (x.testBit 63)
  have ho2 := Bool.toNat_le a2
  have HPC := Lib.hid hpc
  have hpa := putW_lt x n a2
  have hca := cutW_lt x n a2
  clear hpc
  go_enter Tryd.func5, Tryd.ntmps5
  go_wp2_with fail
  refine (put_good x n a2 _ hx hn).mono ?_
  rintro e w' ⟨rfl, rfl⟩
  generalize putW x n a2 = y at *
  go_wp2_with fail
  refine (cut_good y n (x.testBit 63) _ hpa hn).mono ?_
  rintro e w' ⟨rfl, rfl⟩
  rw [HC.out, HB.out]
  go_wp2_with fail
  refine (cut_good x n a2 _ hx hn).mono ?_
  rintro e w' ⟨rfl, rfl⟩
  generalize cutW x n a2 = z at *
  go_wp2_with fail
  refine (put_good z n (x.testBit n) _ hca hn).mono ?_
  rintro e w' ⟨rfl, rfl⟩
  rw [HP.out, HT2.out]
  generalize x.testBit 63 = o at *
  go_wp2_with fail
  refine (told1_any _ hT).mono ?_
  rintro e w2 ⟨rfl, hb⟩
  have hs := hb.size
  go_wp2_with fail
  refine (count_one y _ _ _ _ (by simp [go_sem]) hpa).mono ?_
  rintro e w' ⟨rfl, rfl⟩
  go_wp2_with fail
  refine (count_one x _ _ _ _ (by simp [go_sem]) hx).mono ?_
  rintro e w' ⟨rfl, rfl⟩
  have he : ((pc y 64 : Nat) : Int) = (pc x 64 : Int) + (a2.toNat : Int) - (o.toNat : Int) := by have := HPC.out; omega
  have HE := Lib.hid he
  clear he
  generalize pc y 64 = p1 at *
  generalize pc x 64 = p2 at *
  go_wp2_with (go_at_call 25; refine (one_any _ _).mono ?_; rintro e w' ⟨rfl, rfl⟩)
  go_ret
  exact ⟨ret_bool (by simp [HE.out]), (hb.alloc hs _).alloc (by simp; omega) _⟩

end Go.Proofs.YticbfhbilfgoiaaDoor
