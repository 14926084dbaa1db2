/- scrimshawlaw1.told and the law's small helpers; contracts of package bits where arguments and answers are numerals. -/
import Derived.Test.YticbfhbilfgoiaaDoorBits
import Derived.Test.YticbfhbilfgoiaaDoorBitsR
namespace Go.Proofs.YticbfhbilfgoiaaDoor
set_option linter.unusedVariables false
set_option linter.unusedSimpArgs false
open Go.RowKit

theorem put_lit {X K Y : Int} {b c : Bool} (x k : Nat) (w : World) (hx : x < 2 ^ 64) (hk : k < 64) (eX : X = (x : Int)) (eK : K = (k : Int)) (eY : ((putW x k b : Nat) : Int) = Y) (ec : x.testBit 63 = c) :
    Calls Tryd.prog 17 #[.int .u64 X, .int .i64 K, .bool b] w fun e w' => e = .returned (.tuple #[.int .u64 Y, .bool c]) ∧ w = w' := by
  subst eX eK eY ec; exact put_good x k b w hx hk
theorem cut_lit {X K Y : Int} {b c : Bool} (x k : Nat) (w : World) (hx : x < 2 ^ 64) (hk : k < 64) (eX : X = (x : Int)) (eK : K = (k : Int)) (eY : ((cutW x k b : Nat) : Int) = Y) (ec : x.testBit k = c) :
    Calls Tryd.prog 19 #[.int .u64 X, .int .i64 K, .bool b] w fun e w' => e = .returned (.tuple #[.int .u64 Y, .bool c]) ∧ w = w' := by
  subst eX eK eY ec; exact cut_good x k b w hx hk
theorem rank_lit {X K Y : Int} (x : Nat) (w : World) (hx : x < 2 ^ 64) (eX : X = (x : Int)) (eY : ((pc x (min K.toNat 64) : Nat) : Int) = Y) :
    Calls Tryd.prog 22 #[.int .u64 X, .int .i64 K] w fun e w' => e = .returned (.int .i64 Y) ∧ Below w.heap.size w w' := by
  subst eX eY; exact rank_any x K w hx
theorem select_lit {X K Y : Int} (x : Nat) (w : World) (hx : x < 2 ^ 64) (hT : BitTab w) (eX : X = (x : Int)) (eY : sel x K = Y) :
    Calls Tryd.prog 15 #[.int .u64 X, .int .i64 K] w fun e w' => e = .returned (.int .i64 Y) ∧ Below w.heap.size w w' := by
  subst eX eY; exact select_any x K w hx hT
theorem count_lit {a : Option Addr} {n c : Nat} {Y : Int} (ws : List Nat) (w : World) (hn : n = ws.length) (hr : Reads w .u64 a (ws.map natI)) (hw : ∀ x ∈ ws, x < 2 ^ 64) (hl : ws.length ≤ 1000000000000000) (eY : (pcs ws : Int) = Y) :
    Calls Tryd.prog 14 #[.slice a n c] w fun e w' => e = .returned (.int .i64 Y) ∧ w = w' := by
  subst hn eY; exact count_any a c ws w hr hw hl
theorem reads_cells {w : World} {k : IntKind} {b : Nat} {xs : List Int} {T : TypeId} (h : w.heap[b]? = some (.cells (xs.map (Value.int k)).toArray T (0, 0))) : Reads w k (some ⟨b, 0, none⟩) xs := by
  intro i hi
  refine ⟨b, 0, rfl, (Array.getElem?_eq_some_iff.1 h).1, fun j hj => ?_⟩
  rw [cell_of_row w b (0 + j) _ _ _ h]
  simp [hj]
theorem below_alloc (w : World) (o : Obj) : Below w.heap.size w (w.alloc o) := (Below.refl _ _).alloc (Nat.le_refl _) _

set_option maxHeartbeats 1600000 in
set_option maxRecDepth 100000 in
theorem told1_any (w : World) (hT : BitTab w) : Calls Tryd.prog 16 #[] w fun e w' => e = .returned (.bool true) ∧ Below w.heap.size w w' := by
  have HT := Lib.hid hT; clear hT
  go_enter Tryd.func16, Tryd.ntmps16
  go_wp2_with fail
  refine (put_lit (Y := 11) (c := false) 5 1 _ (by decide) (by decide) rfl rfl (by decide +kernel) (by decide +kernel)).mono ?_
  rintro e w' ⟨rfl, rfl⟩
  go_wp2_with fail
  refine (cut_lit (Y := 9223372036854775811) (c := true) 7 0 _ (by decide) (by decide) rfl rfl (by decide +kernel) (by decide +kernel)).mono ?_
  rintro e w' ⟨rfl, rfl⟩
  go_wp2_with fail
  refine (put_bad 9223372036854775808 64 true _ (Or.inr (by omega))).mono ?_
  rintro e w' ⟨rfl, rfl⟩
  go_wp2_with fail
  refine (count_lit (Y := 4) [7, 1] _ rfl (by exact reads_cells (xs := [7, 1]) (heap_alloc_new w (.cells #[.int .u64 7, .int .u64 1] 22))) (by decide) (by decide) (by decide +kernel)).mono ?_
  rintro e w' ⟨rfl, rfl⟩
  have hb := below_alloc w (.cells #[.int .u64 7, .int .u64 1] 22)
  generalize w.alloc (.cells #[.int .u64 7, .int .u64 1] 22) = w1 at *
  go_wp2_with fail
  refine (count_lit (Y := 0) [] _ rfl Reads.nil (by decide) (by decide) (by decide +kernel)).mono ?_
  rintro e w' ⟨rfl, rfl⟩
  have hs := hb.size
  go_wp2_with fail
  refine (rank_lit (Y := 1) 5 _ (by decide) rfl (by decide +kernel)).mono ?_
  rintro e w2 ⟨rfl, hb2⟩
  have hb := hb.trans (hb2.mono hs)
  have hs := hb.size
  clear hb2
  go_wp2_with fail
  refine (rank_lit (Y := 2) 5 _ (by decide) rfl (by decide +kernel)).mono ?_
  rintro e w3 ⟨rfl, hb2⟩
  have hb := hb.trans (hb2.mono hs)
  have hs := hb.size
  clear hb2
  go_wp2_with fail
  refine (rank_lit (Y := 0) 5 _ (by decide) rfl (by decide +kernel)).mono ?_
  rintro e w4 ⟨rfl, hb2⟩
  have hb := hb.trans (hb2.mono hs)
  have hs := hb.size
  clear hb2
  go_wp2_with fail
  refine (select_lit (Y := 2) 5 _ (by decide) (HT.out.below' hb) rfl (by decide +kernel)).mono ?_
  rintro e w5 ⟨rfl, hb2⟩
  have hb := hb.trans (hb2.mono hs)
  have hs := hb.size
  clear hb2
  go_wp2_with fail
  refine (select_lit (Y := -1) 5 _ (by decide) (HT.out.below' hb) rfl (by decide +kernel)).mono ?_
  rintro e w6 ⟨rfl, hb2⟩
  have hb := hb.trans (hb2.mono hs)
  clear hb2
  go_wp2_with fail
  go_ret
  exact ⟨rfl, hb⟩

theorem one_any (b : Bool) (w : World) : Calls Tryd.prog 25 #[.bool b] w fun e w' => e = .returned (.int .i64 b.toNat) ∧ w = w' := by
  cases b
  all_goals
    go_enter Tryd.func25, Tryd.ntmps25
    go_wp2_with fail
    go_ret
    exact ⟨rfl, rfl⟩

theorem u64_nat {a : Int} (h : (Lit.int .u64 a).wf = true) : ∃ x : Nat, a = (x : Int) ∧ x < 2 ^ 64 := by
  simp [Lit.wf, IntKind.min, IntKind.max, IntKind.signed, IntKind.bits] at h
  exact ⟨a.toNat, by omega, by omega⟩
/-- A number that is taken as one without a sign, over m. -/
theorem mod_nat (a : Int) (m : Nat) (hm : 0 < m) (hm2 : m < 1000000) : ∃ n : Nat, n < m ∧ wrap64 ((IntKind.u64.wrap a).tmod m) = (n : Int) := by
  have h0 : 0 ≤ IntKind.u64.wrap a := by rw [IntKind.wrap_u64]; omega
  have h1 : (IntKind.u64.wrap a).tmod m = IntKind.u64.wrap a % m := Int.tmod_eq_emod_of_nonneg h0
  have h2 := Int.emod_nonneg (IntKind.u64.wrap a) (show (m : Int) ≠ 0 by omega)
  have h3 := Int.emod_lt_of_pos (IntKind.u64.wrap a) (show (0 : Int) < m by omega)
  refine ⟨(IntKind.u64.wrap a % m).toNat, by omega, ?_⟩
  rw [h1]
  generalize IntKind.u64.wrap a % (m : Int) = z at *
  unfold wrap64; omega
theorem not_u64 {x : Nat} (hx : x < 2 ^ 64) : bits .xor .u64 18446744073709551615 (x : Int) = ((notW x : Nat) : Int) := by
  have h := u64_xor_nat 18446744073709551615 x (by omega) hx
  rw [show ((18446744073709551615 : Nat) : Int) = 18446744073709551615 from rfl] at h
  rw [h]
  congr 1
  refine word_ext (n := 64) (Nat.xor_lt_two_pow (by omega) hx) (notW_lt x) (fun i hi => ?_)
  rw [Nat.testBit_xor, notW_bit hx hi, show (18446744073709551615 : Nat) = 2 ^ 64 - 1 from rfl, Nat.testBit_two_pow_sub_one]
  simp [hi]

theorem not_run {x : Nat} (hx : x < 2 ^ 64) : Op.unary .xor (.int .u64 (x : Int)) = pure (.int .u64 ((notW x : Nat) : Int)) := by
  have h : Op.unary .xor (.int .u64 (x : Int)) = pure (.int .u64 (bits .xor .u64 IntKind.u64.max (x : Int))) := rfl
  rw [h, show IntKind.u64.max = 18446744073709551615 by decide, not_u64 hx]

end Go.Proofs.YticbfhbilfgoiaaDoor
