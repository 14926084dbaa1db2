/- Contracts of package block that write: New, set, Insert, Delete. -/
import Derived.Test.YticbfhbilfgoiaaDoorBlockR
import Derived.Test.YticbfhbilfgoiaaDoorVec
import Derived.Deep.DeepCutAuto
import Derived.Deep.CutBlock
import Derived.Deep.CutRange
namespace Go.Proofs.YticbfhbilfgoiaaDoor
set_option linter.unusedVariables false
set_option linter.unusedSimpArgs false
open Go.RowKit

/-- Block p: so many bits, two words. -/
def Blk (w : World) (p : Nat) (n : Int) (x y : Nat) : Prop := w.heap[p]? = some (.cells #[.int .i64 n, .int .u64 x, .int .u64 y] 70 (0, 0))
theorem Blk.cells {w : World} {p : Nat} {n : Int} {x y : Nat} (h : Blk w p n x y) : w.cell? ⟨p, 0, none⟩ = some (.int .i64 n) ∧ w.cell? ⟨p, 1, none⟩ = some (.int .u64 x) ∧ w.cell? ⟨p, 2, none⟩ = some (.int .u64 y) ∧ ∀ j, w.frozen? ⟨p, j, none⟩ = false :=
  ⟨by rw [cell_of_row w p 0 _ _ _ h]; rfl, by rw [cell_of_row w p 1 _ _ _ h]; rfl, by rw [cell_of_row w p 2 _ _ _ h]; rfl, fun j => frozen_of_row w p j _ _ h⟩
theorem Blk.set0 {w : World} {p : Nat} {n : Int} {x y : Nat} (h : Blk w p n x y) (n' : Int) : Blk (w.setCell ⟨p, 0, none⟩ (.int .i64 n')) p n' x y := heap_setCell_same w p 0 _ _ (.int .i64 n') h
theorem Blk.set1 {w : World} {p : Nat} {n : Int} {x y : Nat} (h : Blk w p n x y) (x' : Nat) : Blk (w.setCell ⟨p, 1, none⟩ (.int .u64 x')) p n x' y := heap_setCell_same w p 1 _ _ (.int .u64 x') h
theorem Blk.set2 {w : World} {p : Nat} {n : Int} {x y : Nat} (h : Blk w p n x y) (y' : Nat) : Blk (w.setCell ⟨p, 2, none⟩ (.int .u64 y')) p n x y' := heap_setCell_same w p 2 _ _ (.int .u64 y') h
theorem Blk.lt {w : World} {p : Nat} {n : Int} {x y : Nat} (h : Blk w p n x y) : p < w.heap.size := (Array.getElem?_eq_some_iff.1 h).1

theorem pow_u64 {k : Nat} (h : k < 64) : IntKind.u64.wrap ((2 : Int) ^ k) = ((2 ^ k : Nat) : Int) := by
  have h2 := two_pow_lt h
  have h3 := Nat.two_pow_pos k
  rw [int_two_pow]; exact u64w (by omega) (by omega)
theorem bit_in {k m : Nat} (h : k % 64 = m) : IntKind.u64.wrap ((2 : Int) ^ min (IntKind.u64.wrap ((k : Int).tmod 64)).toNat 64) = ((2 ^ m : Nat) : Int) := by
  have h1 : (k : Int).tmod 64 = (m : Int) := by rw [Int.tmod_eq_emod_of_nonneg (by omega)]; omega
  have h2 : IntKind.u64.wrap (m : Int) = (m : Int) := u64w (by omega) (by omega)
  rw [h1, h2, Int.toNat_natCast, Nat.min_eq_left (by omega)]
  exact pow_u64 (by omega)
theorem quo_lo {k : Nat} (h : k < 64) : IntKind.i64.wrap ((k : Int) / 64) = 0 ∧ IntKind.i64.wrap ((k : Int).tmod 64) = k ∧ IntKind.i64.wrap ((k : Int) % 64) = k := by
  refine ⟨?_, ?_, ?_⟩
  · rw [IntWalk.i64_in] <;> omega
  · rw [Int.tmod_eq_emod_of_nonneg (by omega), IntWalk.i64_in] <;> omega
  · rw [IntWalk.i64_in] <;> omega
theorem quo_hi {k : Nat} (h : 64 ≤ k) (h2 : k < 128) : IntKind.i64.wrap ((k : Int) / 64) = 1 ∧ IntKind.i64.wrap ((k : Int).tmod 64) = ((k - 64 : Nat) : Int) ∧ IntKind.i64.wrap ((k : Int) % 64) = ((k - 64 : Nat) : Int) := by
  refine ⟨?_, ?_, ?_⟩
  · rw [IntWalk.i64_in] <;> omega
  · rw [Int.tmod_eq_emod_of_nonneg (by omega), IntWalk.i64_in] <;> omega
  · rw [IntWalk.i64_in] <;> omega

theorem blkNew_full (w : World) (a : Option Addr) (n c : Nat) (h : 128 < n) : Calls Tryd.prog 28 #[.slice a n c] w fun e w' => e = .returned (.tuple #[.pointer none, .int .i64 3]) ∧ w = w' := by
  have hd : decide ((128 : Int) < (n : Int)) = true := by simp; omega
  go_enter Tryd.func28, Tryd.ntmps28
  go_wp2_with fail
  go_ret2
  exact ⟨rfl, rfl⟩

set_option maxHeartbeats 1600000 in
set_option maxRecDepth 100000 in
theorem blkNew (w : World) (a : Option Addr) (c : Nat) (l : List Bool) (hr : ReadsV w a (l.map Value.bool)) (hl : l.length ≤ 128) :
    Calls Tryd.prog 28 #[.slice a l.length c] w fun e w' => e = .returned (.tuple #[.pointer (some ⟨w.heap.size, 0, none⟩), .int .i64 0]) ∧ IsBlock w' w.heap.size l ∧ Below w.heap.size w w' := by
  have hd : decide ((128 : Int) < (l.length : Int)) = false := by simp; omega
  have hb0 := below_alloc w (.cells #[.int .i64 l.length, .int .u64 0, .int .u64 0] 70)
  have hk0 : Blk (w.alloc (.cells #[.int .i64 l.length, .int .u64 0, .int .u64 0] 70)) w.heap.size l.length (loW (l.take 0)) (hiW (l.take 0)) := by
    have e1 : loW (l.take 0) = 0 := by rw [List.take_zero]; exact loW_nil
    have e2 : hiW (l.take 0) = 0 := by rw [List.take_zero]; exact hiW_nil
    rw [e1, e2]; exact heap_alloc_new w _
  have HK0 := Lib.hid hk0
  have HR := Lib.hid hr
  obtain ⟨p, hp⟩ : ∃ p, w.heap.size = p := ⟨_, rfl⟩
  have HP := Lib.hid hp
  clear hk0 hr hp
  go_enter Tryd.func28, Tryd.ntmps28
  go_wp2_with fail
  rw [HP.out]
  go_loopw [16] (fun i wr => ∃ k : Nat, k ≤ l.length ∧ i = .int .i64 k ∧ Blk wr p l.length (loW (l.take k)) (hiW (l.take k)) ∧ Below w.heap.size w wr) (fun i _ => l.length - (intOf i).toNat)
  case atStart => exact ⟨0, Nat.zero_le _, rfl, by have := HK0.out; rw [HP.out] at this; exact this, hb0⟩
  case round =>
    obtain ⟨k, hk, rfl, hbk, hb⟩ := hrel
    clear hb0
    by_cases hlt : k < l.length
    · obtain ⟨b, off, rfl, hbl, hc⟩ := (HR.out.below' hb).some (by rw [List.length_map]; omega)
      have hcell := hc k (.bool (l[k]?.getD false)) (by rw [List.getElem?_map, List.getElem?_eq_getElem hlt]; rfl)
      have ht : l.take (k + 1) = l.take k ++ [l[k]?.getD false] := by rw [List.take_add_one, List.getElem?_eq_getElem hlt]; rfl
      have hlen : (l.take k).length = k := by rw [List.length_take]; omega
      have HT := Lib.hid ht
      have HLEN := Lib.hid hlen
      have hlo := loW_lt (l.take k)
      have hhi := hiW_lt (l.take k)
      generalize hbv : l[k]?.getD false = bv at *
      have HBV := Lib.hid hbv
      clear hc ht hlen hbv
      cases bv
      · have e1 : loW (l.take (k + 1)) = loW (l.take k) := by
          rw [HT.out]
          by_cases h : k < 64
          · rw [lo_snoc (by rw [HLEN.out]; exact h)]; simp
          · rw [lo_snoc2 (by rw [HLEN.out]; omega)]
        have e2 : hiW (l.take (k + 1)) = hiW (l.take k) := by
          rw [HT.out]
          by_cases h : k < 64
          · rw [hi_snoc (by rw [HLEN.out]; exact h)]
          · rw [hi_snoc2 (by rw [HLEN.out]; omega) (by rw [HLEN.out]; omega)]; simp
        have E1 := Lib.hid e1
        have E2 := Lib.hid e2
        have HBK := Lib.hid hbk
        clear e1 e2 hbk
        go_wp2_with fail
        go_roundw
        case rel => exact ⟨k + 1, by omega, by go_num, by rw [E1.out, E2.out]; exact HBK.out, hb⟩
        case measure => simp [intOf]; omega
      · by_cases h64 : k < 64
        · have e1 : loW (l.take (k + 1)) = loW (l.take k) ||| 2 ^ k := by
            rw [HT.out, lo_snoc (by rw [HLEN.out]; exact h64), HLEN.out]; simp
          have e2 : hiW (l.take (k + 1)) = hiW (l.take k) := by rw [HT.out, hi_snoc (by rw [HLEN.out]; exact h64)]
          have h2k := two_pow_lt h64
          have e3 : bits .or .u64 ((loW (l.take k) : Nat) : Int) (IntKind.u64.wrap ((2 : Int) ^ min (IntKind.u64.wrap ((k : Int).tmod 64)).toNat 64)) = ((loW (l.take k) ||| 2 ^ k : Nat) : Int) := by
            rw [bit_in (m := k) (by omega)]; exact or_u64 _ _ hlo (by omega)
          have E1 := Lib.hid e1
          have E2 := Lib.hid e2
          have E3 := Lib.hid e3
          generalize loW (l.take k) = x at *
          generalize hiW (l.take k) = y at *
          obtain ⟨c0, c1, c2, fz⟩ := hbk.cells
          have fz1 := fz 1
          obtain ⟨q1, q2, q3⟩ := quo_lo h64
          have HBK := Lib.hid hbk
          clear e1 e2 e3 hbk fz c0 c2 h2k
          go_wp2_with fail
          refine reg_start (fun _ => True) (by kernel_rfl) (trivial) (fun hHeld => ?_)
          refine reg_take (i := 0) (v := ?v0) rfl (by kernel_rfl) rfl hHeld ?y0 ?r0
          case y0 => (intro w hSw; (try dsimp only at hSw); go_simp; all_goals with_reducible rfl)
          try simp only [Act.put, List.setIfInBounds_toArray, List.set_cons_zero, List.set_cons_succ]
          refine reg_take (i := 1) (v := ?v1) rfl (by kernel_rfl) rfl hHeld ?y1 ?r1
          case y1 => (intro w hSw; (try dsimp only at hSw); go_simp; all_goals with_reducible rfl)
          try simp only [Act.put, List.setIfInBounds_toArray, List.set_cons_zero, List.set_cons_succ]
          refine reg_take (i := 2) (v := ?v2) rfl (by kernel_rfl) rfl hHeld ?y2 ?r2
          case y2 => (intro w hSw; (try dsimp only at hSw); go_simp; all_goals with_reducible rfl)
          try simp only [Act.put, List.setIfInBounds_toArray, List.set_cons_zero, List.set_cons_succ]
          refine reg_take (i := 3) (v := ?v3) rfl (by kernel_rfl) rfl hHeld ?y3 ?r3
          case y3 => (intro w hSw; (try dsimp only at hSw); go_simp; all_goals with_reducible rfl)
          try simp only [Act.put, List.setIfInBounds_toArray, List.set_cons_zero, List.set_cons_succ]
          refine reg_take (i := 4) (v := ?v4) rfl (by kernel_rfl) rfl hHeld ?y4 ?r4
          case y4 => (intro w hSw; (try dsimp only at hSw); go_simp; all_goals with_reducible rfl)
          try simp only [Act.put, List.setIfInBounds_toArray, List.set_cons_zero, List.set_cons_succ]
          refine reg_take (i := 5) (v := ?v5) rfl (by kernel_rfl) rfl hHeld ?y5 ?r5
          case y5 => (intro w hSw; (try dsimp only at hSw); go_simp; all_goals with_reducible rfl)
          try simp only [Act.put, List.setIfInBounds_toArray, List.set_cons_zero, List.set_cons_succ]
          refine reg_take (i := 7) (v := ?v7) rfl (by kernel_rfl) rfl hHeld ?y7 ?r7
          case y7 => (intro w hSw; (try dsimp only at hSw); go_simp; all_goals with_reducible rfl)
          try simp only [Act.put, List.setIfInBounds_toArray, List.set_cons_zero, List.set_cons_succ]
          refine reg_take (i := 8) (v := ?v8) rfl (by kernel_rfl) rfl hHeld ?y8 ?r8
          case y8 => (intro w hSw; (try dsimp only at hSw); go_simp; all_goals with_reducible rfl)
          try simp only [Act.put, List.setIfInBounds_toArray, List.set_cons_zero, List.set_cons_succ]
          refine reg_take (i := 9) (v := ?v9) rfl (by kernel_rfl) rfl hHeld ?y9 ?r9
          case y9 => (intro w hSw; (try dsimp only at hSw); go_simp; all_goals with_reducible rfl)
          try simp only [Act.put, List.setIfInBounds_toArray, List.set_cons_zero, List.set_cons_succ]
          refine reg_take (i := 10) (v := ?v10) rfl (by kernel_rfl) rfl hHeld ?y10 ?r10
          case y10 => (intro w hSw; (try dsimp only at hSw); go_simp; all_goals with_reducible rfl)
          try simp only [Act.put, List.setIfInBounds_toArray, List.set_cons_zero, List.set_cons_succ]
          refine reg_take (i := 12) (v := ?v12) rfl (by kernel_rfl) rfl hHeld ?y12 ?r12
          case y12 => (intro w hSw; (try dsimp only at hSw); go_simp; all_goals with_reducible rfl)
          try simp only [Act.put, List.setIfInBounds_toArray, List.set_cons_zero, List.set_cons_succ]
          refine reg_take (i := 13) (v := ?v13) rfl (by kernel_rfl) rfl hHeld ?y13 ?r13
          case y13 => (intro w hSw; (try dsimp only at hSw); go_simp; all_goals with_reducible rfl)
          try simp only [Act.put, List.setIfInBounds_toArray, List.set_cons_zero, List.set_cons_succ]
          refine reg_loud (i := 6) rfl (by kernel_rfl) rfl (fun K hK => ?_)
          go_simp
          refine hK.out _ _ (trivial) (fun hNew => ?_)
          clear hK K hHeld
          have hHeld := hNew
          clear hNew
          try simp only [Act.put, List.setIfInBounds_toArray, List.set_cons_zero, List.set_cons_succ]
          refine reg_take (i := 11) (v := ?v11) rfl (by kernel_rfl) rfl hHeld ?y11 ?r11
          case y11 => (intro w hSw; (try dsimp only at hSw); go_simp; all_goals with_reducible rfl)
          try simp only [Act.put, List.setIfInBounds_toArray, List.set_cons_zero, List.set_cons_succ]
          refine reg_take (i := 14) (v := ?v14) rfl (by kernel_rfl) rfl hHeld ?y14 ?r14
          case y14 => (intro w hSw; (try dsimp only at hSw); go_simp; all_goals with_reducible rfl)
          try simp only [Act.put, List.setIfInBounds_toArray, List.set_cons_zero, List.set_cons_succ]
          refine reg_loud (i := 15) rfl (by kernel_rfl) rfl (fun K hK => ?_)
          go_simp
          refine hK.out _ _ (trivial) (fun hNew => ?_)
          clear hK K hHeld
          have hHeld := hNew
          clear hNew
          try simp only [Act.put, List.setIfInBounds_toArray, List.set_cons_zero, List.set_cons_succ]
          refine reg_done (by kernel_rfl) ?_ _
          rw [E3.out]
          clear c1 fz1 q1 q2 q3
          go_wp2_with fail
          go_roundw
          case rel => exact ⟨k + 1, by omega, by go_num, by rw [E1.out, E2.out]; exact HBK.out.set1 _, below_setQ hb.drew hb.drew.size (by have := HP.out; omega) _⟩
          case measure => simp [intOf]; omega
        · have e1 : loW (l.take (k + 1)) = loW (l.take k) := by rw [HT.out, lo_snoc2 (by rw [HLEN.out]; omega)]
          have e2 : hiW (l.take (k + 1)) = hiW (l.take k) ||| 2 ^ (k - 64) := by
            rw [HT.out, hi_snoc2 (by rw [HLEN.out]; omega) (by rw [HLEN.out]; omega), HLEN.out]; simp
          have h2k := two_pow_lt (k := k - 64) (by omega)
          have e3 : bits .or .u64 ((hiW (l.take k) : Nat) : Int) (IntKind.u64.wrap ((2 : Int) ^ min (IntKind.u64.wrap ((k : Int).tmod 64)).toNat 64)) = ((hiW (l.take k) ||| 2 ^ (k - 64) : Nat) : Int) := by
            rw [bit_in (m := k - 64) (by omega)]; exact or_u64 _ _ hhi (by omega)
          have E1 := Lib.hid e1
          have E2 := Lib.hid e2
          have E3 := Lib.hid e3
          generalize loW (l.take k) = x at *
          generalize hiW (l.take k) = y at *
          obtain ⟨c0, c1, c2, fz⟩ := hbk.cells
          have fz1 := fz 2
          obtain ⟨q1, q2, q3⟩ := quo_hi (k := k) (by omega) (by omega)
          have HBK := Lib.hid hbk
          clear e1 e2 e3 hbk fz c0 c1 h2k
          go_wp2_with fail
          refine reg_start (fun _ => True) (by kernel_rfl) (trivial) (fun hHeld => ?_)
          refine reg_take (i := 0) (v := ?vb0) rfl (by kernel_rfl) rfl hHeld ?yb0 ?rb0
          case yb0 => (intro w hSw; (try dsimp only at hSw); go_simp; all_goals with_reducible rfl)
          try simp only [Act.put, List.setIfInBounds_toArray, List.set_cons_zero, List.set_cons_succ]
          refine reg_take (i := 1) (v := ?vb1) rfl (by kernel_rfl) rfl hHeld ?yb1 ?rb1
          case yb1 => (intro w hSw; (try dsimp only at hSw); go_simp; all_goals with_reducible rfl)
          try simp only [Act.put, List.setIfInBounds_toArray, List.set_cons_zero, List.set_cons_succ]
          refine reg_take (i := 2) (v := ?vb2) rfl (by kernel_rfl) rfl hHeld ?yb2 ?rb2
          case yb2 => (intro w hSw; (try dsimp only at hSw); go_simp; all_goals with_reducible rfl)
          try simp only [Act.put, List.setIfInBounds_toArray, List.set_cons_zero, List.set_cons_succ]
          refine reg_take (i := 3) (v := ?vb3) rfl (by kernel_rfl) rfl hHeld ?yb3 ?rb3
          case yb3 => (intro w hSw; (try dsimp only at hSw); go_simp; all_goals with_reducible rfl)
          try simp only [Act.put, List.setIfInBounds_toArray, List.set_cons_zero, List.set_cons_succ]
          refine reg_take (i := 4) (v := ?vb4) rfl (by kernel_rfl) rfl hHeld ?yb4 ?rb4
          case yb4 => (intro w hSw; (try dsimp only at hSw); go_simp; all_goals with_reducible rfl)
          try simp only [Act.put, List.setIfInBounds_toArray, List.set_cons_zero, List.set_cons_succ]
          refine reg_take (i := 5) (v := ?vb5) rfl (by kernel_rfl) rfl hHeld ?yb5 ?rb5
          case yb5 => (intro w hSw; (try dsimp only at hSw); go_simp; all_goals with_reducible rfl)
          try simp only [Act.put, List.setIfInBounds_toArray, List.set_cons_zero, List.set_cons_succ]
          refine reg_take (i := 7) (v := ?vb7) rfl (by kernel_rfl) rfl hHeld ?yb7 ?rb7
          case yb7 => (intro w hSw; (try dsimp only at hSw); go_simp; all_goals with_reducible rfl)
          try simp only [Act.put, List.setIfInBounds_toArray, List.set_cons_zero, List.set_cons_succ]
          refine reg_take (i := 8) (v := ?vb8) rfl (by kernel_rfl) rfl hHeld ?yb8 ?rb8
          case yb8 => (intro w hSw; (try dsimp only at hSw); go_simp; all_goals with_reducible rfl)
          try simp only [Act.put, List.setIfInBounds_toArray, List.set_cons_zero, List.set_cons_succ]
          refine reg_take (i := 9) (v := ?vb9) rfl (by kernel_rfl) rfl hHeld ?yb9 ?rb9
          case yb9 => (intro w hSw; (try dsimp only at hSw); go_simp; all_goals with_reducible rfl)
          try simp only [Act.put, List.setIfInBounds_toArray, List.set_cons_zero, List.set_cons_succ]
          refine reg_take (i := 10) (v := ?vb10) rfl (by kernel_rfl) rfl hHeld ?yb10 ?rb10
          case yb10 => (intro w hSw; (try dsimp only at hSw); go_simp; all_goals with_reducible rfl)
          try simp only [Act.put, List.setIfInBounds_toArray, List.set_cons_zero, List.set_cons_succ]
          refine reg_take (i := 12) (v := ?vb12) rfl (by kernel_rfl) rfl hHeld ?yb12 ?rb12
          case yb12 => (intro w hSw; (try dsimp only at hSw); go_simp; all_goals with_reducible rfl)
          try simp only [Act.put, List.setIfInBounds_toArray, List.set_cons_zero, List.set_cons_succ]
          refine reg_take (i := 13) (v := ?vb13) rfl (by kernel_rfl) rfl hHeld ?yb13 ?rb13
          case yb13 => (intro w hSw; (try dsimp only at hSw); go_simp; all_goals with_reducible rfl)
          try simp only [Act.put, List.setIfInBounds_toArray, List.set_cons_zero, List.set_cons_succ]
          refine reg_loud (i := 6) rfl (by kernel_rfl) rfl (fun K hK => ?_)
          go_simp
          refine hK.out _ _ (trivial) (fun hNew => ?_)
          clear hK K hHeld
          have hHeld := hNew
          clear hNew
          try simp only [Act.put, List.setIfInBounds_toArray, List.set_cons_zero, List.set_cons_succ]
          refine reg_take (i := 11) (v := ?vb11) rfl (by kernel_rfl) rfl hHeld ?yb11 ?rb11
          case yb11 => (intro w hSw; (try dsimp only at hSw); go_simp; all_goals with_reducible rfl)
          try simp only [Act.put, List.setIfInBounds_toArray, List.set_cons_zero, List.set_cons_succ]
          refine reg_take (i := 14) (v := ?vb14) rfl (by kernel_rfl) rfl hHeld ?yb14 ?rb14
          case yb14 => (intro w hSw; (try dsimp only at hSw); go_simp; all_goals with_reducible rfl)
          try simp only [Act.put, List.setIfInBounds_toArray, List.set_cons_zero, List.set_cons_succ]
          refine reg_loud (i := 15) rfl (by kernel_rfl) rfl (fun K hK => ?_)
          go_simp
          refine hK.out _ _ (trivial) (fun hNew => ?_)
          clear hK K hHeld
          have hHeld := hNew
          clear hNew
          try simp only [Act.put, List.setIfInBounds_toArray, List.set_cons_zero, List.set_cons_succ]
          refine reg_done (by kernel_rfl) ?_ _
          rw [E3.out]
          clear c2 fz1 q1 q2 q3
          go_wp2_with fail
          go_roundw
          case rel => exact ⟨k + 1, by omega, by go_num, by rw [E1.out, E2.out]; exact HBK.out.set2 _, below_setQ hb.drew hb.drew.size (by have := HP.out; omega) _⟩
          case measure => simp [intOf]; omega
    · have hkl : k = l.length := by omega
      have ht : l.take k = l := by rw [hkl, List.take_length]
      rw [ht] at hbk
      clear ht hkl
      go_wp2_with fail
      go_ret2
      exact ⟨by rw [HP.out]; rfl, ⟨hl, by rw [HP.out]; exact hbk⟩, hb⟩

/-- A block that changes: its own block alone, and new ones. -/
def BlkStep (w w' : World) (p : Nat) (l : List Bool) : Prop := IsBlock w' p l ∧ Chg (fun q => q = p) w w'

set_option maxHeartbeats 1600000 in
theorem blkSet {w : World} {p : Nat} {l0 : List Bool} (h : IsBlock w p l0) (a : Option Addr) (c : Nat) (l : List Bool) (hr : ReadsV w a (l.map Value.bool)) (hl : l.length ≤ 128) :
    Calls Tryd.prog 53 #[.pointer (some ⟨p, 0, none⟩), .slice a l.length c] w fun e w' => e = .returned (.tuple #[]) ∧ BlkStep w w' p l := by
  have HR := Lib.hid hr
  have HB := Lib.hid h
  clear hr h
  go_enter Tryd.func53, Tryd.ntmps53
  go_wp2_with fail
  refine (blkNew w a c l HR.out hl).mono ?_
  rintro e w1 ⟨rfl, hk, hb⟩
  obtain ⟨c0, c1, c2, _⟩ := hk.cells
  have hB := HB.out.below' hb
  obtain ⟨d0, d1, d2, fz⟩ := hB.cells
  have f0 := fz 0
  have f1 := fz 1
  have f2 := fz 2
  have H1 := Lib.hid hB
  have H2 := Lib.hid hk
  have H3 : Hid (Chg (fun q => q = p) w w1) := Chg.of_below hb
  generalize w.heap.size = q at *
  clear hB hk hb fz
  go_wp2_with fail
  go_end0
  exact ⟨rfl, ⟨hl, ((Blk.set0 (x := loW l0) (y := hiW l0) H1.out.2 _).set1 _).set2 _⟩, ((H3.out.setCell _ (Or.inl rfl) _).setCell _ (Or.inl rfl) _).setCell _ (Or.inl rfl) _⟩

theorem blkInsert_nil (w : World) (k : Int) (b : Bool) : Calls Tryd.prog 30 #[.pointer none, .int .i64 k, .bool b] w fun e w' => e = .returned (.int .i64 6) ∧ w = w' := by
  go_enter Tryd.func30, Tryd.ntmps30
  go_wp2_with fail
  go_ret
  exact ⟨rfl, rfl⟩
theorem blkInsert_full {w : World} {p : Nat} {l : List Bool} (h : IsBlock w p l) (hl : l.length = 128) (k : Int) (b : Bool) :
    Calls Tryd.prog 30 #[.pointer (some ⟨p, 0, none⟩), .int .i64 k, .bool b] w fun e w' => e = .returned (.int .i64 3) ∧ w = w' := by
  obtain ⟨h0, _⟩ := h.cells
  rw [hl] at h0
  go_enter Tryd.func30, Tryd.ntmps30
  go_wp2_with fail
  go_ret
  exact ⟨rfl, rfl⟩
theorem blkInsert_range {w : World} {p : Nat} {l : List Bool} (h : IsBlock w p l) (hl : l.length < 128) (k : Int) (hk : k < 0 ∨ (l.length : Int) < k) (b : Bool) :
    Calls Tryd.prog 30 #[.pointer (some ⟨p, 0, none⟩), .int .i64 k, .bool b] w fun e w' => e = .returned (.int .i64 2) ∧ w = w' := by
  obtain ⟨h0, _⟩ := h.cells
  have hd : ((l.length : Int) == 128) = false := by simp; omega
  rcases hk with hk | hk
  · go_enter Tryd.func30, Tryd.ntmps30
    go_wp2_with fail
    go_ret
    exact ⟨rfl, rfl⟩
  · have hd2 : decide (k < 0) = false := by simp; omega
    go_enter Tryd.func30, Tryd.ntmps30
    go_wp2_with fail
    go_ret
    exact ⟨rfl, rfl⟩

set_option maxHeartbeats 3200000 in
set_option maxRecDepth 100000 in
theorem blkInsert_lo {w : World} {p : Nat} {l : List Bool} (h : IsBlock w p l) (hl : l.length < 128) (k : Nat) (hk : k ≤ l.length) (h64 : k < 64) (b : Bool) :
    Calls Tryd.prog 30 #[.pointer (some ⟨p, 0, none⟩), .int .i64 k, .bool b] w fun e w' => e = .returned (.int .i64 0) ∧ BlkStep w w' p (inL l k b) := by
  have hB : Blk w p l.length (loW l) (hiW l) := h.2
  obtain ⟨c0, c1, c2, fz⟩ := hB.cells
  have f0 := fz 0
  have f1 := fz 1
  have f2 := fz 2
  have hd : ((l.length : Int) == 128) = false := by simp; omega
  have hd1 : decide ((k : Int) < 0) = false := by simp
  have hd2 : decide ((l.length : Int) < (k : Int)) = false := by simp; omega
  have q1 : (k : Int) / 64 = 0 := by omega
  have q2 : (k : Int) % 64 = k := by omega
  have hx := loW_lt l
  have hy := hiW_lt l
  have e1 := lo_in b hk h64
  have e2 := hi_in b hk h64
  have e3 := inL_len (b := b) hk
  have E1 := Lib.hid e1
  have E2 := Lib.hid e2
  have E3 := Lib.hid e3
  have HB := Lib.hid hB
  clear e1 e2 e3 hB h fz
  generalize loW l = x at *
  generalize hiW l = y at *
  go_enter Tryd.func30, Tryd.ntmps30
  go_wp2_with fail
  refine wp_loop_rounds 3 ?_
  rw [rounds_succ]
  go_wp2_with fail
  refine reg_start (fun _ => True) (by kernel_rfl) (trivial) (fun hHeld => ?_)
  refine reg_take (i := 0) (v := ?v0) rfl (by kernel_rfl) rfl hHeld ?y0 ?r0
  case y0 => (intro w hSw; (try dsimp only at hSw); go_simp; all_goals with_reducible rfl)
  try simp only [Act.put, List.setIfInBounds_toArray, List.set_cons_zero, List.set_cons_succ]
  refine reg_take (i := 1) (v := ?v1) rfl (by kernel_rfl) rfl hHeld ?y1 ?r1
  case y1 => (intro w hSw; (try dsimp only at hSw); go_simp; all_goals with_reducible rfl)
  try simp only [Act.put, List.setIfInBounds_toArray, List.set_cons_zero, List.set_cons_succ]
  refine reg_take (i := 2) (v := ?v2) rfl (by kernel_rfl) rfl hHeld ?y2 ?r2
  case y2 => (intro w hSw; (try dsimp only at hSw); go_simp; all_goals with_reducible rfl)
  try simp only [Act.put, List.setIfInBounds_toArray, List.set_cons_zero, List.set_cons_succ]
  refine reg_take (i := 3) (v := ?v3) rfl (by kernel_rfl) rfl hHeld ?y3 ?r3
  case y3 => (intro w hSw; (try dsimp only at hSw); go_simp; all_goals with_reducible rfl)
  try simp only [Act.put, List.setIfInBounds_toArray, List.set_cons_zero, List.set_cons_succ]
  refine reg_take (i := 4) (v := ?v4) rfl (by kernel_rfl) rfl hHeld ?y4 ?r4
  case y4 => (intro w hSw; (try dsimp only at hSw); go_simp; all_goals with_reducible rfl)
  try simp only [Act.put, List.setIfInBounds_toArray, List.set_cons_zero, List.set_cons_succ]
  refine reg_take (i := 5) (v := ?v5) rfl (by kernel_rfl) rfl hHeld ?y5 ?r5
  case y5 => (intro w hSw; (try dsimp only at hSw); go_simp; all_goals with_reducible rfl)
  try simp only [Act.put, List.setIfInBounds_toArray, List.set_cons_zero, List.set_cons_succ]
  refine reg_take (i := 6) (v := ?v6) rfl (by kernel_rfl) rfl hHeld ?y6 ?r6
  case y6 => (intro w hSw; (try dsimp only at hSw); go_simp; all_goals with_reducible rfl)
  try simp only [Act.put, List.setIfInBounds_toArray, List.set_cons_zero, List.set_cons_succ]
  refine reg_take (i := 8) (v := ?v8) rfl (by kernel_rfl) rfl hHeld ?y8 ?r8
  case y8 => (intro w hSw; (try dsimp only at hSw); go_simp; all_goals with_reducible rfl)
  try simp only [Act.put, List.setIfInBounds_toArray, List.set_cons_zero, List.set_cons_succ]
  refine reg_take (i := 9) (v := ?v9) rfl (by kernel_rfl) rfl hHeld ?y9 ?r9
  case y9 => (intro w hSw; (try dsimp only at hSw); go_simp; all_goals with_reducible rfl)
  try simp only [Act.put, List.setIfInBounds_toArray, List.set_cons_zero, List.set_cons_succ]
  refine reg_take (i := 14) (v := ?v14) rfl (by kernel_rfl) rfl hHeld ?y14 ?r14
  case y14 => (intro w hSw; (try dsimp only at hSw); go_simp; all_goals with_reducible rfl)
  try simp only [Act.put, List.setIfInBounds_toArray, List.set_cons_zero, List.set_cons_succ]
  refine reg_take (i := 15) (v := ?v15) rfl (by kernel_rfl) rfl hHeld ?y15 ?r15
  case y15 => (intro w hSw; (try dsimp only at hSw); go_simp; all_goals with_reducible rfl)
  try simp only [Act.put, List.setIfInBounds_toArray, List.set_cons_zero, List.set_cons_succ]
  refine reg_loud (i := 7) rfl (by kernel_rfl) rfl (fun K hK => ?_)
  go_simp
  refine hK.out _ _ (trivial) (fun hNew => ?_)
  clear hK K hHeld
  have hHeld := hNew
  clear hNew
  try simp only [Act.put, List.setIfInBounds_toArray, List.set_cons_zero, List.set_cons_succ]
  refine reg_loud (i := 10) rfl (by kernel_rfl) rfl (fun K hK => ?_)
  go_simp
  refine (put_good x k b _ hx h64).mono ?_
  rintro e w' ⟨rfl, rfl⟩
  go_wp2_with fail
  refine hK.out _ _ (trivial) (fun hNew => ?_)
  clear hK K hHeld
  have hHeld := hNew
  clear hNew
  try simp only [Act.put, List.setIfInBounds_toArray, List.set_cons_zero, List.set_cons_succ]
  refine reg_take (i := 11) (v := ?v11) rfl (by kernel_rfl) rfl hHeld ?y11 ?r11
  case y11 => (intro w hSw; (try dsimp only at hSw); go_simp; all_goals with_reducible rfl)
  try simp only [Act.put, List.setIfInBounds_toArray, List.set_cons_zero, List.set_cons_succ]
  refine reg_take (i := 12) (v := ?v12) rfl (by kernel_rfl) rfl hHeld ?y12 ?r12
  case y12 => (intro w hSw; (try dsimp only at hSw); go_simp; all_goals with_reducible rfl)
  try simp only [Act.put, List.setIfInBounds_toArray, List.set_cons_zero, List.set_cons_succ]
  refine reg_take (i := 13) (v := ?v13) rfl (by kernel_rfl) rfl hHeld ?y13 ?r13
  case y13 => (intro w hSw; (try dsimp only at hSw); go_simp; all_goals with_reducible rfl)
  try simp only [Act.put, List.setIfInBounds_toArray, List.set_cons_zero, List.set_cons_succ]
  refine reg_take (i := 16) (v := ?v16) rfl (by kernel_rfl) rfl hHeld ?y16 ?r16
  case y16 => (intro w hSw; (try dsimp only at hSw); go_simp; all_goals with_reducible rfl)
  try simp only [Act.put, List.setIfInBounds_toArray, List.set_cons_zero, List.set_cons_succ]
  refine reg_loud (i := 17) rfl (by kernel_rfl) rfl (fun K hK => ?_)
  go_simp
  refine hK.out _ _ (trivial) (fun hNew => ?_)
  clear hK K hHeld
  have hHeld := hNew
  clear hNew
  try simp only [Act.put, List.setIfInBounds_toArray, List.set_cons_zero, List.set_cons_succ]
  refine reg_take (i := 18) (v := ?v18) rfl (by kernel_rfl) rfl hHeld ?y18 ?r18
  case y18 => (intro w hSw; (try dsimp only at hSw); go_simp; all_goals with_reducible rfl)
  try simp only [Act.put, List.setIfInBounds_toArray, List.set_cons_zero, List.set_cons_succ]
  refine reg_done (by kernel_rfl) ?_ _
  go_wp2_with fail
  rw [rounds_succ]
  go_wp2_with fail
  refine reg_start (fun _ => True) (by kernel_rfl) (trivial) (fun hHeld => ?_)
  refine reg_take (i := 0) (v := ?vb0) rfl (by kernel_rfl) rfl hHeld ?yb0 ?rb0
  case yb0 => (intro w hSw; (try dsimp only at hSw); go_simp; all_goals with_reducible rfl)
  try simp only [Act.put, List.setIfInBounds_toArray, List.set_cons_zero, List.set_cons_succ]
  refine reg_take (i := 1) (v := ?vb1) rfl (by kernel_rfl) rfl hHeld ?yb1 ?rb1
  case yb1 => (intro w hSw; (try dsimp only at hSw); go_simp; all_goals with_reducible rfl)
  try simp only [Act.put, List.setIfInBounds_toArray, List.set_cons_zero, List.set_cons_succ]
  refine reg_take (i := 2) (v := ?vb2) rfl (by kernel_rfl) rfl hHeld ?yb2 ?rb2
  case yb2 => (intro w hSw; (try dsimp only at hSw); go_simp; all_goals with_reducible rfl)
  try simp only [Act.put, List.setIfInBounds_toArray, List.set_cons_zero, List.set_cons_succ]
  refine reg_take (i := 3) (v := ?vb3) rfl (by kernel_rfl) rfl hHeld ?yb3 ?rb3
  case yb3 => (intro w hSw; (try dsimp only at hSw); go_simp; all_goals with_reducible rfl)
  try simp only [Act.put, List.setIfInBounds_toArray, List.set_cons_zero, List.set_cons_succ]
  refine reg_take (i := 4) (v := ?vb4) rfl (by kernel_rfl) rfl hHeld ?yb4 ?rb4
  case yb4 => (intro w hSw; (try dsimp only at hSw); go_simp; all_goals with_reducible rfl)
  try simp only [Act.put, List.setIfInBounds_toArray, List.set_cons_zero, List.set_cons_succ]
  refine reg_take (i := 5) (v := ?vb5) rfl (by kernel_rfl) rfl hHeld ?yb5 ?rb5
  case yb5 => (intro w hSw; (try dsimp only at hSw); go_simp; all_goals with_reducible rfl)
  try simp only [Act.put, List.setIfInBounds_toArray, List.set_cons_zero, List.set_cons_succ]
  refine reg_take (i := 6) (v := ?vb6) rfl (by kernel_rfl) rfl hHeld ?yb6 ?rb6
  case yb6 => (intro w hSw; (try dsimp only at hSw); go_simp; all_goals with_reducible rfl)
  try simp only [Act.put, List.setIfInBounds_toArray, List.set_cons_zero, List.set_cons_succ]
  refine reg_take (i := 8) (v := ?vb8) rfl (by kernel_rfl) rfl hHeld ?yb8 ?rb8
  case yb8 => (intro w hSw; (try dsimp only at hSw); go_simp; all_goals with_reducible rfl)
  try simp only [Act.put, List.setIfInBounds_toArray, List.set_cons_zero, List.set_cons_succ]
  refine reg_take (i := 9) (v := ?vb9) rfl (by kernel_rfl) rfl hHeld ?yb9 ?rb9
  case yb9 => (intro w hSw; (try dsimp only at hSw); go_simp; all_goals with_reducible rfl)
  try simp only [Act.put, List.setIfInBounds_toArray, List.set_cons_zero, List.set_cons_succ]
  refine reg_take (i := 14) (v := ?vb14) rfl (by kernel_rfl) rfl hHeld ?yb14 ?rb14
  case yb14 => (intro w hSw; (try dsimp only at hSw); go_simp; all_goals with_reducible rfl)
  try simp only [Act.put, List.setIfInBounds_toArray, List.set_cons_zero, List.set_cons_succ]
  refine reg_take (i := 15) (v := ?vb15) rfl (by kernel_rfl) rfl hHeld ?yb15 ?rb15
  case yb15 => (intro w hSw; (try dsimp only at hSw); go_simp; all_goals with_reducible rfl)
  try simp only [Act.put, List.setIfInBounds_toArray, List.set_cons_zero, List.set_cons_succ]
  refine reg_loud (i := 7) rfl (by kernel_rfl) rfl (fun K hK => ?_)
  go_simp
  refine hK.out _ _ (trivial) (fun hNew => ?_)
  clear hK K hHeld
  have hHeld := hNew
  clear hNew
  try simp only [Act.put, List.setIfInBounds_toArray, List.set_cons_zero, List.set_cons_succ]
  refine reg_loud (i := 10) rfl (by kernel_rfl) rfl (fun K hK => ?_)
  go_simp
  refine (put_lit (Y := ((putW y 0 (x.testBit 63) : Nat) : Int)) (c := y.testBit 63) y 0 _ hy (by omega) rfl rfl rfl rfl).mono ?_
  rintro e w' ⟨rfl, rfl⟩
  go_wp2_with fail
  refine hK.out _ _ (trivial) (fun hNew => ?_)
  clear hK K hHeld
  have hHeld := hNew
  clear hNew
  try simp only [Act.put, List.setIfInBounds_toArray, List.set_cons_zero, List.set_cons_succ]
  refine reg_take (i := 11) (v := ?vb11) rfl (by kernel_rfl) rfl hHeld ?yb11 ?rb11
  case yb11 => (intro w hSw; (try dsimp only at hSw); go_simp; all_goals with_reducible rfl)
  try simp only [Act.put, List.setIfInBounds_toArray, List.set_cons_zero, List.set_cons_succ]
  refine reg_take (i := 12) (v := ?vb12) rfl (by kernel_rfl) rfl hHeld ?yb12 ?rb12
  case yb12 => (intro w hSw; (try dsimp only at hSw); go_simp; all_goals with_reducible rfl)
  try simp only [Act.put, List.setIfInBounds_toArray, List.set_cons_zero, List.set_cons_succ]
  refine reg_take (i := 13) (v := ?vb13) rfl (by kernel_rfl) rfl hHeld ?yb13 ?rb13
  case yb13 => (intro w hSw; (try dsimp only at hSw); go_simp; all_goals with_reducible rfl)
  try simp only [Act.put, List.setIfInBounds_toArray, List.set_cons_zero, List.set_cons_succ]
  refine reg_take (i := 16) (v := ?vb16) rfl (by kernel_rfl) rfl hHeld ?yb16 ?rb16
  case yb16 => (intro w hSw; (try dsimp only at hSw); go_simp; all_goals with_reducible rfl)
  try simp only [Act.put, List.setIfInBounds_toArray, List.set_cons_zero, List.set_cons_succ]
  refine reg_loud (i := 17) rfl (by kernel_rfl) rfl (fun K hK => ?_)
  go_simp
  refine hK.out _ _ (trivial) (fun hNew => ?_)
  clear hK K hHeld
  have hHeld := hNew
  clear hNew
  try simp only [Act.put, List.setIfInBounds_toArray, List.set_cons_zero, List.set_cons_succ]
  refine reg_take (i := 18) (v := ?vb18) rfl (by kernel_rfl) rfl hHeld ?yb18 ?rb18
  case yb18 => (intro w hSw; (try dsimp only at hSw); go_simp; all_goals with_reducible rfl)
  try simp only [Act.put, List.setIfInBounds_toArray, List.set_cons_zero, List.set_cons_succ]
  refine reg_done (by kernel_rfl) ?_ _
  go_wp2_with fail
  rw [rounds_succ]
  go_wp2_with fail
  go_ret
  refine ⟨rfl, ⟨by rw [E3.out]; omega, ?_⟩, ?_⟩
  · rw [E1.out, E2.out, E3.out]
    exact ((HB.out.set1 _).set2 _).set0 _
  · exact ((((Chg.refl (S := fun q => q = p)).setCell ⟨p, 1, none⟩ (Or.inl rfl) _).setCell ⟨p, 2, none⟩ (Or.inl rfl) _).setCell ⟨p, 0, none⟩ (Or.inl rfl) _).drew.drew

set_option maxHeartbeats 3200000 in
set_option maxRecDepth 100000 in
theorem blkInsert_hi {w : World} {p : Nat} {l : List Bool} (h : IsBlock w p l) (hl : l.length < 128) (k : Nat) (hk : k ≤ l.length) (h64 : 64 ≤ k) (b : Bool) :
    Calls Tryd.prog 30 #[.pointer (some ⟨p, 0, none⟩), .int .i64 k, .bool b] w fun e w' => e = .returned (.int .i64 0) ∧ BlkStep w w' p (inL l k b) := by
  have hB : Blk w p l.length (loW l) (hiW l) := h.2
  obtain ⟨c0, c1, c2, fz⟩ := hB.cells
  have f0 := fz 0
  have f2 := fz 2
  have hd : ((l.length : Int) == 128) = false := by simp; omega
  have hd1 : decide ((k : Int) < 0) = false := by simp
  have hd2 : decide ((l.length : Int) < (k : Int)) = false := by simp; omega
  have q1 : (k : Int) / 64 = 1 := by omega
  have q2 : (k : Int) % 64 = ((k - 64 : Nat) : Int) := by omega
  have hy := hiW_lt l
  have e1 := lo_in2 b hk h64
  have e2 := hi_in2 b hk h64 (by omega)
  have e3 := inL_len (b := b) hk
  have E1 := Lib.hid e1
  have E2 := Lib.hid e2
  have E3 := Lib.hid e3
  have HB := Lib.hid hB
  have hm : k - 64 < 64 := by omega
  clear e1 e2 e3 hB h fz
  generalize loW l = x at *
  generalize hiW l = y at *
  generalize hmm : k - 64 = m at *
  clear hmm
  go_enter Tryd.func30, Tryd.ntmps30
  go_wp2_with fail
  refine wp_loop_rounds 2 ?_
  rw [rounds_succ]
  go_wp2_with fail
  refine reg_start (fun _ => True) (by kernel_rfl) (trivial) (fun hHeld => ?_)
  refine reg_take (i := 0) (v := ?v0) rfl (by kernel_rfl) rfl hHeld ?y0 ?r0
  case y0 => (intro w hSw; (try dsimp only at hSw); go_simp; all_goals with_reducible rfl)
  try simp only [Act.put, List.setIfInBounds_toArray, List.set_cons_zero, List.set_cons_succ]
  refine reg_take (i := 1) (v := ?v1) rfl (by kernel_rfl) rfl hHeld ?y1 ?r1
  case y1 => (intro w hSw; (try dsimp only at hSw); go_simp; all_goals with_reducible rfl)
  try simp only [Act.put, List.setIfInBounds_toArray, List.set_cons_zero, List.set_cons_succ]
  refine reg_take (i := 2) (v := ?v2) rfl (by kernel_rfl) rfl hHeld ?y2 ?r2
  case y2 => (intro w hSw; (try dsimp only at hSw); go_simp; all_goals with_reducible rfl)
  try simp only [Act.put, List.setIfInBounds_toArray, List.set_cons_zero, List.set_cons_succ]
  refine reg_take (i := 3) (v := ?v3) rfl (by kernel_rfl) rfl hHeld ?y3 ?r3
  case y3 => (intro w hSw; (try dsimp only at hSw); go_simp; all_goals with_reducible rfl)
  try simp only [Act.put, List.setIfInBounds_toArray, List.set_cons_zero, List.set_cons_succ]
  refine reg_take (i := 4) (v := ?v4) rfl (by kernel_rfl) rfl hHeld ?y4 ?r4
  case y4 => (intro w hSw; (try dsimp only at hSw); go_simp; all_goals with_reducible rfl)
  try simp only [Act.put, List.setIfInBounds_toArray, List.set_cons_zero, List.set_cons_succ]
  refine reg_take (i := 5) (v := ?v5) rfl (by kernel_rfl) rfl hHeld ?y5 ?r5
  case y5 => (intro w hSw; (try dsimp only at hSw); go_simp; all_goals with_reducible rfl)
  try simp only [Act.put, List.setIfInBounds_toArray, List.set_cons_zero, List.set_cons_succ]
  refine reg_take (i := 6) (v := ?v6) rfl (by kernel_rfl) rfl hHeld ?y6 ?r6
  case y6 => (intro w hSw; (try dsimp only at hSw); go_simp; all_goals with_reducible rfl)
  try simp only [Act.put, List.setIfInBounds_toArray, List.set_cons_zero, List.set_cons_succ]
  refine reg_take (i := 8) (v := ?v8) rfl (by kernel_rfl) rfl hHeld ?y8 ?r8
  case y8 => (intro w hSw; (try dsimp only at hSw); go_simp; all_goals with_reducible rfl)
  try simp only [Act.put, List.setIfInBounds_toArray, List.set_cons_zero, List.set_cons_succ]
  refine reg_take (i := 9) (v := ?v9) rfl (by kernel_rfl) rfl hHeld ?y9 ?r9
  case y9 => (intro w hSw; (try dsimp only at hSw); go_simp; all_goals with_reducible rfl)
  try simp only [Act.put, List.setIfInBounds_toArray, List.set_cons_zero, List.set_cons_succ]
  refine reg_take (i := 14) (v := ?v14) rfl (by kernel_rfl) rfl hHeld ?y14 ?r14
  case y14 => (intro w hSw; (try dsimp only at hSw); go_simp; all_goals with_reducible rfl)
  try simp only [Act.put, List.setIfInBounds_toArray, List.set_cons_zero, List.set_cons_succ]
  refine reg_take (i := 15) (v := ?v15) rfl (by kernel_rfl) rfl hHeld ?y15 ?r15
  case y15 => (intro w hSw; (try dsimp only at hSw); go_simp; all_goals with_reducible rfl)
  try simp only [Act.put, List.setIfInBounds_toArray, List.set_cons_zero, List.set_cons_succ]
  refine reg_loud (i := 7) rfl (by kernel_rfl) rfl (fun K hK => ?_)
  go_simp
  refine hK.out _ _ (trivial) (fun hNew => ?_)
  clear hK K hHeld
  have hHeld := hNew
  clear hNew
  try simp only [Act.put, List.setIfInBounds_toArray, List.set_cons_zero, List.set_cons_succ]
  refine reg_loud (i := 10) rfl (by kernel_rfl) rfl (fun K hK => ?_)
  go_simp
  refine (put_good y m b _ hy hm).mono ?_
  rintro e w' ⟨rfl, rfl⟩
  go_wp2_with fail
  refine hK.out _ _ (trivial) (fun hNew => ?_)
  clear hK K hHeld
  have hHeld := hNew
  clear hNew
  try simp only [Act.put, List.setIfInBounds_toArray, List.set_cons_zero, List.set_cons_succ]
  refine reg_take (i := 11) (v := ?v11) rfl (by kernel_rfl) rfl hHeld ?y11 ?r11
  case y11 => (intro w hSw; (try dsimp only at hSw); go_simp; all_goals with_reducible rfl)
  try simp only [Act.put, List.setIfInBounds_toArray, List.set_cons_zero, List.set_cons_succ]
  refine reg_take (i := 12) (v := ?v12) rfl (by kernel_rfl) rfl hHeld ?y12 ?r12
  case y12 => (intro w hSw; (try dsimp only at hSw); go_simp; all_goals with_reducible rfl)
  try simp only [Act.put, List.setIfInBounds_toArray, List.set_cons_zero, List.set_cons_succ]
  refine reg_take (i := 13) (v := ?v13) rfl (by kernel_rfl) rfl hHeld ?y13 ?r13
  case y13 => (intro w hSw; (try dsimp only at hSw); go_simp; all_goals with_reducible rfl)
  try simp only [Act.put, List.setIfInBounds_toArray, List.set_cons_zero, List.set_cons_succ]
  refine reg_take (i := 16) (v := ?v16) rfl (by kernel_rfl) rfl hHeld ?y16 ?r16
  case y16 => (intro w hSw; (try dsimp only at hSw); go_simp; all_goals with_reducible rfl)
  try simp only [Act.put, List.setIfInBounds_toArray, List.set_cons_zero, List.set_cons_succ]
  refine reg_loud (i := 17) rfl (by kernel_rfl) rfl (fun K hK => ?_)
  go_simp
  refine hK.out _ _ (trivial) (fun hNew => ?_)
  clear hK K hHeld
  have hHeld := hNew
  clear hNew
  try simp only [Act.put, List.setIfInBounds_toArray, List.set_cons_zero, List.set_cons_succ]
  refine reg_take (i := 18) (v := ?v18) rfl (by kernel_rfl) rfl hHeld ?y18 ?r18
  case y18 => (intro w hSw; (try dsimp only at hSw); go_simp; all_goals with_reducible rfl)
  try simp only [Act.put, List.setIfInBounds_toArray, List.set_cons_zero, List.set_cons_succ]
  refine reg_done (by kernel_rfl) ?_ _
  go_wp2_with fail
  rw [rounds_succ]
  go_wp2_with fail
  go_ret
  refine ⟨rfl, ⟨by rw [E3.out]; omega, ?_⟩, ?_⟩
  · rw [E1.out, E2.out, E3.out]
    exact (HB.out.set2 _).set0 _
  · exact (((Chg.refl (S := fun q => q = p)).setCell ⟨p, 2, none⟩ (Or.inl rfl) _).setCell ⟨p, 0, none⟩ (Or.inl rfl) _).drew

theorem blkInsert {w : World} {p : Nat} {l : List Bool} (h : IsBlock w p l) (hl : l.length < 128) (k : Nat) (hk : k ≤ l.length) (b : Bool) :
    Calls Tryd.prog 30 #[.pointer (some ⟨p, 0, none⟩), .int .i64 k, .bool b] w fun e w' => e = .returned (.int .i64 0) ∧ BlkStep w w' p (inL l k b) := by
  by_cases h64 : k < 64
  · exact blkInsert_lo h hl k hk h64 b
  · exact blkInsert_hi h hl k hk (by omega) b

theorem blkDelete_bad {w : World} {p : Nat} {l : List Bool} (h : IsBlock w p l) (k : Int) (hk : k < 0 ∨ (l.length : Int) ≤ k) :
    Calls Tryd.prog 32 #[.pointer (some ⟨p, 0, none⟩), .int .i64 k] w fun e w' => e = .returned (.tuple #[.bool false, .int .i64 2]) ∧ w = w' := by
  have hR : hasL l k = 2 := by unfold hasL; rw [if_neg (by omega)]
  have HR := Lib.hid hR
  clear hR
  go_enter Tryd.func32, Tryd.ntmps32
  go_wp2_with fail
  refine (blkHas h k).mono ?_
  rintro e w' ⟨rfl, rfl⟩
  rw [HR.out]
  go_wp2_with fail
  go_ret2
  exact ⟨rfl, rfl⟩

set_option maxHeartbeats 3200000 in
set_option maxRecDepth 100000 in
theorem blkDelete_lo {w : World} {p : Nat} {l : List Bool} (h : IsBlock w p l) (k : Nat) (hk : k < l.length) (h64 : k < 64) :
    Calls Tryd.prog 32 #[.pointer (some ⟨p, 0, none⟩), .int .i64 k] w fun e w' => e = .returned (.tuple #[.bool (bitAt l k), .int .i64 0]) ∧ BlkStep w w' p (outL l k) := by
  have hB : Blk w p l.length (loW l) (hiW l) := h.2
  obtain ⟨c0, c1, c2, fz⟩ := hB.cells
  have f0 := fz 0
  have f1 := fz 1
  have f2 := fz 2
  have hR : hasL l k = 0 := by unfold hasL; rw [if_pos (by omega)]
  have HR := Lib.hid hR
  have HH := Lib.hid h
  have q1 : (k : Int) / 64 = 0 := by omega
  have q7 : IntKind.i64.wrap 0 = 0 := by decide
  obtain ⟨q3, q4, q5⟩ := quo_lo h64
  have Q6 : Hid ((k : Int).tmod 64 = (k : Int)) := by show _ = _; rw [Int.tmod_eq_emod_of_nonneg (by omega)]; omega
  have hx := loW_lt l
  have hy := hiW_lt l
  have hl := h.1
  have e1 := lo_out hk h64
  have e2 := hi_out hk h64 h.1
  have e3 := outL_len hk
  have e4 := loW_bit (l := l) h64
  obtain ⟨yb, hyb⟩ : ∃ yb, (hiW l).testBit 0 = yb := ⟨_, rfl⟩
  rw [hyb] at e1
  have HYB := Lib.hid hyb
  have E1 := Lib.hid e1
  have E2 := Lib.hid e2
  have E3 := Lib.hid e3
  have E4 := Lib.hid e4
  have HB := Lib.hid hB
  clear e1 e2 e3 e4 hB h fz hR q4 q5 hyb
  generalize loW l = x at *
  generalize hiW l = y at *
  go_enter Tryd.func32, Tryd.ntmps32
  go_wp2_with fail
  refine (blkHas HH.out k).mono ?_
  rintro e w' ⟨rfl, rfl⟩
  rw [HR.out]
  go_wp2_with fail
  refine wp_loop_rounds 2 ?_
  rw [rounds_succ]
  go_wp2_with fail
  refine reg_start (fun _ => True) (by kernel_rfl) (trivial) (fun hHeld => ?_)
  refine reg_take (i := 0) (v := ?v0) rfl (by kernel_rfl) rfl hHeld ?y0 ?r0
  case y0 => (intro w hSw; (try dsimp only at hSw); go_simp; all_goals with_reducible rfl)
  try simp only [Act.put, List.setIfInBounds_toArray, List.set_cons_zero, List.set_cons_succ]
  refine reg_take (i := 1) (v := ?v1) rfl (by kernel_rfl) rfl hHeld ?y1 ?r1
  case y1 => (intro w hSw; (try dsimp only at hSw); go_simp; all_goals with_reducible rfl)
  try simp only [Act.put, List.setIfInBounds_toArray, List.set_cons_zero, List.set_cons_succ]
  refine reg_take (i := 2) (v := ?v2) rfl (by kernel_rfl) rfl hHeld ?y2 ?r2
  case y2 => (intro w hSw; (try dsimp only at hSw); go_simp; all_goals with_reducible rfl)
  try simp only [Act.put, List.setIfInBounds_toArray, List.set_cons_zero, List.set_cons_succ]
  refine reg_take (i := 3) (v := ?v3) rfl (by kernel_rfl) rfl hHeld ?y3 ?r3
  case y3 => (intro w hSw; (try dsimp only at hSw); go_simp; all_goals with_reducible rfl)
  try simp only [Act.put, List.setIfInBounds_toArray, List.set_cons_zero, List.set_cons_succ]
  refine reg_take (i := 4) (v := ?v4) rfl (by kernel_rfl) rfl hHeld ?y4 ?r4
  case y4 => (intro w hSw; (try dsimp only at hSw); go_simp; all_goals with_reducible rfl)
  try simp only [Act.put, List.setIfInBounds_toArray, List.set_cons_zero, List.set_cons_succ]
  refine reg_take (i := 5) (v := ?v5) rfl (by kernel_rfl) rfl hHeld ?y5 ?r5
  case y5 => (intro w hSw; (try dsimp only at hSw); go_simp; all_goals with_reducible rfl)
  try simp only [Act.put, List.setIfInBounds_toArray, List.set_cons_zero, List.set_cons_succ]
  refine reg_take (i := 6) (v := ?v6) rfl (by kernel_rfl) rfl hHeld ?y6 ?r6
  case y6 => (intro w hSw; (try dsimp only at hSw); go_simp; all_goals with_reducible rfl)
  try simp only [Act.put, List.setIfInBounds_toArray, List.set_cons_zero, List.set_cons_succ]
  refine reg_take (i := 8) (v := ?v8) rfl (by kernel_rfl) rfl hHeld ?y8 ?r8
  case y8 => (intro w hSw; (try dsimp only at hSw); go_simp; all_goals with_reducible rfl)
  try simp only [Act.put, List.setIfInBounds_toArray, List.set_cons_zero, List.set_cons_succ]
  refine reg_take (i := 13) (v := ?v13) rfl (by kernel_rfl) rfl hHeld ?y13 ?r13
  case y13 => (intro w hSw; (try dsimp only at hSw); go_simp; all_goals with_reducible rfl)
  try simp only [Act.put, List.setIfInBounds_toArray, List.set_cons_zero, List.set_cons_succ]
  refine reg_take (i := 14) (v := ?v14) rfl (by kernel_rfl) rfl hHeld ?y14 ?r14
  case y14 => (intro w hSw; (try dsimp only at hSw); go_simp; all_goals with_reducible rfl)
  try simp only [Act.put, List.setIfInBounds_toArray, List.set_cons_zero, List.set_cons_succ]
  refine reg_loud (i := 7) rfl (by kernel_rfl) rfl (fun K hK => ?_)
  go_simp
  refine hK.out _ _ (trivial) (fun hNew => ?_)
  clear hK K hHeld
  have hHeld := hNew
  clear hNew
  try simp only [Act.put, List.setIfInBounds_toArray, List.set_cons_zero, List.set_cons_succ]
  refine reg_loud (i := 9) rfl (by kernel_rfl) rfl (fun K hK => ?_)
  go_simp
  refine (cut_lit (Y := ((cutW y 0 false : Nat) : Int)) (c := yb) y 0 _ hy (by omega) rfl rfl rfl HYB.out).mono ?_
  rintro e w' ⟨rfl, rfl⟩
  go_wp2_with fail
  refine hK.out _ _ (trivial) (fun hNew => ?_)
  clear hK K hHeld
  have hHeld := hNew
  clear hNew
  try simp only [Act.put, List.setIfInBounds_toArray, List.set_cons_zero, List.set_cons_succ]
  refine reg_take (i := 10) (v := ?v10) rfl (by kernel_rfl) rfl hHeld ?y10 ?r10
  case y10 => (intro w hSw; (try dsimp only at hSw); go_simp; all_goals with_reducible rfl)
  try simp only [Act.put, List.setIfInBounds_toArray, List.set_cons_zero, List.set_cons_succ]
  refine reg_take (i := 11) (v := ?v11) rfl (by kernel_rfl) rfl hHeld ?y11 ?r11
  case y11 => (intro w hSw; (try dsimp only at hSw); go_simp; all_goals with_reducible rfl)
  try simp only [Act.put, List.setIfInBounds_toArray, List.set_cons_zero, List.set_cons_succ]
  refine reg_take (i := 12) (v := ?v12) rfl (by kernel_rfl) rfl hHeld ?y12 ?r12
  case y12 => (intro w hSw; (try dsimp only at hSw); go_simp; all_goals with_reducible rfl)
  try simp only [Act.put, List.setIfInBounds_toArray, List.set_cons_zero, List.set_cons_succ]
  refine reg_take (i := 15) (v := ?v15) rfl (by kernel_rfl) rfl hHeld ?y15 ?r15
  case y15 => (intro w hSw; (try dsimp only at hSw); go_simp; all_goals with_reducible rfl)
  try simp only [Act.put, List.setIfInBounds_toArray, List.set_cons_zero, List.set_cons_succ]
  refine reg_loud (i := 16) rfl (by kernel_rfl) rfl (fun K hK => ?_)
  go_simp
  refine hK.out _ _ (trivial) (fun hNew => ?_)
  clear hK K hHeld
  have hHeld := hNew
  clear hNew
  try simp only [Act.put, List.setIfInBounds_toArray, List.set_cons_zero, List.set_cons_succ]
  refine reg_take (i := 17) (v := ?v17) rfl (by kernel_rfl) rfl hHeld ?y17 ?r17
  case y17 => (intro w hSw; (try dsimp only at hSw); go_simp; all_goals with_reducible rfl)
  try simp only [Act.put, List.setIfInBounds_toArray, List.set_cons_zero, List.set_cons_succ]
  refine reg_done (by kernel_rfl) ?_ _
  go_wp2_with fail
  rw [rounds_succ]
  go_wp2_with fail
  refine reg_start (fun _ => True) (by kernel_rfl) (trivial) (fun hHeld => ?_)
  refine reg_take (i := 0) (v := ?vb0) rfl (by kernel_rfl) rfl hHeld ?yb0 ?rb0
  case yb0 => (intro w hSw; (try dsimp only at hSw); go_simp; all_goals with_reducible rfl)
  try simp only [Act.put, List.setIfInBounds_toArray, List.set_cons_zero, List.set_cons_succ]
  refine reg_take (i := 1) (v := ?vb1) rfl (by kernel_rfl) rfl hHeld ?yb1 ?rb1
  case yb1 => (intro w hSw; (try dsimp only at hSw); go_simp; all_goals with_reducible rfl)
  try simp only [Act.put, List.setIfInBounds_toArray, List.set_cons_zero, List.set_cons_succ]
  refine reg_take (i := 2) (v := ?vb2) rfl (by kernel_rfl) rfl hHeld ?yb2 ?rb2
  case yb2 => (intro w hSw; (try dsimp only at hSw); go_simp; all_goals with_reducible rfl)
  try simp only [Act.put, List.setIfInBounds_toArray, List.set_cons_zero, List.set_cons_succ]
  refine reg_take (i := 3) (v := ?vb3) rfl (by kernel_rfl) rfl hHeld ?yb3 ?rb3
  case yb3 => (intro w hSw; (try dsimp only at hSw); go_simp; all_goals with_reducible rfl)
  try simp only [Act.put, List.setIfInBounds_toArray, List.set_cons_zero, List.set_cons_succ]
  refine reg_take (i := 4) (v := ?vb4) rfl (by kernel_rfl) rfl hHeld ?yb4 ?rb4
  case yb4 => (intro w hSw; (try dsimp only at hSw); go_simp; all_goals with_reducible rfl)
  try simp only [Act.put, List.setIfInBounds_toArray, List.set_cons_zero, List.set_cons_succ]
  refine reg_take (i := 5) (v := ?vb5) rfl (by kernel_rfl) rfl hHeld ?yb5 ?rb5
  case yb5 => (intro w hSw; (try dsimp only at hSw); go_simp; all_goals with_reducible rfl)
  try simp only [Act.put, List.setIfInBounds_toArray, List.set_cons_zero, List.set_cons_succ]
  refine reg_take (i := 6) (v := ?vb6) rfl (by kernel_rfl) rfl hHeld ?yb6 ?rb6
  case yb6 => (intro w hSw; (try dsimp only at hSw); go_simp; all_goals with_reducible rfl)
  try simp only [Act.put, List.setIfInBounds_toArray, List.set_cons_zero, List.set_cons_succ]
  refine reg_take (i := 7) (v := ?vb7) rfl (by kernel_rfl) rfl hHeld ?yb7 ?rb7
  case yb7 => (intro w hSw; (try dsimp only at hSw); go_simp; all_goals with_reducible rfl)
  try simp only [Act.put, List.setIfInBounds_toArray, List.set_cons_zero, List.set_cons_succ]
  refine reg_take (i := 8) (v := ?vb8) rfl (by kernel_rfl) rfl hHeld ?yb8 ?rb8
  case yb8 => (intro w hSw; (try dsimp only at hSw); go_simp; all_goals with_reducible rfl)
  try simp only [Act.put, List.setIfInBounds_toArray, List.set_cons_zero, List.set_cons_succ]
  refine reg_take (i := 10) (v := ?vb10) rfl (by kernel_rfl) rfl hHeld ?yb10 ?rb10
  case yb10 => (intro w hSw; (try dsimp only at hSw); go_simp; all_goals with_reducible rfl)
  try simp only [Act.put, List.setIfInBounds_toArray, List.set_cons_zero, List.set_cons_succ]
  refine reg_take (i := 11) (v := ?vb11) rfl (by kernel_rfl) rfl hHeld ?yb11 ?rb11
  case yb11 => (intro w hSw; (try dsimp only at hSw); go_simp; all_goals with_reducible rfl)
  try simp only [Act.put, List.setIfInBounds_toArray, List.set_cons_zero, List.set_cons_succ]
  refine reg_take (i := 12) (v := ?vb12) rfl (by kernel_rfl) rfl hHeld ?yb12 ?rb12
  case yb12 => (intro w hSw; (try dsimp only at hSw); go_simp; all_goals with_reducible rfl)
  try simp only [Act.put, List.setIfInBounds_toArray, List.set_cons_zero, List.set_cons_succ]
  refine reg_take (i := 17) (v := ?vb17) rfl (by kernel_rfl) rfl hHeld ?yb17 ?rb17
  case yb17 => (intro w hSw; (try dsimp only at hSw); go_simp; all_goals with_reducible rfl)
  try simp only [Act.put, List.setIfInBounds_toArray, List.set_cons_zero, List.set_cons_succ]
  refine reg_take (i := 18) (v := ?vb18) rfl (by kernel_rfl) rfl hHeld ?yb18 ?rb18
  case yb18 => (intro w hSw; (try dsimp only at hSw); go_simp; all_goals with_reducible rfl)
  try simp only [Act.put, List.setIfInBounds_toArray, List.set_cons_zero, List.set_cons_succ]
  refine reg_loud (i := 9) rfl (by kernel_rfl) rfl (fun K hK => ?_)
  go_simp
  refine hK.out _ _ (trivial) (fun hNew => ?_)
  clear hK K hHeld
  have hHeld := hNew
  clear hNew
  try simp only [Act.put, List.setIfInBounds_toArray, List.set_cons_zero, List.set_cons_succ]
  refine reg_loud (i := 13) rfl (by kernel_rfl) rfl (fun K hK => ?_)
  go_simp
  refine (cut_lit (Y := ((cutW x k yb : Nat) : Int)) (c := bitAt l k) x k _ hx h64 rfl Q6.out rfl E4.out).mono ?_
  rintro e w' ⟨rfl, rfl⟩
  go_wp2_with fail
  refine hK.out _ _ (trivial) (fun hNew => ?_)
  clear hK K hHeld
  have hHeld := hNew
  clear hNew
  try simp only [Act.put, List.setIfInBounds_toArray, List.set_cons_zero, List.set_cons_succ]
  refine reg_take (i := 14) (v := ?vb14) rfl (by kernel_rfl) rfl hHeld ?yb14 ?rb14
  case yb14 => (intro w hSw; (try dsimp only at hSw); go_simp; all_goals with_reducible rfl)
  try simp only [Act.put, List.setIfInBounds_toArray, List.set_cons_zero, List.set_cons_succ]
  refine reg_take (i := 15) (v := ?vb15) rfl (by kernel_rfl) rfl hHeld ?yb15 ?rb15
  case yb15 => (intro w hSw; (try dsimp only at hSw); go_simp; all_goals with_reducible rfl)
  try simp only [Act.put, List.setIfInBounds_toArray, List.set_cons_zero, List.set_cons_succ]
  refine reg_take (i := 16) (v := ?vb16) rfl (by kernel_rfl) rfl hHeld ?yb16 ?rb16
  case yb16 => (intro w hSw; (try dsimp only at hSw); go_simp; all_goals with_reducible rfl)
  try simp only [Act.put, List.setIfInBounds_toArray, List.set_cons_zero, List.set_cons_succ]
  refine reg_take (i := 19) (v := ?vb19) rfl (by kernel_rfl) rfl hHeld ?yb19 ?rb19
  case yb19 => (intro w hSw; (try dsimp only at hSw); go_simp; all_goals with_reducible rfl)
  try simp only [Act.put, List.setIfInBounds_toArray, List.set_cons_zero, List.set_cons_succ]
  refine reg_loud (i := 20) rfl (by kernel_rfl) rfl (fun K hK => ?_)
  go_simp
  refine hK.out _ _ (trivial) (fun hNew => ?_)
  clear hK K hHeld
  have hHeld := hNew
  clear hNew
  try simp only [Act.put, List.setIfInBounds_toArray, List.set_cons_zero, List.set_cons_succ]
  refine reg_take (i := 21) (v := ?vb21) rfl (by kernel_rfl) rfl hHeld ?yb21 ?rb21
  case yb21 => (intro w hSw; (try dsimp only at hSw); go_simp; all_goals with_reducible rfl)
  try simp only [Act.put, List.setIfInBounds_toArray, List.set_cons_zero, List.set_cons_succ]
  refine reg_done (by kernel_rfl) ?_ _
  go_wp2_with fail
  go_ret2
  refine ⟨rfl, ⟨by rw [E3.out]; omega, ?_⟩, ?_⟩
  · rw [E1.out, E2.out, E3.out, show ((l.length - 1 : Nat) : Int) = (l.length : Int) - 1 by omega]
    exact ((HB.out.set2 _).set1 _).set0 _
  · exact ((((Chg.refl (S := fun q => q = p)).setCell ⟨p, 2, none⟩ (Or.inl rfl) _).setCell ⟨p, 1, none⟩ (Or.inl rfl) _).setCell ⟨p, 0, none⟩ (Or.inl rfl) _).drew.drew

set_option maxHeartbeats 3200000 in
set_option maxRecDepth 100000 in
theorem blkDelete_hi {w : World} {p : Nat} {l : List Bool} (h : IsBlock w p l) (k : Nat) (hk : k < l.length) (h64 : 64 ≤ k) :
    Calls Tryd.prog 32 #[.pointer (some ⟨p, 0, none⟩), .int .i64 k] w fun e w' => e = .returned (.tuple #[.bool (bitAt l k), .int .i64 0]) ∧ BlkStep w w' p (outL l k) := by
  have hB : Blk w p l.length (loW l) (hiW l) := h.2
  obtain ⟨c0, c1, c2, fz⟩ := hB.cells
  have f0 := fz 0
  have f2 := fz 2
  have hl := h.1
  have hR : hasL l k = 0 := by unfold hasL; rw [if_pos (by omega)]
  have HR := Lib.hid hR
  have HH := Lib.hid h
  have q1 : (k : Int) / 64 = 1 := by omega
  have q7 : IntKind.i64.wrap 1 = 1 := by decide
  obtain ⟨q3, q4, q5⟩ := quo_hi h64 (by omega)
  have hy := hiW_lt l
  have e1 := lo_out2 hk h64
  have e2 := hi_out2 hk h64 h.1
  have e3 := outL_len hk
  have hm : k - 64 < 64 := by omega
  have e4 := hiW_bit (l := l) hm
  rw [show 64 + (k - 64) = k by omega] at e4
  have Q6 : Hid ((k : Int).tmod 64 = ((k - 64 : Nat) : Int)) := by show _ = _; rw [Int.tmod_eq_emod_of_nonneg (by omega)]; omega
  have E1 := Lib.hid e1
  have E2 := Lib.hid e2
  have E3 := Lib.hid e3
  have E4 := Lib.hid e4
  have HB := Lib.hid hB
  clear e1 e2 e3 e4 hB h fz hR q4 q5
  generalize loW l = x at *
  generalize hiW l = y at *
  generalize hmm : k - 64 = m at *
  clear hmm
  go_enter Tryd.func32, Tryd.ntmps32
  go_wp2_with fail
  refine (blkHas HH.out k).mono ?_
  rintro e w' ⟨rfl, rfl⟩
  rw [HR.out]
  go_wp2_with fail
  refine wp_loop_rounds 1 ?_
  rw [rounds_succ]
  go_wp2_with fail
  refine reg_start (fun _ => True) (by kernel_rfl) (trivial) (fun hHeld => ?_)
  refine reg_take (i := 0) (v := ?v0) rfl (by kernel_rfl) rfl hHeld ?y0 ?r0
  case y0 => (intro w hSw; (try dsimp only at hSw); go_simp; all_goals with_reducible rfl)
  try simp only [Act.put, List.setIfInBounds_toArray, List.set_cons_zero, List.set_cons_succ]
  refine reg_take (i := 1) (v := ?v1) rfl (by kernel_rfl) rfl hHeld ?y1 ?r1
  case y1 => (intro w hSw; (try dsimp only at hSw); go_simp; all_goals with_reducible rfl)
  try simp only [Act.put, List.setIfInBounds_toArray, List.set_cons_zero, List.set_cons_succ]
  refine reg_take (i := 2) (v := ?v2) rfl (by kernel_rfl) rfl hHeld ?y2 ?r2
  case y2 => (intro w hSw; (try dsimp only at hSw); go_simp; all_goals with_reducible rfl)
  try simp only [Act.put, List.setIfInBounds_toArray, List.set_cons_zero, List.set_cons_succ]
  refine reg_take (i := 3) (v := ?v3) rfl (by kernel_rfl) rfl hHeld ?y3 ?r3
  case y3 => (intro w hSw; (try dsimp only at hSw); go_simp; all_goals with_reducible rfl)
  try simp only [Act.put, List.setIfInBounds_toArray, List.set_cons_zero, List.set_cons_succ]
  refine reg_take (i := 4) (v := ?v4) rfl (by kernel_rfl) rfl hHeld ?y4 ?r4
  case y4 => (intro w hSw; (try dsimp only at hSw); go_simp; all_goals with_reducible rfl)
  try simp only [Act.put, List.setIfInBounds_toArray, List.set_cons_zero, List.set_cons_succ]
  refine reg_take (i := 5) (v := ?v5) rfl (by kernel_rfl) rfl hHeld ?y5 ?r5
  case y5 => (intro w hSw; (try dsimp only at hSw); go_simp; all_goals with_reducible rfl)
  try simp only [Act.put, List.setIfInBounds_toArray, List.set_cons_zero, List.set_cons_succ]
  refine reg_take (i := 6) (v := ?v6) rfl (by kernel_rfl) rfl hHeld ?y6 ?r6
  case y6 => (intro w hSw; (try dsimp only at hSw); go_simp; all_goals with_reducible rfl)
  try simp only [Act.put, List.setIfInBounds_toArray, List.set_cons_zero, List.set_cons_succ]
  refine reg_take (i := 7) (v := ?v7) rfl (by kernel_rfl) rfl hHeld ?y7 ?r7
  case y7 => (intro w hSw; (try dsimp only at hSw); go_simp; all_goals with_reducible rfl)
  try simp only [Act.put, List.setIfInBounds_toArray, List.set_cons_zero, List.set_cons_succ]
  refine reg_take (i := 8) (v := ?v8) rfl (by kernel_rfl) rfl hHeld ?y8 ?r8
  case y8 => (intro w hSw; (try dsimp only at hSw); go_simp; all_goals with_reducible rfl)
  try simp only [Act.put, List.setIfInBounds_toArray, List.set_cons_zero, List.set_cons_succ]
  refine reg_take (i := 10) (v := ?v10) rfl (by kernel_rfl) rfl hHeld ?y10 ?r10
  case y10 => (intro w hSw; (try dsimp only at hSw); go_simp; all_goals with_reducible rfl)
  try simp only [Act.put, List.setIfInBounds_toArray, List.set_cons_zero, List.set_cons_succ]
  refine reg_take (i := 11) (v := ?v11) rfl (by kernel_rfl) rfl hHeld ?y11 ?r11
  case y11 => (intro w hSw; (try dsimp only at hSw); go_simp; all_goals with_reducible rfl)
  try simp only [Act.put, List.setIfInBounds_toArray, List.set_cons_zero, List.set_cons_succ]
  refine reg_take (i := 12) (v := ?v12) rfl (by kernel_rfl) rfl hHeld ?y12 ?r12
  case y12 => (intro w hSw; (try dsimp only at hSw); go_simp; all_goals with_reducible rfl)
  try simp only [Act.put, List.setIfInBounds_toArray, List.set_cons_zero, List.set_cons_succ]
  refine reg_take (i := 17) (v := ?v17) rfl (by kernel_rfl) rfl hHeld ?y17 ?r17
  case y17 => (intro w hSw; (try dsimp only at hSw); go_simp; all_goals with_reducible rfl)
  try simp only [Act.put, List.setIfInBounds_toArray, List.set_cons_zero, List.set_cons_succ]
  refine reg_take (i := 18) (v := ?v18) rfl (by kernel_rfl) rfl hHeld ?y18 ?r18
  case y18 => (intro w hSw; (try dsimp only at hSw); go_simp; all_goals with_reducible rfl)
  try simp only [Act.put, List.setIfInBounds_toArray, List.set_cons_zero, List.set_cons_succ]
  refine reg_loud (i := 9) rfl (by kernel_rfl) rfl (fun K hK => ?_)
  go_simp
  refine hK.out _ _ (trivial) (fun hNew => ?_)
  clear hK K hHeld
  have hHeld := hNew
  clear hNew
  try simp only [Act.put, List.setIfInBounds_toArray, List.set_cons_zero, List.set_cons_succ]
  refine reg_loud (i := 13) rfl (by kernel_rfl) rfl (fun K hK => ?_)
  go_simp
  refine (cut_lit (Y := ((cutW y m false : Nat) : Int)) (c := bitAt l k) y m _ hy hm rfl Q6.out rfl E4.out).mono ?_
  rintro e w' ⟨rfl, rfl⟩
  go_wp2_with fail
  refine hK.out _ _ (trivial) (fun hNew => ?_)
  clear hK K hHeld
  have hHeld := hNew
  clear hNew
  try simp only [Act.put, List.setIfInBounds_toArray, List.set_cons_zero, List.set_cons_succ]
  refine reg_take (i := 14) (v := ?v14) rfl (by kernel_rfl) rfl hHeld ?y14 ?r14
  case y14 => (intro w hSw; (try dsimp only at hSw); go_simp; all_goals with_reducible rfl)
  try simp only [Act.put, List.setIfInBounds_toArray, List.set_cons_zero, List.set_cons_succ]
  refine reg_take (i := 15) (v := ?v15) rfl (by kernel_rfl) rfl hHeld ?y15 ?r15
  case y15 => (intro w hSw; (try dsimp only at hSw); go_simp; all_goals with_reducible rfl)
  try simp only [Act.put, List.setIfInBounds_toArray, List.set_cons_zero, List.set_cons_succ]
  refine reg_take (i := 16) (v := ?v16) rfl (by kernel_rfl) rfl hHeld ?y16 ?r16
  case y16 => (intro w hSw; (try dsimp only at hSw); go_simp; all_goals with_reducible rfl)
  try simp only [Act.put, List.setIfInBounds_toArray, List.set_cons_zero, List.set_cons_succ]
  refine reg_take (i := 19) (v := ?v19) rfl (by kernel_rfl) rfl hHeld ?y19 ?r19
  case y19 => (intro w hSw; (try dsimp only at hSw); go_simp; all_goals with_reducible rfl)
  try simp only [Act.put, List.setIfInBounds_toArray, List.set_cons_zero, List.set_cons_succ]
  refine reg_loud (i := 20) rfl (by kernel_rfl) rfl (fun K hK => ?_)
  go_simp
  refine hK.out _ _ (trivial) (fun hNew => ?_)
  clear hK K hHeld
  have hHeld := hNew
  clear hNew
  try simp only [Act.put, List.setIfInBounds_toArray, List.set_cons_zero, List.set_cons_succ]
  refine reg_take (i := 21) (v := ?v21) rfl (by kernel_rfl) rfl hHeld ?y21 ?r21
  case y21 => (intro w hSw; (try dsimp only at hSw); go_simp; all_goals with_reducible rfl)
  try simp only [Act.put, List.setIfInBounds_toArray, List.set_cons_zero, List.set_cons_succ]
  refine reg_done (by kernel_rfl) ?_ _
  go_wp2_with fail
  go_ret2
  refine ⟨rfl, ⟨by rw [E3.out]; omega, ?_⟩, ?_⟩
  · rw [E1.out, E2.out, E3.out, show ((l.length - 1 : Nat) : Int) = (l.length : Int) - 1 by omega]
    exact (HB.out.set2 _).set0 _
  · exact (((Chg.refl (S := fun q => q = p)).setCell ⟨p, 2, none⟩ (Or.inl rfl) _).setCell ⟨p, 0, none⟩ (Or.inl rfl) _).drew

theorem blkDelete {w : World} {p : Nat} {l : List Bool} (h : IsBlock w p l) (k : Nat) (hk : k < l.length) :
    Calls Tryd.prog 32 #[.pointer (some ⟨p, 0, none⟩), .int .i64 k] w fun e w' => e = .returned (.tuple #[.bool (bitAt l k), .int .i64 0]) ∧ BlkStep w w' p (outL l k) := by
  by_cases h64 : k < 64
  · exact blkDelete_lo h k hk h64
  · exact blkDelete_hi h k hk (by omega)

end Go.Proofs.YticbfhbilfgoiaaDoor
