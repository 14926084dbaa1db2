/- Lemmas and contracts under the claims of this seat: Contracts of package block that write: New, set, Insert, Delete. Contracts of block.All, Split, Join. Contracts of the reference's rows of bits: Ranks, Selects, Gets, Same. What a walk is told of the arguments that came in: rows of integers and of bools. The laws' helpers of layer 2: Bits, told; frames of blocks for a law's walk. Contracts of the reference's words and rows of bits. Contracts of the reference's In and Out, Put and Cut. What a walk is told of an argument that is a row of structs of two integers and a bool. 'append(s, make([]E, m)...)' onto an own row of one-cell elements; of no program. What the walk of BlockPlays keeps; scrimshawlaw2.same. The listed table, as a walk reads it. -/
import Derived.Test.YtacoeohmdngnkaaDoorZb1
import Derived.Deep.DeepCutAuto
import Derived.Deep.CutBlock
import Derived.Deep.CutRange
import Derived.Laws.MakeOwn
import Derived.LaidEqlPtr
import Derived.Deep.QuietTactic
import Derived.BigQuiet
import Derived.ProofKit
import Derived.OpenShut
import Derived.ShutString
import Derived.ChangeOld
import Derived.Below
import Derived.Deep.SlicePairs
import Derived.Test.YtacoeohmdngnkaaDoorRows
import Derived.Lib.LaidTab
import Derived.Lay
import Derived.LaidSub
import Derived.MakeChecks
import Derived.SevenTiedAt
import Derived.JoinedOf
import Derived.ChangeVars

namespace Go.Proofs.YtacoeohmdngnkaaDoor
set_option linter.unusedVariables false
set_option linter.unusedSimpArgs false
open Go.RowKit

/-- Block p: so many bits, two words. -/
def Blk (w : World) (p : Nat) (n : Int) (x y : Nat) : Prop := w.heap[p]? = some (.cells #[.int .i64 n, .int .u64 x, .int .u64 y] 71 (0, 0))
theorem Blk.cells {w : World} {p : Nat} {n : Int} {x y : Nat} (h : Blk w p n x y) : w.cell? ⟨p, 0, none⟩ = some (.int .i64 n) ∧ w.cell? ⟨p, 1, none⟩ = some (.int .u64 x) ∧ w.cell? ⟨p, 2, none⟩ = some (.int .u64 y) ∧ ∀ j, w.frozen? ⟨p, j, none⟩ = false :=
  ⟨by rw [cell_of_row w p 0 _ _ _ h]; rfl, by rw [cell_of_row w p 1 _ _ _ h]; rfl, by rw [cell_of_row w p 2 _ _ _ h]; rfl, fun j => frozen_of_row w p j _ _ h⟩
theorem Blk.set0 {w : World} {p : Nat} {n : Int} {x y : Nat} (h : Blk w p n x y) (n' : Int) : Blk (w.setCell ⟨p, 0, none⟩ (.int .i64 n')) p n' x y := heap_setCell_same w p 0 _ _ (.int .i64 n') h
theorem Blk.set1 {w : World} {p : Nat} {n : Int} {x y : Nat} (h : Blk w p n x y) (x' : Nat) : Blk (w.setCell ⟨p, 1, none⟩ (.int .u64 x')) p n x' y := heap_setCell_same w p 1 _ _ (.int .u64 x') h
theorem Blk.set2 {w : World} {p : Nat} {n : Int} {x y : Nat} (h : Blk w p n x y) (y' : Nat) : Blk (w.setCell ⟨p, 2, none⟩ (.int .u64 y')) p n x y' := heap_setCell_same w p 2 _ _ (.int .u64 y') h
theorem Blk.lt {w : World} {p : Nat} {n : Int} {x y : Nat} (h : Blk w p n x y) : p < w.heap.size := (Array.getElem?_eq_some_iff.1 h).1

theorem pow_u64 {k : Nat} (h : k < 64) : IntKind.u64.wrap ((2 : Int) ^ k) = ((2 ^ k : Nat) : Int) := by
  have h2 := two_pow_lt h
  have h3 := Nat.two_pow_pos k
  rw [int_two_pow]; exact u64w (by omega) (by omega)
theorem bit_in {k m : Nat} (h : k % 64 = m) : IntKind.u64.wrap ((2 : Int) ^ min (IntKind.u64.wrap ((k : Int).tmod 64)).toNat 64) = ((2 ^ m : Nat) : Int) := by
  have h1 : (k : Int).tmod 64 = (m : Int) := by rw [Int.tmod_eq_emod_of_nonneg (by omega)]; omega
  have h2 : IntKind.u64.wrap (m : Int) = (m : Int) := u64w (by omega) (by omega)
  rw [h1, h2, Int.toNat_natCast, Nat.min_eq_left (by omega)]
  exact pow_u64 (by omega)
theorem quo_lo {k : Nat} (h : k < 64) : IntKind.i64.wrap ((k : Int) / 64) = 0 ∧ IntKind.i64.wrap ((k : Int).tmod 64) = k ∧ IntKind.i64.wrap ((k : Int) % 64) = k := by
  refine ⟨?_, ?_, ?_⟩
  · rw [IntWalk.i64_in] <;> omega
  · rw [Int.tmod_eq_emod_of_nonneg (by omega), IntWalk.i64_in] <;> omega
  · rw [IntWalk.i64_in] <;> omega
theorem quo_hi {k : Nat} (h : 64 ≤ k) (h2 : k < 128) : IntKind.i64.wrap ((k : Int) / 64) = 1 ∧ IntKind.i64.wrap ((k : Int).tmod 64) = ((k - 64 : Nat) : Int) ∧ IntKind.i64.wrap ((k : Int) % 64) = ((k - 64 : Nat) : Int) := by
  refine ⟨?_, ?_, ?_⟩
  · rw [IntWalk.i64_in] <;> omega
  · rw [Int.tmod_eq_emod_of_nonneg (by omega), IntWalk.i64_in] <;> omega
  · rw [IntWalk.i64_in] <;> omega

theorem blkNew_full (w : World) (a : Option Addr) (n c : Nat) (h : 128 < n) : Calls Tryd.prog 17 #[.slice a n c] w fun e w' => e = .returned (.tuple #[.pointer none, .int .i64 3]) ∧ w = w' := by
  have hd : decide ((128 : Int) < (n : Int)) = true := by simp; omega
  go_enter Tryd.func17, Tryd.ntmps17
  go_wp2_with fail
  go_ret2
  exact ⟨rfl, rfl⟩

set_option maxHeartbeats 1600000 in
set_option maxRecDepth 100000 in
theorem blkNew (w : World) (a : Option Addr) (c : Nat) (l : List Bool) (hr : ReadsV w a (l.map Value.bool)) (hl : l.length ≤ 128) :
    Calls Tryd.prog 17 #[.slice a l.length c] w fun e w' => e = .returned (.tuple #[.pointer (some ⟨w.heap.size, 0, none⟩), .int .i64 0]) ∧ IsBlock w' w.heap.size l ∧ Below w.heap.size w w' := by
  have hd : decide ((128 : Int) < (l.length : Int)) = false := by simp; omega
  have hb0 := below_alloc w (.cells #[.int .i64 l.length, .int .u64 0, .int .u64 0] 71)
  have hk0 : Blk (w.alloc (.cells #[.int .i64 l.length, .int .u64 0, .int .u64 0] 71)) w.heap.size l.length (loW (l.take 0)) (hiW (l.take 0)) := by
    have e1 : loW (l.take 0) = 0 := by rw [List.take_zero]; exact loW_nil
    have e2 : hiW (l.take 0) = 0 := by rw [List.take_zero]; exact hiW_nil
    rw [e1, e2]; exact heap_alloc_new w _
  have HK0 := Lib.hid hk0
  have HR := Lib.hid hr
  obtain ⟨p, hp⟩ : ∃ p, w.heap.size = p := ⟨_, rfl⟩
  have HP := Lib.hid hp
  clear hk0 hr hp
  go_enter Tryd.func17, Tryd.ntmps17
  go_wp2_with fail
  rw [HP.out]
  go_loopw [16] (fun i wr => ∃ k : Nat, k ≤ l.length ∧ i = .int .i64 k ∧ Blk wr p l.length (loW (l.take k)) (hiW (l.take k)) ∧ Below w.heap.size w wr) (fun i _ => l.length - (intOf i).toNat)
  case atStart => exact ⟨0, Nat.zero_le _, rfl, by have := HK0.out; rw [HP.out] at this; exact this, hb0⟩
  case round =>
    obtain ⟨k, hk, rfl, hbk, hb⟩ := hrel
    clear hb0
    by_cases hlt : k < l.length
    · obtain ⟨b, off, rfl, hbl, hc⟩ := (HR.out.below' hb).some (by rw [List.length_map]; omega)
      have hcell := hc k (.bool (l[k]?.getD false)) (by rw [List.getElem?_map, List.getElem?_eq_getElem hlt]; rfl)
      have ht : l.take (k + 1) = l.take k ++ [l[k]?.getD false] := by rw [List.take_add_one, List.getElem?_eq_getElem hlt]; rfl
      have hlen : (l.take k).length = k := by rw [List.length_take]; omega
      have HT := Lib.hid ht
      have HLEN := Lib.hid hlen
      have hlo := loW_lt (l.take k)
      have hhi := hiW_lt (l.take k)
      generalize hbv : l[k]?.getD false = bv at *
      have HBV := Lib.hid hbv
      clear hc ht hlen hbv
      cases bv
      · have e1 : loW (l.take (k + 1)) = loW (l.take k) := by
          rw [HT.out]
          by_cases h : k < 64
          · rw [lo_snoc (by rw [HLEN.out]; exact h)]; simp
          · rw [lo_snoc2 (by rw [HLEN.out]; omega)]
        have e2 : hiW (l.take (k + 1)) = hiW (l.take k) := by
          rw [HT.out]
          by_cases h : k < 64
          · rw [hi_snoc (by rw [HLEN.out]; exact h)]
          · rw [hi_snoc2 (by rw [HLEN.out]; omega) (by rw [HLEN.out]; omega)]; simp
        have E1 := Lib.hid e1
        have E2 := Lib.hid e2
        have HBK := Lib.hid hbk
        clear e1 e2 hbk
        go_wp2_with fail
        go_roundw
        case rel => exact ⟨k + 1, by omega, by go_num, by rw [E1.out, E2.out]; exact HBK.out, hb⟩
        case measure => simp [intOf]; omega
      · by_cases h64 : k < 64
        · have e1 : loW (l.take (k + 1)) = loW (l.take k) ||| 2 ^ k := by
            rw [HT.out, lo_snoc (by rw [HLEN.out]; exact h64), HLEN.out]; simp
          have e2 : hiW (l.take (k + 1)) = hiW (l.take k) := by rw [HT.out, hi_snoc (by rw [HLEN.out]; exact h64)]
          have h2k := two_pow_lt h64
          have e3 : bits .or .u64 ((loW (l.take k) : Nat) : Int) (IntKind.u64.wrap ((2 : Int) ^ min (IntKind.u64.wrap ((k : Int).tmod 64)).toNat 64)) = ((loW (l.take k) ||| 2 ^ k : Nat) : Int) := by
            rw [bit_in (m := k) (by omega)]; exact or_u64 _ _ hlo (by omega)
          have E1 := Lib.hid e1
          have E2 := Lib.hid e2
          have E3 := Lib.hid e3
          generalize loW (l.take k) = x at *
          generalize hiW (l.take k) = y at *
          obtain ⟨c0, c1, c2, fz⟩ := hbk.cells
          have fz1 := fz 1
          obtain ⟨q1, q2, q3⟩ := quo_lo h64
          have HBK := Lib.hid hbk
          clear e1 e2 e3 hbk fz c0 c2 h2k
          go_wp2_with fail
          refine reg_start (fun _ => True) (by kernel_rfl) (trivial) (fun hHeld => ?_)
          refine rt 0 hHeld ?_
          refine rt 1 hHeld ?_
          refine rt 2 hHeld ?_
          refine rt 3 hHeld ?_
          refine rt 4 hHeld ?_
          refine rt 5 hHeld ?_
          refine rt 7 hHeld ?_
          refine rt 8 hHeld ?_
          refine rt 9 hHeld ?_
          refine rt 10 hHeld ?_
          refine rt 12 hHeld ?_
          refine rt 13 hHeld ?_
          refine reg_loud (i := 6) rfl (by kernel_rfl) rfl (fun K hK => ?_)
          go_simp
          refine hK.out _ _ (trivial) (fun hNew => ?_)
          clear hK K hHeld
          have hHeld := hNew
          clear hNew
          try simp only [Act.put, List.setIfInBounds_toArray, List.set_cons_zero, List.set_cons_succ]
          refine rt 11 hHeld ?_
          refine rt 14 hHeld ?_
          refine reg_loud (i := 15) rfl (by kernel_rfl) rfl (fun K hK => ?_)
          go_simp
          refine hK.out _ _ (trivial) (fun hNew => ?_)
          clear hK K hHeld
          have hHeld := hNew
          clear hNew
          try simp only [Act.put, List.setIfInBounds_toArray, List.set_cons_zero, List.set_cons_succ]
          refine reg_done (by kernel_rfl) ?_ _
          rw [E3.out]
          clear c1 fz1 q1 q2 q3
          go_wp2_with fail
          go_roundw
          case rel => exact ⟨k + 1, by omega, by go_num, by rw [E1.out, E2.out]; exact HBK.out.set1 _, below_setQ hb.drew hb.drew.size (by have := HP.out; omega) _⟩
          case measure => simp [intOf]; omega
        · have e1 : loW (l.take (k + 1)) = loW (l.take k) := by rw [HT.out, lo_snoc2 (by rw [HLEN.out]; omega)]
          have e2 : hiW (l.take (k + 1)) = hiW (l.take k) ||| 2 ^ (k - 64) := by
            rw [HT.out, hi_snoc2 (by rw [HLEN.out]; omega) (by rw [HLEN.out]; omega), HLEN.out]; simp
          have h2k := two_pow_lt (k := k - 64) (by omega)
          have e3 : bits .or .u64 ((hiW (l.take k) : Nat) : Int) (IntKind.u64.wrap ((2 : Int) ^ min (IntKind.u64.wrap ((k : Int).tmod 64)).toNat 64)) = ((hiW (l.take k) ||| 2 ^ (k - 64) : Nat) : Int) := by
            rw [bit_in (m := k - 64) (by omega)]; exact or_u64 _ _ hhi (by omega)
          have E1 := Lib.hid e1
          have E2 := Lib.hid e2
          have E3 := Lib.hid e3
          generalize loW (l.take k) = x at *
          generalize hiW (l.take k) = y at *
          obtain ⟨c0, c1, c2, fz⟩ := hbk.cells
          have fz1 := fz 2
          obtain ⟨q1, q2, q3⟩ := quo_hi (k := k) (by omega) (by omega)
          have HBK := Lib.hid hbk
          clear e1 e2 e3 hbk fz c0 c1 h2k
          go_wp2_with fail
          refine reg_start (fun _ => True) (by kernel_rfl) (trivial) (fun hHeld => ?_)
          refine rt 0 hHeld ?_
          refine rt 1 hHeld ?_
          refine rt 2 hHeld ?_
          refine rt 3 hHeld ?_
          refine rt 4 hHeld ?_
          refine rt 5 hHeld ?_
          refine rt 7 hHeld ?_
          refine rt 8 hHeld ?_
          refine rt 9 hHeld ?_
          refine rt 10 hHeld ?_
          refine rt 12 hHeld ?_
          refine rt 13 hHeld ?_
          refine reg_loud (i := 6) rfl (by kernel_rfl) rfl (fun K hK => ?_)
          go_simp
          refine hK.out _ _ (trivial) (fun hNew => ?_)
          clear hK K hHeld
          have hHeld := hNew
          clear hNew
          try simp only [Act.put, List.setIfInBounds_toArray, List.set_cons_zero, List.set_cons_succ]
          refine rt 11 hHeld ?_
          refine rt 14 hHeld ?_
          refine reg_loud (i := 15) rfl (by kernel_rfl) rfl (fun K hK => ?_)
          go_simp
          refine hK.out _ _ (trivial) (fun hNew => ?_)
          clear hK K hHeld
          have hHeld := hNew
          clear hNew
          try simp only [Act.put, List.setIfInBounds_toArray, List.set_cons_zero, List.set_cons_succ]
          refine reg_done (by kernel_rfl) ?_ _
          rw [E3.out]
          clear c2 fz1 q1 q2 q3
          go_wp2_with fail
          go_roundw
          case rel => exact ⟨k + 1, by omega, by go_num, by rw [E1.out, E2.out]; exact HBK.out.set2 _, below_setQ hb.drew hb.drew.size (by have := HP.out; omega) _⟩
          case measure => simp [intOf]; omega
    · have hkl : k = l.length := by omega
      have ht : l.take k = l := by rw [hkl, List.take_length]
      rw [ht] at hbk
      clear ht hkl
      go_wp2_with fail
      go_ret2
      exact ⟨by rw [HP.out]; rfl, ⟨hl, by rw [HP.out]; exact hbk⟩, hb⟩

/-- A block that changes: its own block alone, and new ones. -/
def BlkStep (w w' : World) (p : Nat) (l : List Bool) : Prop := IsBlock w' p l ∧ Chg (fun q => q = p) w w'

set_option maxHeartbeats 1600000 in
theorem blkSet {w : World} {p : Nat} {l0 : List Bool} (h : IsBlock w p l0) (a : Option Addr) (c : Nat) (l : List Bool) (hr : ReadsV w a (l.map Value.bool)) (hl : l.length ≤ 128) :
    Calls Tryd.prog 49 #[.pointer (some ⟨p, 0, none⟩), .slice a l.length c] w fun e w' => e = .returned (.tuple #[]) ∧ BlkStep w w' p l := by
  have HR := Lib.hid hr
  have HB := Lib.hid h
  clear hr h
  go_enter Tryd.func49, Tryd.ntmps49
  go_wp2_with fail
  refine (blkNew w a c l HR.out hl).mono ?_
  rintro e w1 ⟨rfl, hk, hb⟩
  obtain ⟨c0, c1, c2, _⟩ := hk.cells
  have hB := HB.out.below' hb
  obtain ⟨d0, d1, d2, fz⟩ := hB.cells
  have f0 := fz 0
  have f1 := fz 1
  have f2 := fz 2
  have H1 := Lib.hid hB
  have H2 := Lib.hid hk
  have H3 : Hid (Chg (fun q => q = p) w w1) := Chg.of_below hb
  generalize w.heap.size = q at *
  clear hB hk hb fz
  go_wp2_with fail
  go_end0
  exact ⟨rfl, ⟨hl, ((Blk.set0 (x := loW l0) (y := hiW l0) H1.out.2 _).set1 _).set2 _⟩, ((H3.out.setCell _ (Or.inl rfl) _).setCell _ (Or.inl rfl) _).setCell _ (Or.inl rfl) _⟩

theorem blkInsert_nil (w : World) (k : Int) (b : Bool) : Calls Tryd.prog 19 #[.pointer none, .int .i64 k, .bool b] w fun e w' => e = .returned (.int .i64 6) ∧ w = w' := by
  go_enter Tryd.func19, Tryd.ntmps19
  go_wp2_with fail
  go_ret
  exact ⟨rfl, rfl⟩
theorem blkInsert_full {w : World} {p : Nat} {l : List Bool} (h : IsBlock w p l) (hl : l.length = 128) (k : Int) (b : Bool) :
    Calls Tryd.prog 19 #[.pointer (some ⟨p, 0, none⟩), .int .i64 k, .bool b] w fun e w' => e = .returned (.int .i64 3) ∧ w = w' := by
  obtain ⟨h0, _⟩ := h.cells
  rw [hl] at h0
  go_enter Tryd.func19, Tryd.ntmps19
  go_wp2_with fail
  go_ret
  exact ⟨rfl, rfl⟩
theorem blkInsert_range {w : World} {p : Nat} {l : List Bool} (h : IsBlock w p l) (hl : l.length < 128) (k : Int) (hk : k < 0 ∨ (l.length : Int) < k) (b : Bool) :
    Calls Tryd.prog 19 #[.pointer (some ⟨p, 0, none⟩), .int .i64 k, .bool b] w fun e w' => e = .returned (.int .i64 2) ∧ w = w' := by
  obtain ⟨h0, _⟩ := h.cells
  have hd : ((l.length : Int) == 128) = false := by simp; omega
  rcases hk with hk | hk
  · go_enter Tryd.func19, Tryd.ntmps19
    go_wp2_with fail
    go_ret
    exact ⟨rfl, rfl⟩
  · have hd2 : decide (k < 0) = false := by simp; omega
    go_enter Tryd.func19, Tryd.ntmps19
    go_wp2_with fail
    go_ret
    exact ⟨rfl, rfl⟩

set_option maxHeartbeats 3200000 in
set_option maxRecDepth 100000 in
theorem blkInsert_lo {w : World} {p : Nat} {l : List Bool} (h : IsBlock w p l) (hl : l.length < 128) (k : Nat) (hk : k ≤ l.length) (h64 : k < 64) (b : Bool) :
    Calls Tryd.prog 19 #[.pointer (some ⟨p, 0, none⟩), .int .i64 k, .bool b] w fun e w' => e = .returned (.int .i64 0) ∧ BlkStep w w' p (inL l k b) := by
  have hB : Blk w p l.length (loW l) (hiW l) := h.2
  obtain ⟨c0, c1, c2, fz⟩ := hB.cells
  have f0 := fz 0
  have f1 := fz 1
  have f2 := fz 2
  have hd : ((l.length : Int) == 128) = false := by simp; omega
  have hd1 : decide ((k : Int) < 0) = false := by simp
  have hd2 : decide ((l.length : Int) < (k : Int)) = false := by simp; omega
  have q1 : (k : Int) / 64 = 0 := by omega
  have q2 : (k : Int) % 64 = k := by omega
  have hx := loW_lt l
  have hy := hiW_lt l
  have e1 := lo_in b hk h64
  have e2 := hi_in b hk h64
  have e3 := inL_len (b := b) hk
  have E1 := Lib.hid e1
  have E2 := Lib.hid e2
  have E3 := Lib.hid e3
  have HB := Lib.hid hB
  clear e1 e2 e3 hB h fz
  generalize loW l = x at *
  generalize hiW l = y at *
  go_enter Tryd.func19, Tryd.ntmps19
  go_wp2_with fail
  refine wp_loop_rounds 3 ?_
  rw [rounds_succ]
  go_wp2_with fail
  refine reg_start (fun _ => True) (by kernel_rfl) (trivial) (fun hHeld => ?_)
  refine rt 0 hHeld ?_
  refine rt 1 hHeld ?_
  refine rt 2 hHeld ?_
  refine rt 3 hHeld ?_
  refine rt 4 hHeld ?_
  refine rt 5 hHeld ?_
  refine rt 6 hHeld ?_
  refine rt 8 hHeld ?_
  refine rt 9 hHeld ?_
  refine rt 14 hHeld ?_
  refine rt 15 hHeld ?_
  refine reg_loud (i := 7) rfl (by kernel_rfl) rfl (fun K hK => ?_)
  go_simp
  refine hK.out _ _ (trivial) (fun hNew => ?_)
  clear hK K hHeld
  have hHeld := hNew
  clear hNew
  try simp only [Act.put, List.setIfInBounds_toArray, List.set_cons_zero, List.set_cons_succ]
  refine reg_loud (i := 10) rfl (by kernel_rfl) rfl (fun K hK => ?_)
  go_simp
  refine (put_good x k b _ hx h64).mono ?_
  rintro e w' ⟨rfl, rfl⟩
  go_wp2_with fail
  refine hK.out _ _ (trivial) (fun hNew => ?_)
  clear hK K hHeld
  have hHeld := hNew
  clear hNew
  try simp only [Act.put, List.setIfInBounds_toArray, List.set_cons_zero, List.set_cons_succ]
  refine rt 11 hHeld ?_
  refine rt 12 hHeld ?_
  refine rt 13 hHeld ?_
  refine rt 16 hHeld ?_
  refine reg_loud (i := 17) rfl (by kernel_rfl) rfl (fun K hK => ?_)
  go_simp
  refine hK.out _ _ (trivial) (fun hNew => ?_)
  clear hK K hHeld
  have hHeld := hNew
  clear hNew
  try simp only [Act.put, List.setIfInBounds_toArray, List.set_cons_zero, List.set_cons_succ]
  refine rt 18 hHeld ?_
  refine reg_done (by kernel_rfl) ?_ _
  go_wp2_with fail
  rw [rounds_succ]
  go_wp2_with fail
  refine reg_start (fun _ => True) (by kernel_rfl) (trivial) (fun hHeld => ?_)
  refine rt 0 hHeld ?_
  refine rt 1 hHeld ?_
  refine rt 2 hHeld ?_
  refine rt 3 hHeld ?_
  refine rt 4 hHeld ?_
  refine rt 5 hHeld ?_
  refine rt 6 hHeld ?_
  refine rt 8 hHeld ?_
  refine rt 9 hHeld ?_
  refine rt 14 hHeld ?_
  refine rt 15 hHeld ?_
  refine reg_loud (i := 7) rfl (by kernel_rfl) rfl (fun K hK => ?_)
  go_simp
  refine hK.out _ _ (trivial) (fun hNew => ?_)
  clear hK K hHeld
  have hHeld := hNew
  clear hNew
  try simp only [Act.put, List.setIfInBounds_toArray, List.set_cons_zero, List.set_cons_succ]
  refine reg_loud (i := 10) rfl (by kernel_rfl) rfl (fun K hK => ?_)
  go_simp
  refine (put_lit (Y := ((putW y 0 (x.testBit 63) : Nat) : Int)) (c := y.testBit 63) y 0 _ hy (by omega) rfl rfl rfl rfl).mono ?_
  rintro e w' ⟨rfl, rfl⟩
  go_wp2_with fail
  refine hK.out _ _ (trivial) (fun hNew => ?_)
  clear hK K hHeld
  have hHeld := hNew
  clear hNew
  try simp only [Act.put, List.setIfInBounds_toArray, List.set_cons_zero, List.set_cons_succ]
  refine rt 11 hHeld ?_
  refine rt 12 hHeld ?_
  refine rt 13 hHeld ?_
  refine rt 16 hHeld ?_
  refine reg_loud (i := 17) rfl (by kernel_rfl) rfl (fun K hK => ?_)
  go_simp
  refine hK.out _ _ (trivial) (fun hNew => ?_)
  clear hK K hHeld
  have hHeld := hNew
  clear hNew
  try simp only [Act.put, List.setIfInBounds_toArray, List.set_cons_zero, List.set_cons_succ]
  refine rt 18 hHeld ?_
  refine reg_done (by kernel_rfl) ?_ _
  go_wp2_with fail
  rw [rounds_succ]
  go_wp2_with fail
  go_ret
  refine ⟨rfl, ⟨by rw [E3.out]; omega, ?_⟩, ?_⟩
  · rw [E1.out, E2.out, E3.out]
    exact ((HB.out.set1 _).set2 _).set0 _
  · exact ((((Chg.refl (S := fun q => q = p)).setCell ⟨p, 1, none⟩ (Or.inl rfl) _).setCell ⟨p, 2, none⟩ (Or.inl rfl) _).setCell ⟨p, 0, none⟩ (Or.inl rfl) _).drew.drew

set_option maxHeartbeats 3200000 in
set_option maxRecDepth 100000 in
theorem blkInsert_hi {w : World} {p : Nat} {l : List Bool} (h : IsBlock w p l) (hl : l.length < 128) (k : Nat) (hk : k ≤ l.length) (h64 : 64 ≤ k) (b : Bool) :
    Calls Tryd.prog 19 #[.pointer (some ⟨p, 0, none⟩), .int .i64 k, .bool b] w fun e w' => e = .returned (.int .i64 0) ∧ BlkStep w w' p (inL l k b) := by
  have hB : Blk w p l.length (loW l) (hiW l) := h.2
  obtain ⟨c0, c1, c2, fz⟩ := hB.cells
  have f0 := fz 0
  have f2 := fz 2
  have hd : ((l.length : Int) == 128) = false := by simp; omega
  have hd1 : decide ((k : Int) < 0) = false := by simp
  have hd2 : decide ((l.length : Int) < (k : Int)) = false := by simp; omega
  have q1 : (k : Int) / 64 = 1 := by omega
  have q2 : (k : Int) % 64 = ((k - 64 : Nat) : Int) := by omega
  have hy := hiW_lt l
  have e1 := lo_in2 b hk h64
  have e2 := hi_in2 b hk h64 (by omega)
  have e3 := inL_len (b := b) hk
  have E1 := Lib.hid e1
  have E2 := Lib.hid e2
  have E3 := Lib.hid e3
  have HB := Lib.hid hB
  have hm : k - 64 < 64 := by omega
  clear e1 e2 e3 hB h fz
  generalize loW l = x at *
  generalize hiW l = y at *
  generalize hmm : k - 64 = m at *
  clear hmm
  go_enter Tryd.func19, Tryd.ntmps19
  go_wp2_with fail
  refine wp_loop_rounds 2 ?_
  rw [rounds_succ]
  go_wp2_with fail
  refine reg_start (fun _ => True) (by kernel_rfl) (trivial) (fun hHeld => ?_)
  refine rt 0 hHeld ?_
  refine rt 1 hHeld ?_
  refine rt 2 hHeld ?_
  refine rt 3 hHeld ?_
  refine rt 4 hHeld ?_
  refine rt 5 hHeld ?_
  refine rt 6 hHeld ?_
  refine rt 8 hHeld ?_
  refine rt 9 hHeld ?_
  refine rt 14 hHeld ?_
  refine rt 15 hHeld ?_
  refine reg_loud (i := 7) rfl (by kernel_rfl) rfl (fun K hK => ?_)
  go_simp
  refine hK.out _ _ (trivial) (fun hNew => ?_)
  clear hK K hHeld
  have hHeld := hNew
  clear hNew
  try simp only [Act.put, List.setIfInBounds_toArray, List.set_cons_zero, List.set_cons_succ]
  refine reg_loud (i := 10) rfl (by kernel_rfl) rfl (fun K hK => ?_)
  go_simp
  refine (put_good y m b _ hy hm).mono ?_
  rintro e w' ⟨rfl, rfl⟩
  go_wp2_with fail
  refine hK.out _ _ (trivial) (fun hNew => ?_)
  clear hK K hHeld
  have hHeld := hNew
  clear hNew
  try simp only [Act.put, List.setIfInBounds_toArray, List.set_cons_zero, List.set_cons_succ]
  refine rt 11 hHeld ?_
  refine rt 12 hHeld ?_
  refine rt 13 hHeld ?_
  refine rt 16 hHeld ?_
  refine reg_loud (i := 17) rfl (by kernel_rfl) rfl (fun K hK => ?_)
  go_simp
  refine hK.out _ _ (trivial) (fun hNew => ?_)
  clear hK K hHeld
  have hHeld := hNew
  clear hNew
  try simp only [Act.put, List.setIfInBounds_toArray, List.set_cons_zero, List.set_cons_succ]
  refine rt 18 hHeld ?_
  refine reg_done (by kernel_rfl) ?_ _
  go_wp2_with fail
  rw [rounds_succ]
  go_wp2_with fail
  go_ret
  refine ⟨rfl, ⟨by rw [E3.out]; omega, ?_⟩, ?_⟩
  · rw [E1.out, E2.out, E3.out]
    exact (HB.out.set2 _).set0 _
  · exact (((Chg.refl (S := fun q => q = p)).setCell ⟨p, 2, none⟩ (Or.inl rfl) _).setCell ⟨p, 0, none⟩ (Or.inl rfl) _).drew

theorem blkInsert {w : World} {p : Nat} {l : List Bool} (h : IsBlock w p l) (hl : l.length < 128) (k : Nat) (hk : k ≤ l.length) (b : Bool) :
    Calls Tryd.prog 19 #[.pointer (some ⟨p, 0, none⟩), .int .i64 k, .bool b] w fun e w' => e = .returned (.int .i64 0) ∧ BlkStep w w' p (inL l k b) := by
  by_cases h64 : k < 64
  · exact blkInsert_lo h hl k hk h64 b
  · exact blkInsert_hi h hl k hk (by omega) b

theorem blkDelete_bad {w : World} {p : Nat} {l : List Bool} (h : IsBlock w p l) (k : Int) (hk : k < 0 ∨ (l.length : Int) ≤ k) :
    Calls Tryd.prog 21 #[.pointer (some ⟨p, 0, none⟩), .int .i64 k] w fun e w' => e = .returned (.tuple #[.bool false, .int .i64 2]) ∧ w = w' := by
  have hR : hasL l k = 2 := by unfold hasL; rw [if_neg (by omega)]
  have HR := Lib.hid hR
  clear hR
  go_enter Tryd.func21, Tryd.ntmps21
  go_wp2_with fail
  refine (blkHas h k).mono ?_
  rintro e w' ⟨rfl, rfl⟩
  rw [HR.out]
  go_wp2_with fail
  go_ret2
  exact ⟨rfl, rfl⟩

set_option maxHeartbeats 3200000 in
set_option maxRecDepth 100000 in
theorem blkDelete_lo {w : World} {p : Nat} {l : List Bool} (h : IsBlock w p l) (k : Nat) (hk : k < l.length) (h64 : k < 64) :
    Calls Tryd.prog 21 #[.pointer (some ⟨p, 0, none⟩), .int .i64 k] w fun e w' => e = .returned (.tuple #[.bool (bitAt l k), .int .i64 0]) ∧ BlkStep w w' p (outL l k) := by
  have hB : Blk w p l.length (loW l) (hiW l) := h.2
  obtain ⟨c0, c1, c2, fz⟩ := hB.cells
  have f0 := fz 0
  have f1 := fz 1
  have f2 := fz 2
  have hR : hasL l k = 0 := by unfold hasL; rw [if_pos (by omega)]
  have HR := Lib.hid hR
  have HH := Lib.hid h
  have q1 : (k : Int) / 64 = 0 := by omega
  have q7 : IntKind.i64.wrap 0 = 0 := by decide
  obtain ⟨q3, q4, q5⟩ := quo_lo h64
  have Q6 : Hid ((k : Int).tmod 64 = (k : Int)) := by show _ = _; rw [Int.tmod_eq_emod_of_nonneg (by omega)]; omega
  have hx := loW_lt l
  have hy := hiW_lt l
  have hl := h.1
  have e1 := lo_out hk h64
  have e2 := hi_out hk h64 h.1
  have e3 := outL_len hk
  have e4 := loW_bit (l := l) h64
  obtain ⟨yb, hyb⟩ : ∃ yb, (hiW l).testBit 0 = yb := ⟨_, rfl⟩
  rw [hyb] at e1
  have HYB := Lib.hid hyb
  have E1 := Lib.hid e1
  have E2 := Lib.hid e2
  have E3 := Lib.hid e3
  have E4 := Lib.hid e4
  have HB := Lib.hid hB
  clear e1 e2 e3 e4 hB h fz hR q4 q5 hyb
  generalize loW l = x at *
  generalize hiW l = y at *
  go_enter Tryd.func21, Tryd.ntmps21
  go_wp2_with fail
  refine (blkHas HH.out k).mono ?_
  rintro e w' ⟨rfl, rfl⟩
  rw [HR.out]
  go_wp2_with fail
  refine wp_loop_rounds 2 ?_
  rw [rounds_succ]
  go_wp2_with fail
  refine reg_start (fun _ => True) (by kernel_rfl) (trivial) (fun hHeld => ?_)
  refine rt 0 hHeld ?_
  refine rt 1 hHeld ?_
  refine rt 2 hHeld ?_
  refine rt 3 hHeld ?_
  refine rt 4 hHeld ?_
  refine rt 5 hHeld ?_
  refine rt 6 hHeld ?_
  refine rt 8 hHeld ?_
  refine rt 13 hHeld ?_
  refine rt 14 hHeld ?_
  refine reg_loud (i := 7) rfl (by kernel_rfl) rfl (fun K hK => ?_)
  go_simp
  refine hK.out _ _ (trivial) (fun hNew => ?_)
  clear hK K hHeld
  have hHeld := hNew
  clear hNew
  try simp only [Act.put, List.setIfInBounds_toArray, List.set_cons_zero, List.set_cons_succ]
  refine reg_loud (i := 9) rfl (by kernel_rfl) rfl (fun K hK => ?_)
  go_simp
  refine (cut_lit (Y := ((cutW y 0 false : Nat) : Int)) (c := yb) y 0 _ hy (by omega) rfl rfl rfl HYB.out).mono ?_
  rintro e w' ⟨rfl, rfl⟩
  go_wp2_with fail
  refine hK.out _ _ (trivial) (fun hNew => ?_)
  clear hK K hHeld
  have hHeld := hNew
  clear hNew
  try simp only [Act.put, List.setIfInBounds_toArray, List.set_cons_zero, List.set_cons_succ]
  refine rt 10 hHeld ?_
  refine rt 11 hHeld ?_
  refine rt 12 hHeld ?_
  refine rt 15 hHeld ?_
  refine reg_loud (i := 16) rfl (by kernel_rfl) rfl (fun K hK => ?_)
  go_simp
  refine hK.out _ _ (trivial) (fun hNew => ?_)
  clear hK K hHeld
  have hHeld := hNew
  clear hNew
  try simp only [Act.put, List.setIfInBounds_toArray, List.set_cons_zero, List.set_cons_succ]
  refine rt 17 hHeld ?_
  refine reg_done (by kernel_rfl) ?_ _
  go_wp2_with fail
  rw [rounds_succ]
  go_wp2_with fail
  refine reg_start (fun _ => True) (by kernel_rfl) (trivial) (fun hHeld => ?_)
  refine rt 0 hHeld ?_
  refine rt 1 hHeld ?_
  refine rt 2 hHeld ?_
  refine rt 3 hHeld ?_
  refine rt 4 hHeld ?_
  refine rt 5 hHeld ?_
  refine rt 6 hHeld ?_
  refine rt 7 hHeld ?_
  refine rt 8 hHeld ?_
  refine rt 10 hHeld ?_
  refine rt 11 hHeld ?_
  refine rt 12 hHeld ?_
  refine rt 17 hHeld ?_
  refine rt 18 hHeld ?_
  refine reg_loud (i := 9) rfl (by kernel_rfl) rfl (fun K hK => ?_)
  go_simp
  refine hK.out _ _ (trivial) (fun hNew => ?_)
  clear hK K hHeld
  have hHeld := hNew
  clear hNew
  try simp only [Act.put, List.setIfInBounds_toArray, List.set_cons_zero, List.set_cons_succ]
  refine reg_loud (i := 13) rfl (by kernel_rfl) rfl (fun K hK => ?_)
  go_simp
  refine (cut_lit (Y := ((cutW x k yb : Nat) : Int)) (c := bitAt l k) x k _ hx h64 rfl Q6.out rfl E4.out).mono ?_
  rintro e w' ⟨rfl, rfl⟩
  go_wp2_with fail
  refine hK.out _ _ (trivial) (fun hNew => ?_)
  clear hK K hHeld
  have hHeld := hNew
  clear hNew
  try simp only [Act.put, List.setIfInBounds_toArray, List.set_cons_zero, List.set_cons_succ]
  refine rt 14 hHeld ?_
  refine rt 15 hHeld ?_
  refine rt 16 hHeld ?_
  refine rt 19 hHeld ?_
  refine reg_loud (i := 20) rfl (by kernel_rfl) rfl (fun K hK => ?_)
  go_simp
  refine hK.out _ _ (trivial) (fun hNew => ?_)
  clear hK K hHeld
  have hHeld := hNew
  clear hNew
  try simp only [Act.put, List.setIfInBounds_toArray, List.set_cons_zero, List.set_cons_succ]
  refine rt 21 hHeld ?_
  refine reg_done (by kernel_rfl) ?_ _
  go_wp2_with fail
  go_ret2
  refine ⟨rfl, ⟨by rw [E3.out]; omega, ?_⟩, ?_⟩
  · rw [E1.out, E2.out, E3.out, show ((l.length - 1 : Nat) : Int) = (l.length : Int) - 1 by omega]
    exact ((HB.out.set2 _).set1 _).set0 _
  · exact ((((Chg.refl (S := fun q => q = p)).setCell ⟨p, 2, none⟩ (Or.inl rfl) _).setCell ⟨p, 1, none⟩ (Or.inl rfl) _).setCell ⟨p, 0, none⟩ (Or.inl rfl) _).drew.drew

set_option maxHeartbeats 3200000 in
set_option maxRecDepth 100000 in
theorem blkDelete_hi {w : World} {p : Nat} {l : List Bool} (h : IsBlock w p l) (k : Nat) (hk : k < l.length) (h64 : 64 ≤ k) :
    Calls Tryd.prog 21 #[.pointer (some ⟨p, 0, none⟩), .int .i64 k] w fun e w' => e = .returned (.tuple #[.bool (bitAt l k), .int .i64 0]) ∧ BlkStep w w' p (outL l k) := by
  have hB : Blk w p l.length (loW l) (hiW l) := h.2
  obtain ⟨c0, c1, c2, fz⟩ := hB.cells
  have f0 := fz 0
  have f2 := fz 2
  have hl := h.1
  have hR : hasL l k = 0 := by unfold hasL; rw [if_pos (by omega)]
  have HR := Lib.hid hR
  have HH := Lib.hid h
  have q1 : (k : Int) / 64 = 1 := by omega
  have q7 : IntKind.i64.wrap 1 = 1 := by decide
  obtain ⟨q3, q4, q5⟩ := quo_hi h64 (by omega)
  have hy := hiW_lt l
  have e1 := lo_out2 hk h64
  have e2 := hi_out2 hk h64 h.1
  have e3 := outL_len hk
  have hm : k - 64 < 64 := by omega
  have e4 := hiW_bit (l := l) hm
  rw [show 64 + (k - 64) = k by omega] at e4
  have Q6 : Hid ((k : Int).tmod 64 = ((k - 64 : Nat) : Int)) := by show _ = _; rw [Int.tmod_eq_emod_of_nonneg (by omega)]; omega
  have E1 := Lib.hid e1
  have E2 := Lib.hid e2
  have E3 := Lib.hid e3
  have E4 := Lib.hid e4
  have HB := Lib.hid hB
  clear e1 e2 e3 e4 hB h fz hR q4 q5
  generalize loW l = x at *
  generalize hiW l = y at *
  generalize hmm : k - 64 = m at *
  clear hmm
  go_enter Tryd.func21, Tryd.ntmps21
  go_wp2_with fail
  refine (blkHas HH.out k).mono ?_
  rintro e w' ⟨rfl, rfl⟩
  rw [HR.out]
  go_wp2_with fail
  refine wp_loop_rounds 1 ?_
  rw [rounds_succ]
  go_wp2_with fail
  refine reg_start (fun _ => True) (by kernel_rfl) (trivial) (fun hHeld => ?_)
  refine rt 0 hHeld ?_
  refine rt 1 hHeld ?_
  refine rt 2 hHeld ?_
  refine rt 3 hHeld ?_
  refine rt 4 hHeld ?_
  refine rt 5 hHeld ?_
  refine rt 6 hHeld ?_
  refine rt 7 hHeld ?_
  refine rt 8 hHeld ?_
  refine rt 10 hHeld ?_
  refine rt 11 hHeld ?_
  refine rt 12 hHeld ?_
  refine rt 17 hHeld ?_
  refine rt 18 hHeld ?_
  refine reg_loud (i := 9) rfl (by kernel_rfl) rfl (fun K hK => ?_)
  go_simp
  refine hK.out _ _ (trivial) (fun hNew => ?_)
  clear hK K hHeld
  have hHeld := hNew
  clear hNew
  try simp only [Act.put, List.setIfInBounds_toArray, List.set_cons_zero, List.set_cons_succ]
  refine reg_loud (i := 13) rfl (by kernel_rfl) rfl (fun K hK => ?_)
  go_simp
  refine (cut_lit (Y := ((cutW y m false : Nat) : Int)) (c := bitAt l k) y m _ hy hm rfl Q6.out rfl E4.out).mono ?_
  rintro e w' ⟨rfl, rfl⟩
  go_wp2_with fail
  refine hK.out _ _ (trivial) (fun hNew => ?_)
  clear hK K hHeld
  have hHeld := hNew
  clear hNew
  try simp only [Act.put, List.setIfInBounds_toArray, List.set_cons_zero, List.set_cons_succ]
  refine rt 14 hHeld ?_
  refine rt 15 hHeld ?_
  refine rt 16 hHeld ?_
  refine rt 19 hHeld ?_
  refine reg_loud (i := 20) rfl (by kernel_rfl) rfl (fun K hK => ?_)
  go_simp
  refine hK.out _ _ (trivial) (fun hNew => ?_)
  clear hK K hHeld
  have hHeld := hNew
  clear hNew
  try simp only [Act.put, List.setIfInBounds_toArray, List.set_cons_zero, List.set_cons_succ]
  refine rt 21 hHeld ?_
  refine reg_done (by kernel_rfl) ?_ _
  go_wp2_with fail
  go_ret2
  refine ⟨rfl, ⟨by rw [E3.out]; omega, ?_⟩, ?_⟩
  · rw [E1.out, E2.out, E3.out, show ((l.length - 1 : Nat) : Int) = (l.length : Int) - 1 by omega]
    exact (HB.out.set2 _).set0 _
  · exact (((Chg.refl (S := fun q => q = p)).setCell ⟨p, 2, none⟩ (Or.inl rfl) _).setCell ⟨p, 0, none⟩ (Or.inl rfl) _).drew

theorem blkDelete {w : World} {p : Nat} {l : List Bool} (h : IsBlock w p l) (k : Nat) (hk : k < l.length) :
    Calls Tryd.prog 21 #[.pointer (some ⟨p, 0, none⟩), .int .i64 k] w fun e w' => e = .returned (.tuple #[.bool (bitAt l k), .int .i64 0]) ∧ BlkStep w w' p (outL l k) := by
  by_cases h64 : k < 64
  · exact blkDelete_lo h k hk h64
  · exact blkDelete_hi h k hk (by omega)

end Go.Proofs.YtacoeohmdngnkaaDoor

namespace Go.Proofs.YtacoeohmdngnkaaDoor
set_option linter.unusedVariables false
set_option linter.unusedSimpArgs false
open Go.RowKit


theorem madeCells_one (z : Value) (n : Nat) : madeCells #[z] n = (vecL (fun _ => z) n).toArray := by
  apply Array.ext
  · simp [madeCells, vecL]
  · intro i h1 h2
    have h0 : ∀ m, m % 1 = 0 := fun m => by omega
    simp [madeCells, vecL, h0]
/-- 'make([]E, n)', an element of one cell. -/
theorem run_makeV {P : Program} {t e : TypeId} {z : Value} {bytes : Nat} (hinfo : (P.info? e).map (fun i => (i.zero, i.size, i.bytes)) = some (some z, 1, bytes)) (ht : P.underlying t = some (.slice e)) (hz : z.cells = #[z]) (n : Nat) (h : (bytes : Int) * (n : Int) ≤ 281474976710656) (hn : n ≤ maxLen) (w : World) :
    (Instr.makeSlice t (.int .i64 (n : Int)) (.int .i64 (n : Int))).run P w = .ok (.slice (some ⟨w.heap.size, 0, none⟩) n n) (w.alloc (.cells (vecL (fun _ => z) n).toArray e)) := by
  obtain ⟨i, hi, hiz, hsz, hby⟩ := info_parts hinfo
  have h2 := run_make (P := P) w t e i z ht hi hiz .i64 .i64 (n : Int) (n : Int) (by omega) (by omega) (by rw [hby]; exact h) (by unfold maxLen at hn; omega)
  rw [h2, hz, hsz, Int.toNat_natCast, Nat.mul_one, madeCells_one]
theorem make_bools (n : Nat) (h : n ≤ 1000000000) (w : World) : (Instr.makeSlice 39 (.int .i64 (n : Int)) (.int .i64 (n : Int))).run Tryd.prog w = .ok (.slice (some ⟨w.heap.size, 0, none⟩) n n) (w.alloc (.cells (vecL (fun _ => .bool false) n).toArray 4)) :=
  run_makeV Tryd.infoBoolR Tryd.underlying39 rfl n (by omega) (by unfold maxLen; omega) w

theorem own_vec {w : World} {q n base : Nat} {f : Nat → Value} {e : TypeId} (h : w.heap[q]? = some (.cells (vecL f n).toArray e (0, 0))) (hb : base ≤ q) (hn : n ≤ maxLen) : w.ownsRow base e 1 (.slice (some ⟨q, 0, none⟩) n n) n (vecL f n) :=
  ⟨by rw [vecL_len]; omega, .inr ⟨q, n, (vecL f n).toArray, rfl, hb, h, Nat.le_refl _, hn, by simp [vecL_len], by rw [Nat.mul_one]; exact List.take_of_length_le (by rw [vecL_len]; exact Nat.le_refl _)⟩⟩

theorem blkAll_nil (w : World) : Calls Tryd.prog 48 #[.pointer none] w fun e w' => e = .returned (.slice none 0 0) ∧ w = w' := by
  go_enter Tryd.func48, Tryd.ntmps48
  go_wp2_with fail
  go_ret
  exact ⟨rfl, rfl⟩

set_option maxHeartbeats 1600000 in
theorem blkAll {w : World} {p : Nat} {l : List Bool} (h : IsBlock w p l) : Calls Tryd.prog 48 #[.pointer (some ⟨p, 0, none⟩)] w (GivesB w.heap.size w l) := by
  obtain ⟨c0, _⟩ := h.cells
  have hl := h.1
  have hmk := make_bools l.length (by omega)
  have hq0 : (w.alloc (.cells (vecL (fun _ => .bool false) l.length).toArray 4)).heap[w.heap.size]? = some (.cells (vecL (fun i => if i < 0 then .bool (bitAt l i) else .bool false) l.length).toArray 4 (0, 0)) := by
    rw [vecL_congr (f := fun i => if i < 0 then .bool (bitAt l i) else .bool false) (g := fun _ => .bool false) (fun i hi => by simp)]
    exact heap_alloc_new w _
  have hb0 := below_alloc w (.cells (vecL (fun _ => .bool false) l.length).toArray 4)
  have HB := Lib.hid h
  have HQ0 := Lib.hid hq0
  obtain ⟨q, hq⟩ : ∃ q, w.heap.size = q := ⟨_, rfl⟩
  have HQ := Lib.hid hq
  have hpq := h.lt
  clear hq0 h hq
  go_enter Tryd.func48, Tryd.ntmps48
  go_wp2_with fail
  rw [HQ.out]
  go_loopw [14] (fun i wr => ∃ k : Nat, k ≤ l.length ∧ i = .int .i64 k ∧ wr.heap[q]? = some (.cells (vecL (fun i => if i < k then .bool (bitAt l i) else .bool false) l.length).toArray 4 (0, 0)) ∧ Below w.heap.size w wr) (fun i _ => l.length - (intOf i).toNat)
  case atStart => exact ⟨0, Nat.zero_le _, rfl, by have := HQ0.out; rw [HQ.out] at this; exact this, hb0⟩
  case round =>
    clear hb0 hmk
    obtain ⟨k, hk, rfl, hqk, hb⟩ := hrel
    have hs := hb.size
    have hB := HB.out.below hb hpq
    have HBW := Lib.hid hB
    have HQK := Lib.hid hqk
    by_cases hlt : k < l.length
    · have hc := vec_cell hqk hlt
      simp only [Nat.lt_irrefl, if_false] at hc
      have hfz : wr.frozen? ⟨q, k, none⟩ = false := frozen_of_row wr q k _ _ hqk
      clear hB hqk
      go_wp2_with (go_at_call 41; refine (blkGet HBW.out k hlt).mono ?_; rintro e w' ⟨rfl, rfl⟩)
      go_roundw
      case rel =>
        refine ⟨k + 1, by omega, by go_num, ?_, below_setQ hb hs (by have := HQ.out; omega) _⟩
        rw [vec_set HQK.out]
        congr 3
        refine vecL_congr (fun i hi => ?_)
        by_cases e : i = k
        · subst e; simp
        · rw [if_neg e]
          by_cases e2 : i < k
          · rw [if_pos e2, if_pos (by omega)]
          · rw [if_neg e2, if_neg (by omega)]
      case measure => simp [intOf]; omega
    · obtain rfl : k = l.length := by omega
      clear hB hqk
      go_wp2_with fail
      go_ret
      refine ⟨_, rfl, ?_, hb⟩
      have := own_vec HQK.out (base := w.heap.size) (by have := HQ.out; omega) (by unfold maxLen; omega)
      rw [show l.map Value.bool = vecL (fun i => if i < l.length then .bool (bitAt l i) else .bool false) l.length from ?_]
      · exact this
      · apply List.ext_getElem?
        intro i
        by_cases hi : i < l.length
        · rw [vecL_get hi, if_pos hi, List.getElem?_map, List.getElem?_eq_getElem hi]
          simp [bitAt, List.getElem?_eq_getElem hi]
        · rw [List.getElem?_eq_none (by simp; omega), List.getElem?_eq_none (by rw [vecL_len]; omega)]

/-- Split: both blocks. -/
def SplitPost (w : World) (p : Nat) (l : List Bool) (e : Ending) (w' : World) : Prop :=
  ∃ q, e = .returned (.pointer (some ⟨q, 0, none⟩)) ∧ w.heap.size ≤ q ∧ IsBlock w' q (l.drop (l.length / 2)) ∧ IsBlock w' p (l.take (l.length / 2)) ∧ Chg (fun b => b = p) w w'

theorem blkSplit_nil (w : World) : Calls Tryd.prog 24 #[.pointer none] w fun e w' => e = .returned (.pointer none) ∧ w = w' := by
  go_enter Tryd.func24, Tryd.ntmps24
  go_wp2_with fail
  go_ret
  exact ⟨rfl, rfl⟩

set_option maxHeartbeats 1600000 in
theorem blkSplit {w : World} {p : Nat} {l : List Bool} (h : IsBlock w p l) : Calls Tryd.prog 24 #[.pointer (some ⟨p, 0, none⟩)] w (SplitPost w p l) := by
  have HB := Lib.hid h
  have hl := h.1
  clear h
  go_enter Tryd.func24, Tryd.ntmps24
  go_wp2_with fail
  refine (blkAll HB.out).mono ?_
  rintro e w1 ⟨v, rfl, hown, hb1⟩
  obtain ⟨a, c, rfl, hnil, hab⟩ := own_slice hown
  have hrd := readsV_own hown
  have hcap : l.length ≤ c := by
    rcases hown.2 with ⟨hv, h0⟩ | ⟨g, cap, cur, hv, _, _, h1, _⟩
    · have := own_len hown; rw [h0] at this; simp at this; omega
    · injection hv with _ _ e3; subst e3; exact h1
  have hB1 := HB.out.below' hb1
  obtain ⟨c0, _⟩ := hB1.cells
  have hs1 := fun (w : World) => run_sliceTo (P := Tryd.prog) (w := w) (t := 39) (a := a) (len := l.length) (cap := c) (k := l.length / 2) Tryd.underlying39 (by kernel_rfl) (by omega)
  have hs2 := fun (w : World) => run_sliceFrom (P := Tryd.prog) (w := w) (t := 39) (a := a) (len := l.length) (cap := c) (k := l.length / 2) Tryd.underlying39 (by kernel_rfl) (by omega)
  have ed : ((l.length / 2 : Nat) : Int) = (l.length : Int) / 2 := by omega
  rw [ed] at hs1 hs2
  have HD : Hid (ReadsV w1 (offA a (l.length / 2) c) ((l.drop (l.length / 2)).map Value.bool)) := by
    have := hrd.drop (k := l.length / 2) (cap := c) (by simpa using hcap)
    rw [← List.map_drop] at this; exact this
  have HTk : Hid (ReadsV w1 a ((l.take (l.length / 2)).map Value.bool)) := by
    have := hrd.take (l.length / 2)
    rw [← List.map_take] at this; exact this
  have HB1 := Lib.hid hB1
  have HC : Hid (Chg (fun b => b = p) w w1) := Chg.of_below hb1
  have hpl := hB1.lt
  have hw1 := hb1.size
  have hl1 : (l.drop (l.length / 2)).length = l.length - l.length / 2 := by simp
  have hl2 : (l.take (l.length / 2)).length = l.length / 2 := by rw [List.length_take]; omega
  have HL1 := Lib.hid hl1
  have HL2 := Lib.hid hl2
  have hap : ∀ ad, a = some ad → ad.block ≠ p := by
    intro ad h e
    obtain ⟨g, rfl, hg, _⟩ := hab ad h
    have hx : g = p := e
    have := HB.out.lt
    omega
  have HAP := Lib.hid hap
  clear hnil hab hrd hcap hB1 hb1 hown ed hl1 hl2 hap
  have hml : l.length / 2 ≤ l.length := Nat.div_le_self _ _
  generalize hm : l.length / 2 = m at *
  have HM := Lib.hid hm
  clear hm
  go_wp2_with fail
  have hnew := blkNew w1 (offA a m c) (c - m) (l.drop m) HD.out (by rw [HL1.out]; omega)
  rw [HL1.out] at hnew
  refine hnew.mono ?_
  rintro e w2 ⟨rfl, hq, hb2⟩
  have hB2 := HB1.out.below' hb2
  obtain ⟨d0, _⟩ := hB2.cells
  have hT2 := HTk.out.below' hb2
  have HQ := Lib.hid hq
  have HB2 := Lib.hid hB2
  have HT2 := Lib.hid hT2
  have HC2 : Hid (Chg (fun b => b = p) w w2) := HC.out.trans (Chg.of_below (S := fun b => b = p) hb2) (fun b hb => Or.inl hb)
  obtain ⟨q, hqe⟩ : ∃ q, w1.heap.size = q := ⟨_, rfl⟩
  have HQE := Lib.hid hqe
  clear hnew hq hB2 hT2 hb2 hs2 hqe
  go_wp2_with fail
  have hset := blkSet HB2.out a c (l.take m) HT2.out (by rw [HL2.out]; omega)
  rw [HL2.out] at hset
  refine hset.mono ?_
  rintro e w3 ⟨rfl, hk3, hc3⟩
  have HK3 := Lib.hid hk3
  have HC3 := Lib.hid hc3
  clear hset hk3 hc3 hs1
  go_wp2_with fail
  go_ret
  rw [HQE.out]
  refine ⟨q, rfl, by have := HQE.out; omega, ?_, ?_, HC2.out.trans HC3.out (fun b hb => Or.inl hb)⟩
  · rw [HM.out]; exact (by rw [HQE.out] at HQ; exact HQ.out : IsBlock w2 q (l.drop m)).chg HC3.out (fun e => by have := HQE.out; omega)
  · rw [HM.out]; exact HK3.out

theorem blkJoin_nil (w : World) (o : Option Addr) : Calls Tryd.prog 26 #[.pointer none, .pointer o] w fun e w' => e = .returned (.int .i64 6) ∧ w = w' := by
  go_enter Tryd.func26, Tryd.ntmps26
  go_wp2_with fail
  go_ret
  exact ⟨rfl, rfl⟩
theorem blkJoin_none (w : World) (p : Nat) : Calls Tryd.prog 26 #[.pointer (some ⟨p, 0, none⟩), .pointer none] w fun e w' => e = .returned (.int .i64 1) ∧ w = w' := by
  go_enter Tryd.func26, Tryd.ntmps26
  go_wp2_with fail
  go_ret
  exact ⟨rfl, rfl⟩
theorem Tryd.infoBlk : ∃ j, Tryd.prog.info? 71 = some j ∧ j.size ≠ 0 := by
  have h : (Tryd.prog.info? 71).map (fun i => decide (i.size ≠ 0)) = some true := by kernel_rfl
  obtain ⟨j, hj, hd⟩ := Option.map_eq_some_iff.1 h
  exact ⟨j, hj, by simpa using hd⟩
theorem blkJoin_self (w : World) (p : Nat) : Calls Tryd.prog 26 #[.pointer (some ⟨p, 0, none⟩), .pointer (some ⟨p, 0, none⟩)] w fun e w' => e = .returned (.int .i64 1) ∧ w = w' := by
  obtain ⟨j, hj, _⟩ := Tryd.infoBlk
  have he := fun (w : World) => run_eql_ptr_same (P := Tryd.prog) w (tp := 41) ⟨p, 0, none⟩ Tryd.underlying41 hj
  go_enter Tryd.func26, Tryd.ntmps26
  go_wp2_with fail
  go_ret
  exact ⟨rfl, rfl⟩

set_option maxHeartbeats 1600000 in
set_option maxRecDepth 10000 in
theorem blkJoin_full {w : World} {p q : Nat} {l m : List Bool} (h : IsBlock w p l) (h2 : IsBlock w q m) (hpq : p ≠ q) (hl : 128 < l.length + m.length) :
    Calls Tryd.prog 26 #[.pointer (some ⟨p, 0, none⟩), .pointer (some ⟨q, 0, none⟩)] w fun e w' => e = .returned (.int .i64 3) ∧ ∃ n, w' = w.drewN n := by
  obtain ⟨c0, _⟩ := h.cells
  obtain ⟨d0, _⟩ := h2.cells
  have k1 := h.1
  have k2 := h2.1
  have hne : (⟨q, 0, none⟩ : Addr) ≠ ⟨p, 0, none⟩ := fun e => hpq (congrArg Addr.block e).symm
  obtain ⟨j, hj, hjs⟩ := Tryd.infoBlk
  have he := run_eql_ptr_other (P := Tryd.prog) w (tp := 41) (a := ⟨q, 0, none⟩) (b := ⟨p, 0, none⟩) Tryd.underlying41 hj hjs hne h2.2 h.2
  clear h h2 hj hjs hne
  go_enter Tryd.func26, Tryd.ntmps26
  go_wp2_with fail
  go_quiet (fail)
  go_wp2_with fail
  go_ret
  exact ⟨rfl, _, rfl⟩

/-- Join: both blocks. -/
def JoinPost (w : World) (p q : Nat) (l m : List Bool) (e : Ending) (w' : World) : Prop :=
  e = .returned (.int .i64 0) ∧ IsBlock w' p (l ++ m) ∧ IsBlock w' q [] ∧ Chg (fun b => b = p ∨ b = q) w w'

set_option maxHeartbeats 1600000 in
set_option maxRecDepth 10000 in
theorem blkJoin {w : World} {p q : Nat} {l m : List Bool} (h : IsBlock w p l) (h2 : IsBlock w q m) (hpq : p ≠ q) (hl : l.length + m.length ≤ 128) :
    Calls Tryd.prog 26 #[.pointer (some ⟨p, 0, none⟩), .pointer (some ⟨q, 0, none⟩)] w (JoinPost w p q l m) := by
  obtain ⟨c0, _⟩ := h.cells
  obtain ⟨d0, _⟩ := h2.cells
  have k1 := h.1
  have k2 := h2.1
  have hne : (⟨q, 0, none⟩ : Addr) ≠ ⟨p, 0, none⟩ := fun e => hpq (congrArg Addr.block e).symm
  obtain ⟨j, hj, hjs⟩ := Tryd.infoBlk
  have he := run_eql_ptr_other (P := Tryd.prog) w (tp := 41) (a := ⟨q, 0, none⟩) (b := ⟨p, 0, none⟩) Tryd.underlying41 hj hjs hne h2.2 h.2
  have HP : Hid (∀ n, IsBlock (w.drewN n) p l) := fun n => h
  have HQ : Hid (∀ n, IsBlock (w.drewN n) q m) := fun n => h2
  have HPQ := Lib.hid hpq
  have HPL := Lib.hid h.lt
  have HQL := Lib.hid h2.lt
  have hd : decide ((128 : Int) < (l.length : Int) + (m.length : Int)) = false := by simp; omega
  clear h h2 hj hjs hpq
  go_enter Tryd.func26, Tryd.ntmps26
  go_wp2_with fail
  go_quiet (fail)
  have HC0 : Hid (Chg (fun b => b = p ∨ b = q) w (w.drewN nq)) := Chg.refl.drewN nq
  have HS0 : Hid ((w.drewN nq).heap.size = w.heap.size) := rfl
  have HP := Lib.hid (HP.out nq)
  have HQ := Lib.hid (HQ.out nq)
  generalize w.drewN nq = w1 at *
  clear c0 d0 he hd
  go_wp2_with fail
  refine (blkAll HP.out).mono ?_
  rintro e w2 ⟨v, rfl, hown, hb1⟩
  have HP2 := Lib.hid (HP.out.below' hb1)
  have HQ2 := Lib.hid (HQ.out.below' hb1)
  have hs2 := hb1.size
  have HC2 : Hid (Chg (fun b => b = p ∨ b = q) w w2) := HC0.out.trans (Chg.of_below (S := fun b => b = p ∨ b = q) hb1) (fun b hb => Or.inl hb)
  have HO2 := Lib.hid hown
  clear hown hb1
  go_wp2_with fail
  refine (blkAll HQ2.out).mono ?_
  rintro e w3 ⟨v3, rfl, hown3, hb3⟩
  have hown := own_below HO2.out hb3 (fun k hk => (own_lt HO2.out hk).2)
  have hown := own_mono hown (show w1.heap.size ≤ w1.heap.size from Nat.le_refl _)
  obtain ⟨a3, c3, rfl, hnil3, _⟩ := own_slice hown3
  have hrd3 := readsV_own hown3
  have hs3 := hb3.size
  have HO3 := Lib.hid hown
  have HR3 := Lib.hid hrd3
  have HN3 := Lib.hid hnil3
  have HP3 := Lib.hid (HP2.out.below' hb3)
  have HQ3 := Lib.hid (HQ2.out.below' hb3)
  have HC3 : Hid (Chg (fun b => b = p ∨ b = q) w w3) := HC2.out.trans (Chg.of_below (S := fun b => b = p ∨ b = q) hb3) (fun b hb => Or.inl hb)
  have HPL1 : Hid (p < w1.heap.size ∧ q < w1.heap.size) := ⟨HP.out.lt, HQ.out.lt⟩
  clear hown3 hown hb3 hrd3 hnil3
  go_wp2_with (at_builtin; refine wpList_appendL rfl _ _ 39 rfl w1.heap.size 4 Tryd.infoBoolR Tryd.underlying39 rfl _ l.length _ rfl HO3.out a3 m.length c3 (m.map Value.bool) rfl (by simp) HN3.out HR3.out.hnews (oneB _) (by unfold maxLen; omega) (by omega) (by omega) ?_)
  intro a4 c4 w4 hown4 hgrow _
  have hb4 : Below w1.heap.size w3 w4 := (Below.refl _ _).grown hgrow (by omega) (fun k hk => (own_lt HO3.out hk).1)
  have HP4 := Lib.hid (HP3.out.below hb4 HPL1.out.1)
  have HQ4 := Lib.hid (HQ3.out.below hb4 HPL1.out.2)
  have HC4 : Hid (Chg (fun b => b = p ∨ b = q) w w4) := by
    have := Below.trans (B := w1.heap.size) (hb4) (Below.refl _ _)
    refine ⟨hb4.os.trans HC3.out.os, hb4.tape.trans HC3.out.tape, hb4.output.trans HC3.out.output, Nat.le_trans HC3.out.size hb4.size, fun k hk hn => ?_⟩
    rw [hb4.block k (by have := HS0.out; omega)]
    exact HC3.out.block k hk hn
  have hrd4 := readsV_own hown4
  rw [← List.map_append] at hrd4
  have HR4 := Lib.hid hrd4
  have hset := blkSet HP4.out a4 c4 (l ++ m) HR4.out (by rw [List.length_append]; exact hl)
  rw [List.length_append] at hset
  have HSET := Lib.hid hset
  clear hown4 hgrow hb4 hrd4 hset
  go_wp2_with fail
  refine HSET.out.mono ?_
  rintro e w5 ⟨rfl, hk5, hc5⟩
  have HK5 := Lib.hid hk5
  have HQ5 : Hid (IsBlock w5 q m) := HQ4.out.chg hc5 (fun e => HPQ.out e.symm)
  have HC5 : Hid (Chg (fun b => b = p ∨ b = q) w w5) := HC4.out.trans hc5 (fun b hb => Or.inl (Or.inl hb))
  clear hk5 hc5 HSET
  have hset2 := blkSet HQ5.out none 0 [] ReadsV.nil (by simp)
  have HSET2 := Lib.hid hset2
  clear hset2
  go_wp2_with fail
  refine HSET2.out.mono ?_
  rintro e w6 ⟨rfl, hk6, hc6⟩
  have HK6 := Lib.hid hk6
  have HC6 := Lib.hid hc6
  clear hk6 hc6
  go_wp2_with fail
  go_ret
  exact ⟨rfl, HK5.out.chg HC6.out HPQ.out, HK6.out, HC5.out.trans HC6.out (fun b hb => Or.inl (Or.inr hb))⟩

end Go.Proofs.YtacoeohmdngnkaaDoor

namespace Go.Proofs.YtacoeohmdngnkaaDoor
set_option linter.unusedVariables false
set_option linter.unusedSimpArgs false
open Go.RowKit

theorem readsB {w : World} {a : Option Addr} {l : List Bool} (hr : ReadsV w a (l.map Value.bool)) {k : Nat} (hk : k < l.length) :
    ∃ b off, a = some ⟨b, off, none⟩ ∧ b < w.heap.size ∧ w.cell? ⟨b, off + k, none⟩ = some (.bool (bitAt l k)) := by
  obtain ⟨b, off, ha, hb, hc⟩ := hr.some (by rw [List.length_map]; omega)
  exact ⟨b, off, ha, hb, hc k _ (by rw [List.getElem?_map, List.getElem?_eq_getElem hk]; simp [bitAt, hk])⟩

theorem refRanks_any (a : Option Addr) (c : Nat) (l : List Bool) (k : Int) (b : Bool) (w : World) (hr : ReadsV w a (l.map Value.bool)) (hl : l.length ≤ 1000000) :
    Calls Tryd.prog 51 #[.slice a l.length c, .int .i64 k, .bool b] w fun e w' => e = .returned (.int .i64 (rankL l k.toNat b)) ∧ w = w' := by
  go_enter Tryd.func51, Tryd.ntmps51
  go_wp2_with fail
  go_loop [7, 8] (fun n i => ∃ m : Nat, m ≤ l.length ∧ m ≤ k.toNat ∧ i = .int .i64 m ∧ n = .int .i64 (rankL l m b)) (fun _ i => l.length - (intOf i).toNat)
  case atStart => exact ⟨0, Nat.zero_le _, Nat.zero_le _, rfl, by simp [rankL]⟩
  case round =>
    obtain ⟨m, hm, hmk, rfl, rfl⟩ := hrel
    have hle := (rankL_le l m b).1
    by_cases h1 : (m : Int) < k
    · by_cases h2 : m < l.length
      · obtain ⟨bb, off, rfl, _, hc⟩ := readsB hr h2
        have hs := rankL_succ b h2
        have e0 : l[m]?.getD false = bitAt l m := rfl
        rw [e0] at hs
        generalize bitAt l m = x at *
        have HS := Lib.hid hs
        clear hs e0 hr
        cases x <;> cases b
        all_goals
          go_wp2_with fail
          go_round
          case rel => exact ⟨m + 1, by omega, by omega, by go_num, by rw [HS.out]; simp⟩
          case measure => simp [intOf]; omega
      · have hR : rankL l k.toNat b = rankL l m b := by rw [rankL_over b (by omega), rankL_over b (by omega)]
        have HR := Lib.hid hR
        clear hR hr
        go_wp2_with fail
        go_ret
        exact ⟨ret_int (by rw [HR.out]), rfl⟩
    · have hR : rankL l k.toNat b = rankL l m b := by rw [show k.toNat = m by omega]
      have HR := Lib.hid hR
      clear hR hr
      go_wp2_with fail
      go_ret
      exact ⟨ret_int (by rw [HR.out]), rfl⟩

theorem refGets_bad (a : Option Addr) (n c : Nat) (k : Int) (w : World) (hk : k < 0 ∨ (n : Int) ≤ k) :
    Calls Tryd.prog 22 #[.slice a n c, .int .i64 k] w fun e w' => e = .returned (.tuple #[.bool false, .int .i64 2]) ∧ w = w' := by
  rcases hk with hk | hk
  · go_enter Tryd.func22, Tryd.ntmps22
    go_wp2_with fail
    go_ret2
    exact ⟨rfl, rfl⟩
  · have d : decide (k < 0) = false := by simp; omega
    go_enter Tryd.func22, Tryd.ntmps22
    go_wp2_with fail
    go_ret2
    exact ⟨rfl, rfl⟩
theorem refGets (a : Option Addr) (c : Nat) (l : List Bool) (k : Nat) (w : World) (hr : ReadsV w a (l.map Value.bool)) (hk : k < l.length) :
    Calls Tryd.prog 22 #[.slice a l.length c, .int .i64 k] w fun e w' => e = .returned (.tuple #[.bool (bitAt l k), .int .i64 0]) ∧ w = w' := by
  obtain ⟨b, off, rfl, _, hc⟩ := readsB hr hk
  have d : decide ((l.length : Int) ≤ (k : Int)) = false := by simp; omega
  clear hr
  go_enter Tryd.func22, Tryd.ntmps22
  go_wp2_with fail
  go_ret2
  exact ⟨rfl, rfl⟩

theorem refSelects_any (a : Option Addr) (c : Nat) (l : List Bool) (j : Int) (b : Bool) (w : World) (hr : ReadsV w a (l.map Value.bool)) (hl : l.length ≤ 1000000) :
    Calls Tryd.prog 52 #[.slice a l.length c, .int .i64 j, .bool b] w fun e w' => e = .returned (.int .i64 (selL l j b)) ∧ w = w' := by
  go_enter Tryd.func52, Tryd.ntmps52
  go_wp2_with fail
  go_loop [7, 8] (fun n i => ∃ m : Nat, m ≤ l.length ∧ i = .int .i64 m ∧ n = .int .i64 (rankL l m b) ∧ ∀ q, q < m → l[q]?.getD false = b → (rankL l q b : Int) ≠ j) (fun _ i => l.length - (intOf i).toNat)
  case atStart => exact ⟨0, Nat.zero_le _, rfl, by simp [rankL], fun q hq => by omega⟩
  case round =>
    obtain ⟨m, hm, rfl, rfl, hno⟩ := hrel
    have HNO := Lib.hid hno
    clear hno
    have hle := (rankL_le l m b).1
    by_cases h2 : m < l.length
    · obtain ⟨bb, off, rfl, _, hc⟩ := readsB hr h2
      have hs := rankL_succ b h2
      have e0 : l[m]?.getD false = bitAt l m := rfl
      rw [e0] at hs
      by_cases hb : bitAt l m = b
      · have HB := Lib.hid hb
        rw [if_pos hb] at hs
        have HS := Lib.hid hs
        rw [hb] at hc
        clear hs e0 hr hb
        by_cases hj : (rankL l m b : Int) = j
        · have hd : ((rankL l m b : Int) == j) = true := by simpa using hj
          have hR := Lib.hid (selL_hit h2 HB.out hj)
          clear hj
          cases b
          all_goals
            go_wp2_with fail
            go_ret
            exact ⟨ret_int hR.out.symm, rfl⟩
        · have hd : ((rankL l m b : Int) == j) = false := by simpa using hj
          have HJ := Lib.hid hj
          clear hj
          have hnx : Hid (∀ q, q < m + 1 → l[q]?.getD false = b → (rankL l q b : Int) ≠ j) := fun q hq hqb => by
            rcases Nat.lt_or_ge q m with h | h
            · exact HNO.out q h hqb
            · have : q = m := by omega
              rw [this]; exact HJ.out
          cases b
          all_goals
            go_wp2_with fail
            go_round
            case rel => exact ⟨m + 1, by omega, by go_num, by rw [HS.out]; simp, hnx.out⟩
            case measure => simp [intOf]; omega
      · have hbb : bitAt l m = !b := by cases b <;> cases h : bitAt l m <;> simp_all
        rw [if_neg hb] at hs
        have HS := Lib.hid hs
        rw [hbb] at hc
        have hnx : Hid (∀ q, q < m + 1 → l[q]?.getD false = b → (rankL l q b : Int) ≠ j) := fun q hq hqb => by
          rcases Nat.lt_or_ge q m with h | h
          · exact HNO.out q h hqb
          · have : q = m := by omega
            rw [this] at hqb; exact absurd hqb hb
        clear hs e0 hr hbb hb
        cases b
        all_goals
          go_wp2_with fail
          go_round
          case rel => exact ⟨m + 1, by omega, by go_num, by rw [HS.out]; simp, hnx.out⟩
          case measure => simp [intOf]; omega
    · have hR : selL l j b = -1 := selL_none (fun q hq => HNO.out q (by omega))
      have HR := Lib.hid hR
      clear hR hr
      go_wp2_with fail
      go_ret
      exact ⟨ret_int HR.out.symm, rfl⟩

theorem refSame_any (a : Option Addr) (c : Nat) (l : List Bool) (a2 : Option Addr) (c2 : Nat) (m : List Bool) (w : World) (hr : ReadsV w a (l.map Value.bool)) (hr2 : ReadsV w a2 (m.map Value.bool)) (hl : l.length ≤ 1000000) :
    Calls Tryd.prog 50 #[.slice a l.length c, .slice a2 m.length c2] w fun e w' => e = .returned (.bool (decide (l = m))) ∧ ∃ n, w' = w.drewN n := by
  by_cases hlen : l.length = m.length
  · have hd : ((l.length : Int) != (m.length : Int)) = false := by simp [hlen]
    have HLEN := Lib.hid hlen
    clear hlen
    go_enter Tryd.func50, Tryd.ntmps50
    go_wp2_with fail
    go_loopw [5] (fun i wr => ∃ k : Nat, k ≤ l.length ∧ i = .int .i64 k ∧ (∀ q, q < k → bitAt l q = bitAt m q) ∧ ∃ n, wr = w.drewN n) (fun i _ => l.length - (intOf i).toNat)
    case atStart => exact ⟨0, Nat.zero_le _, rfl, fun q hq => by omega, 0, rfl⟩
    case round =>
      obtain ⟨k, hk, rfl, hsame, n, rfl⟩ := hrel
      have HSM := Lib.hid hsame
      clear hsame
      by_cases hlt : k < l.length
      · obtain ⟨b1, o1, rfl, _, hc1⟩ := readsB hr hlt
        obtain ⟨b2, o2, rfl, _, hc2⟩ := readsB hr2 (k := k) (by have := HLEN.out; omega)
        have hkm : k < m.length := by have := HLEN.out; omega
        have hc1' : (w.drewN n).cell? ⟨b1, o1 + k, none⟩ = some (.bool (bitAt l k)) := hc1
        have hc2' : (w.drewN n).cell? ⟨b2, o2 + k, none⟩ = some (.bool (bitAt m k)) := hc2
        by_cases hb : bitAt l k = bitAt m k
        · have hs : Hid (∀ q, q < k + 1 → bitAt l q = bitAt m q) := fun q hq => by
            rcases Nat.lt_or_ge q k with h | h
            · exact HSM.out q h
            · have : q = k := by omega
              rw [this]; exact hb
          rw [← hb] at hc2'
          clear hb hc1 hc2 hr hr2
          have HD : Hid (∀ x, ∃ n', (w.drewN n).drewN x = w.drewN n') := fun x => ⟨n + x, by simp [World.drewN, Nat.add_assoc]⟩
          generalize w.drewN n = w1 at *
          cases hbv : bitAt l k
          all_goals
            rw [hbv] at hc1' hc2'
            clear hbv
            go_wp2_with fail
            go_quiet (fail)
            go_wp2_with fail
            go_roundw
            case rel => exact ⟨k + 1, by omega, by go_num, hs.out, HD.out _⟩
            case measure => simp [intOf]; omega
        · have hne : Hid (false = decide (l = m)) := by
            show _ = _
            symm; rw [decide_eq_false_iff_not]; intro e; exact hb (by rw [e])
          have HD : Hid (∀ x, ∃ n', (w.drewN n).drewN x = w.drewN n') := fun x => ⟨n + x, by simp [World.drewN, Nat.add_assoc]⟩
          generalize w.drewN n = w1 at *
          clear hc1 hc2 hr hr2
          cases hb1 : bitAt l k <;> cases hb2 : bitAt m k
          all_goals first
            | (exact absurd (hb1.trans hb2.symm) hb)
            | (rw [hb1] at hc1'
               rw [hb2] at hc2'
               clear hb1 hb2 hb
               go_wp2_with fail
               go_quiet (fail)
               go_wp2_with fail
               go_ret
               exact ⟨ret_bool hne.out, HD.out _⟩)
      · have heq : Hid (true = decide (l = m)) := by
          show _ = _
          symm; rw [decide_eq_true_eq]
          apply List.ext_getElem?
          intro i
          by_cases hi : i < l.length
          · have h1 := HSM.out i (by omega)
            have hm : i < m.length := by have := HLEN.out; omega
            rw [List.getElem?_eq_getElem hi, List.getElem?_eq_getElem hm]
            simpa [bitAt, hi, hm] using h1
          · rw [List.getElem?_eq_none (by omega), List.getElem?_eq_none (by have := HLEN.out; omega)]
        clear hr hr2
        go_wp2_with fail
        go_ret
        exact ⟨ret_bool heq.out, n, rfl⟩
  · have hd : ((l.length : Int) != (m.length : Int)) = true := by simp; omega
    have hne : Hid (false = decide (l = m)) := by
      show _ = _
      symm; rw [decide_eq_false_iff_not]; intro e; exact hlen (by rw [e])
    clear hr hr2 hlen
    go_enter Tryd.func50, Tryd.ntmps50
    go_wp2_with fail
    go_ret
    exact ⟨ret_bool hne.out, 0, rfl⟩

end Go.Proofs.YtacoeohmdngnkaaDoor

namespace Go.Proofs.YtacoeohmdngnkaaDoor
open Go.ChangeShapes Go.WideShapes Go.ChangeAt Go.RowKit

variable {H : Type} {enc : TypeId × Value → H} {P : Program} {w : World} {base : Nat} {sp : Nat → Bool} {held : Bool}

theorem argI_of {t e : TypeId} {k : IntKind} {fuel : Nat} {a : Option Addr} {len cap : Nat} {x : DataW H × List MemPlace} (ht : P.underlying t = some (.slice e)) (he : P.underlying e = some (.int k)) (hc : P.cellsOf e = 1)
    (hf : DataW.trod enc P w base sp held fuel t (Value.slice a len cap).cells.toList = some x) : ∃ xs : List Int, len = xs.length ∧ ArgI k w a cap xs := by
  rcases open_ints ht he hc hf with ⟨hcs, _⟩ | ⟨x, l, c, zs, hcs, _, hl, hm, hz, _, hcell, hwz⟩
  · simp [Value.cells] at hcs
    obtain ⟨rfl, rfl, rfl⟩ := hcs
    exact ⟨[], rfl, ⟨Reads.nil, fun i hi => absurd hi (by simp), by simp, by unfold maxLen; omega, fun _ => rfl⟩⟩
  · simp [Value.cells] at hcs
    obtain ⟨rfl, rfl, rfl⟩ := hcs
    have hzl : len ≤ zs.length := by rw [hz]; split <;> omega
    have hlen : (zs.take len).length = len := by rw [List.length_take]; omega
    clear hz
    refine ⟨zs.take len, hlen.symm, ⟨fun i hi => ?_, fun i hi => ?_, by rw [hlen]; exact hl, hm, fun h => by cases h⟩⟩
    · rw [hlen] at hi ⊢
      obtain ⟨b, off, spot⟩ := x
      have h0 := hcell 0 (by omega)
      have hspot : spot = none := by simpa [Addr.add] using World.cell?_spot h0
      subst hspot
      refine ⟨b, off, rfl, World.block_lt_of_cell? w _ (by simpa [Addr.add] using h0), fun j hj => ?_⟩
      have := hcell j (by omega)
      rw [List.getElem?_take, if_pos hj]
      rw [Addr.add_lit] at this
      simpa [List.getD_eq_getElem?_getD] using this
    · rw [hlen] at hi
      rw [List.getElem?_take, if_pos hi, List.getElem?_eq_getElem (by omega)]
      exact hwz _ (List.getElem_mem _)

end Go.Proofs.YtacoeohmdngnkaaDoor

namespace Go.Proofs.YtacoeohmdngnkaaDoor
set_option linter.unusedVariables false
set_option linter.unusedSimpArgs false
open Go.RowKit

/-- What is returned is some row of bools of the call's own, of at most so many. -/
def SomeB (B : Nat) (w : World) (most : Nat) (e : Ending) (w' : World) : Prop := ∃ l : List Bool, l.length ≤ most ∧ GivesB B w l e w'

set_option maxHeartbeats 1600000 in
theorem lawBits_any (a : Option Addr) (c : Nat) (z : List Int) (most : Nat) (w : World) (hr : Reads w .i64 a z) (hm : most ≤ 1000) (hz : z.length ≤ maxLen) :
    Calls Tryd.prog 16 #[.slice a z.length c, .int .i64 most] w (SomeB w.heap.size w most) := by
  unfold maxLen at hz
  go_enter Tryd.func16, Tryd.ntmps16
  go_wp2_with fail
  go_loopw [5, 6] (fun v i wr => ∃ (k : Nat) (l : List Bool), k ≤ z.length ∧ l.length ≤ most ∧ i = .int .i64 k ∧ wr.ownsRow w.heap.size 4 1 v l.length (l.map Value.bool) ∧ Below w.heap.size w wr) (fun _ i _ => z.length - (intOf i).toNat)
  case atStart => exact ⟨0, [], Nat.zero_le _, Nat.zero_le _, rfl, World.ownsRow_nil _ _ _ _, Below.refl _ _⟩
  case round =>
    obtain ⟨k, l, hk, hl, rfl, hown, hb⟩ := hrel
    by_cases hlt : k < z.length
    · obtain ⟨b, off, rfl, hbl, hcells⟩ := hr.some (by omega)
      have hcx : Hid (∀ w', Below w.heap.size w w' → w'.cell? ⟨b, off + k, none⟩ = some (.int .i64 (z[k]?.getD 0))) := fun w' hb => (hb.cell (p := ⟨b, off + k, none⟩) hbl).trans (hcells k hlt)
      have hc0 := hcx.out wr hb
      generalize z[k]?.getD 0 = x at *
      obtain ⟨u, hu0, hu1, hu⟩ : ∃ u : Int, 0 ≤ u ∧ u < 18446744073709551616 ∧ IntKind.u64.wrap x = u := ⟨IntKind.u64.wrap x, by rw [IntKind.wrap_u64]; omega, by rw [IntKind.wrap_u64]; omega, rfl⟩
      have hn0 : Hid (∃ n : Nat, n ≤ 12 ∧ u / 2 % 12 = (n : Int)) := ⟨(u / 2 % 12).toNat, by omega, by omega⟩
      clear hcells
      go_wp2_with fail
      obtain ⟨wo, rfl⟩ : ∃ wo : World, wo = wr := ⟨_, rfl⟩
      go_loopw [5, 7] (fun v i wr => ∃ (n : Nat) (l : List Bool), n ≤ 12 ∧ l.length ≤ most ∧ i = .int .u64 n ∧ wr.ownsRow w.heap.size 4 1 v l.length (l.map Value.bool) ∧ Below w.heap.size w wr) (fun _ i _ => (intOf i).toNat)
      case atStart =>
        obtain ⟨n, h1, h2⟩ := hn0.out
        exact ⟨n, l, h1, hl, by rw [h2], hown, hb⟩
      case round =>
        clear hc0 hown hb hl
        obtain ⟨n, l, hn, hl, rfl, hown, hb⟩ := hrel
        have hs := hb.size
        have hc0 := hcx.out wr hb
        obtain ⟨v, c, rfl, _, _⟩ := own_slice hown
        by_cases h1 : 0 < n ∧ l.length < most
        · obtain ⟨h1, h2⟩ := h1
          go_wp2_with (at_builtin; refine wpList_push rfl _ _ 39 rfl w.heap.size 4 Tryd.infoBoolR Tryd.underlying39 rfl _ _ _ rfl hown rfl rfl ?c1 ?c2 ?c3 ?_)
          case c1 => unfold maxLen; omega
          case c2 => omega
          case c3 => omega
          intro v' w1 hown' hgrow
          have hnx' : Below w.heap.size w w1 := hb.grown hgrow hs (fun j hj => (hown.lt j hj).1)
          generalize (bits BinOp.and IntKind.i64 x 1 == 1) = bv at *
          have HO : Hid (w1.ownsRow w.heap.size 4 1 v' (l ++ [bv]).length ((l ++ [bv]).map Value.bool)) := by
            show w1.ownsRow _ _ _ _ _ _
            rw [List.length_append, List.map_append]; exact hown'
          clear hown hgrow hown'
          go_wp2_with fail
          go_roundw
          case rel => exact ⟨n - 1, l ++ [bv], by omega, by rw [List.length_append]; simp; omega, by rw [show ((n - 1 : Nat) : Int) = (n : Int) - 1 by omega], HO.out, hnx'⟩
          case measure => simp [intOf]; omega
        · have hor : n = 0 ∨ (0 < n ∧ most ≤ l.length) := by omega
          rcases hor with rfl | ⟨h2, h3⟩
          · go_wp2_with fail
            go_roundw
            case rel => exact ⟨k + 1, l, by omega, hl, by go_num, hown, hb⟩
            case measure => simp [intOf]; omega
          · have hd : decide ((l.length : Int) < (most : Int)) = false := by simp; omega
            go_wp2_with fail
            go_roundw
            case rel => exact ⟨k + 1, l, by omega, hl, by go_num, hown, hb⟩
            case measure => simp [intOf]; omega
    · go_wp2_with fail
      go_ret
      exact ⟨l, hl, _, rfl, hown, hb⟩

/-- 'append(s, x...)' onto an own row behind a guard that is met. -/
theorem wpList_appendG {P : Program} {w : World} {ops : Array Oper} {rest : List Oper} {o : Oper} {a : Act} {Q : Exit → Act → World → Prop} (hw : Region.wanted o (yielded ops a.tmps) = true) (s x : Operand) (t : TypeId)
    (ho : o.op = .call { callee := .builtin .append, args := #[s, x], argTypes := #[t, t] })
    (base : Nat) (e : TypeId) {z : Value} {bytes : Nat} (hinfo : (P.info? e).map (fun i => (i.zero, i.size, i.bytes)) = some (some z, 1, bytes)) (ht : P.underlying t = some (.slice e)) (hz1 : z.cells.size = 1)
    (v : Value) (n : Nat) (xs : List Value) (hs : a.eval s = v) (hown : w.ownsRow base e 1 v n xs)
    (ad : Option Addr) (m c : Nat) (news : List Value) (hx : a.eval x = .slice ad m c) (hl : news.length = m) (hnil : ad = none → m = 0 ∧ c = 0)
    (hnews : ∀ p, ad = some p → ∀ j u, news[j]? = some u → w.cell? (p.add j) = some u) (h1 : ∀ u ∈ news, u.oneCell' = true)
    (h63 : n + m ≤ maxLen) (hbytes : (n + m) * bytes ≤ 140737488355328) (hbase : base ≤ w.heap.size)
    (h : ∀ a' c' w', w'.ownsRow base e 1 (.slice a' (n + m) c') (n + m) (xs ++ news) → w.grownBy w' v.ownBlock → (∀ g, a' = some ⟨g, 0, none⟩ → v.ownBlock = some g ∨ w.heap.size ≤ g) →
      wpList P ops Q rest (a.put o.dst (.slice a' (n + m) c')) w') : wpList P ops Q (o :: rest) a w :=
  wpList_step fun K hK => by
    rw [if_pos hw]
    exact wp_appendL s x t ho base e hinfo ht hz1 v n xs hs hown ad m c news hx hl hnil hnews h1 h63 hbytes hbase (fun a' c' w' h1 h2 h3 => hK _ _ (h a' c' w' h1 h2 h3))

/-- What a law's walk keeps of a block of its own. -/
def BkAt (B : Nat) (w : World) (p : Nat) (l : List Bool) : Prop := IsBlock w p l ∧ B ≤ p
theorem BkAt.below {B : Nat} {w w' : World} {p : Nat} {l : List Bool} (h : BkAt B w p l) (hb : Below w.heap.size w w') : BkAt B w' p l := ⟨h.1.below' hb, h.2⟩
theorem BlkStep.out {B : Nat} {w w' : World} {p : Nat} {l m : List Bool} (h : BlkStep w w' p m) (h0 : BkAt B w p l) (hB : B ≤ w.heap.size) : BkAt B w' p m ∧ Below B w w' :=
  ⟨⟨h.1, h0.2⟩, h.2.below (fun b hb => by have := h0.2; omega) hB⟩

theorem ins_at {B : Nat} {w : World} {p : Nat} {l m : List Bool} {k : Int} {b : Bool} (h : BkAt B w p l) (hB : B ≤ w.heap.size) (n : Nat) (hk : k = (n : Int)) (hl : l.length < 128) (hn : n ≤ l.length) (hm : inL l n b = m) :
    Calls Tryd.prog 19 #[.pointer (some ⟨p, 0, none⟩), .int .i64 k, .bool b] w fun e w' => e = .returned (.int .i64 0) ∧ BkAt B w' p m ∧ Below B w w' := by
  subst hk hm
  refine (blkInsert h.1 hl n hn b).mono ?_
  rintro e w' ⟨rfl, hs⟩
  exact ⟨rfl, hs.out h hB⟩
theorem del_at {B : Nat} {w : World} {p : Nat} {l m : List Bool} {k : Int} {x : Bool} (h : BkAt B w p l) (hB : B ≤ w.heap.size) (n : Nat) (hk : k = (n : Int)) (hn : n < l.length) (hm : outL l n = m) (hx : bitAt l n = x) :
    Calls Tryd.prog 21 #[.pointer (some ⟨p, 0, none⟩), .int .i64 k] w fun e w' => e = .returned (.tuple #[.bool x, .int .i64 0]) ∧ BkAt B w' p m ∧ Below B w w' := by
  subst hk hm hx
  refine (blkDelete h.1 n hn).mono ?_
  rintro e w' ⟨rfl, hs⟩
  exact ⟨rfl, hs.out h hB⟩
/-- Split, of a block of the call's own. -/
def SplitAt (B : Nat) (w : World) (p : Nat) (l : List Bool) (e : Ending) (w' : World) : Prop :=
  ∃ q, e = .returned (.pointer (some ⟨q, 0, none⟩)) ∧ BkAt B w' q (l.drop (l.length / 2)) ∧ BkAt B w' p (l.take (l.length / 2)) ∧ p ≠ q ∧ Below B w w'
theorem split_at {B : Nat} {w : World} {p : Nat} {l : List Bool} (h : BkAt B w p l) (hB : B ≤ w.heap.size) :
    Calls Tryd.prog 24 #[.pointer (some ⟨p, 0, none⟩)] w (SplitAt B w p l) := by
  refine (blkSplit h.1).mono ?_
  rintro e w' ⟨q, rfl, hq, h1, h2, hc⟩
  exact ⟨q, rfl, ⟨h1, by omega⟩, ⟨h2, h.2⟩, fun e => by have := h.1.lt; omega, hc.below (fun b hb => by have := h.2; omega) hB⟩
/-- Join, of blocks of the call's own. -/
def JoinAt (B : Nat) (w : World) (p q : Nat) (l m : List Bool) (e : Ending) (w' : World) : Prop :=
  e = .returned (.int .i64 0) ∧ BkAt B w' p (l ++ m) ∧ BkAt B w' q [] ∧ Below B w w'
theorem join_at {B : Nat} {w : World} {p q : Nat} {l m : List Bool} (h : BkAt B w p l) (h2 : BkAt B w q m) (hpq : p ≠ q) (hB : B ≤ w.heap.size) (hl : l.length + m.length ≤ 128) :
    Calls Tryd.prog 26 #[.pointer (some ⟨p, 0, none⟩), .pointer (some ⟨q, 0, none⟩)] w (JoinAt B w p q l m) := by
  refine (blkJoin h.1 h2.1 hpq hl).mono ?_
  rintro e w' ⟨rfl, h3, h4, hc⟩
  exact ⟨rfl, ⟨h3, h.2⟩, ⟨h4, h2.2⟩, hc.below (fun b hb => by have := h.2; have := h2.2; rcases hb with rfl | rfl <;> omega) hB⟩
theorem new_blk {B : Nat} {w : World} {a : Option Addr} {c n : Nat} (l : List Bool) (hn : n = l.length) (hr : ReadsV w a (l.map Value.bool)) (hl : l.length ≤ 128) (hB : B ≤ w.heap.size) :
    Calls Tryd.prog 17 #[.slice a n c] w fun e w' => e = .returned (.tuple #[.pointer (some ⟨w.heap.size, 0, none⟩), .int .i64 0]) ∧ BkAt B w' w.heap.size l ∧ Below w.heap.size w w' := by
  subst hn
  refine (blkNew w a c l hr hl).mono ?_
  rintro e w' ⟨rfl, h, hb⟩
  exact ⟨rfl, ⟨h, hB⟩, hb⟩
theorem below_drewW {B : Nat} {w w' : World} (h : Below B w w') (n : Nat) : Below B w (w'.drewN n) := ⟨h.os, h.tape, h.output, h.size, h.block⟩

set_option maxHeartbeats 3200000 in
set_option maxRecDepth 100000 in
theorem told2_any (w : World) (hT : BitTab w) : Calls Tryd.prog 18 #[] w fun e w' => e = .returned (.bool true) ∧ Below w.heap.size w w' := by
  have HT := Lib.hid hT; clear hT
  go_enter Tryd.func18, Tryd.ntmps18
  go_wp2_with fail
  refine (new_blk (B := w.heap.size) [true, false, true] rfl (by exact readsV_block (xs := [.bool true, .bool false, .bool true]) (heap_alloc_new w _)) (by decide) (by simp)).mono ?_
  rintro e w1 ⟨rfl, hk, hb0⟩
  have hb : Below w.heap.size w w1 := (below_alloc w (.cells #[.bool true, .bool false, .bool true] 4)).trans (hb0.mono (by simp))
  have hs := hb.size
  clear hb0
  generalize (w.alloc (.cells #[.bool true, .bool false, .bool true] 4)).heap.size = p at *
  go_wp2_with fail
  refine (ins_at (m := [true, true, false, true]) hk hs 1 rfl (by decide) (by decide) rfl).mono ?_
  rintro e w2 ⟨rfl, hk2, hb2⟩
  have hbA := hb.trans hb2
  have hsA := hbA.size
  clear hk hb hb2 hs
  go_wp2_with fail
  refine (del_at (m := [true, false, true]) (x := true) hk2 hsA 0 rfl (by decide) rfl rfl).mono ?_
  rintro e w3 ⟨rfl, hk3, hb3⟩
  have hbB := hbA.trans hb3
  have hsB := hbB.size
  clear hk2 hb3 hbA hsA
  go_wp2_with fail
  refine (blkGet_bad hk3.1 3 (Or.inr (by decide))).mono ?_
  rintro e w' ⟨rfl, rfl⟩
  go_wp2_with fail
  refine (blkOnes hk3.1).mono ?_
  rintro e w' ⟨rfl, rfl⟩
  have c1 : (([true, false, true] : List Bool).count true : Int) = 2 := by decide
  go_wp2_with fail
  refine (split_at hk3 hsB).mono ?_
  rintro e w4 ⟨q, rfl, hq, hk4, hpq, hb4⟩
  have hbC := hbB.trans hb4
  have hsC := hbC.size
  have hq : BkAt w.heap.size w4 q [false, true] := hq
  have hk4 : BkAt w.heap.size w4 p [true] := hk4
  clear hk3 hb4 hbB hsB
  go_wp2_with fail
  refine (blkLen hk4.1).mono ?_
  rintro e w' ⟨rfl, rfl⟩
  go_wp2_with fail
  refine (blkLen hq.1).mono ?_
  rintro e w' ⟨rfl, rfl⟩
  go_wp2_with fail
  refine (blkJoin_self _ p).mono ?_
  rintro e w' ⟨rfl, rfl⟩
  go_wp2_with fail
  refine (join_at hk4 hq hpq hsC (by decide)).mono ?_
  rintro e w5 ⟨rfl, hk5, hq5, hb5⟩
  have hk5 : BkAt w.heap.size w5 p [true, false, true] := hk5
  have hbD := hbC.trans hb5
  have hsD := hbD.size
  clear hk4 hq hb5 hbC hsC
  have hmk := make_bools 129 (by omega)
  rw [show ((129 : Nat) : Int) = 129 from rfl] at hmk
  go_wp2_with fail
  refine (blkNew_full _ _ _ _ (by decide)).mono ?_
  rintro e w' ⟨rfl, rfl⟩
  have hbE := hbD.alloc hsD (.cells (vecL (fun _ => .bool false) 129).toArray 4)
  have hk6 : BkAt w.heap.size (w5.alloc (.cells (vecL (fun _ => .bool false) 129).toArray 4)) p [true, false, true] := hk5.below (below_alloc _ _)
  have hq6 : BkAt w.heap.size (w5.alloc (.cells (vecL (fun _ => .bool false) 129).toArray 4)) q [] := hq5.below (below_alloc _ _)
  generalize w5.alloc (.cells (vecL (fun _ => .bool false) 129).toArray 4) = w6 at *
  have hsE := hbE.size
  clear hk5 hq5 hbD hsD hmk
  go_wp2_with fail
  refine (blkLen hk6.1).mono ?_
  rintro e w' ⟨rfl, rfl⟩
  go_wp2_with fail
  refine (blkLen hq6.1).mono ?_
  rintro e w' ⟨rfl, rfl⟩
  go_wp2_with fail
  refine (blkRank hk6.1 2).mono ?_
  rintro e w7 ⟨rfl, hb7⟩
  have r1 : rankL [true, false, true] (2 : Int).toNat true = 1 := by decide
  rw [r1]
  have hbF := hbE.trans (hb7.mono hsE)
  have hk7 := hk6.below hb7
  have hsF := hbF.size
  clear hk6 hb7 hbE hsE r1
  go_wp2_with fail
  refine (blkSelect hk7.1 (HT.out.below' hbF) 0 false (by decide)).mono ?_
  rintro e w8 ⟨rfl, hb8⟩
  have r2 : selL [true, false, true] 0 false = 1 := by decide
  rw [r2]
  have hbG := hbF.trans (hb8.mono hsF)
  clear hk7 hb8 hbF hsF r2
  go_wp2_with (first
    | (go_at_call 27; refine (blkLen_nil _).mono ?_; rintro e w' ⟨rfl, rfl⟩)
    | (go_at_call 19; refine (blkInsert_nil _ _ _).mono ?_; rintro e w' ⟨rfl, rfl⟩)
    | (go_at_call 24; refine (blkSplit_nil _).mono ?_; rintro e w' ⟨rfl, rfl⟩)
    | (go_at_call 44; refine (blkSelect_none _ _ _).mono ?_; rintro e w' ⟨rfl, rfl⟩))
  go_ret
  exact ⟨rfl, hbG⟩

end Go.Proofs.YtacoeohmdngnkaaDoor

namespace Go.Proofs.YtacoeohmdngnkaaDoor
set_option linter.unusedVariables false
set_option linter.unusedSimpArgs false
open Go.RowKit

/-- Bits in a row: of a word. -/
def bitsL (x n : Nat) : List Bool := (List.range n).map x.testBit
theorem bitsL_len (x n : Nat) : (bitsL x n).length = n := by simp [bitsL]
theorem bitsL_get {x n i : Nat} (h : i < n) : (bitsL x n)[i]? = some (x.testBit i) := by simp [bitsL, h]
theorem bitsL_succ (x n : Nat) : bitsL x (n + 1) = bitsL x n ++ [x.testBit n] := by simp [bitsL, List.range_succ]

theorem wordOf_congr {f g : Nat → Bool} {n : Nat} (h : ∀ i, i < n → f i = g i) : wordOf f n = wordOf g n :=
  word_ext (wordOf_lt f n) (wordOf_lt g n) (fun i hi => by rw [wordOf_bit, wordOf_bit, h i hi])
theorem wordOf_or {f : Nat → Bool} {k : Nat} : wordOf f k ||| (if f k then 2 ^ k else 0) = wordOf f (k + 1) := by
  have hl := wordOf_lt f k
  refine word_ext (n := k + 1) (Nat.or_lt_two_pow (Nat.lt_of_lt_of_le hl (Nat.pow_le_pow_right (by omega) (by omega))) ?_) (wordOf_lt _ _) (fun i hi => ?_)
  · rw [Nat.pow_succ]; have := Nat.two_pow_pos k; split <;> omega
  · rw [Nat.testBit_or, wordOf_bit, wordOf_bit]
    have hb : (if f k = true then 2 ^ k else 0 : Nat).testBit i = (f k && decide (i = k)) := by
      cases f k
      · simp
      · simp [Nat.testBit_two_pow, eq_comm]
    rw [hb]
    by_cases h1 : i < k
    · have h2 : ¬ i = k := by omega
      simp [h1, h2, hi]
    · have h2 : i = k := by omega
      subst h2; simp

end Go.Proofs.YtacoeohmdngnkaaDoor

namespace Go.Proofs.YtacoeohmdngnkaaDoor
set_option linter.unusedVariables false
set_option linter.unusedSimpArgs false
open Go.RowKit

set_option maxHeartbeats 1600000 in
theorem refOut_any (a : Option Addr) (c : Nat) (l : List Bool) (k : Nat) (w : World) (hr : ReadsV w a (l.map Value.bool)) (hk : k < l.length) (hc : l.length ≤ c) (hcm : c ≤ maxLen) (hl : l.length ≤ 1000000) (hnil : a = none → l.length = 0 ∧ c = 0) :
    Calls Tryd.prog 23 #[.slice a l.length c, .int .i64 k] w (GivesB w.heap.size w (outL l k)) := by
  have hs1 := fun (w : World) => run_sliceTo (P := Tryd.prog) (w := w) (t := 39) (a := a) (len := l.length) (cap := c) (k := k) Tryd.underlying39 (by kernel_rfl) (by omega)
  have hs2 : ∀ (w : World), (Instr.slice 39 (.slice a l.length c) (some (.int .i64 ((k : Int) + 1))) none none).run Tryd.prog w = .ok (.slice (offA a (k + 1) c) (l.length - (k + 1)) (c - (k + 1))) w :=
    fun w => run_sliceFrom (P := Tryd.prog) (w := w) (t := 39) (a := a) (len := l.length) (cap := c) (k := k + 1) Tryd.underlying39 (by kernel_rfl) (by omega)
  have HNIL := Lib.hid (offA_nil (k := k + 1) hnil)
  have HN0 : Hid (a = none → k = 0 ∧ c = 0) := fun h => by have := hnil h; omega
  have hrt : ReadsV w a ((l.take k).map Value.bool) := by rw [List.map_take]; exact hr.take k
  have HRT : Hid (∀ w', Below w.heap.size w w' → ReadsV w' a ((l.take k).map Value.bool)) := fun w' hb => hrt.below' hb
  have HRD : Hid (∀ w', Below w.heap.size w w' → ReadsV w' (offA a (k + 1) c) ((l.drop (k + 1)).map Value.bool)) := fun w' hb => by rw [List.map_drop]; exact (hr.below' hb).drop (by simpa using hc)
  have hb0 := below_alloc w (.cells #[] 4)
  have hown0 : (w.alloc (.cells #[] 4)).ownsRow w.heap.size 4 1 (.slice (some ⟨w.heap.size, 0, none⟩) 0 0) 0 [] := own_zero (Nat.le_refl _) (heap_alloc_new _ _)
  have HL := Lib.hid hl
  have HO0 := Lib.hid hown0
  have HB0 := Lib.hid hb0
  clear hnil hr hrt hown0 hb0
  go_enter Tryd.func23, Tryd.ntmps23
  go_wp2_with (at_builtin; refine wpList_appendL rfl _ _ 39 rfl w.heap.size 4 Tryd.infoBoolR Tryd.underlying39 rfl _ 0 _ rfl HO0.out a k c ((l.take k).map Value.bool) rfl (by simp; omega) HN0.out (HRT.out _ HB0.out).hnews (oneB _) (by unfold maxLen; omega) (by omega) HB0.out.size ?_)
  intro a1 c1 w1 hown hgrow _
  have hb1 : Below w.heap.size w w1 := HB0.out.grown hgrow HB0.out.size (fun j hj => by simp [Value.ownBlock] at hj; omega)
  have HB1 := Lib.hid hb1
  have hown1 : w1.ownsRow w.heap.size 4 1 (.slice a1 k c1) k ((l.take k).map Value.bool) := by simpa using hown
  have HOWN := Lib.hid hown1
  clear hown hown1 hgrow hb1
  go_wp2_with (at_builtin; refine wpList_appendL rfl _ _ 39 rfl w.heap.size 4 Tryd.infoBoolR Tryd.underlying39 rfl _ k _ rfl HOWN.out (offA a (k + 1) c) (l.length - (k + 1)) (c - (k + 1)) ((l.drop (k + 1)).map Value.bool) rfl (by simp) HNIL.out (HRD.out _ HB1.out).hnews (oneB _) (by unfold maxLen; omega) (by omega) HB1.out.size ?_)
  intro a2 c2 w2 hown2 hgrow2 _
  have hb2 : Below w.heap.size w w2 := HB1.out.grown hgrow2 HB1.out.size (fun j hj => (own_lt HOWN.out hj).1)
  have HB2 := Lib.hid hb2
  have HO2 := Lib.hid hown2
  clear hown2 hgrow2 hb2
  go_wp2_with fail
  go_ret
  refine ⟨_, rfl, ?_, HB2.out⟩
  have := HO2.out
  rw [show (outL l k).map Value.bool = List.take k (List.map Value.bool l) ++ List.drop (k + 1) (List.map Value.bool l) by simp [outL]]
  rw [show (outL l k).length = k + (l.length - (k + 1)) by rw [outL_len hk]; omega]
  exact this

set_option maxHeartbeats 1600000 in
theorem refIn_any (a : Option Addr) (c : Nat) (l : List Bool) (k : Nat) (b : Bool) (w : World) (hr : ReadsV w a (l.map Value.bool)) (hk : k ≤ l.length) (hc : l.length ≤ c) (hcm : c ≤ maxLen) (hl : l.length ≤ 1000000) (hnil : a = none → l.length = 0 ∧ c = 0) :
    Calls Tryd.prog 20 #[.slice a l.length c, .int .i64 k, .bool b] w (GivesB w.heap.size w (inL l k b)) := by
  have hs1 := fun (w : World) => run_sliceTo (P := Tryd.prog) (w := w) (t := 39) (a := a) (len := l.length) (cap := c) (k := k) Tryd.underlying39 (by kernel_rfl) (by omega)
  have hs2 := fun (w : World) => run_sliceFrom (P := Tryd.prog) (w := w) (t := 39) (a := a) (len := l.length) (cap := c) (k := k) Tryd.underlying39 (by kernel_rfl) (by omega)
  have HNIL := Lib.hid (offA_nil (k := k) hnil)
  have HN0 : Hid (a = none → k = 0 ∧ c = 0) := fun h => by have := hnil h; omega
  have hrt : ReadsV w a ((l.take k).map Value.bool) := by rw [List.map_take]; exact hr.take k
  have HRT : Hid (∀ w', Below w.heap.size w w' → ReadsV w' a ((l.take k).map Value.bool)) := fun w' hb => hrt.below' hb
  have HRD : Hid (∀ w', Below w.heap.size w w' → ReadsV w' (offA a k c) ((l.drop k).map Value.bool)) := fun w' hb => by rw [List.map_drop]; exact (hr.below' hb).drop (by simpa using hc)
  have hb0 := below_alloc w (.cells #[] 4)
  have hown0 : (w.alloc (.cells #[] 4)).ownsRow w.heap.size 4 1 (.slice (some ⟨w.heap.size, 0, none⟩) 0 0) 0 [] := own_zero (Nat.le_refl _) (heap_alloc_new _ _)
  have HL := Lib.hid hl
  have HO0 := Lib.hid hown0
  have HB0 := Lib.hid hb0
  clear hnil hr hrt hown0 hb0
  go_enter Tryd.func20, Tryd.ntmps20
  go_wp2_with (at_builtin; refine wpList_appendL rfl _ _ 39 rfl w.heap.size 4 Tryd.infoBoolR Tryd.underlying39 rfl _ 0 _ rfl HO0.out a k c ((l.take k).map Value.bool) rfl (by simp; omega) HN0.out (HRT.out _ HB0.out).hnews (oneB _) (by unfold maxLen; omega) (by omega) HB0.out.size ?_)
  intro a1 c1 w1 hown hgrow _
  have hb1 : Below w.heap.size w w1 := HB0.out.grown hgrow HB0.out.size (fun j hj => by simp [Value.ownBlock] at hj; omega)
  have hown1 : w1.ownsRow w.heap.size 4 1 (.slice a1 k c1) k ((l.take k).map Value.bool) := by simpa using hown
  have HB1 := Lib.hid hb1
  have HOWN := Lib.hid hown1
  clear hown hown1 hgrow hb1
  go_wp2_with fail
  have hs1b := HB1.out.drew.size
  have HB1A : Hid (Below w.heap.size w (w1.drew.alloc (.cells #[.bool b] 4))) := HB1.out.drew.alloc hs1b _
  have HOWN2 : Hid ((w1.drew.alloc (.cells #[.bool b] 4)).ownsRow w.heap.size 4 1 (.slice a1 k c1) k ((l.take k).map Value.bool)) := World.ownsRow.alloc (w := w1.drew) HOWN.out _
  have HNEW : Hid (∀ p, some (⟨w1.heap.size, 0, none⟩ : Addr) = some p → ∀ j u, [Value.bool b][j]? = some u → (w1.drew.alloc (.cells #[.bool b] 4)).cell? (p.add j) = some u) :=
    (readsV_block (xs := [.bool b]) (heap_alloc_new w1.drew _)).hnews
  refine reg_start (fun _ => True) (by kernel_rfl) (trivial) (fun hHeld => ?_)
  refine rt 0 hHeld ?_
  refine rt 1 hHeld ?_
  refine rt 4 hHeld ?_
  refine rt 5 hHeld ?_
  refine rt 6 hHeld ?_
  refine reg_loud (i := 2) rfl (by kernel_rfl) rfl (fun K hK => ?_)
  go_simp
  refine hK.out _ _ (trivial) (fun hNew => ?_)
  clear hK K hHeld
  have hHeld := hNew
  clear hNew
  try simp only [Act.put, List.setIfInBounds_toArray, List.set_cons_zero, List.set_cons_succ]
  refine reg_loud (i := 3) rfl (by kernel_rfl) rfl (fun K hK => ?_)
  refine wp_appendL _ _ 39 rfl w.heap.size 4 Tryd.infoBoolR Tryd.underlying39 rfl _ k _ rfl HOWN2.out (some ⟨w1.heap.size, 0, none⟩) 1 1 [.bool b] rfl rfl (fun h => by cases h) HNEW.out (oneB [b]) (by unfold maxLen; omega) (by omega) HB1A.out.size ?_
  intro a2 c2 w2 hown2 hgrow2 _
  have hb2 : Below w.heap.size w w2 := HB1A.out.grown hgrow2 HB1A.out.size (fun j hj => (own_lt HOWN2.out hj).1)
  have HB2 := Lib.hid hb2
  have HO2 := Lib.hid hown2
  clear hown2 hgrow2 hb2
  refine hK.out _ _ (trivial) (fun hNew => ?_)
  clear hK K hHeld
  have hHeld := hNew
  clear hNew
  try simp only [Act.put, List.setIfInBounds_toArray, List.set_cons_zero, List.set_cons_succ]
  refine reg_loud (i := 7) rfl (by kernel_rfl) rfl (fun K hK => ?_)
  refine wp_appendL _ _ 39 rfl w.heap.size 4 Tryd.infoBoolR Tryd.underlying39 rfl _ (k + 1) _ rfl HO2.out (offA a k c) (l.length - k) (c - k) ((l.drop k).map Value.bool) rfl (by simp) HNIL.out (HRD.out w2 (HB2.out)).hnews (oneB _) (by unfold maxLen; omega) (by omega) HB2.out.size ?_
  intro a3 c3 w3 hown3 hgrow3 _
  have hb3 : Below w.heap.size w w3 := HB2.out.grown hgrow3 HB2.out.size (fun j hj => (own_lt HO2.out hj).1)
  have HB3 := Lib.hid hb3
  have HO3 := Lib.hid hown3
  clear hown3 hgrow3 hb3
  refine hK.out _ _ (trivial) (fun hNew => ?_)
  clear hK K hHeld
  have hHeld := hNew
  clear hNew
  try simp only [Act.put, List.setIfInBounds_toArray, List.set_cons_zero, List.set_cons_succ]
  refine rt 8 hHeld ?_
  refine reg_done (by kernel_rfl) ?_ _
  go_wp2_with fail
  go_ret
  refine ⟨_, rfl, ?_, HB3.out⟩
  have := HO3.out
  rw [show (inL l k b).map Value.bool = (l.take k).map Value.bool ++ [.bool b] ++ (l.drop k).map Value.bool by simp [inL]]
  rw [show (inL l k b).length = k + 1 + (l.length - k) by rw [inL_len hk]; omega]
  exact this

theorem word_in (x k : Nat) (b : Bool) (hk : k < 64) : wordOf (fun i => (inL (bitsL x 64) k b)[i]?.getD false) 64 = putW x k b := by
  refine wordOf_congr (fun i hi => ?_)
  rw [inL_get (by rw [bitsL_len]; omega)]
  split
  · rw [bitsL_get hi]; rfl
  · split
    · rfl
    · rw [bitsL_get (by omega)]; rfl
theorem word_out (x k : Nat) (b : Bool) (hk : k < 64) : wordOf (fun i => (outL (bitsL x 64) k ++ [b])[i]?.getD false) 64 = cutW x k b := by
  refine wordOf_congr (fun i hi => ?_)
  have hl : (outL (bitsL x 64) k).length = 63 := by rw [outL_len (by rw [bitsL_len]; omega), bitsL_len]
  rw [List.getElem?_append, hl]
  by_cases h63 : i < 63
  · rw [if_pos h63, outL_get (by rw [bitsL_len]; omega)]
    split
    · rw [bitsL_get hi]; rfl
    · rw [bitsL_get (by omega), if_neg (by omega)]; rfl
  · have : i = 63 := by omega
    subst this
    simp
    intro h; omega

end Go.Proofs.YtacoeohmdngnkaaDoor

namespace Go.Proofs.YtacoeohmdngnkaaDoor
open Go.ChangeShapes Go.WideShapes Go.ChangeAt Go.RowKit

/-- A row of such structs that came in. -/
structure ArgO (w : World) (a : Option Addr) (cap : Nat) (xs : List (Int × Int × Bool)) : Prop where
  reads : ∀ i, i < xs.length → ∃ b off, a = some ⟨b, off, none⟩ ∧ b < w.heap.size ∧ ∀ j, j < xs.length →
    w.cell? ⟨b, off + j * 3, none⟩ = some (.int .i64 (xs[j]?.getD default).1) ∧ w.cell? ⟨b, off + j * 3 + 1, none⟩ = some (.int .i64 (xs[j]?.getD default).2.1) ∧ w.cell? ⟨b, off + j * 3 + 2, none⟩ = some (.bool (xs[j]?.getD default).2.2)
  wf : ∀ i, i < xs.length → (Lit.int .i64 (xs[i]?.getD default).2.1).wf = true
  le : xs.length ≤ cap
  max : cap ≤ maxLen

variable {H : Type} {enc : TypeId × Value → H} {P : Program} {w : World} {base : Nat} {sp : Nat → Bool} {held : Bool}

theorem trod_int_wf {t : TypeId} {k : IntKind} {fuel : Nat} {v : Value} {x : DataW H × List MemPlace} (ht : P.underlying t = some (.int k)) (hf : DataW.trod enc P w base sp held fuel t [v] = some x) : ∃ n, v = .int k n ∧ (Lit.int k n).wf = true := by
  cases fuel with
  | zero => simp [DataW.trod] at hf
  | succ fuel =>
    cases v <;> simp [DataW.trod, ht] at hf
    rename_i k' n
    obtain ⟨⟨rfl, h⟩, _⟩ := hf
    exact ⟨n, rfl, h⟩
theorem trod_bool_v {t : TypeId} {fuel : Nat} {v : Value} {x : DataW H × List MemPlace} (ht : P.underlying t = some .bool) (hf : DataW.trod enc P w base sp held fuel t [v] = some x) : ∃ b, v = .bool b := by
  cases fuel with
  | zero => simp [DataW.trod] at hf
  | succ fuel =>
    cases v <;> simp [DataW.trod, ht] at hf
    exact ⟨_, rfl⟩

theorem argO_of {t e : TypeId} {f0 f1 f2 : Field} {fuel : Nat} {a : Option Addr} {len cap : Nat} {x : DataW H × List MemPlace} (ht : P.underlying t = some (.slice e)) (he : P.underlying e = some (.struct #[f0, f1, f2]))
    (ce : P.cellsOf e = 3) (o0 : f0.offset = 0) (o1 : f1.offset = 1) (o2 : f2.offset = 2) (c0 : P.cellsOf f0.type = 1) (c1 : P.cellsOf f1.type = 1) (c2 : P.cellsOf f2.type = 1)
    (i0 : P.underlying f0.type = some (.int .i64)) (i1 : P.underlying f1.type = some (.int .i64)) (i2 : P.underlying f2.type = some .bool)
    (hf : DataW.trod enc P w base sp held fuel t (Value.slice a len cap).cells.toList = some x) : ∃ xs : List (Int × Int × Bool), len = xs.length ∧ ArgO w a cap xs := by
  rcases Go.Deep.open_slice ht hf with ⟨hcs, _⟩ | ⟨x, l, c, m, n, D, Pl, hcs, _, hl, hm, hmm, _, hx⟩
  · simp [Value.cells] at hcs
    obtain ⟨rfl, rfl, rfl⟩ := hcs
    exact ⟨[], rfl, ⟨fun i hi => absurd hi (by simp), fun i hi => absurd hi (by simp), by simp, by unfold maxLen; omega⟩⟩
  · simp [Value.cells] at hcs
    obtain ⟨rfl, rfl, rfl⟩ := hcs
    have hlm : len ≤ m := by rw [hmm]; split <;> omega
    have hz : ∀ i, i < m → ∃ z : Int × Int × Bool, w.cell? (x.add (i * 3)) = some (.int .i64 z.1) ∧ w.cell? (x.add (i * 3 + 1)) = some (.int .i64 z.2.1) ∧ w.cell? (x.add (i * 3 + 2)) = some (.bool z.2.2) ∧ (Lit.int .i64 z.2.1).wf = true := fun i hi => by
      obtain ⟨cs', h1, h2⟩ := hx i hi
      rw [ce] at h1
      obtain ⟨_, hlen, hcell⟩ := World.cells?_some h1
      obtain ⟨xs, k, hk, hxy, _, hxl, hfs⟩ := DataW.trod_struct he h2
      match xs, hxl, cs', hlen with
      | [y0, y1, y2], _, [v0, v1, v2], _ =>
        have g0 := hfs 0 f0 rfl
        have g1 := hfs 1 f1 rfl
        have g2 := hfs 2 f2 rfl
        simp [o0, o1, o2, c0, c1, c2] at g0 g1 g2
        have e0 := hcell 0 (by omega)
        have e1 := hcell 1 (by omega)
        have e2 := hcell 2 (by omega)
        rw [Go.Deep.add_add] at e0 e1 e2
        obtain ⟨n0, rfl, _⟩ := trod_int_wf i0 g0
        obtain ⟨n1, rfl, hw⟩ := trod_int_wf i1 g1
        obtain ⟨b2, rfl⟩ := trod_bool_v i2 g2
        exact ⟨(n0, n1, b2), by simpa using e0, by simpa using e1, by simpa using e2, hw⟩
    obtain ⟨z, hzz⟩ := Go.Deep.choose_lt hz
    have hlen : ((List.range len).map z).length = len := by simp
    have hget : ∀ j, j < len → ((List.range len).map z)[j]?.getD default = z j := fun j hj => by simp [hj]
    refine ⟨(List.range len).map z, hlen.symm, ⟨fun i hi => ?_, fun i hi => ?_, by rw [hlen]; exact hl, hm⟩⟩
    · rw [hlen] at hi ⊢
      obtain ⟨b, off, spot⟩ := x
      have h0 := (hzz 0 (by omega)).1
      have hspot : spot = none := by simpa [Addr.add] using World.cell?_spot h0
      subst hspot
      refine ⟨b, off, rfl, World.block_lt_of_cell? w _ (by simpa [Addr.add] using h0), fun j hj => ?_⟩
      obtain ⟨g0, g1, g2, _⟩ := hzz j (by omega)
      rw [Addr.add_lit] at g0 g1 g2
      rw [hget j hj]
      exact ⟨g0, g1, g2⟩
    · rw [hlen] at hi
      rw [hget i hi]
      exact (hzz i (by omega)).2.2.2

end Go.Proofs.YtacoeohmdngnkaaDoor

namespace Go.Proofs.YtacoeohmdngnkaaDoor
set_option linter.unusedVariables false
set_option linter.unusedSimpArgs false
open Go.RowKit

theorem zeroCells_one {z : Value} (n : Nat) : Builtin.zeroCells #[z] n = (List.replicate n z).toArray := by
  apply Array.ext
  · simp [Builtin.zeroCells]
  · intro i h1 h2
    have h0 : ∀ m, m % 1 = 0 := fun m => by omega
    simp [Builtin.zeroCells, h0]

theorem run_append_make {P : Program} (w : World) (base : Nat) (t it ty e : TypeId) (i : TypeInfo) (z : Value) (ht : P.underlying t = some (.slice e)) (hit : P.underlying it = some (.int .i64)) (hi : P.info? e = some i) (hz : i.zero = some z)
    (hsize : i.size = 1) (hby : i.bytes = 1) (hzc : z.cells = #[z]) (h1 : z.oneCell' = true)
    (v : Value) (n : Nat) (xs : List Value) (hown : w.ownsRow base e 1 v n xs) (m : Nat) (hm : n + m ≤ 1000000) (hbase : base ≤ w.heap.size) :
    ∃ v' w', (Builtin.append_ #[t, it] ty #[v, .int .i64 (m : Int)]).run P w = .ok v' w' ∧ w'.ownsRow base e 1 v' (n + m) (xs ++ List.replicate m z) ∧ w.grownBy w' v.ownBlock := by
  have hw : IntKind.i64.wrap (m : Int) = m := IntWalk.i64_in _ (by omega)
  have n1 : ¬ ((m : Int) < 0) := by omega
  have n2 : ¬ (281474976710656 < (m : Int)) := by omega
  have hlen : (xs ++ List.replicate m z).length = (n + m) * 1 := by rw [List.length_append, hown.1, List.length_replicate]; omega
  have ho : ∀ u ∈ List.replicate m z, u.oneCell' = true := fun u hu => by rw [(List.mem_replicate.1 hu).2]; exact h1
  have grown : ∀ (old : Nat), old < n + m → ∀ (row : Option Nat),
      (w.drew.alloc (.cells (xs.toArray ++ (List.replicate m z).toArray ++ Builtin.zeroCells z.cells (grownCap w (n + m) old e - (n + m))) e)).ownsRow base e 1
        (.slice (some ⟨w.heap.size, 0, none⟩) (n + m) (grownCap w (n + m) old e)) (n + m) (xs ++ List.replicate m z) ∧
      w.grownBy (w.drew.alloc (.cells (xs.toArray ++ (List.replicate m z).toArray ++ Builtin.zeroCells z.cells (grownCap w (n + m) old e - (n + m))) e)) row := by
    intro old ho row
    have hge := grownCap_ge w (n + m) old e
    have hcm : grownCap w (n + m) old e ≤ maxLen := grownCap_le_maxLen w (n + m) old e (by unfold maxLen; omega)
    refine ⟨⟨hlen, .inr ⟨w.heap.size, _, _, rfl, hbase, heap_alloc_new w.drew _, hge, hcm, ?_, ?_⟩⟩, ⟨rfl, rfl, rfl, by simp, fun k hk _ => Below.heap_alloc w.drew _ k hk⟩⟩
    · rw [hzc]
      simp only [Array.size_append, List.size_toArray, zeroCells_one, hown.1, List.length_replicate]
      omega
    · simp only [Array.toList_append, List.append_assoc]
      rw [← List.append_assoc, ← hlen]
      exact List.take_left
  rcases hown.2 with ⟨rfl, rfl⟩ | ⟨g, cap, cur, rfl, hbg, hg, hnc, hcm, hcs, htake⟩
  · have hx : xs = [] := List.eq_nil_of_length_eq_zero (by simpa using hown.1)
    subst hx
    by_cases hm0 : m = 0
    · subst hm0
      have hw0 : IntKind.i64.wrap 0 = 0 := by decide
      refine ⟨.slice none 0 0, w, ?_, World.ownsRow_nil w base e 1, ⟨rfl, rfl, rfl, Nat.le_refl _, fun _ _ _ => rfl⟩⟩
      simp [Builtin.append_, run_underlying ht, run_underlying hit, sizeOf, typeInfo, hi, hw0, hsize, hby, asInt, asIntOf]
    · have hgr := grown 0 (by omega) (Value.ownBlock (.slice none 0 0))
      simp only [Nat.zero_add, List.nil_append, Array.empty_append] at hgr ⊢
      refine ⟨_, _, ?_, hgr.1, hgr.2⟩
      have h63 : ¬ (9223372036854775807 < (m : Int)) := by omega
      have h48 : ¬ (281474976710656 < Builtin.nextslicecap m 0) := by rw [nextslicecap_zero (by omega)]; omega
      simp [Builtin.append_, run_underlying ht, run_underlying hit, sizeOf, typeInfo, zeroValue, hi, hz, hw, hsize, hby, n1, n2, hm0, asInt, asIntOf, h63, h48, Question.forced, run_firstCells_none, newRow, grownCap, hzc, zeroCells_one]
  · by_cases hroom : n + m ≤ cap
    · have hfit : n * 1 + (List.replicate m z).length ≤ cur.size := by rw [List.length_replicate, hcs]; omega
      have hst := run_storeCells_at P g (n * 1) e (List.replicate m z) 0 cur w hg (by simpa using hfit) ho
      simp only [Nat.add_zero, Nat.mul_one] at hst
      refine ⟨.slice (some ⟨g, 0, none⟩) (n + m) cap, _, ?_, ⟨hlen, .inr ⟨g, cap, _, rfl, hbg, setRow_heap w g cur (cur.toList.take n ++ List.replicate m z ++ cur.toList.drop (n + (List.replicate m z).length)).toArray e (0, 0) hg, hroom, hcm, ?_, ?_⟩⟩, ⟨rfl, rfl, rfl, by simp, fun k _ hk => setRow_other w g k _ (fun e => hk (by simp [Value.ownBlock, e]))⟩⟩
      · by_cases hm0 : m = 0
        · subst hm0
          have hw0 : IntKind.i64.wrap 0 = 0 := by decide
          simp at hst
          simp [Builtin.append_, run_underlying ht, run_underlying hit, sizeOf, typeInfo, hi, hw0, hsize, hby, asInt, asIntOf, hnc, Addr.add_lit, hst]
        · simp [Builtin.append_, run_underlying ht, run_underlying hit, sizeOf, typeInfo, zeroValue, hi, hz, hw, hsize, hby, n1, n2, hm0, asInt, asIntOf, hroom, Addr.add_lit, hzc, zeroCells_one, hst]
      · simp only [List.size_toArray, List.length_append, List.length_take, List.length_drop, Array.length_toList, List.length_replicate]
        simp at hfit hcs
        omega
      · simp only [Nat.mul_one] at htake
        rw [htake, ← hlen]
        exact List.take_left
    · have holds : ∀ j u, xs[j]? = some u → w.cell? ((⟨g, 0, none⟩ : Addr).add j) = some u := hown.cells (g := g) rfl
      have hgr := grown cap (by omega) (Value.ownBlock (.slice (some ⟨g, 0, none⟩) n cap))
      refine ⟨_, _, ?_, hgr.1, hgr.2⟩
      have hm0 : m ≠ 0 := by omega
      have h63 : ¬ (9223372036854775807 < ((n : Int) + (m : Int))) := by omega
      have h48 : ¬ (281474976710656 < Builtin.nextslicecap (n + m) cap) := by
        have := growslice_fits (need := n + m) (old := cap) (bytes := 1) (by omega) (by omega)
        omega
      have hfo := run_firstCells_some (P := P) w.drew 1 n ⟨g, 0, none⟩ n cap xs hown.1 (by simpa using holds)
      simp [Builtin.append_, run_underlying ht, run_underlying hit, sizeOf, typeInfo, zeroValue, hi, hz, hw, hsize, hby, n1, n2, hm0, asInt, asIntOf, hroom, h63, h48, Question.forced, hfo, newRow, grownCap, hzc, zeroCells_one]

theorem wpList_appendM {P : Program} {w : World} {ops : Array Oper} {rest : List Oper} {o : Oper} {a : Act} {Q : Exit → Act → World → Prop} (hgd : o.guard = none) (s x : Operand) (t it : TypeId)
    (ho : o.op = .call { callee := .builtin .append, args := #[s, x], argTypes := #[t, it] })
    (base : Nat) (e : TypeId) {z : Value} (hinfo : (P.info? e).map (fun i => (i.zero, i.size, i.bytes)) = some (some z, 1, 1)) (ht : P.underlying t = some (.slice e)) (hit : P.underlying it = some (.int .i64)) (hzc : z.cells = #[z]) (h1 : z.oneCell' = true)
    (v : Value) (n : Nat) (xs : List Value) (hs : a.eval s = v) (hown : w.ownsRow base e 1 v n xs) (m : Nat) (hx : a.eval x = .int .i64 (m : Int)) (hm : n + m ≤ 1000000) (hbase : base ≤ w.heap.size)
    (h : ∀ v' w', w'.ownsRow base e 1 v' (n + m) (xs ++ List.replicate m z) → w.grownBy w' v.ownBlock → wpList P ops Q rest (a.put o.dst v') w') : wpList P ops Q (o :: rest) a w := by
  obtain ⟨i, hi, hz, hsz, hby⟩ := info_parts hinfo
  refine wpList_plain hgd fun K hK => ?_
  obtain ⟨v', w', hr, h2, h3⟩ := run_append_make (P := P) w base t it o.type e i z ht hit hi hz hsz hby hzc h1 v n xs hown m hm hbase
  unfold Oper.wp execOp
  simp only [ho, resolve, invoke, builtin, Sem.run_bind, Sem.run_pure, Result.andThen_ok, List.map_toArray, List.map_cons, List.map_nil, hs, hx, hr]
  exact hK _ _ (h v' w' h2 h3)

end Go.Proofs.YtacoeohmdngnkaaDoor

namespace Go.Proofs.YtacoeohmdngnkaaDoor
set_option linter.unusedVariables false
set_option linter.unusedSimpArgs false
open Go.RowKit

/-- An own row of bools does not lie in a block of another kind. -/
theorem own_ne {w : World} {base : Nat} {e T : TypeId} {v : Value} {n g : Nat} {xs : List Value} {cs : Array Value} (ho : w.ownsRow base e 1 v n xs) (hg : w.heap[g]? = some (.cells cs T (0, 0))) (hne : e ≠ T) : ∀ k, v.ownBlock = some k → k ≠ g := by
  intro k hk e1
  subst e1
  rcases ho.2 with ⟨rfl, _⟩ | ⟨g', cap, cur, rfl, _, h, _⟩
  · simp [Value.ownBlock] at hk
  · simp [Value.ownBlock] at hk
    subst hk
    rw [hg] at h
    injection h with h; injection h with _ h2 _
    exact hne h2.symm

set_option maxHeartbeats 3200000 in
set_option maxRecDepth 100000 in
theorem same_any {w : World} {p : Nat} {l : List Bool} (h : IsBlock w p l) (hT : BitTab w) (a : Option Addr) (c : Nat) (k : Int) (hr : ReadsV w a (l.map Value.bool)) (hk : k ≤ 9223372036854775807) :
    Calls Tryd.prog 25 #[.pointer (some ⟨p, 0, none⟩), .slice a l.length c, .int .i64 k] w fun e w' => e = .returned (.bool true) ∧ Below w.heap.size w w' := by
  have hl := h.1
  have HT := Lib.hid hT
  have HB := Lib.hid h
  have HR := Lib.hid hr
  have hcl := List.count_le_length (a := true) (l := l)
  have hrk : rankL l ((l.length : Int)).toNat true = l.count true := by rw [Int.toNat_natCast, rankL_over true (Nat.le_refl _)]
  have HRK := Lib.hid hrk
  -- what the two Gets answer
  have G1 : Hid (∃ (x : Bool) (y : Int), (∀ w', IsBlock w' p l → Calls Tryd.prog 41 #[.pointer (some ⟨p, 0, none⟩), .int .i64 k] w' fun e w'' => e = .returned (.tuple #[.bool x, .int .i64 y]) ∧ w' = w'') ∧
      (∀ w', ReadsV w' a (l.map Value.bool) → Calls Tryd.prog 22 #[.slice a l.length c, .int .i64 k] w' fun e w'' => e = .returned (.tuple #[.bool x, .int .i64 y]) ∧ w' = w'')) := by
    by_cases hin : 0 ≤ k ∧ k < l.length
    · obtain ⟨n, rfl⟩ := Int.eq_ofNat_of_zero_le hin.1
      exact ⟨bitAt l n, 0, fun w' h => blkGet h n (by omega), fun w' h => refGets a c l n w' h (by omega)⟩
    · exact ⟨false, 2, fun w' h => blkGet_bad h k (by omega), fun w' _ => refGets_bad a l.length c k w' (by omega)⟩
  obtain ⟨x, y, g1, g2⟩ := G1.out
  have GA := Lib.hid g1
  have GB := Lib.hid g2
  clear g1 g2 G1 hrk h hr hT
  go_enter Tryd.func25, Tryd.ntmps25
  go_wp2_with fail
  refine (GA.out w HB.out).mono ?_
  rintro e w' ⟨rfl, rfl⟩
  go_wp2_with fail
  refine (GB.out w HR.out).mono ?_
  rintro e w' ⟨rfl, rfl⟩
  go_wp2_with fail
  refine (blkLen HB.out).mono ?_
  rintro e w' ⟨rfl, rfl⟩
  go_wp2_with fail
  refine (blkAll HB.out).mono ?_
  rintro e w2 ⟨v, rfl, hown, hb2⟩
  obtain ⟨a2, c2, rfl, _, _⟩ := own_slice hown
  have hrd := readsV_own hown
  have HB2 := Lib.hid (HB.out.below' hb2)
  have HR2 := Lib.hid (HR.out.below' hb2)
  have hsm := refSame_any a2 c2 l a c l w2 hrd HR2.out (by omega)
  rw [show decide (l = l) = true by simp] at hsm
  have HSM := Lib.hid hsm
  clear hsm hown hrd
  go_wp2_with fail
  refine HSM.out.mono ?_
  rintro e w' ⟨rfl, n, rfl⟩
  have HB3 : Hid (IsBlock (w2.drewN n) p l) := HB2.out
  have HR3 : Hid (ReadsV (w2.drewN n) a (l.map Value.bool)) := HR2.out
  have hb3 := below_drewW hb2 n
  generalize w2.drewN n = w3 at *
  clear hb2 HB2 HR2 HSM
  go_wp2_with fail
  refine (blkOnes HB3.out).mono ?_
  rintro e w' ⟨rfl, rfl⟩
  go_wp2_with fail
  refine (refRanks_any a c l l.length true _ HR3.out (by omega)).mono ?_
  rintro e w' ⟨rfl, rfl⟩
  rw [HRK.out]
  have hxx : (x == x) = true := by simp
  have hs3 := hb3.size
  cases x
  all_goals
    go_wp2_with fail
    refine (blkRank HB3.out k).mono ?_
    rintro e w4 ⟨rfl, hb4⟩
    have HB4 := Lib.hid (HB3.out.below' hb4)
    have HR4 := Lib.hid (HR3.out.below' hb4)
    have hb5 := hb3.trans (hb4.mono hs3)
    have hs5 := hb5.size
    go_wp2_with fail
    refine (refRanks_any a c l k true _ HR4.out (by omega)).mono ?_
    rintro e w' ⟨rfl, rfl⟩
    go_wp2_with fail
    refine (blkSelect HB4.out (HT.out.below' hb5) k true hk).mono ?_
    rintro e w6 ⟨rfl, hb6⟩
    have HB6 := Lib.hid (HB4.out.below' hb6)
    have HR6 := Lib.hid (HR4.out.below' hb6)
    have hb7 := hb5.trans (hb6.mono hs5)
    have hs7 := hb7.size
    go_wp2_with fail
    refine (refSelects_any a c l k true _ HR6.out (by omega)).mono ?_
    rintro e w' ⟨rfl, rfl⟩
    go_wp2_with fail
    refine (blkSelect HB6.out (HT.out.below' hb7) k false hk).mono ?_
    rintro e w8 ⟨rfl, hb8⟩
    have HR8 := Lib.hid (HR6.out.below' hb8)
    have hb9 := hb7.trans (hb8.mono hs7)
    go_wp2_with fail
    refine (refSelects_any a c l k false _ HR8.out (by omega)).mono ?_
    rintro e w' ⟨rfl, rfl⟩
    go_wp2_with fail
    go_ret
    exact ⟨rfl, hb9⟩

theorem same_lit {w : World} {p n c : Nat} (l : List Bool) (hn : n = l.length) (h : IsBlock w p l) (hT : BitTab w) (a : Option Addr) (k : Int) (hr : ReadsV w a (l.map Value.bool)) (hk : k ≤ 9223372036854775807) :
    Calls Tryd.prog 25 #[.pointer (some ⟨p, 0, none⟩), .slice a n c, .int .i64 k] w fun e w' => e = .returned (.bool true) ∧ Below w.heap.size w w' := by
  subst hn; exact same_any h hT a c k hr hk

/-- The block, the list's row, the step's own copy. -/
structure PlIn (B : Nat) (w : World) (p : Nat) (m : List Bool) (v : Value) (r : List Bool) (q : Nat) (kd K : Int) (bt : Bool) : Prop where
  bk : BkAt B w p m
  own : w.ownsRow B 4 1 v r.length (r.map Value.bool)
  o : w.heap[q]? = some (.cells #[.int .i64 kd, .int .i64 K, .bool bt] 45 (0, 0))
  hq : B ≤ q

section
variable {B : Nat} {w w' : World} {p : Nat} {m r : List Bool} {v : Value} {q : Nat} {kd K : Int} {bt : Bool}
theorem PlIn.cells (h : PlIn B w p m v r q kd K bt) : w.cell? ⟨q, 0, none⟩ = some (.int .i64 kd) ∧ w.cell? ⟨q, 1, none⟩ = some (.int .i64 K) ∧ w.cell? ⟨q, 2, none⟩ = some (.bool bt) :=
  ⟨by rw [cell_of_row w q 0 _ _ _ h.o]; rfl, by rw [cell_of_row w q 1 _ _ _ h.o]; rfl, by rw [cell_of_row w q 2 _ _ _ h.o]; rfl⟩
theorem PlIn.below (h : PlIn B w p m v r q kd K bt) (hb : Below w.heap.size w w') : PlIn B w' p m v r q kd K bt :=
  ⟨h.bk.below hb, own_below h.own hb (fun k hk => (own_lt h.own hk).2), (hb.block q (Array.getElem?_eq_some_iff.1 h.o).1).trans h.o, h.hq⟩
theorem PlIn.keep (h : PlIn B w p m v r q kd K bt) {S : Nat → Prop} (hc : Chg S w w') (hS : ∀ b, S b → ∃ cs, w.heap[b]? = some (.cells cs 71 (0, 0))) {m' : List Bool} (hk : BkAt B w' p m') : PlIn B w' p m' v r q kd K bt := by
  refine ⟨hk, hc.own h.own (fun k hk hs => ?_), hc.heap h.o (fun hs => ?_), h.hq⟩
  · obtain ⟨cs, hcs⟩ := hS k hs
    exact own_ne h.own hcs (by decide) k hk rfl
  · obtain ⟨cs, hcs⟩ := hS q hs
    rw [h.o] at hcs
    injection hcs with hcs; injection hcs with _ h2 _
    exact absurd h2 (by decide)
theorem PlIn.step (h : PlIn B w p m v r q kd K bt) (hB : B ≤ w.heap.size) {m' : List Bool} (hs : BlkStep w w' p m') : PlIn B w' p m' v r q kd K bt ∧ Below B w w' := by
  obtain ⟨h1, h2⟩ := hs.out h.bk hB
  exact ⟨h.keep hs.2 (fun b hb => by rw [hb]; exact ⟨_, h.bk.1.2⟩) h1, h2⟩
theorem PlIn.row (h : PlIn B w p m v r q kd K bt) (hB : B ≤ w.heap.size) {v' : Value} {r' : List Bool} (ho : w'.ownsRow w.heap.size 4 1 v' r'.length (r'.map Value.bool)) (hb : Below w.heap.size w w') : PlIn B w' p m v' r' q kd K bt :=
  ⟨h.bk.below hb, own_mono ho hB, (h.below hb).o, h.hq⟩
end

theorem ins_pl {B : Nat} {w : World} {p : Nat} {m r : List Bool} {v : Value} {q : Nat} {kd K : Int} {bt : Bool} (h : PlIn B w p m v r q kd K bt) (hB : B ≤ w.heap.size) (n : Nat) (hK : K = (n : Int)) (hl : m.length < 128) (hn : n ≤ m.length) :
    Calls Tryd.prog 19 #[.pointer (some ⟨p, 0, none⟩), .int .i64 K, .bool bt] w fun e w' => e = .returned (.int .i64 0) ∧ PlIn B w' p (inL m n bt) v r q kd K bt ∧ Below B w w' := by
  subst hK
  refine (blkInsert h.bk.1 hl n hn bt).mono ?_
  rintro e w' ⟨rfl, hs⟩
  exact ⟨rfl, h.step hB hs⟩
theorem del_pl {B : Nat} {w : World} {p : Nat} {m r : List Bool} {v : Value} {q : Nat} {kd K : Int} {bt : Bool} (h : PlIn B w p m v r q kd K bt) (hB : B ≤ w.heap.size) (n : Nat) (hK : K = (n : Int)) (hn : n < m.length) :
    Calls Tryd.prog 21 #[.pointer (some ⟨p, 0, none⟩), .int .i64 K] w fun e w' => e = .returned (.tuple #[.bool (bitAt m n), .int .i64 0]) ∧ PlIn B w' p (outL m n) v r q kd K bt ∧ Below B w w' := by
  subst hK
  refine (blkDelete h.bk.1 n hn).mono ?_
  rintro e w' ⟨rfl, hs⟩
  exact ⟨rfl, h.step hB hs⟩

/-- A row of the call's own, as a slice that other contracts read. -/
theorem own_row {B : Nat} {w : World} {v : Value} {r : List Bool} (h : w.ownsRow B 4 1 v r.length (r.map Value.bool)) :
    ∃ a c, v = .slice a r.length c ∧ ReadsV w a (r.map Value.bool) ∧ r.length ≤ c ∧ c ≤ maxLen ∧ (a = none → r.length = 0 ∧ c = 0) := by
  obtain ⟨a, c, rfl, hnil, _⟩ := own_slice h
  refine ⟨a, c, rfl, readsV_own h, ?_, ?_, hnil⟩
  · rcases h.2 with ⟨hv, h0⟩ | ⟨g, cap, cur, hv, _, _, h1, _⟩
    · rw [h0]; exact Nat.zero_le _
    · injection hv with _ _ e3; subst e3; exact h1
  · rcases h.2 with ⟨hv, h0⟩ | ⟨g, cap, cur, hv, _, _, _, h1, _⟩
    · injection hv with _ _ e3; subst e3; unfold maxLen; omega
    · injection hv with _ _ e3; subst e3; exact h1

theorem and7 (x : Int) : ∃ n : Nat, n < 8 ∧ bits .and .i64 x 7 = (n : Int) := by
  have h : ((BitVec.ofInt 64 x &&& BitVec.ofInt 64 7).toNat) < 8 := by
    rw [BitVec.toNat_and]
    have : (BitVec.ofInt 64 7).toNat = 7 := by decide
    rw [this]
    have := @Nat.and_le_right (BitVec.ofInt 64 x).toNat 7
    omega
  refine ⟨_, h, ?_⟩
  show IntKind.i64.wrap (((BitVec.ofInt 64 x &&& BitVec.ofInt 64 7).toNat : Nat) : Int) = _
  generalize (BitVec.ofInt 64 x &&& BitVec.ofInt 64 7).toNat = n at *
  exact IntWalk.i64_in _ (by omega)

end Go.Proofs.YtacoeohmdngnkaaDoor

namespace Go.Proofs.YtacoeohmdngnkaaDoor

def laidTab : List (String × DataW Unit) := [("math/bits.deBruijn64tab", Rows.laid_math_bits_deBruijn64tab)]
theorem tab_data : (Rows.laid_math_bits_deBruijn64tab : DataW Unit) = Lib.tabData .u8 (Lib.deBruijn64tab.map Int.ofNat) := rfl
theorem bitTab_of {W : World} (hL : laidMetH Tryd.prog laidTab W) : BitTab W := by
  rw [MakeChecks.laidMetH_plain _ _ _ (by kernel_rfl)] at hL
  have hL' : laidMet Tryd.prog [("math/bits.deBruijn64tab", Lib.tabData .u8 (Lib.deBruijn64tab.map Int.ofNat))] W := by rw [← tab_data]; exact hL
  have hg : Tryd.prog.globalNamed "math/bits.deBruijn64tab" = some 0 := by kernel_rfl
  have hT := Lib.tabIs_of_head hg (t := 126) (by kernel_rfl) Tryd.underlying126 Tryd.underlying5 (by kernel_rfl) (by kernel_rfl) hL'
  intro j hj
  rw [hT.cell hg j (by simpa using hj)]
  simp [List.getD_eq_getElem?_getD, List.getElem?_eq_getElem hj]

end Go.Proofs.YtacoeohmdngnkaaDoor
