/- Contracts of package bits, and of the two functions of math/bits that it calls. -/
import Derived.Test.YtcppgpjodfeigaaDoorBase
import Derived.Test.YtcppgpjodfeigaaDoorBitsQ
import Derived.Shelf.Spec.TrailingZeros
import Derived.Deep.QuietTactic
import Derived.BigQuiet
import Derived.Deep.DeepCutAuto
import Derived.Deep.CutBlock
import Derived.Deep.CutRange
namespace Go.Proofs.YtcppgpjodfeigaaDoor
set_option linter.unusedVariables false
set_option linter.unusedSimpArgs false
open Go.RowKit

theorem u64w {n : Int} (h0 : 0 ≤ n) (h1 : n < 18446744073709551616) : IntKind.u64.wrap n = n := by rw [IntKind.wrap_u64]; omega
theorem and_u64 (a b : Nat) (ha : a < 2 ^ 64) (hb : b < 2 ^ 64) : bits .and .u64 (a : Int) (b : Int) = ((a &&& b : Nat) : Int) := u64_and_nat a b ha hb
theorem st1_walk {x : Nat} (hx : x < 2 ^ 64) : IntKind.u64.wrap (bits .and .u64 ((x : Int) / 2) 6148914691236517205 + bits .and .u64 (x : Int) 6148914691236517205) = ((st1 8 x : Nat) : Int) ∧ st1 8 x < 2 ^ 64 := by
  have e1 := and_u64 (x / 2) 6148914691236517205 (by omega) (by omega)
  have e2 := and_u64 x 6148914691236517205 hx (by omega)
  have l1 : x / 2 &&& 6148914691236517205 ≤ 6148914691236517205 := Nat.and_le_right
  have l2 : x &&& 6148914691236517205 ≤ 6148914691236517205 := Nat.and_le_right
  have es : st1 8 x = (x / 2 &&& 6148914691236517205) + (x &&& 6148914691236517205) := rfl
  rw [es]
  rw [show ((x / 2 : Nat) : Int) = (x : Int) / 2 by omega] at e1
  rw [show ((6148914691236517205 : Nat) : Int) = 6148914691236517205 from rfl] at e1 e2
  rw [e1, e2]
  generalize (x / 2 &&& 6148914691236517205) = p at *
  generalize (x &&& 6148914691236517205) = q at *
  exact ⟨by rw [u64w (by omega) (by omega)]; omega, by omega⟩
theorem st2_walk {x : Nat} (hx : x < 2 ^ 64) : IntKind.u64.wrap (bits .and .u64 ((x : Int) / 4) 3689348814741910323 + bits .and .u64 (x : Int) 3689348814741910323) = ((st2 8 x : Nat) : Int) ∧ st2 8 x < 9223372036854775808 := by
  have e1 := and_u64 (x / 4) 3689348814741910323 (by omega) (by omega)
  have e2 := and_u64 x 3689348814741910323 hx (by omega)
  have l1 : x / 4 &&& 3689348814741910323 ≤ 3689348814741910323 := Nat.and_le_right
  have l2 : x &&& 3689348814741910323 ≤ 3689348814741910323 := Nat.and_le_right
  have es : st2 8 x = (x / 4 &&& 3689348814741910323) + (x &&& 3689348814741910323) := rfl
  rw [es]
  rw [show ((x / 4 : Nat) : Int) = (x : Int) / 4 by omega] at e1
  rw [show ((3689348814741910323 : Nat) : Int) = 3689348814741910323 from rfl] at e1 e2
  rw [e1, e2]
  generalize (x / 4 &&& 3689348814741910323) = p at *
  generalize (x &&& 3689348814741910323) = q at *
  exact ⟨by rw [u64w (by omega) (by omega)]; omega, by omega⟩
theorem st3_walk {x : Nat} (hx : x < 9223372036854775808) : bits .and .u64 (IntKind.u64.wrap ((x : Int) / 16 + (x : Int))) 1085102592571150095 = ((st3 8 x : Nat) : Int) := by
  rw [u64w (by omega) (by omega)]
  have e1 := and_u64 (x / 16 + x) 1085102592571150095 (by omega) (by omega)
  rw [show ((x / 16 + x : Nat) : Int) = (x : Int) / 16 + x by omega, show ((1085102592571150095 : Nat) : Int) = 1085102592571150095 from rfl] at e1
  rw [e1]
  rfl
theorem i64_and_nat (a b : Nat) (ha : a < 2 ^ 63) (hb : b < 2 ^ 63) : bits .and .i64 (a : Int) (b : Int) = ((a &&& b : Nat) : Int) := by
  have hx : a &&& b < 2 ^ 63 := Nat.and_lt_two_pow _ hb
  have h1 : (BitVec.ofInt 64 (a : Int)).toNat = a := by
    rw [BitVec.ofInt_natCast, BitVec.toNat_ofNat]; exact Nat.mod_eq_of_lt (by omega)
  have h2 : (BitVec.ofInt 64 (b : Int)).toNat = b := by
    rw [BitVec.ofInt_natCast, BitVec.toNat_ofNat]; exact Nat.mod_eq_of_lt (by omega)
  show IntKind.i64.wrap ((BitVec.ofInt 64 (a : Int) &&& BitVec.ofInt 64 (b : Int)).toNat : Int) = _
  rw [BitVec.toNat_and, h1, h2]
  exact IntWalk.i64_in _ (by omega)
theorem fold_walk {x t : Nat} (ht : t * 31 < 2 ^ 64) (h : fold8 t % 256 = pc x 64) :
    bits .and .i64 ((t : Int) + t / 256 + (t + t / 256) / 65536 + (t + t / 256 + (t + t / 256) / 65536) / 4294967296) 127 = ((pc x 64 : Nat) : Int) := by
  have e : ((t : Int) + t / 256 + (t + t / 256) / 65536 + (t + t / 256 + (t + t / 256) / 65536) / 4294967296) = ((fold8 t : Nat) : Int) := by
    simp [fold8]
  have hl : fold8 t < 2 ^ 63 := by unfold fold8; omega
  have h64 := pc_le x 64
  rw [e, show (127 : Int) = ((127 : Nat) : Int) from rfl, i64_and_nat _ _ hl (by omega), show (127 : Nat) = 2 ^ 7 - 1 from rfl, Nat.and_two_pow_sub_one_eq_mod]
  omega

/-- 'math/bits.OnesCount64', every x. -/
theorem ones_any (x : Nat) (w : World) (hx : x < 2 ^ 64) :
    Calls Tryd.prog 110 #[.int .u64 x] w fun e w' => e = .returned (.int .i64 (pc x 64)) ∧ w = w' := by
  have hx' : (x : Int) < 18446744073709551616 := by omega
  have hx0 : (0 : Int) ≤ x := by omega
  have k1 := st1_walk hx
  have k2 := st2_walk k1.2
  have k3 := st3_walk k2.2
  have k4 : fold8 (st3 8 (st2 8 (st1 8 x))) % 256 = pc x 64 := by rw [stages]; exact fold_tally x
  have k5 : st3 8 (st2 8 (st1 8 x)) * 31 < 2 ^ 64 := by rw [stages]; exact tally_lt 8 x
  have K1 := Lib.hid k1.1
  have K2 := Lib.hid k2.1
  have K3 := Lib.hid k3
  have K4 := Lib.hid k4
  clear k1 k2 k3 k4
  go_enter Tryd.func110, Tryd.ntmps110
  go_upto_region 1 with fail
  go_cut [0] (fun v wx => v = .int .u64 (st1 8 x) ∧ w = wx)
  case first =>
    go_wp2_with fail
    go_meet
    case rel => exact ⟨by rw [K1.out], rfl⟩
  case rest =>
  obtain ⟨rfl, rfl⟩ := hcut
  clear hx hx' hx0 K1
  generalize st1 8 x = y at *
  go_upto_region 2 with fail
  go_cut [0] (fun v wx => v = .int .u64 (st2 8 y) ∧ w = wx)
  case first =>
    go_wp2_with fail
    go_meet
    case rel => exact ⟨by rw [K2.out], rfl⟩
  case rest =>
  obtain ⟨rfl, rfl⟩ := hcut
  clear K2
  generalize st2 8 y = z at *
  go_upto_region 3 with fail
  go_cut [0] (fun v wx => v = .int .u64 (st3 8 z) ∧ w = wx)
  case first =>
    go_wp2_with fail
    go_meet
    case rel => exact ⟨by rw [K3.out], rfl⟩
  case rest =>
  obtain ⟨rfl, rfl⟩ := hcut
  clear K3
  generalize st3 8 z = t at *
  have KF := Lib.hid (fold_walk k5 K4.out)
  have t0 : (0 : Int) ≤ t := by omega
  have t1 : (t : Int) ≤ 595056260442243600 := by omega
  clear k5
  go_wp2_with fail
  go_ret
  exact ⟨ret_int KF.out, rfl⟩

/-- The library's table, as its initialiser lays it. -/
def BitTab (w : World) : Prop := TabAt 0 Lib.deBruijn64tab w
theorem BitTab.below {w w' : World} {B : Nat} (h : BitTab w) (hb : Below B w w') (hB : 0 < B) : BitTab w' := fun j hj => (hb.cell (p := ⟨0, j, none⟩) hB).trans (h j hj)
theorem BitTab.below' {w w' : World} (h : BitTab w) (hb : Below w.heap.size w w') : BitTab w' := h.below hb (World.block_lt_of_cell? w _ (h 0 (by decide)))
theorem BitTab.lt {w : World} (h : BitTab w) : 0 < w.heap.size := World.block_lt_of_cell? w _ (h 0 (by decide))

theorem tz_core (x k idx : Nat) (w : World) (hx0 : ((x : Int) == 0) = false)
    (key : IntKind.u64.wrap (bits BinOp.and IntKind.u64 (x : Int) (IntKind.u64.wrap (-(x : Int))) * 285870213051353865) / 288230376151711744 = (idx : Int))
    (hi : idx < 64) (hk : k < 64) (hcell : w.cell? ⟨0, idx, none⟩ = some (.int .u8 k)) :
    Calls Tryd.prog 111 #[.int .u64 x] w fun e w' => e = .returned (.int .i64 k) ∧ w = w' := by
  have KEY := Lib.hid key; clear key
  go_enter Tryd.func111, Tryd.ntmps111
  go_wp2_with (simp only [KEY.out])
  go_ret
  exact ⟨rfl, rfl⟩

/-- 'math/bits.TrailingZeros64', every x that is not 0. -/
theorem tz_any (x : Nat) (w : World) (hx : x < 2 ^ 64) (h0 : x ≠ 0) (hT : BitTab w) :
    Calls Tryd.prog 111 #[.int .u64 x] w fun e w' => e = .returned (.int .i64 (Lib.ctz 64 x)) ∧ w = w' := by
  obtain ⟨hlow, hk⟩ := Lib.lowest_bit 64 x h0 hx
  obtain ⟨hi, htab⟩ := Lib.deBruijn64_at _ hk
  have hcell := hT _ hi
  rw [htab] at hcell
  exact tz_core x _ _ w (by simp; omega) (tz64_key x _ hx h0 hlow) hi hk hcell

def pcs (ws : List Nat) : Nat := (ws.map fun x => pc x 64).sum
theorem pcs_take {ws : List Nat} {k : Nat} (h : k < ws.length) : pcs (ws.take (k + 1)) = pcs (ws.take k) + pc (ws[k]?.getD 0) 64 := by
  unfold pcs
  rw [List.take_add_one, List.getElem?_eq_getElem h, List.map_append, List.sum_append]
  simp [-List.map_take]
theorem pcs_le (ws : List Nat) : pcs ws ≤ 64 * ws.length := by
  induction ws with
  | nil => simp [pcs]
  | cons x l ih => have := pc_le x 64; simp only [pcs, List.map_cons, List.sum_cons, List.length_cons] at *; omega
def natI (n : Nat) : Int := n

theorem count_any (a : Option Addr) (c : Nat) (ws : List Nat) (w : World) (hr : Reads w .u64 a (ws.map natI)) (hw : ∀ x ∈ ws, x < 2 ^ 64) (hl : ws.length ≤ 1000000000000000) :
    Calls Tryd.prog 96 #[.slice a ws.length c] w fun e w' => e = .returned (.int .i64 (pcs ws)) ∧ w = w' := by
  go_enter Tryd.func96, Tryd.ntmps96
  go_wp2_with fail
  go_loop [3, 8] (fun n i => ∃ k : Nat, k ≤ ws.length ∧ i = .int .i64 k ∧ n = .int .i64 (pcs (ws.take k))) (fun _ i => ws.length - (intOf i).toNat)
  case atStart => exact ⟨0, Nat.zero_le _, rfl, rfl⟩
  case round =>
    obtain ⟨k, hk, rfl, rfl⟩ := hrel
    have hp := pcs_le (ws.take k)
    rw [List.length_take] at hp
    by_cases hlt : k < ws.length
    · obtain ⟨b, off, rfl, hbl, hcells⟩ := hr.some (by simpa using Nat.lt_of_le_of_lt (Nat.zero_le _) hlt)
      have hc := hcells k (by simpa using hlt)
      rw [List.getElem?_map, List.getElem?_eq_getElem hlt] at hc
      simp only [Option.map_some, Option.getD_some, natI] at hc
      have hx := hw _ (List.getElem_mem hlt)
      have hst := pcs_take hlt
      rw [List.getElem?_eq_getElem hlt, Option.getD_some] at hst
      have HST := Lib.hid hst
      generalize ws[k] = x at *
      have h64 := pc_le x 64
      clear hst hcells hr hw
      generalize pcs (ws.take k) = s at *
      go_wp2_with (go_at_call 110; refine (ones_any x _ hx).mono ?_; rintro e w' ⟨rfl, rfl⟩)
      go_round
      case rel => exact ⟨k + 1, by omega, by go_num, by rw [HST.out]; go_num⟩
      case measure => simp [intOf]; omega
    · have hkn : k = ws.length := by omega
      clear hr
      go_wp2_with fail
      go_ret
      exact ⟨rfl, rfl⟩

/-- One word that is counted. -/
theorem count_one (x : Nat) (w : World) (b off c : Nat) (hc : w.cell? ⟨b, off, none⟩ = some (.int .u64 x)) (hx : x < 2 ^ 64) :
    Calls Tryd.prog 96 #[.slice (some ⟨b, off, none⟩) 1 c] w fun e w' => e = .returned (.int .i64 (pc x 64)) ∧ w = w' := by
  have := count_any (some ⟨b, off, none⟩) c [x] w (reads_one hc) (by simpa using hx) (by simp)
  simpa [pcs] using this

/-- The first k bits of a word. -/
def lowW (w : Nat) (k : Int) : Nat := if 64 ≤ k then w else w % 2 ^ k.toNat
theorem lowW_lt {w : Nat} (h : w < 2 ^ 64) (k : Int) : lowW w k < 2 ^ 64 := by
  unfold lowW; split
  · exact h
  · exact Nat.lt_of_le_of_lt (Nat.mod_le _ _) h
theorem two_pow_lt {k : Nat} (h : k < 64) : (2 : Nat) ^ k ≤ 9223372036854775808 := Nat.pow_le_pow_right (n := 2) (i := k) (j := 63) (by omega) (by omega)
theorem int_two_pow (k : Nat) : (2 : Int) ^ k = ((2 ^ k : Nat) : Int) := by simp
theorem low_walk {x : Nat} {k : Int} (hx : x < 2 ^ 64) (h0 : 0 < k) (h1 : k < 64) : bits .and .u64 (x : Int) (IntKind.u64.wrap (IntKind.u64.wrap ((2 : Int) ^ k.toNat) - 1)) = ((lowW x k : Nat) : Int) := by
  have h2 := two_pow_lt (k := k.toNat) (by omega)
  have h3 := Nat.two_pow_pos k.toNat
  have e1 : IntKind.u64.wrap (((2 ^ k.toNat : Nat) : Int)) = ((2 ^ k.toNat : Nat) : Int) := u64w (by omega) (by omega)
  have e2 : IntKind.u64.wrap (((2 ^ k.toNat : Nat) : Int) - 1) = ((2 ^ k.toNat : Nat) : Int) - 1 := u64w (by omega) (by omega)
  rw [int_two_pow, e1, e2, show (((2 ^ k.toNat : Nat) : Int) - 1) = ((2 ^ k.toNat - 1 : Nat) : Int) by omega, and_u64 _ _ hx (by omega), Nat.and_two_pow_sub_one_eq_mod]
  unfold lowW; rw [if_neg (by omega)]
theorem pc_low {x : Nat} (hx : x < 2 ^ 64) (k : Int) : pc (lowW x k) 64 = pc x (min k.toNat 64) := by
  unfold lowW
  split
  · congr 1; omega
  · have e : min k.toNat 64 = k.toNat := by omega
    rw [e, pc_ge (Nat.mod_lt x (Nat.two_pow_pos k.toNat)) (by omega)]
    exact pc_congr (fun i hi => by rw [Nat.testBit_mod_two_pow]; simp [hi])
theorem low_any (x : Nat) (k : Int) (w : World) (hx : x < 2 ^ 64) :
    Calls Tryd.prog 109 #[.int .u64 x, .int .i64 k] w fun e w' => e = .returned (.int .u64 (lowW x k)) ∧ w = w' := by
  by_cases h0 : k ≤ 0
  · have hR : Hid ((0 : Int) = (lowW x k : Nat)) := by
      show _ = _
      have : k.toNat = 0 := by omega
      unfold lowW; rw [if_neg (by omega), this]; simp [Nat.mod_one]
    go_enter Tryd.func109, Tryd.ntmps109
    go_wp2_with fail
    go_ret
    exact ⟨ret_int hR.out, rfl⟩
  · by_cases h64 : 64 ≤ k
    · have hR : Hid ((x : Int) = (lowW x k : Nat)) := by
        show _ = _
        unfold lowW; rw [if_pos h64]
      go_enter Tryd.func109, Tryd.ntmps109
      go_wp2_with fail
      go_ret
      exact ⟨ret_int hR.out, rfl⟩
    · go_enter Tryd.func109, Tryd.ntmps109
      go_wp2_with fail
      go_ret
      exact ⟨ret_int (low_walk hx (by omega) (by omega)), rfl⟩

theorem rank_any (x : Nat) (k : Int) (w : World) (hx : x < 2 ^ 64) :
    Calls Tryd.prog 95 #[.int .u64 x, .int .i64 k] w fun e w' => e = .returned (.int .i64 (pc x (min k.toNat 64))) ∧ Below w.heap.size w w' := by
  have hl := lowW_lt hx k
  have hR := Lib.hid (pc_low hx k)
  go_enter Tryd.func95, Tryd.ntmps95
  go_wp2_with fail
  refine (low_any x k _ hx).mono ?_
  rintro e w' ⟨rfl, rfl⟩
  generalize lowW x k = y at *
  go_wp2_with fail
  refine (count_one y _ _ _ _ (by simp [go_sem]) hl).mono ?_
  rintro e w' ⟨rfl, rfl⟩
  go_wp2_with fail
  go_ret
  exact ⟨ret_int (by rw [hR.out]), (Below.refl _ _).alloc (Nat.le_refl _) _⟩

theorem select_any (x : Nat) (j : Int) (w : World) (hx : x < 2 ^ 64) (hT : BitTab w) :
    Calls Tryd.prog 97 #[.int .u64 x, .int .i64 j] w fun e w' => e = .returned (.int .i64 (sel x j)) ∧ Below w.heap.size w w' := by
  by_cases h0 : j < 0
  · have hR := Lib.hid (sel_none (w := x) (j := j) (Or.inl h0))
    go_enter Tryd.func97, Tryd.ntmps97
    go_wp2_with fail
    go_ret
    exact ⟨ret_int hR.out.symm, Below.refl _ _⟩
  · have hp := pc_le x 64
    by_cases h1 : j < (pc x 64 : Nat)
    · obtain ⟨n, rfl⟩ := Int.eq_ofNat_of_zero_le (show 0 ≤ j by omega)
      have hg0 := gone_zero hx
      have hn : n < pc x 64 := by omega
      have HN := Lib.hid hn
      have HX := Lib.hid hx
      have HT := Lib.hid hT
      have hm : (pc x 64 : Int) ≤ 64 := by omega
      clear hn hT
      go_enter Tryd.func97, Tryd.ntmps97
      go_wp2_with fail
      refine (count_one x _ _ _ _ (by simp [go_sem]) hx).mono ?_
      rintro e w' ⟨rfl, rfl⟩
      go_wp2_with fail
      have hT2 : BitTab (w.alloc (.cells #[.int .u64 x] 111)) := HT.out.below' ((Below.refl _ _).alloc (Nat.le_refl _) _)
      have hB2 : Below w.heap.size w (w.alloc (.cells #[.int .u64 x] 111)) := (Below.refl _ _).alloc (Nat.le_refl _) _
      generalize w.alloc (.cells #[.int .u64 x] 111) = w2 at *
      clear hx
      go_loop [0, 15] (fun v i => ∃ k y : Nat, k ≤ n ∧ i = .int .i64 k ∧ v = .int .u64 y ∧ Gone x k y) (fun _ i => n - (intOf i).toNat)
      case atStart => exact ⟨0, x, Nat.zero_le _, rfl, rfl, hg0⟩
      case round =>
        obtain ⟨k, y, hk, rfl, rfl, hg⟩ := hrel
        by_cases hlt : k < n
        · obtain ⟨c, _, hy0, _, _, _, _⟩ := gone_low HX.out hg (by have := HN.out; omega)
          have hs := gone_succ HX.out hg (by have := HN.out; omega)
          have hy := hg.1
          have ea : bits .and .u64 (y : Int) ((y : Int) - 1) = ((y &&& (y - 1) : Nat) : Int) := by
            rw [show (y : Int) - 1 = ((y - 1 : Nat) : Int) by omega]; exact and_u64 y (y - 1) hy (by omega)
          have HA := Lib.hid ea
          have HS := Lib.hid hs
          clear hg hs ea hg0 h1
          go_wp2_with fail
          go_round
          case rel => exact ⟨k + 1, y &&& (y - 1), by omega, by go_num, by rw [HA.out], HS.out⟩
          case measure => simp [intOf]; omega
        · obtain rfl : k = n := by omega
          have hn := HN.out
          have hy0 : y ≠ 0 := by obtain ⟨c, _, h, _⟩ := gone_low HX.out hg hn; exact h
          have hselout := Lib.hid (gone_sel HX.out hg hn)
          have hy := hg.1
          clear hg hn hg0 h1
          go_wp2_with fail
          refine (tz_any y _ hy hy0 hT2).mono ?_
          rintro e w' ⟨rfl, rfl⟩
          go_wp2_with fail
          go_ret
          exact ⟨ret_int hselout.out, hB2⟩
    · have hR := Lib.hid (sel_none (w := x) (j := j) (Or.inr (by omega)))
      have hm : (pc x 64 : Int) ≤ 64 := by omega
      go_enter Tryd.func97, Tryd.ntmps97
      go_wp2_with fail
      refine (count_one x _ _ _ _ (by simp [go_sem]) hx).mono ?_
      rintro e w' ⟨rfl, rfl⟩
      go_wp2_with fail
      go_ret
      exact ⟨ret_int hR.out.symm, (Below.refl _ _).alloc (Nat.le_refl _) _⟩

theorem put_bad (x : Nat) (k : Int) (b : Bool) (w : World) (h : k < 0 ∨ 64 ≤ k) :
    Calls Tryd.prog 114 #[.int .u64 x, .int .i64 k, .bool b] w fun e w' => e = .returned (.tuple #[.int .u64 x, .bool false]) ∧ w = w' := by
  rcases h with h | h
  all_goals
    go_enter Tryd.func114, Tryd.ntmps114
    go_wp2_with fail
    go_ret2
    exact ⟨rfl, rfl⟩
theorem cut_bad (x : Nat) (k : Int) (b : Bool) (w : World) (h : k < 0 ∨ 64 ≤ k) :
    Calls Tryd.prog 119 #[.int .u64 x, .int .i64 k, .bool b] w fun e w' => e = .returned (.tuple #[.int .u64 x, .bool false]) ∧ w = w' := by
  rcases h with h | h
  all_goals
    go_enter Tryd.func119, Tryd.ntmps119
    go_wp2_with fail
    go_ret2
    exact ⟨rfl, rfl⟩
theorem ret_ib {k : IntKind} {a a' : Int} {b b' : Bool} (h : a = a') (h' : b = b') : Ending.returned (.tuple #[.int k a, .bool b]) = Ending.returned (.tuple #[.int k a', .bool b']) := by rw [h, h']
theorem or_u64 (a b : Nat) (ha : a < 2 ^ 64) (hb : b < 2 ^ 64) : bits .or .u64 (a : Int) (b : Int) = ((a ||| b : Nat) : Int) := u64_or_nat a b ha hb
theorem andNot_u64 (a b : Nat) (ha : a < 2 ^ 64) (hb : b < 2 ^ 64) : bits .andNot .u64 (a : Int) (b : Int) = ((a &&& (2 ^ 64 - 1 - b) : Nat) : Int) := u64_andNot_nat a b ha hb
theorem wrap_u64_nat (a : Nat) : IntKind.u64.wrap (a : Int) = ((a % 2 ^ 64 : Nat) : Int) := by rw [IntKind.wrap_u64]; omega

theorem put_walk {x y k n : Nat} {b : Bool} (hx : x < 2 ^ 64) (hk : k < 64) (hy : x % 2 ^ k = y) (hn : n = if b then 2 ^ k else 0) :
    bits .or .u64 (bits .or .u64 (y : Int) (n : Int)) (IntKind.u64.wrap (bits .andNot .u64 (x : Int) (y : Int) * 2)) = ((putW x k b : Nat) : Int) := by
  have h2 := two_pow_lt hk
  have hyl : y < 2 ^ 64 := by rw [← hy]; exact Nat.lt_of_le_of_lt (Nat.mod_le _ _) hx
  have hnl : n < 2 ^ 64 := by rw [hn]; split <;> omega
  have hol : y ||| n < 2 ^ 64 := Nat.or_lt_two_pow hyl hnl
  rw [andNot_u64 _ _ hx hyl, show (((x &&& (2 ^ 64 - 1 - y) : Nat) : Int) * 2) = ((((x &&& (2 ^ 64 - 1 - y)) * 2 : Nat)) : Int) by omega, wrap_u64_nat, or_u64 _ _ hyl hnl, or_u64 _ _ hol (Nat.mod_lt _ (Nat.two_pow_pos _))]
  rw [← put_eq b hk hx, hy, ← hn]
theorem bit63_walk {x : Nat} (hx : x < 2 ^ 64) : ((x : Int) / 9223372036854775808 == 1) = x.testBit 63 := by
  rw [← top_bit hx, Bool.eq_iff_iff]
  simp only [beq_iff_eq, decide_eq_true_eq]
  have : (2 : Nat) ^ 63 = 9223372036854775808 := by decide
  rw [this]; omega
theorem put_good (x k : Nat) (b : Bool) (w : World) (hx : x < 2 ^ 64) (hk : k < 64) :
    Calls Tryd.prog 114 #[.int .u64 x, .int .i64 k, .bool b] w fun e w' => e = .returned (.tuple #[.int .u64 (putW x k b), .bool (x.testBit 63)]) ∧ w = w' := by
  have el : lowW x k = x % 2 ^ k := by unfold lowW; rw [if_neg (by omega)]; rfl
  have hp := two_pow_lt hk
  have hpw : IntKind.u64.wrap ((2 : Int) ^ k) = ((2 ^ k : Nat) : Int) := by rw [int_two_pow, u64w (by omega) (by omega)]
  have B1 := Lib.hid (bit63_walk hx)
  have PF := Lib.hid (put_walk (b := false) (n := 0) hx hk rfl rfl)
  have PT := Lib.hid (put_walk (b := true) (n := 2 ^ k) hx hk rfl rfl)
  have HPW := Lib.hid hpw
  have EL := Lib.hid el
  clear el hpw hp
  cases b
  all_goals
    go_enter Tryd.func114, Tryd.ntmps114
    go_wp2_with fail
    refine (low_any x k _ hx).mono ?_
    rintro e w' ⟨rfl, rfl⟩
    rw [EL.out]
    generalize x % 2 ^ k = y at *
    go_wp2_with fail
    go_ret2
  · exact ⟨ret_ib PF.out B1.out, rfl⟩
  · exact ⟨ret_ib (by rw [HPW.out]; exact PT.out) B1.out, rfl⟩

theorem cut_walk {x y z k n : Nat} {b : Bool} (hx : x < 2 ^ 64) (hk : k < 64) (hy : x % 2 ^ k = y) (hz : x / 2 % 2 ^ k = z) (hn : n = if b then 2 ^ 63 else 0) :
    bits .or .u64 (bits .or .u64 (y : Int) (bits .andNot .u64 ((x : Int) / 2) (z : Int))) (n : Int) = ((cutW x k b : Nat) : Int) := by
  have hyl : y < 2 ^ 64 := by rw [← hy]; exact Nat.lt_of_le_of_lt (Nat.mod_le _ _) hx
  have hzl : z < 2 ^ 64 := by rw [← hz]; exact Nat.lt_of_le_of_lt (Nat.mod_le _ _) (by omega)
  have hnl : n < 2 ^ 64 := by rw [hn]; split <;> omega
  have hal : x / 2 &&& (2 ^ 64 - 1 - z) < 2 ^ 64 := Nat.lt_of_le_of_lt Nat.and_le_left (by omega)
  rw [show ((x : Int) / 2) = ((x / 2 : Nat) : Int) by omega, andNot_u64 _ _ (by omega) hzl, or_u64 _ _ hyl hal, or_u64 _ _ (Nat.or_lt_two_pow hyl hal) hnl]
  rw [← cut_eq b hk hx, hy, hz, ← hn]
theorem bitk_walk {x k : Nat} (hx : x < 2 ^ 64) (hk : k < 64) : (bits .and .u64 ((x : Int) / 2 ^ k) 1 == 1) = x.testBit k := by
  rw [show ((x : Int) / 2 ^ k) = ((x / 2 ^ k : Nat) : Int) by simp, show (1 : Int) = ((1 : Nat) : Int) from rfl, and_u64 _ _ (Nat.lt_of_le_of_lt (Nat.div_le_self _ _) hx) (by omega), ← some_bit x k, Bool.eq_iff_iff]
  simp only [beq_iff_eq, decide_eq_true_eq]
  omega
theorem cut_good (x k : Nat) (b : Bool) (w : World) (hx : x < 2 ^ 64) (hk : k < 64) :
    Calls Tryd.prog 119 #[.int .u64 x, .int .i64 k, .bool b] w fun e w' => e = .returned (.tuple #[.int .u64 (cutW x k b), .bool (x.testBit k)]) ∧ w = w' := by
  have el : lowW x k = x % 2 ^ k := by unfold lowW; rw [if_neg (by omega)]; rfl
  have el2 : lowW (x / 2) k = x / 2 % 2 ^ k := by unfold lowW; rw [if_neg (by omega)]; rfl
  have hx2 : x / 2 < 2 ^ 64 := by omega
  have ed : (x : Int) / 2 = ((x / 2 : Nat) : Int) := by omega
  have B1 := Lib.hid (bitk_walk hx hk)
  have CF := Lib.hid (cut_walk (b := false) (n := 0) hx hk rfl rfl rfl)
  have CT := Lib.hid (cut_walk (b := true) (n := 2 ^ 63) hx hk rfl rfl rfl)
  have EL := Lib.hid el
  have EL2 := Lib.hid el2
  have ED := Lib.hid ed
  clear el el2 ed
  cases b
  all_goals
    go_enter Tryd.func119, Tryd.ntmps119
    go_wp2_with fail
    refine (low_any x k _ hx).mono ?_
    rintro e w' ⟨rfl, rfl⟩
    rw [EL.out]
    generalize x % 2 ^ k = y at *
    go_wp2_with fail
    rw [ED.out]
    refine (low_any (x / 2) k _ hx2).mono ?_
    rintro e w' ⟨rfl, rfl⟩
    rw [EL2.out]
    generalize x / 2 % 2 ^ k = z at *
    go_wp2_with fail
    go_ret2
  · exact ⟨ret_ib CF.out B1.out, rfl⟩
  · exact ⟨ret_ib CT.out B1.out, rfl⟩

end Go.Proofs.YtcppgpjodfeigaaDoor
