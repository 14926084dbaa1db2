/- Contracts of the reference's words and rows of bits. -/
import Derived.Test.YticbfhbilfgoiaaDoorRowsV
import Derived.Test.YticbfhbilfgoiaaDoorBitsL
import Derived.Test.YticbfhbilfgoiaaDoorReg
namespace Go.Proofs.YticbfhbilfgoiaaDoor
set_option linter.unusedVariables false
set_option linter.unusedSimpArgs false
open Go.RowKit

theorem refBit_any (x k : Nat) (w : World) (hx : x < 2 ^ 64) (hk : k < 64) :
    Calls Tryd.prog 51 #[.int .u64 x, .int .i64 k] w fun e w' => e = .returned (.bool (x.testBit k)) ∧ w = w' := by
  have HB := Lib.hid (bitk_walk hx hk)
  go_enter Tryd.func51, Tryd.ntmps51
  go_wp2_with fail
  go_ret
  exact ⟨ret_bool HB.out, rfl⟩

theorem refRank_any (x : Nat) (k : Int) (w : World) (hx : x < 2 ^ 64) :
    Calls Tryd.prog 23 #[.int .u64 x, .int .i64 k] w fun e w' => e = .returned (.int .i64 (pc x (min k.toNat 64))) ∧ w = w' := by
  obtain ⟨K, hK⟩ : ∃ K, min k.toNat 64 = K := ⟨_, rfl⟩
  have hK2 : K ≤ 64 := by omega
  rw [hK]
  have HK := Lib.hid hK
  clear hK
  go_enter Tryd.func23, Tryd.ntmps23
  go_wp2_with fail
  go_loop [5, 6] (fun n i => ∃ m : Nat, m ≤ K ∧ i = .int .i64 m ∧ n = .int .i64 (pc x m)) (fun _ i => 64 - (intOf i).toNat)
  case atStart => exact ⟨0, Nat.zero_le _, rfl, rfl⟩
  case round =>
    obtain ⟨m, hm, rfl, rfl⟩ := hrel
    have hp := pc_le x m
    by_cases hlt : m < K
    · have q1 : (m : Int) < k := by have := HK.out; omega
      have q2 : (m : Int) < 64 := by omega
      have hs := pc_succ x m
      have HS := Lib.hid hs
      clear hs
      cases hb : x.testBit m
      all_goals
        have HBT := Lib.hid hb
        clear hb
        go_wp2_with (go_at_call 51; refine (refBit_any x m _ hx (by omega)).mono ?_; rintro e w' ⟨rfl, rfl⟩; rw [HBT.out])
        all_goals
          go_round
          case rel => exact ⟨m + 1, by omega, by go_num, by rw [HS.out, HBT.out]; simp⟩
          case measure => simp [intOf]; omega
    · obtain rfl : m = K := by omega
      by_cases hk : k ≤ 64
      · have q1 : k ≤ (m : Int) := by have := HK.out; omega
        go_wp2_with fail
        go_ret
        exact ⟨rfl, rfl⟩
      · have q1 : 64 ≤ (m : Int) := by have := HK.out; omega
        go_wp2_with fail
        go_ret
        exact ⟨rfl, rfl⟩

/-- Bits in a row: of a word. -/
def bitsL (x n : Nat) : List Bool := (List.range n).map x.testBit
theorem bitsL_len (x n : Nat) : (bitsL x n).length = n := by simp [bitsL]
theorem bitsL_get {x n i : Nat} (h : i < n) : (bitsL x n)[i]? = some (x.testBit i) := by simp [bitsL, h]
theorem bitsL_succ (x n : Nat) : bitsL x (n + 1) = bitsL x n ++ [x.testBit n] := by simp [bitsL, List.range_succ]

/-- A row with a bit more at a place; without the one at a place. -/
def inL {α : Type} (l : List α) (k : Nat) (b : α) : List α := l.take k ++ b :: l.drop k
def outL {α : Type} (l : List α) (k : Nat) : List α := l.take k ++ l.drop (k + 1)
theorem inL_len {α : Type} {l : List α} {k : Nat} {b : α} (h : k ≤ l.length) : (inL l k b).length = l.length + 1 := by simp [inL]; omega
theorem outL_len {α : Type} {l : List α} {k : Nat} (h : k < l.length) : (outL l k).length = l.length - 1 := by simp [outL]; omega
theorem inL_get {α : Type} {l : List α} {k : Nat} {b : α} (h : k ≤ l.length) (i : Nat) : (inL l k b)[i]? = if i < k then l[i]? else if i = k then some b else l[i - 1]? := by
  unfold inL
  rw [List.getElem?_append, List.length_take, Nat.min_eq_left h]
  split
  · rename_i hi; rw [List.getElem?_take, if_pos hi]
  · rename_i hi
    by_cases e : i = k
    · subst e; simp
    · rw [if_neg e]
      obtain ⟨d, hd⟩ : ∃ d, i - k = d + 1 := ⟨i - k - 1, by omega⟩
      rw [hd, List.getElem?_cons_succ, List.getElem?_drop]
      congr 1; omega
theorem outL_get {α : Type} {l : List α} {k : Nat} (h : k < l.length) (i : Nat) : (outL l k)[i]? = if i < k then l[i]? else l[i + 1]? := by
  unfold outL
  rw [List.getElem?_append, List.length_take, Nat.min_eq_left (by omega)]
  split
  · rename_i hi; rw [List.getElem?_take, if_pos hi]
  · rename_i hi
    rw [List.getElem?_drop]
    congr 1; omega

/-- What is returned is a row of bools of the call's own. -/
def GivesB (B : Nat) (w : World) (l : List Bool) (e : Ending) (w' : World) : Prop := ∃ v, e = .returned v ∧ w'.ownsRow B 4 1 v l.length (l.map Value.bool) ∧ Below B w w'

theorem Tryd.infoBoolR : (Tryd.prog.info? 4).map (fun i => (i.zero, i.size, i.bytes)) = some (some (.bool false), 1, 1) := by kernel_rfl

theorem refList_any (x : Nat) (w : World) (hx : x < 2 ^ 64) :
    Calls Tryd.prog 50 #[.int .u64 x] w (GivesB w.heap.size w (bitsL x 64)) := by
  go_enter Tryd.func50, Tryd.ntmps50
  go_wp2_with fail
  go_loopw [3, 4] (fun v i wr => ∃ k : Nat, k ≤ 64 ∧ i = .int .i64 k ∧ wr.ownsRow w.heap.size 4 1 v k ((bitsL x k).map Value.bool) ∧ Below w.heap.size w wr) (fun _ i _ => 64 - (intOf i).toNat)
  case atStart => exact ⟨0, Nat.zero_le _, rfl, World.ownsRow_nil _ _ _ _, Below.refl _ _⟩
  case round =>
    obtain ⟨k, hk, rfl, hown, hb⟩ := hrel
    have hs := hb.size
    by_cases hlt : k < 64
    · have hst := bitsL_succ x k
      have HST := Lib.hid hst
      clear hst
      go_wp2_with (first
        | (go_at_call 51; refine (refBit_any x k _ hx hlt).mono ?_; rintro e w' ⟨rfl, rfl⟩)
        | (at_builtin; refine wpList_push rfl _ _ 40 rfl w.heap.size 4 Tryd.infoBoolR Tryd.underlying40 rfl _ _ _ rfl hown rfl rfl ?c1 ?c2 ?c3 ?_))
      case c1 => unfold maxLen; omega
      case c2 => omega
      case c3 => omega
      intro v' w1 hown' hgrow
      have hnx' : Below w.heap.size w w1 := hb.grown hgrow hs (fun j hj => (hown.lt j hj).1)
      clear hown hgrow
      go_wp2_with fail
      go_roundw
      case rel => exact ⟨k + 1, by omega, by go_num, by rw [HST.out, List.map_append]; exact hown', hnx'⟩
      case measure => simp [intOf]; omega
    · obtain rfl : k = 64 := by omega
      go_wp2_with fail
      go_ret
      exact ⟨_, rfl, by rw [bitsL_len]; exact hown, hb⟩

theorem wordOf_congr {f g : Nat → Bool} {n : Nat} (h : ∀ i, i < n → f i = g i) : wordOf f n = wordOf g n :=
  word_ext (wordOf_lt f n) (wordOf_lt g n) (fun i hi => by rw [wordOf_bit, wordOf_bit, h i hi])
theorem wordOf_or {f : Nat → Bool} {k : Nat} : wordOf f k ||| (if f k then 2 ^ k else 0) = wordOf f (k + 1) := by
  have hl := wordOf_lt f k
  refine word_ext (n := k + 1) (Nat.or_lt_two_pow (Nat.lt_of_lt_of_le hl (Nat.pow_le_pow_right (by omega) (by omega))) ?_) (wordOf_lt _ _) (fun i hi => ?_)
  · rw [Nat.pow_succ]; have := Nat.two_pow_pos k; split <;> omega
  · rw [Nat.testBit_or, wordOf_bit, wordOf_bit]
    have hb : (if f k = true then 2 ^ k else 0 : Nat).testBit i = (f k && decide (i = k)) := by
      cases f k
      · simp
      · simp [Nat.testBit_two_pow, eq_comm]
    rw [hb]
    by_cases h1 : i < k
    · have h2 : ¬ i = k := by omega
      simp [h1, h2, hi]
    · have h2 : i = k := by omega
      subst h2; simp

theorem refWord_any (a : Option Addr) (c : Nat) (l : List Bool) (w : World) (hr : ReadsV w a (l.map Value.bool)) (hl : l.length ≤ 1000000) :
    Calls Tryd.prog 49 #[.slice a l.length c] w fun e w' => e = .returned (.int .u64 (wordOf (fun i => l[i]?.getD false) (min l.length 64))) ∧ w = w' := by
  go_enter Tryd.func49, Tryd.ntmps49
  go_wp2_with fail
  go_loop [3, 4] (fun v i => ∃ k : Nat, k ≤ min l.length 64 ∧ i = .int .i64 k ∧ v = .int .u64 (wordOf (fun i => l[i]?.getD false) k)) (fun _ i => 64 - (intOf i).toNat)
  case atStart => exact ⟨0, Nat.zero_le _, rfl, rfl⟩
  case round =>
    obtain ⟨k, hk, rfl, rfl⟩ := hrel
    by_cases hlt : k < l.length ∧ k < 64
    · obtain ⟨h1, h2⟩ := hlt
      obtain ⟨b, off, rfl, hbl, hc⟩ := hr.some (by rw [List.length_map]; omega)
      have hcell := hc k (.bool (l[k]?.getD false)) (by rw [List.getElem?_map, List.getElem?_eq_getElem h1]; rfl)
      have hor := wordOf_or (f := fun i => l[i]?.getD false) (k := k)
      have hwl := wordOf_lt (fun i => l[i]?.getD false) k
      have h2k := two_pow_lt h2
      have hwl2 : wordOf (fun i => l[i]?.getD false) k < 2 ^ 64 := by omega
      have hp : IntKind.u64.wrap ((2 : Int) ^ k) = ((2 ^ k : Nat) : Int) := by rw [int_two_pow, u64w (by omega) (by omega)]
      have ho : bits .or .u64 ((wordOf (fun i => l[i]?.getD false) k : Nat) : Int) ((2 ^ k : Nat) : Int) = ((wordOf (fun i => l[i]?.getD false) k ||| 2 ^ k : Nat) : Int) := or_u64 _ _ hwl2 (by omega)
      generalize hbv : l[k]?.getD false = bv at *
      have HOR := Lib.hid hor
      have HO := Lib.hid ho
      have HP := Lib.hid hp
      clear hc hor ho hp hwl hwl2 hr hbv
      generalize wordOf (fun i => l[i]?.getD false) k = y at *
      cases bv
      · go_wp2_with fail
        go_round
        case rel => exact ⟨k + 1, by omega, by go_num, by rw [← HOR.out]; simp⟩
        case measure => simp [intOf]; omega
      · go_wp2_with fail
        go_round
        case rel => exact ⟨k + 1, by omega, by go_num, by rw [← HOR.out, HP.out, HO.out]; simp⟩
        case measure => simp [intOf]; omega
    · have hkm : k = min l.length 64 := by omega
      have HKM := Lib.hid hkm
      clear hkm hr hk
      have hor : ¬ k < l.length ∨ (k < l.length ∧ ¬ k < 64) := by omega
      rcases hor with h1 | ⟨h1, h2⟩
      all_goals
        go_wp2_with fail
        go_ret
        exact ⟨ret_int (by rw [← HKM.out]), rfl⟩

theorem refSelect_any (x : Nat) (j : Int) (w : World) (hx : x < 2 ^ 64) :
    Calls Tryd.prog 24 #[.int .u64 x, .int .i64 j] w fun e w' => e = .returned (.int .i64 (sel x j)) ∧ w = w' := by
  go_enter Tryd.func24, Tryd.ntmps24
  go_wp2_with fail
  go_loop [5] (fun i => ∃ k : Nat, k ≤ 64 ∧ i = .int .i64 k ∧ ∀ m, m < k → ¬ (x.testBit m = true ∧ (pc x m : Int) = j)) (fun i => 64 - (intOf i).toNat)
  case atStart => exact ⟨0, Nat.zero_le _, rfl, fun m hm => by omega⟩
  case round =>
    obtain ⟨k, hk, rfl, hno⟩ := hrel
    have HNO := Lib.hid hno
    clear hno
    have hp := pc_le x k
    by_cases hlt : k < 64
    · cases hb : x.testBit k
      · have HB := Lib.hid hb
        clear hb
        go_wp2_with (go_at_call 51; refine (refBit_any x k _ hx hlt).mono ?_; rintro e w' ⟨rfl, rfl⟩; rw [HB.out])
        go_round
        case rel => exact ⟨k + 1, by omega, by go_num, fun m hm => by
          rcases Nat.lt_or_ge m k with h | h
          · exact HNO.out m h
          · obtain rfl : m = k := by omega
            rw [HB.out]; simp⟩
        case measure => simp [intOf]; omega
      · have HB := Lib.hid hb
        have hmin : min (k : Int).toNat 64 = k := by omega
        have HM := Lib.hid hmin
        clear hb hmin
        by_cases hj : (pc x k : Int) = j
        · have hs := sel_hit hlt HB.out hj
          have HS := Lib.hid hs
          have dj : ((pc x k : Int) == j) = true := by simpa using hj
          clear hs hj
          go_wp2_with (first
            | (go_at_call 51; refine (refBit_any x k _ hx hlt).mono ?_; rintro e w' ⟨rfl, rfl⟩; rw [HB.out])
            | (go_at_call 23; refine (refRank_any x k _ hx).mono ?_; rintro e w' ⟨rfl, rfl⟩; rw [HM.out]))
          go_ret
          exact ⟨ret_int HS.out.symm, rfl⟩
        · have dj : ((pc x k : Int) == j) = false := by simpa using hj
          have HJ := Lib.hid hj
          clear hj
          go_wp2_with (first
            | (go_at_call 51; refine (refBit_any x k _ hx hlt).mono ?_; rintro e w' ⟨rfl, rfl⟩; rw [HB.out])
            | (go_at_call 23; refine (refRank_any x k _ hx).mono ?_; rintro e w' ⟨rfl, rfl⟩; rw [HM.out]))
          go_round
          case rel => exact ⟨k + 1, by omega, by go_num, fun m hm => by
            rcases Nat.lt_or_ge m k with h | h
            · exact HNO.out m h
            · obtain rfl : m = k := by omega
              exact fun h => HJ.out h.2⟩
          case measure => simp [intOf]; omega
    · have hs : sel x j = -1 := by
        unfold sel
        have : (List.range 64).find? (fun i => x.testBit i && decide ((pc x i : Int) = j)) = none := by
          rw [List.find?_eq_none]
          intro m hm
          simp only [List.mem_range] at hm
          have := HNO.out m (by omega)
          simpa using this
        rw [this]
      have HS := Lib.hid hs
      clear hs
      go_wp2_with fail
      go_ret
      exact ⟨ret_int HS.out.symm, rfl⟩

theorem refCount_any (a : Option Addr) (c : Nat) (ws : List Nat) (w : World) (hr : Reads w .u64 a (ws.map natI)) (hw : ∀ x ∈ ws, x < 2 ^ 64) (hl : ws.length ≤ 1000000000000000) :
    Calls Tryd.prog 21 #[.slice a ws.length c] w fun e w' => e = .returned (.int .i64 (pcs ws)) ∧ w = w' := by
  go_enter Tryd.func21, Tryd.ntmps21
  go_wp2_with fail
  go_loop [3, 4] (fun n i => ∃ k : Nat, k ≤ ws.length ∧ i = .int .i64 k ∧ n = .int .i64 (pcs (ws.take k))) (fun _ i => ws.length - (intOf i).toNat)
  case atStart => exact ⟨0, Nat.zero_le _, rfl, rfl⟩
  case round =>
    obtain ⟨k, hk, rfl, rfl⟩ := hrel
    have hp := pcs_le (ws.take k)
    rw [List.length_take] at hp
    by_cases hlt : k < ws.length
    · obtain ⟨b, off, rfl, hbl, hcells⟩ := hr.some (by simpa using Nat.lt_of_le_of_lt (Nat.zero_le _) hlt)
      have hc := hcells k (by simpa using hlt)
      rw [List.getElem?_map, List.getElem?_eq_getElem hlt] at hc
      simp only [Option.map_some, Option.getD_some, natI] at hc
      have hx := hw _ (List.getElem_mem hlt)
      have hst := pcs_take hlt
      rw [List.getElem?_eq_getElem hlt, Option.getD_some] at hst
      have HST := Lib.hid hst
      generalize ws[k] = x at *
      have h64 := pc_le x 64
      have hmin : min (64 : Int).toNat 64 = 64 := rfl
      have HM := Lib.hid hmin
      clear hst hcells hr hw hmin
      generalize pcs (ws.take k) = s at *
      go_wp2_with (go_at_call 23; refine (refRank_any x 64 _ hx).mono ?_; rintro e w' ⟨rfl, rfl⟩; rw [HM.out])
      go_round
      case rel => exact ⟨k + 1, by omega, by go_num, by rw [HST.out]; go_num⟩
      case measure => simp [intOf]; omega
    · have hkn : k = ws.length := by omega
      clear hr
      go_wp2_with fail
      go_ret
      exact ⟨rfl, rfl⟩

end Go.Proofs.YticbfhbilfgoiaaDoor
