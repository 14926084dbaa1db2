/- Contracts of the reference's rows of bits: Ranks, Selects, Gets, Same. -/
import Derived.Test.YticbfhbilfgoiaaDoorRowsV
import Derived.Test.YticbfhbilfgoiaaDoorBlockP
import Derived.Deep.QuietTactic
import Derived.BigQuiet
namespace Go.Proofs.YticbfhbilfgoiaaDoor
set_option linter.unusedVariables false
set_option linter.unusedSimpArgs false
open Go.RowKit

theorem readsB {w : World} {a : Option Addr} {l : List Bool} (hr : ReadsV w a (l.map Value.bool)) {k : Nat} (hk : k < l.length) :
    ∃ b off, a = some ⟨b, off, none⟩ ∧ b < w.heap.size ∧ w.cell? ⟨b, off + k, none⟩ = some (.bool (bitAt l k)) := by
  obtain ⟨b, off, ha, hb, hc⟩ := hr.some (by rw [List.length_map]; omega)
  exact ⟨b, off, ha, hb, hc k _ (by rw [List.getElem?_map, List.getElem?_eq_getElem hk]; simp [bitAt, hk])⟩

theorem refRanks_any (a : Option Addr) (c : Nat) (l : List Bool) (k : Int) (b : Bool) (w : World) (hr : ReadsV w a (l.map Value.bool)) (hl : l.length ≤ 1000000) :
    Calls Tryd.prog 44 #[.slice a l.length c, .int .i64 k, .bool b] w fun e w' => e = .returned (.int .i64 (rankL l k.toNat b)) ∧ w = w' := by
  go_enter Tryd.func44, Tryd.ntmps44
  go_wp2_with fail
  go_loop [7, 8] (fun n i => ∃ m : Nat, m ≤ l.length ∧ m ≤ k.toNat ∧ i = .int .i64 m ∧ n = .int .i64 (rankL l m b)) (fun _ i => l.length - (intOf i).toNat)
  case atStart => exact ⟨0, Nat.zero_le _, Nat.zero_le _, rfl, by simp [rankL]⟩
  case round =>
    obtain ⟨m, hm, hmk, rfl, rfl⟩ := hrel
    have hle := (rankL_le l m b).1
    by_cases h1 : (m : Int) < k
    · by_cases h2 : m < l.length
      · obtain ⟨bb, off, rfl, _, hc⟩ := readsB hr h2
        have hs := rankL_succ b h2
        have e0 : l[m]?.getD false = bitAt l m := rfl
        rw [e0] at hs
        generalize bitAt l m = x at *
        have HS := Lib.hid hs
        clear hs e0 hr
        cases x <;> cases b
        all_goals
          go_wp2_with fail
          go_round
          case rel => exact ⟨m + 1, by omega, by omega, by go_num, by rw [HS.out]; simp⟩
          case measure => simp [intOf]; omega
      · have hR : rankL l k.toNat b = rankL l m b := by rw [rankL_over b (by omega), rankL_over b (by omega)]
        have HR := Lib.hid hR
        clear hR hr
        go_wp2_with fail
        go_ret
        exact ⟨ret_int (by rw [HR.out]), rfl⟩
    · have hR : rankL l k.toNat b = rankL l m b := by rw [show k.toNat = m by omega]
      have HR := Lib.hid hR
      clear hR hr
      go_wp2_with fail
      go_ret
      exact ⟨ret_int (by rw [HR.out]), rfl⟩

theorem refGets_bad (a : Option Addr) (n c : Nat) (k : Int) (w : World) (hk : k < 0 ∨ (n : Int) ≤ k) :
    Calls Tryd.prog 33 #[.slice a n c, .int .i64 k] w fun e w' => e = .returned (.tuple #[.bool false, .int .i64 2]) ∧ w = w' := by
  rcases hk with hk | hk
  · go_enter Tryd.func33, Tryd.ntmps33
    go_wp2_with fail
    go_ret2
    exact ⟨rfl, rfl⟩
  · have d : decide (k < 0) = false := by simp; omega
    go_enter Tryd.func33, Tryd.ntmps33
    go_wp2_with fail
    go_ret2
    exact ⟨rfl, rfl⟩
theorem refGets (a : Option Addr) (c : Nat) (l : List Bool) (k : Nat) (w : World) (hr : ReadsV w a (l.map Value.bool)) (hk : k < l.length) :
    Calls Tryd.prog 33 #[.slice a l.length c, .int .i64 k] w fun e w' => e = .returned (.tuple #[.bool (bitAt l k), .int .i64 0]) ∧ w = w' := by
  obtain ⟨b, off, rfl, _, hc⟩ := readsB hr hk
  have d : decide ((l.length : Int) ≤ (k : Int)) = false := by simp; omega
  clear hr
  go_enter Tryd.func33, Tryd.ntmps33
  go_wp2_with fail
  go_ret2
  exact ⟨rfl, rfl⟩

theorem refSelects_any (a : Option Addr) (c : Nat) (l : List Bool) (j : Int) (b : Bool) (w : World) (hr : ReadsV w a (l.map Value.bool)) (hl : l.length ≤ 1000000) :
    Calls Tryd.prog 54 #[.slice a l.length c, .int .i64 j, .bool b] w fun e w' => e = .returned (.int .i64 (selL l j b)) ∧ w = w' := by
  go_enter Tryd.func54, Tryd.ntmps54
  go_wp2_with fail
  go_loop [7, 8] (fun n i => ∃ m : Nat, m ≤ l.length ∧ i = .int .i64 m ∧ n = .int .i64 (rankL l m b) ∧ ∀ q, q < m → l[q]?.getD false = b → (rankL l q b : Int) ≠ j) (fun _ i => l.length - (intOf i).toNat)
  case atStart => exact ⟨0, Nat.zero_le _, rfl, by simp [rankL], fun q hq => by omega⟩
  case round =>
    obtain ⟨m, hm, rfl, rfl, hno⟩ := hrel
    have HNO := Lib.hid hno
    clear hno
    have hle := (rankL_le l m b).1
    by_cases h2 : m < l.length
    · obtain ⟨bb, off, rfl, _, hc⟩ := readsB hr h2
      have hs := rankL_succ b h2
      have e0 : l[m]?.getD false = bitAt l m := rfl
      rw [e0] at hs
      by_cases hb : bitAt l m = b
      · have HB := Lib.hid hb
        rw [if_pos hb] at hs
        have HS := Lib.hid hs
        rw [hb] at hc
        clear hs e0 hr hb
        by_cases hj : (rankL l m b : Int) = j
        · have hd : ((rankL l m b : Int) == j) = true := by simpa using hj
          have hR := Lib.hid (selL_hit h2 HB.out hj)
          clear hj
          cases b
          all_goals
            go_wp2_with fail
            go_ret
            exact ⟨ret_int hR.out.symm, rfl⟩
        · have hd : ((rankL l m b : Int) == j) = false := by simpa using hj
          have HJ := Lib.hid hj
          clear hj
          have hnx : Hid (∀ q, q < m + 1 → l[q]?.getD false = b → (rankL l q b : Int) ≠ j) := fun q hq hqb => by
            rcases Nat.lt_or_ge q m with h | h
            · exact HNO.out q h hqb
            · have : q = m := by omega
              rw [this]; exact HJ.out
          cases b
          all_goals
            go_wp2_with fail
            go_round
            case rel => exact ⟨m + 1, by omega, by go_num, by rw [HS.out]; simp, hnx.out⟩
            case measure => simp [intOf]; omega
      · have hbb : bitAt l m = !b := by cases b <;> cases h : bitAt l m <;> simp_all
        rw [if_neg hb] at hs
        have HS := Lib.hid hs
        rw [hbb] at hc
        have hnx : Hid (∀ q, q < m + 1 → l[q]?.getD false = b → (rankL l q b : Int) ≠ j) := fun q hq hqb => by
          rcases Nat.lt_or_ge q m with h | h
          · exact HNO.out q h hqb
          · have : q = m := by omega
            rw [this] at hqb; exact absurd hqb hb
        clear hs e0 hr hbb hb
        cases b
        all_goals
          go_wp2_with fail
          go_round
          case rel => exact ⟨m + 1, by omega, by go_num, by rw [HS.out]; simp, hnx.out⟩
          case measure => simp [intOf]; omega
    · have hR : selL l j b = -1 := selL_none (fun q hq => HNO.out q (by omega))
      have HR := Lib.hid hR
      clear hR hr
      go_wp2_with fail
      go_ret
      exact ⟨ret_int HR.out.symm, rfl⟩

theorem refSame_any (a : Option Addr) (c : Nat) (l : List Bool) (a2 : Option Addr) (c2 : Nat) (m : List Bool) (w : World) (hr : ReadsV w a (l.map Value.bool)) (hr2 : ReadsV w a2 (m.map Value.bool)) (hl : l.length ≤ 1000000) :
    Calls Tryd.prog 39 #[.slice a l.length c, .slice a2 m.length c2] w fun e w' => e = .returned (.bool (decide (l = m))) ∧ ∃ n, w' = w.drewN n := by
  by_cases hlen : l.length = m.length
  · have hd : ((l.length : Int) != (m.length : Int)) = false := by simp [hlen]
    have HLEN := Lib.hid hlen
    clear hlen
    go_enter Tryd.func39, Tryd.ntmps39
    go_wp2_with fail
    go_loopw [5] (fun i wr => ∃ k : Nat, k ≤ l.length ∧ i = .int .i64 k ∧ (∀ q, q < k → bitAt l q = bitAt m q) ∧ ∃ n, wr = w.drewN n) (fun i _ => l.length - (intOf i).toNat)
    case atStart => exact ⟨0, Nat.zero_le _, rfl, fun q hq => by omega, 0, rfl⟩
    case round =>
      obtain ⟨k, hk, rfl, hsame, n, rfl⟩ := hrel
      have HSM := Lib.hid hsame
      clear hsame
      by_cases hlt : k < l.length
      · obtain ⟨b1, o1, rfl, _, hc1⟩ := readsB hr hlt
        obtain ⟨b2, o2, rfl, _, hc2⟩ := readsB hr2 (k := k) (by have := HLEN.out; omega)
        have hkm : k < m.length := by have := HLEN.out; omega
        have hc1' : (w.drewN n).cell? ⟨b1, o1 + k, none⟩ = some (.bool (bitAt l k)) := hc1
        have hc2' : (w.drewN n).cell? ⟨b2, o2 + k, none⟩ = some (.bool (bitAt m k)) := hc2
        by_cases hb : bitAt l k = bitAt m k
        · have hs : Hid (∀ q, q < k + 1 → bitAt l q = bitAt m q) := fun q hq => by
            rcases Nat.lt_or_ge q k with h | h
            · exact HSM.out q h
            · have : q = k := by omega
              rw [this]; exact hb
          rw [← hb] at hc2'
          clear hb hc1 hc2 hr hr2
          have HD : Hid (∀ x, ∃ n', (w.drewN n).drewN x = w.drewN n') := fun x => ⟨n + x, by simp [World.drewN, Nat.add_assoc]⟩
          generalize w.drewN n = w1 at *
          cases hbv : bitAt l k
          all_goals
            rw [hbv] at hc1' hc2'
            clear hbv
            go_wp2_with fail
            go_quiet (fail)
            go_wp2_with fail
            go_roundw
            case rel => exact ⟨k + 1, by omega, by go_num, hs.out, HD.out _⟩
            case measure => simp [intOf]; omega
        · have hne : Hid (false = decide (l = m)) := by
            show _ = _
            symm; rw [decide_eq_false_iff_not]; intro e; exact hb (by rw [e])
          have HD : Hid (∀ x, ∃ n', (w.drewN n).drewN x = w.drewN n') := fun x => ⟨n + x, by simp [World.drewN, Nat.add_assoc]⟩
          generalize w.drewN n = w1 at *
          clear hc1 hc2 hr hr2
          cases hb1 : bitAt l k <;> cases hb2 : bitAt m k
          all_goals first
            | (exact absurd (hb1.trans hb2.symm) hb)
            | (rw [hb1] at hc1'
               rw [hb2] at hc2'
               clear hb1 hb2 hb
               go_wp2_with fail
               go_quiet (fail)
               go_wp2_with fail
               go_ret
               exact ⟨ret_bool hne.out, HD.out _⟩)
      · have heq : Hid (true = decide (l = m)) := by
          show _ = _
          symm; rw [decide_eq_true_eq]
          apply List.ext_getElem?
          intro i
          by_cases hi : i < l.length
          · have h1 := HSM.out i (by omega)
            have hm : i < m.length := by have := HLEN.out; omega
            rw [List.getElem?_eq_getElem hi, List.getElem?_eq_getElem hm]
            simpa [bitAt, hi, hm] using h1
          · rw [List.getElem?_eq_none (by omega), List.getElem?_eq_none (by have := HLEN.out; omega)]
        clear hr hr2
        go_wp2_with fail
        go_ret
        exact ⟨ret_bool heq.out, n, rfl⟩
  · have hd : ((l.length : Int) != (m.length : Int)) = true := by simp; omega
    have hne : Hid (false = decide (l = m)) := by
      show _ = _
      symm; rw [decide_eq_false_iff_not]; intro e; exact hlen (by rw [e])
    clear hr hr2 hlen
    go_enter Tryd.func39, Tryd.ntmps39
    go_wp2_with fail
    go_ret
    exact ⟨ret_bool hne.out, 0, rfl⟩

end Go.Proofs.YticbfhbilfgoiaaDoor
