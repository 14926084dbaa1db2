/- The reference's Rank: how many s among the first k. -/
import Derived.Test.YteapkoomingdfaaTallyU
namespace Go.Proofs.Yteapkoomingdfaa
set_option linter.unusedVariables false
set_option linter.unusedSimpArgs false
open Go.RowKit

/-- How many s among the first k. -/
def rank (l : List Int) (k s : Int) : Int := (cnt (l.take k.toNat) s : Nat)

theorem cnt_le (l : List Int) (s : Int) : cnt l s ≤ l.length := List.countP_le_length
theorem cnt_take_succ {l : List Int} {j : Nat} (h : j < l.length) (s : Int) : cnt (l.take (j + 1)) s = cnt (l.take j) s + (if l[j]?.getD 0 = s then 1 else 0) := by
  rw [List.take_succ_eq_append_getElem h, cnt_snoc, List.getElem?_eq_getElem h, Option.getD_some]

set_option maxHeartbeats 1600000 in
set_option maxRecDepth 100000 in
theorem refRank_any {w : World} {a : Option Addr} {c n : Nat} {l : List Int} {k s x : Int} (hl : Reads w .i64 a l) (hn : n = l.length) (hlen : l.length ≤ 1000000000) (hx : rank l k s = x) :
    Calls Try.prog 49 #[.slice a n c, .int .i64 k, .int .i64 s] w fun e w' => e = .returned (.int .i64 x) ∧ w = w' := by
  subst hn
  have HX := Lib.hid hx
  clear hx
  go_enter Try.func49, Try.ntmps49
  go_wp2_with fail
  go_loop [7, 8] (fun m i => ∃ j : Nat, j ≤ l.length ∧ j ≤ k.toNat ∧ i = .int .i64 j ∧ m = .int .i64 (cnt (l.take j) s : Nat)) (fun _ i => l.length - (intOf i).toNat)
  case atStart => exact ⟨0, by omega, by omega, rfl, rfl⟩
  case round =>
    obtain ⟨j, hj, hjk, rfl, rfl⟩ := hrel
    by_cases h1 : (j : Int) < k
    · by_cases h2 : j < l.length
      · obtain ⟨b, off, rfl, hbl, hcells⟩ := hl.some (by omega)
        have hcx := hcells j h2
        have hst := cnt_take_succ h2 s
        have hle := cnt_le (l.take j) s
        rw [List.length_take] at hle
        have HST := Lib.hid hst
        generalize cnt (l.take j) s = m at *
        generalize l[j]?.getD 0 = y at *
        clear hcells hst
        by_cases he : y = s
        · have e1 : (y == s) = true := by simp [he]
          go_wp2_with fail
          go_round
          case rel => exact ⟨j + 1, by omega, by omega, by simp, by rw [HST.out, if_pos he]; simp⟩
          case measure => simp [intOf]; omega
        · have e1 : (y == s) = false := by simp [he]
          go_wp2_with fail
          go_round
          case rel => exact ⟨j + 1, by omega, by omega, by simp, by rw [HST.out, if_neg he]; simp⟩
          case measure => simp [intOf]; omega
      · have HE : Hid (((cnt (l.take j) s : Nat) : Int) = x) := by
          show ((cnt (l.take j) s : Nat) : Int) = x
          rw [← HX.out]; unfold rank
          rw [List.take_of_length_le (by omega), List.take_of_length_le (by omega)]
        generalize ((cnt (l.take j) s : Nat) : Int) = m at *
        go_wp2_with fail
        go_ret
        exact ⟨ret_int HE.out, rfl⟩
    · have HE : Hid (((cnt (l.take j) s : Nat) : Int) = x) := by
        show ((cnt (l.take j) s : Nat) : Int) = x
        rw [← HX.out]; unfold rank
        rw [show k.toNat = j from by omega]
      generalize ((cnt (l.take j) s : Nat) : Int) = m at *
      go_wp2_with fail
      go_ret
      exact ⟨ret_int HE.out, rfl⟩

end Go.Proofs.Yteapkoomingdfaa
