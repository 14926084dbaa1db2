/- Contracts of the document's answer: Last. -/
import Derived.Test.YtpbmhdkhkbhgnaaRef6S
namespace Go.Proofs.Ytpbmhdkhkbhgnaa
set_option linter.unusedVariables false
set_option linter.unusedSimpArgs false
open Go.RowKit

set_option maxHeartbeats 1600000 in
theorem ref6Last_any (s : ByteArray) (w : World) (hs : s.size ≤ 100000) : Calls Try.prog 25 #[.string s] w (LastPost w.heap.size w (tOfS s)) := by
  go_enter Try.func25, Try.ntmps25
  have hrows := ref6Rows_any s w hs
  have HROWS := Lib.hid hrows
  clear hrows
  go_wp2_with fail
  refine HROWS.out.mono ?_
  rintro e w3 ⟨r, hrw, v, rfl, hown, hb3⟩
  have hls : (symsT (tOfS s)).length = s.size + 1 := by rw [symsT_len, tOfS_len]
  have hrl : r.length = s.size + 1 := by rw [hrw.len]; exact hls
  obtain ⟨n, hn⟩ : ∃ n, s.size + 1 = n := ⟨_, rfl⟩
  rw [hn] at hrl hls
  rw [hrl] at hown
  have hn0 : 0 < n := by omega
  have hnm : n ≤ 100001 := by omega
  obtain ⟨g3, cap3, rfl, hg3a, hg3b, _, _, hc3, _⟩ := own_some hown hn0
  have HC3 : Hid (∀ W, Below w3.heap.size w3 W → ∀ j, j < n → W.cell? ⟨g3, j, none⟩ = some (.int .i64 ((r[j]?.getD 0 : Nat) : Int))) := by
    intro W hW j hj
    refine (hW.cell (p := ⟨g3, j, none⟩) hg3b).trans ?_
    rw [hc3 j hj, List.getElem?_map, List.getElem?_eq_getElem (by omega)]
    rfl
  have hrlt : ∀ k, k < n → r[k]?.getD 0 < n := by
    intro k hk
    have h1 : k < r.length := by omega
    have h2 := hrw.lt h1
    rw [getD_eq h1]; omega
  have HLM : Hid (∀ k, k < n → (lastL (symsT (tOfS s)) r)[k]? = some (if r[k]?.getD 0 = 0 then 0 else sy (symsT (tOfS s)) (r[k]?.getD 0 - 1))) := by
    intro k hk
    have h0 := hrlt k hk
    unfold lastL
    rw [List.getElem?_map, List.getElem?_eq_getElem (show k < r.length by omega), hls]
    rw [List.getElem?_eq_getElem (show k < r.length by omega), Option.getD_some] at h0
    simp only [Option.map_some, Option.getD_some]
    congr 1
    by_cases e : r[k] = 0
    · rw [if_pos e, e, show (0 + n - 1) % n = s.size by rw [← hn]; simp]
      exact tOfS_end s
    · rw [if_neg e]
      congr 1
      rw [show r[k] + n - 1 = (r[k] - 1) + n by omega, Nat.add_mod_right, Nat.mod_eq_of_lt (by omega)]
  have HIS : Hid (IsLast (tOfS s) (lastL (symsT (tOfS s)) r)) := ⟨tOfS_byte s, r, hrw, rfl⟩
  have hml : (lastL (symsT (tOfS s)) r).length = n := by rw [lastL_len]; exact hrl
  have HML := Lib.hid hml
  have HRL := Lib.hid hrlt
  have HN := Lib.hid hn
  have HB3 := Lib.hid hb3
  clear hown hb3 hrw hc3 hrl hml hrlt hls hn HROWS
  generalize lastL (symsT (tOfS s)) r = m at *
  go_wp2_with fail
  go_loopw [4, 5] (fun v i wr => ∃ k : Nat, k ≤ n ∧ i = .int .i64 k ∧ wr.ownsRow w3.heap.size 3 1 v k ((m.take k).map (Value.int .i64)) ∧ Below w3.heap.size w3 wr) (fun _ i _ => n - (intOf i).toNat)
  case atStart => exact ⟨0, Nat.zero_le _, rfl, World.ownsRow_nil _ _ _ _, Below.refl _ _⟩
  case round =>
    obtain ⟨k, hk, rfl, hown, hbw⟩ := hrel
    have hs' := hbw.size
    by_cases hlt : k < n
    · have e1 := HC3.out wr hbw k hlt
      have hx := HRL.out k hlt
      have hm := HLM.out k hlt
      have hol := Lib.hid (fun j hj => own_lt hown (k := j) hj)
      by_cases h0 : r[k]?.getD 0 = 0
      · rw [if_pos h0] at hm
        rw [h0] at e1
        rw [show ((0 : Nat) : Int) = 0 from rfl] at e1
        have htk : (m.take (k + 1)).map (Value.int .i64) = (m.take k).map (Value.int .i64) ++ [.int .i64 0] := by
          rw [List.take_add_one, hm, List.map_append]; rfl
        have HTK := Lib.hid htk
        clear htk hm h0
        generalize (m.take k).map (Value.int .i64) = row at *
        go_wp2_with (at_builtin; refine wpList_push rfl _ _ 22 rfl w3.heap.size 3 Try.infoIntG Try.underlying22 rfl _ _ _ rfl hown rfl rfl (by unfold maxLen; omega) (by omega) (by omega) ?_)
        intro v' w1 hown' hgrow
        have hnx' : Below w3.heap.size w3 w1 := hbw.grown hgrow hs' (fun j hj => (hol.out j hj).1)
        go_wp2_with fail
        go_roundw
        case rel => exact ⟨k + 1, by omega, by go_num, by rw [HTK.out]; exact hown', hnx'⟩
        case measure => simp [intOf]; omega
      · rw [if_neg h0] at hm
        obtain ⟨p, hp⟩ : ∃ p, r[k]?.getD 0 = p + 1 := ⟨r[k]?.getD 0 - 1, by omega⟩
        rw [hp] at e1 hx hm
        have hps : p < s.size := by have := HN.out; omega
        rw [show p + 1 - 1 = p from rfl, tOfS_sy hps] at hm
        have htk : (m.take (k + 1)).map (Value.int .i64) = (m.take k).map (Value.int .i64) ++ [.int .i64 ((s[p].toNat : Int) + 1)] := by
          rw [List.take_add_one, hm, List.map_append]; rfl
        have HTK := Lib.hid htk
        have hb : s[p].toNat < 256 := s[p].toNat_lt
        have i0 : (0 : Int) ≤ (p : Int) := by omega
        have i1 : (p : Int) < (s.size : Int) := by omega
        have ep : ((p + 1 : Nat) : Int) = (p : Int) + 1 := rfl
        rw [ep] at e1
        have d0 : ((p : Int) + 1 == 0) = false := by rw [beq_eq_false_iff_ne]; omega
        have d1 : (p : Int) + 1 - 1 = (p : Int) := by omega
        clear htk hm h0 hp ep
        generalize (m.take k).map (Value.int .i64) = row at *
        go_wp2_with (at_builtin; refine wpList_push rfl _ _ 22 rfl w3.heap.size 3 Try.infoIntG Try.underlying22 rfl _ _ _ rfl hown rfl rfl (by unfold maxLen; omega) (by omega) (by omega) ?_)
        intro v' w1 hown' hgrow
        have hnx' : Below w3.heap.size w3 w1 := hbw.grown hgrow hs' (fun j hj => (hol.out j hj).1)
        go_wp2_with fail
        go_roundw
        case rel => exact ⟨k + 1, by omega, by go_num, by rw [HTK.out]; exact hown', hnx'⟩
        case measure => simp [intOf]; omega
    · obtain rfl : k = n := by omega
      rw [List.take_of_length_le (by rw [HML.out]; exact Nat.le_refl _)] at hown
      have h3 := HB3.out.size
      go_wp2_with fail
      go_ret
      exact ⟨m, HIS.out, _, rfl, by rw [HML.out]; exact own_mono hown h3, HB3.out.trans (hbw.mono h3)⟩

end Go.Proofs.Ytpbmhdkhkbhgnaa
