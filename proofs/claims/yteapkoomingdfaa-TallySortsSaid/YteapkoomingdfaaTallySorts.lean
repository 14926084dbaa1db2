/- The walk of TallySorts. -/
import Derived.Test.YteapkoomingdfaaRefRank
namespace Go.Proofs.Yteapkoomingdfaa
set_option linter.unusedVariables false
set_option linter.unusedSimpArgs false
open Go.RowKit

set_option maxHeartbeats 3200000 in
set_option maxRecDepth 100000 in
theorem walk_TallySorts (w : World) (a0 : Option Addr) (c0 : Nat) (z0 : List Int) (w0 : ArgI .i64 w a0 c0 z0) :
    Calls Try.prog 16 #[.slice a0 z0.length c0] w fun e w' => e = .returned (.bool true) ∧ Below w.heap.size w w' := by
  have hrd := w0.reads
  have hmx := w0.le
  have hmx2 : c0 ≤ 9223372036854775807 := w0.max
  clear w0
  go_enter Try.func16, Try.ntmps16
  go_wp2_with fail
  go_loopw [3, 4] (fun v i wr => ∃ k : Nat, k ≤ z0.length ∧ k ≤ 80 ∧ i = .int .i64 k ∧ ∃ ms : List Int, ms.length = k ∧ (∀ x ∈ ms, 0 ≤ x ∧ x < 257) ∧ wr.ownsRow w.heap.size 3 1 v k (ms.map (Value.int .i64)) ∧ Below w.heap.size w wr) (fun _ i _ => z0.length - (intOf i).toNat)
  case atStart => exact ⟨0, by omega, by omega, rfl, [], rfl, by simp, World.ownsRow_nil _ _ _ _, Below.refl _ _⟩
  case round =>
    obtain ⟨k, hk, hk6, rfl, ms, hms, hsy, hown, hb⟩ := hrel
    have hs0 := hb.size
    by_cases hlt : k < z0.length ∧ k < 80
    · obtain ⟨hlt, h60⟩ := hlt
      obtain ⟨b, off, rfl, hbl, hcells⟩ := hrd.some (by omega)
      have hcx := (hb.cell (p := ⟨b, off + k, none⟩) hbl).trans (hcells k hlt)
      generalize z0[k]?.getD 0 = x at *
      clear hcells
      obtain ⟨u, hu0, hu⟩ := u64_of2 x
      have H1 : Hid (∀ y ∈ ms ++ [u % 257], 0 ≤ y ∧ y < 257) := by
        intro y hy
        rcases List.mem_append.1 hy with h | h
        · exact hsy y h
        · rw [List.mem_singleton.1 h]; omega
      have H2 : Hid ((ms ++ [u % 257]).map (Value.int .i64) = ms.map (Value.int .i64) ++ [Value.int .i64 (u % 257)]) := List.map_append
      have H3 : Hid ((ms ++ [u % 257]).length = k + 1) := by show (ms ++ [u % 257]).length = k + 1; simp [hms]
      generalize ms.map (Value.int .i64) = row at *
      clear hsy hms hrd
      go_wp2_with (at_builtin; refine wpList_push rfl _ _ 32 rfl w.heap.size 3 Try.infoIntU Try.underlying32 rfl _ _ _ rfl hown rfl rfl ?c1 ?c2 ?c3 ?_)
      case c1 => unfold maxLen; omega
      case c2 => omega
      case c3 => omega
      intro v' w1 hown' hgrow
      have hnx' : Below w.heap.size w w1 := hb.grown hgrow hs0 (fun j hj => (hown.lt j hj).1)
      clear hown hgrow
      go_wp2_with fail
      go_roundw
      case rel => exact ⟨k + 1, by omega, by omega, by simp, _, H3.out, H1.out, by rw [H2.out]; exact hown', hnx'⟩
      case measure => simp [intOf]; omega
    · obtain ⟨wo, rfl⟩ : ∃ wo : World, wo = wr := ⟨_, rfl⟩
      obtain ⟨la, lc, rfl, _, _⟩ := own_slice hown
      have hrd2 := own_reads hown
      have hall : (Tl.of ms).all = (k : Int) := by show ((ms.length : Nat) : Int) = k; rw [hms]
      have hrk : ∀ s : Nat, rank ms (k : Int) (s : Int) = (Tl.of ms).N s := by
        intro s
        unfold rank
        rw [Int.toNat_natCast, List.take_of_length_le (by omega)]; rfl
      have HRK := Lib.hid hrk
      have hnew := tnew_at (c := lc) ms hrd2 hms.symm hsy (by omega)
      have HNEW := Lib.hid hnew
      have hmk : k = ms.length := hms.symm
      have HMK := Lib.hid hmk
      generalize Tl.of ms = t at *
      have hor : ¬ k < z0.length ∨ (k < z0.length ∧ ¬ k < 80) := by omega
      clear hrd hown hnew hsy hms hlt hrk hmk
      rcases hor with h1 | ⟨h1, h2⟩
      all_goals
        go_wp2_with fail
        refine HNEW.out.mono ?_
        rintro e w1 ⟨p, rfl, hT, hb1⟩
        have hT : TAt w.heap.size w1 p t := ⟨hT.1, Nat.le_trans hs0 hT.2⟩
        have hb2 := hb.trans (hb1.mono hs0)
        have hs1 := hb2.size
        have hrd3 := hrd2.below hb1
        clear hb hb1 HNEW hrd2
        go_wp2_with fail
        go_loop [7, 8] (fun x i => ∃ j : Nat, j ≤ k ∧ i = .int .i64 j ∧ ∃ la : Nat, x = .int .i64 la ∧ la ≤ 257 ∧ bl t.N la ≤ j) (fun _ i => k - (intOf i).toNat)
        case atStart => exact ⟨0, by omega, rfl, 0, rfl, by omega, by simp [bl]⟩
        case round =>
          obtain ⟨j, hj, rfl, l0, rfl, hl0, hl1⟩ := hrel
          by_cases hjk : j < k
          · go_wp2_with fail
            refine (twhich_in hT (by omega) (by omega)).mono ?_
            rintro e w' ⟨s, rfl, rfl, hs, hs2, hs3⟩
            have hlast : ¬ (s : Int) < (l0 : Int) := by
              intro h
              have := bl_mono hT.1.ok.pos (show s + 1 ≤ l0 by omega) hl0
              omega
            have q0 := tOf_nat t hs
            have q1 := tBelow_nat t (show s ≤ 257 by omega)
            have q2 := tBelow_next t hs
            have q3 : bl t.N (s + 1) = bl t.N s + t.N s := rfl
            have q4 := bl_pos hT.1.ok.pos (show s ≤ 257 by omega)
            have q5 := hT.1.ok.pos s hs
            have q6 := bl_mono hT.1.ok.pos (show s + 1 ≤ 257 by omega) (Nat.le_refl _)
            rw [hT.1.ok.sum, hall] at q6
            have q7 := HRK.out s
            have q8 : bl t.N (s + 1) - bl t.N s = t.N s := by omega
            have QD := Lib.hid q8
            have Q0 := Lib.hid q0
            have Q1 := Lib.hid q1
            have Q2 := Lib.hid q2
            have Q7 := Lib.hid q7
            have QR : Hid (bl t.N s ≤ ((j + 1 : Nat) : Int)) := by show bl t.N s ≤ _; omega
            have q9 : 0 ≤ bl t.N (s + 1) := by omega
            clear q0 q1 q2 q3 q7 q8
            generalize bl t.N (s + 1) = L1 at *
            generalize hL : bl t.N s = L at *
            have HLE := Lib.hid hL
            clear hL
            generalize t.N s = N at *
            go_wp2_with fail
            refine (tbelow_at hT Q1.out).mono ?_
            rintro e w' ⟨rfl, rfl⟩
            go_wp2_with fail
            refine (tbelow_at hT Q2.out).mono ?_
            rintro e w' ⟨rfl, rfl⟩
            go_wp2_with fail
            refine (tof_at hT Q0.out).mono ?_
            rintro e w' ⟨rfl, rfl⟩
            go_wp2_with fail
            refine (tbelow_at hT Q2.out).mono ?_
            rintro e w' ⟨rfl, rfl⟩
            go_wp2_with fail
            refine (tbelow_at hT Q1.out).mono ?_
            rintro e w' ⟨rfl, rfl⟩
            have qd := QD.out
            go_wp2_with fail
            clear qd
            refine (tof_at hT Q0.out).mono ?_
            rintro e w' ⟨rfl, rfl⟩
            go_wp2_with fail
            refine (refRank_any hrd3 HMK.out (by rw [← HMK.out]; omega) Q7.out).mono ?_
            rintro e w' ⟨rfl, rfl⟩
            go_wp2_with fail
            go_round
            case rel => exact ⟨j + 1, by omega, by simp, s, rfl, by omega, by rw [HLE.out]; exact QR.out⟩
            case measure => simp [intOf]; omega
          · have hjk2 : j = k := by omega
            clear hl1
            go_wp2_with fail
            refine (told8_any _).mono ?_
            rintro e w5 ⟨rfl, hb9⟩
            have hT5 := hT.chg hb9
            have hb10 := hb2.trans (hb9.mono hs1)
            clear hT hb2 hb9
            go_wp2_with fail
            refine (tlen_at hT5 hall).mono ?_
            rintro e w' ⟨rfl, rfl⟩
            go_wp2_with fail
            go_ret
            exact ⟨rfl, hb10⟩

end Go.Proofs.Yteapkoomingdfaa
