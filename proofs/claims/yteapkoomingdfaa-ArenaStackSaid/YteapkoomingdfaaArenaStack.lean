/- The walk of ArenaStack: for whatever mask it answers true and turns nothing that was there. -/
import Derived.Test.YteapkoomingdfaaArenaR
namespace Go.Proofs.Yteapkoomingdfaa
set_option linter.unusedVariables false
set_option linter.unusedSimpArgs false
open Go.RowKit

theorem take_all {a : Ar} (hF : a.F = []) (hT : a.T.length = a.M) : a.take = (-1, 3, a) := by
  unfold Ar.take
  rw [if_pos (by simp [Ar.live, hF, hT])]

theorem getLast_take {L : List Nat} {q : Nat} (h : q < L.length) : (L.take (q + 1)).getLast? = some (L[q]?.getD 0) := by
  rw [List.take_add_one, List.getElem?_eq_getElem h, Option.toList_some, List.getLast?_concat]; rfl
theorem dropLast_take' {L : List Nat} {q : Nat} (h : q < L.length) : (L.take (q + 1)).dropLast = L.take q := by
  rw [List.take_add_one, List.getElem?_eq_getElem h, Option.toList_some, List.dropLast_concat]

set_option maxHeartbeats 3200000 in
set_option maxRecDepth 100000 in
theorem walk_ArenaStack (w : World) (a0 : Int) (w0 : (Lit.int .i64 a0).wf = true) :
    Calls Try.prog 9 #[.int .i64 a0] w fun e w' => e = .returned (.bool true) ∧ Below w.heap.size w w' := by
  clear w0
  go_enter Try.func9, Try.ntmps9
  go_wp2_with fail
  refine (new_at 20 w (by omega)).mono ?_
  rintro e w1 ⟨p, rfl, hA, hb1, hpl⟩
  go_wp2_with fail
  go_loopw [4] (fun i wr => ∃ k : Nat, k ≤ 20 ∧ i = .int .i64 k ∧ ArAt w.heap.size wr p ⟨List.replicate k true, [], 20⟩ ∧ Below w.heap.size w wr) (fun i _ => 20 - (intOf i).toNat)
  case atStart => exact ⟨0, by omega, rfl, hA, hb1⟩
  case round =>
    obtain ⟨k, hk, rfl, hA, hb⟩ := hrel
    have hs := hb.size
    by_cases hlt : k < 20
    · go_wp2_with (go_at_call 30; refine (take_at hA hs (take_true hlt)).mono ?_; rintro e w2 ⟨rfl, hA2, hb2⟩)
      go_roundw
      case rel => exact ⟨k + 1, by omega, by simp, hA2, hb.trans hb2⟩
      case measure => simp [intOf]; omega
    · have hk20 : k = 20 := by omega
      rw [hk20] at hA
      clear hk20
      obtain ⟨wo, rfl⟩ : ∃ wo : World, wo = wr := ⟨_, rfl⟩
      have hR := ArRow.of_at hA
      go_wp2_with fail
      go_loopw [5, 6] (fun v i wr => ∃ k : Nat, k ≤ 20 ∧ i = .int .i64 k ∧ ∃ a : Ar, a.T.length = 20 ∧ a.M = 20 ∧ (∀ x ∈ a.F, x < k) ∧ ArRow w.heap.size wr p a v a.F.length (a.F.map natV) ∧ Below w.heap.size w wr) (fun _ i _ => 20 - (intOf i).toNat)
      case atStart => exact ⟨0, by omega, rfl, ⟨List.replicate 20 true, [], 20⟩, rfl, rfl, by simp, hR, hb⟩
      case round =>
        obtain ⟨k, hk, rfl, a, hT, hM, hF, hR, hb⟩ := hrel
        have hs := hb.size
        have hok := hR.at.ok
        by_cases hlt : k < 20
        · have hfr := free_one hok (i := k) (by omega) (fun hm => by have := hF k hm; omega)
          have hIsF : arIs (a.T.set k false) (k : Int) = false := by
            cases h : arIs (a.T.set k false) (k : Int)
            · rfl
            · have := (arIs_iff.1 h).2
              rw [Int.toNat_natCast, List.getElem?_set, if_pos rfl, if_pos (by omega)] at this
              cases this
          have HF := Lib.hid hF
          have HT := Lib.hid hT
          have HM := Lib.hid hM
          have HFR := Lib.hid hfr
          have hFl : a.F.length ≤ 20 := by have := hok.fle; omega
          clear hF hT hM hfr
          go_wp2_with fail
          · refine (free_row [(k : Int)] _ _ hR hs rfl rfl (by simp) HFR.out).mono ?_
            rintro e w2 ⟨rfl, hR2, hb2⟩
            have hs2 := (hb.trans hb2).size
            go_wp2_with (first
              | (go_at_call 32; refine (is_at _ hR2.at).mono ?_; rintro e w' ⟨rfl, rfl⟩)
              | (at_builtin; refine wpList_pushL rfl _ _ 32 rfl w.heap.size 3 Try.infoInt' Try.underlying32 rfl _ _ _ rfl hR2.own rfl rfl ?c1 ?c2 ?c3 ?_))
            case c1 => unfold maxLen; omega
            case c2 => omega
            case c3 => omega
            intro g cap w3 hown hgrow hor hgl
            have hR3 := hR2.push hgrow hown hor
            have hb3 := hR2.push_below hs2 hgrow
            have HR3 := Lib.hid hR3
            clear hown hor hgrow hR3
            go_wp2_with fail
            go_roundw
            case rel =>
              refine ⟨k + 1, by omega, by simp, ⟨a.T.set k false, a.F ++ [k], a.M⟩, by have := HT.out; simpa using this, HM.out, fun x hx => ?_, ?_, (hb.trans hb2).trans hb3⟩
              · rcases List.mem_append.1 hx with h | h
                · have := HF.out x h; omega
                · simp at h; omega
              · have := HR3.out
                simpa [natV] using this
            case measure => simp [intOf]; omega
          · go_roundw
            case rel => exact ⟨k + 1, by omega, by simp, a, HT.out, HM.out, fun x hx => by have := HF.out x hx; omega, hR, hb⟩
            case measure => simp [intOf]; omega
        · obtain ⟨la, lc, rfl, hln, hlb⟩ := own_slice hR.own
          have hFl : a.F.length ≤ 20 := by have := hok.fle; omega
          generalize hL : a.F = L at *
          obtain ⟨wq, rfl⟩ : ∃ wq : World, wq = wr := ⟨_, rfl⟩
          have HR0 := Lib.hid hR
          have HL := Lib.hid hL
          have HT := Lib.hid hT
          have HM := Lib.hid hM
          clear hF hR hL hT hM hok hln hlb
          go_wp2_with fail
          go_loopw [7] (fun i wr => ∃ m : Nat, m ≤ L.length ∧ i = .int .i64 ((m : Int) - 1) ∧ ∃ a' : Ar, a'.T.length = 20 ∧ a'.M = 20 ∧ a'.F = L.take m ∧ ArRow w.heap.size wr p a' (.slice la L.length lc) L.length (L.map natV) ∧ Below w.heap.size w wr) (fun i _ => (intOf i + 1).toNat)
          case atStart => exact ⟨L.length, by omega, by simp, a, HT.out, HM.out, by rw [HL.out, List.take_length], HR0.out, hb⟩
          case round =>
            obtain ⟨m, hm, rfl, a', hT, hM, hF, hR, hb⟩ := hrel
            have hs := hb.size
            have hok := hR.at.ok
            cases m with
            | zero =>
              have htk := take_all (a := a') (by rw [hF]; rfl) (by omega)
              have hlv : a'.live = 20 := by unfold Ar.live; rw [hF, hT]; rfl
              have HTK := Lib.hid htk
              have HLV := Lib.hid hlv
              clear hF hT hM htk hlv
              go_wp2_with fail
              refine (take_row hR hs HTK.out).mono ?_
              rintro e w2 ⟨rfl, hR2, hb2⟩
              have hb3 := hb.trans hb2
              go_wp2_with fail
              refine (told3_any _).mono ?_
              rintro e w3 ⟨rfl, hb4⟩
              have hR3 := hR2.chg hb4
              have hb5 := hb3.trans (hb4.mono hb3.size)
              go_wp2_with fail
              refine (live_at hR3.at).mono ?_
              rintro e w' ⟨rfl, n, rfl⟩
              rw [HLV.out]
              go_wp2_with fail
              go_ret
              exact ⟨rfl, below_drewN hb5 n⟩
            | succ q =>
              have hq : q < L.length := by omega
              have hgl := getLast_take hq
              have hcell : wr.ownsRow w.heap.size 3 1 (.slice la L.length lc) L.length (L.map natV) := hR.own
              obtain ⟨g, cap, hv, _, _, hcap, _, hcx, _⟩ := own_some hcell (by omega)
              injection hv with e1 _ e3
              subst e1; subst e3
              have hc := hcx q hq
              rw [List.getElem?_map, List.getElem?_eq_getElem hq] at hc
              rw [List.getElem?_eq_getElem hq, Option.getD_some] at hgl
              simp only [Option.map_some, natV] at hc
              generalize L[q] = x at *
              rw [← hF] at hgl
              have htk := take_last hok hgl
              have hF2 : (a'.pop x).F = L.take q := by show a'.F.dropLast = _; rw [hF]; exact dropLast_take' hq
              have hT2 : (a'.pop x).T.length = 20 := by simp [Ar.pop, hT]
              have HTK := Lib.hid htk
              have HF2 := Lib.hid hF2
              have HT2 := Lib.hid hT2
              have HM2 := Lib.hid hM
              have hcw : ∀ w2, ArRow w.heap.size w2 p (a'.pop x) (.slice (some ⟨g, 0, none⟩) L.length lc) L.length (L.map natV) → w2.cell? ⟨g, q, none⟩ = some (.int .i64 x) := by
                intro w2 h2
                obtain ⟨g', cap', hv, _, _, _, _, hcx', _⟩ := own_some h2.own (by omega)
                injection hv with e1 _ e3
                cases e1
                rw [hcx' q hq, ← hcx q hq]; exact hc
              have HCW := Lib.hid hcw
              clear hF hT hM htk hF2 hT2 hgl hc hcx hcell hcw
              go_wp2_with fail
              refine (take_row hR hs HTK.out).mono ?_
              rintro e w2 ⟨rfl, hR2, hb2⟩
              have hc2 := HCW.out w2 hR2
              go_wp2_with fail
              go_roundw
              case rel => exact ⟨q, by omega, by simp, _, HT2.out, HM2.out, HF2.out, hR2, hb.trans hb2⟩
              case measure => simp [intOf]

end Go.Proofs.Yteapkoomingdfaa
