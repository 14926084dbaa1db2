/- Lemmas and contracts under the claims of this seat: Contracts of package tree: all, All. Contracts of package tree: All, Live, Made, Visits, Shape. Contracts of package tree, of trees as a law sees them. Trees of the call's own beside other rows. Contracts of the reference's rows of bits: Ranks, Selects, Gets, Same. What a walk is told of the arguments that came in: rows of integers and of bools. The laws' helpers of layer 2: Bits, told; frames of blocks for a law's walk. Contracts of the reference's words and rows of bits. Contracts of the reference's In and Out, Put and Cut. The laws' helpers of layer 5: near, Least, fours. The laws' helpers of layer 5: May, Fine, same. The laws' helper of layer 5: told; plain lemmas for the laws. A tree and a row in a law's walk: calls with their answers named. The listed table, as a walk reads it. What a walk is told of an argument that is a row of structs of two integers and a bool. What the walk of TreeShrinks needs: append onto a full slice; Bits with a larger bound. -/
import Derived.Test.YtcppgpjodfeigaaDoorZt5
import Derived.IntWalk
import Derived.Test.YtcppgpjodfeigaaDoorZt4
import Derived.Test.YtcppgpjodfeigaaDoorZt2
import Derived.Test.YtcppgpjodfeigaaDoorZt1
import Derived.Deep.QuietTactic
import Derived.BigQuiet
import Derived.ProofKit
import Derived.OpenShut
import Derived.ShutString
import Derived.ChangeOld
import Derived.Below
import Derived.Test.YtcppgpjodfeigaaDoorRows
import Derived.Lib.LaidTab
import Derived.Lay
import Derived.LaidSub
import Derived.MakeChecks
import Derived.SevenTiedAt
import Derived.JoinedOf
import Derived.ChangeVars
import Derived.Deep.SlicePairs
import Derived.ArgAppend

namespace Go.Proofs.YtcppgpjodfeigaaDoor
set_option linter.unusedVariables false
set_option linter.unusedSimpArgs false
open Go.RowKit

set_option maxHeartbeats 3200000 in
set_option maxRecDepth 100000 in
theorem tAllN_any (T : TT) : ∀ (w : World) (p : Nat) (C : Nat → Prop) (A : Ar) (xs : List Nd) (root vis : Int), Head w p C A xs root vis → Sub w xs T → T.st.bits.length ≤ 8589934592 →
    Calls Tryd.prog 73 #[.pointer (some ⟨p, 0, none⟩), .int .i64 T.num] w (GivesB w.heap.size w T.st.bits) := by
  induction T with
  | leaf kn q l =>
    intro w p C A xs root vis h hS hb
    change Calls Tryd.prog _ #[.pointer (some ⟨p, 0, none⟩), .int .i64 (kn : Int)] w _
    have hx := hS.1
    obtain ⟨g, rc, cur, c1, hgp, _⟩ := h.row (by have := (List.getElem?_eq_some_iff.1 hx).1; omega)
    obtain ⟨_, _, hkx, _⟩ := h.node c1 hx
    obtain ⟨_, _, _, _, _, _, _, a7⟩ := h.eight c1 hx
    change w.cell? ⟨g, kn * 8 + 7, none⟩ = some (.pointer (some ⟨q, 0, none⟩)) at a7
    have HB := Lib.hid hS.2
    have d1 : ((kn : Int) == -1) = false := by rw [beq_eq_false_iff_ne]; omega
    clear h hS hx
    go_enter Tryd.func73, Tryd.ntmps73
    go_wp2_with fail
    refine (blkAll HB.out).mono ?_
    rintro e w2 ⟨v, rfl, hown, hb2⟩
    have HO := Lib.hid hown
    have HW := Lib.hid hb2
    clear hown hb2
    go_wp2_with fail
    go_ret
    exact ⟨v, rfl, HO.out, HW.out⟩
  | pair kn a c iha ihc =>
    intro w p C A xs root vis h hS hb
    change Calls Tryd.prog _ #[.pointer (some ⟨p, 0, none⟩), .int .i64 (kn : Int)] w _
    have hx := hS.1
    obtain ⟨g, rc, cur, c1, hgp, hCg, _⟩ := h.row (by have := (List.getElem?_eq_some_iff.1 hx).1; omega)
    obtain ⟨_, _, hkx, _⟩ := h.node c1 hx
    obtain ⟨a0, a1, _, _, _, _, _, a7⟩ := h.eight c1 hx
    change w.cell? ⟨g, kn * 8 + 7, none⟩ = some (.pointer none) at a7
    change w.cell? ⟨g, kn * 8, none⟩ = some (.int .i64 (a.num : Int)) at a0
    change w.cell? ⟨g, kn * 8 + 1, none⟩ = some (.int .i64 (c.num : Int)) at a1
    have hpw := h.lt p h.self
    have hgw := h.lt g hCg
    have d1 : ((kn : Int) == -1) = false := by rw [beq_eq_false_iff_ne]; omega
    have hlen : a.st.bits.length + c.st.bits.length ≤ 8589934592 := by simpa [TT.st, ST.bits] using hb
    have HIA := Lib.hid (iha w.drew p C A xs root vis h.drew (hS.2.1.keep (fun _ _ => rfl) (fun _ _ => rfl)) (by omega))
    have HIC : Hid (∀ w', Below w.heap.size w w' → Calls Tryd.prog 73 #[.pointer (some ⟨p, 0, none⟩), .int .i64 c.num] w' (GivesB w'.heap.size w' c.st.bits)) := fun w' hw =>
      ihc w' p C A xs root vis (h.below hw) (hS.2.2.chgC h (Chg.of_below hw) (fun _ _ => rfl)) (by omega)
    clear h hS hx hCg iha ihc
    obtain ⟨na, hna⟩ : ∃ n, a.num = n := ⟨_, rfl⟩
    obtain ⟨nc, hnc⟩ : ∃ n, c.num = n := ⟨_, rfl⟩
    rw [hna] at a0 HIA
    rw [hnc] at a1 HIC
    obtain ⟨la, hla⟩ : ∃ l, a.st.bits = l := ⟨_, rfl⟩
    obtain ⟨lc, hlc⟩ : ∃ l, c.st.bits = l := ⟨_, rfl⟩
    rw [hla] at hlen HIA
    rw [hlc] at hlen HIC
    have HBE : Hid ((TT.pair kn a c).st.bits = la ++ lc) := by show a.st.bits ++ c.st.bits = _; rw [hla, hlc]
    clear hna hnc hla hlc hb
    go_enter Tryd.func73, Tryd.ntmps73
    go_wp2_with fail
    -- REGION all
    refine reg_start (fun w' => w'.cell? ⟨p, 1, none⟩ = some (.slice (some ⟨g, 0, none⟩) xs.length rc) ∧ w'.cell? ⟨g, kn * 8, none⟩ = some (.int .i64 na) ∧ w'.cell? ⟨g, kn * 8 + 1, none⟩ = some (.int .i64 nc)) (by kernel_rfl) (⟨c1, a0, a1⟩) (fun hHeld => ?_)
    refine reg_take (i := 0) (v := ?val0) rfl (by kernel_rfl) rfl hHeld ?yal0 ?ral0
    case yal0 => (intro w hSw; (try dsimp only at hSw); go_simp; all_goals with_reducible rfl)
    try simp only [Act.put, List.setIfInBounds_toArray, List.set_cons_zero, List.set_cons_succ]
    refine reg_take (i := 1) (v := ?val1) rfl (by kernel_rfl) rfl hHeld ?yal1 ?ral1
    case yal1 => (intro w hSw; (try dsimp only at hSw); go_simp; all_goals with_reducible rfl)
    try simp only [Act.put, List.setIfInBounds_toArray, List.set_cons_zero, List.set_cons_succ]
    refine reg_take (i := 2) (v := ?val2) rfl (by kernel_rfl) rfl hHeld ?yal2 ?ral2
    case yal2 => (intro w hSw; (try dsimp only at hSw); go_simp; all_goals with_reducible rfl)
    try simp only [Act.put, List.setIfInBounds_toArray, List.set_cons_zero, List.set_cons_succ]
    refine reg_take (i := 3) (v := ?val3) rfl (by kernel_rfl) rfl hHeld ?yal3 ?ral3
    case yal3 => (intro w hSw; (try dsimp only at hSw); go_simp; all_goals with_reducible rfl)
    try simp only [Act.put, List.setIfInBounds_toArray, List.set_cons_zero, List.set_cons_succ]
    refine reg_take (i := 4) (v := ?val4) rfl (by kernel_rfl) rfl hHeld ?yal4 ?ral4
    case yal4 => (intro w hSw; (try dsimp only at hSw); go_simp; all_goals with_reducible rfl)
    try simp only [Act.put, List.setIfInBounds_toArray, List.set_cons_zero, List.set_cons_succ]
    refine reg_take (i := 5) (v := ?val5) rfl (by kernel_rfl) rfl hHeld ?yal5 ?ral5
    case yal5 => (intro w hSw; (try dsimp only at hSw); go_simp; all_goals with_reducible rfl)
    try simp only [Act.put, List.setIfInBounds_toArray, List.set_cons_zero, List.set_cons_succ]
    refine reg_take (i := 6) (v := ?val6) rfl (by kernel_rfl) rfl hHeld ?yal6 ?ral6
    case yal6 => (intro w hSw; (try dsimp only at hSw); go_simp; all_goals with_reducible rfl)
    try simp only [Act.put, List.setIfInBounds_toArray, List.set_cons_zero, List.set_cons_succ]
    refine reg_take (i := 7) (v := ?val7) rfl (by kernel_rfl) rfl hHeld ?yal7 ?ral7
    case yal7 => (intro w hSw; (try dsimp only at hSw); go_simp; all_goals with_reducible rfl)
    try simp only [Act.put, List.setIfInBounds_toArray, List.set_cons_zero, List.set_cons_succ]
    refine reg_take (i := 8) (v := ?val8) rfl (by kernel_rfl) rfl hHeld ?yal8 ?ral8
    case yal8 => (intro w hSw; (try dsimp only at hSw); go_simp; all_goals with_reducible rfl)
    try simp only [Act.put, List.setIfInBounds_toArray, List.set_cons_zero, List.set_cons_succ]
    refine reg_take (i := 10) (v := ?val10) rfl (by kernel_rfl) rfl hHeld ?yal10 ?ral10
    case yal10 => (intro w hSw; (try dsimp only at hSw); go_simp; all_goals with_reducible rfl)
    try simp only [Act.put, List.setIfInBounds_toArray, List.set_cons_zero, List.set_cons_succ]
    refine reg_take (i := 11) (v := ?val11) rfl (by kernel_rfl) rfl hHeld ?yal11 ?ral11
    case yal11 => (intro w hSw; (try dsimp only at hSw); go_simp; all_goals with_reducible rfl)
    try simp only [Act.put, List.setIfInBounds_toArray, List.set_cons_zero, List.set_cons_succ]
    refine reg_take (i := 12) (v := ?val12) rfl (by kernel_rfl) rfl hHeld ?yal12 ?ral12
    case yal12 => (intro w hSw; (try dsimp only at hSw); go_simp; all_goals with_reducible rfl)
    try simp only [Act.put, List.setIfInBounds_toArray, List.set_cons_zero, List.set_cons_succ]
    refine reg_take (i := 13) (v := ?val13) rfl (by kernel_rfl) rfl hHeld ?yal13 ?ral13
    case yal13 => (intro w hSw; (try dsimp only at hSw); go_simp; all_goals with_reducible rfl)
    try simp only [Act.put, List.setIfInBounds_toArray, List.set_cons_zero, List.set_cons_succ]
    refine reg_take (i := 14) (v := ?val14) rfl (by kernel_rfl) rfl hHeld ?yal14 ?ral14
    case yal14 => (intro w hSw; (try dsimp only at hSw); go_simp; all_goals with_reducible rfl)
    try simp only [Act.put, List.setIfInBounds_toArray, List.set_cons_zero, List.set_cons_succ]
    refine reg_take (i := 15) (v := ?val15) rfl (by kernel_rfl) rfl hHeld ?yal15 ?ral15
    case yal15 => (intro w hSw; (try dsimp only at hSw); go_simp; all_goals with_reducible rfl)
    try simp only [Act.put, List.setIfInBounds_toArray, List.set_cons_zero, List.set_cons_succ]
    refine reg_take (i := 16) (v := ?val16) rfl (by kernel_rfl) rfl hHeld ?yal16 ?ral16
    case yal16 => (intro w hSw; (try dsimp only at hSw); go_simp; all_goals with_reducible rfl)
    try simp only [Act.put, List.setIfInBounds_toArray, List.set_cons_zero, List.set_cons_succ]
    refine reg_take (i := 17) (v := ?val17) rfl (by kernel_rfl) rfl hHeld ?yal17 ?ral17
    case yal17 => (intro w hSw; (try dsimp only at hSw); go_simp; all_goals with_reducible rfl)
    try simp only [Act.put, List.setIfInBounds_toArray, List.set_cons_zero, List.set_cons_succ]
    refine reg_take (i := 18) (v := ?val18) rfl (by kernel_rfl) rfl hHeld ?yal18 ?ral18
    case yal18 => (intro w hSw; (try dsimp only at hSw); go_simp; all_goals with_reducible rfl)
    try simp only [Act.put, List.setIfInBounds_toArray, List.set_cons_zero, List.set_cons_succ]
    refine reg_loud (i := 9) rfl (by kernel_rfl) rfl (fun K hK => ?_)
    go_simp
    ((with_reducible refine HIA.out.mono ?_))
    rintro e w2 ⟨v2, rfl, hown2, hb2⟩
    have hbw2 : Below w.heap.size w w2 := ⟨hb2.os, hb2.tape, hb2.output, hb2.size, hb2.block⟩
    have hown2 : w2.ownsRow w.heap.size 4 1 v2 la.length (la.map Value.bool) := hown2
    have HO2 := Lib.hid hown2
    have hs2 := hbw2.size
    have HC2 := Lib.hid (HIC.out w2 hbw2)
    have HBW2 := Lib.hid hbw2
    clear hown2 hb2 hbw2
    refine hK.out _ _ (⟨(HBW2.out.cell (p := ⟨p, 1, none⟩) hpw).trans c1, (HBW2.out.cell (p := ⟨g, kn * 8, none⟩) hgw).trans a0, (HBW2.out.cell (p := ⟨g, kn * 8 + 1, none⟩) hgw).trans a1⟩) (fun hNew => ?_)
    clear hK K hHeld
    have hHeld := hNew
    clear hNew
    try simp only [Act.put, List.setIfInBounds_toArray, List.set_cons_zero, List.set_cons_succ]
    refine reg_loud (i := 19) rfl (by kernel_rfl) rfl (fun K hK => ?_)
    go_simp
    ((with_reducible refine HC2.out.mono ?_))
    rintro e w3 ⟨v3, rfl, hown3, hb3⟩
    have hbw3 : Below w.heap.size w w3 := HBW2.out.trans (hb3.mono hs2)
    have hown := own_below HO2.out hb3 (fun k hk => (own_lt HO2.out hk).2)
    obtain ⟨a3, c3, rfl, hnil3, _⟩ := own_slice hown3
    have HO3 := Lib.hid hown
    have HR3 := Lib.hid (readsV_own hown3)
    have HN3 := Lib.hid hnil3
    have HBW3 := Lib.hid hbw3
    have hs3 := hbw3.size
    clear hown3 hown hb3 hnil3 hbw3
    refine hK.out _ _ (⟨(HBW3.out.cell (p := ⟨p, 1, none⟩) hpw).trans c1, (HBW3.out.cell (p := ⟨g, kn * 8, none⟩) hgw).trans a0, (HBW3.out.cell (p := ⟨g, kn * 8 + 1, none⟩) hgw).trans a1⟩) (fun hNew => ?_)
    clear hK K hHeld
    have hHeld := hNew
    clear hNew
    try simp only [Act.put, List.setIfInBounds_toArray, List.set_cons_zero, List.set_cons_succ]
    refine reg_loud (i := 20) rfl (by kernel_rfl) rfl (fun K hK => ?_)
    refine wp_appendL _ _ 23 rfl w.heap.size 4 Tryd.infoBoolR Tryd.underlying23 rfl _ la.length _ rfl HO3.out a3 lc.length c3 (lc.map Value.bool) rfl (by simp) HN3.out HR3.out.hnews (oneB _) (by unfold maxLen; omega) (by omega) hs3 ?_
    intro a4 c4 w4 hown4 hgrow _
    have hbw4 : Below w.heap.size w w4 := HBW3.out.trans ((Below.refl _ _).grown hgrow hs3 (fun k hk => (own_lt HO3.out hk).1))
    have HBW := Lib.hid hbw4
    rw [← List.map_append] at hown4
    have HOW : Hid (w4.ownsRow w.heap.size 4 1 (.slice a4 (la.length + lc.length) c4) (la ++ lc).length ((la ++ lc).map Value.bool)) := by rw [List.length_append]; exact hown4
    clear hown4 hgrow hbw4
    refine hK.out _ _ (⟨(HBW.out.cell (p := ⟨p, 1, none⟩) hpw).trans c1, (HBW.out.cell (p := ⟨g, kn * 8, none⟩) hgw).trans a0, (HBW.out.cell (p := ⟨g, kn * 8 + 1, none⟩) hgw).trans a1⟩) (fun hNew => ?_)
    clear hK K hHeld
    have hHeld := hNew
    clear hNew
    try simp only [Act.put, List.setIfInBounds_toArray, List.set_cons_zero, List.set_cons_succ]
    refine reg_take (i := 21) (v := ?val21) rfl (by kernel_rfl) rfl hHeld ?yal21 ?ral21
    case yal21 => (intro w hSw; (try dsimp only at hSw); go_simp; all_goals with_reducible rfl)
    try simp only [Act.put, List.setIfInBounds_toArray, List.set_cons_zero, List.set_cons_succ]
    refine reg_done (by kernel_rfl) ?_ _
    -- END OF REGION all
    clear hHeld
    go_wp2_with fail
    go_ret
    rw [HBE.out]
    exact ⟨_, rfl, HOW.out, HBW.out⟩

end Go.Proofs.YtcppgpjodfeigaaDoor

namespace Go.Proofs.YtcppgpjodfeigaaDoor
set_option linter.unusedVariables false
set_option linter.unusedSimpArgs false
open Go.RowKit

theorem tAllN_none (w : World) (p : Nat) : Calls Tryd.prog 73 #[.pointer (some ⟨p, 0, none⟩), .int .i64 (-1)] w fun e w' => e = .returned (.slice none 0 0) ∧ w = w' := by
  go_enter Tryd.func73, Tryd.ntmps73
  go_wp2_with fail
  go_ret
  exact ⟨rfl, rfl⟩
theorem tAll_nil (w : World) : Calls Tryd.prog 31 #[.pointer none] w fun e w' => e = .returned (.slice none 0 0) ∧ w = w' := by
  go_enter Tryd.func31, Tryd.ntmps31
  go_wp2_with fail
  go_ret
  exact ⟨rfl, rfl⟩
set_option maxRecDepth 100000 in
theorem tAll_any {w : World} {p : Nat} {C : Nat → Prop} {A : Ar} {xs : List Nd} {vis : Int} {O : Option TT} (h : Head w p C A xs (onum O) vis) (hS : OSub w xs O) (hb : (obits O).length ≤ 8589934592) :
    Calls Tryd.prog 31 #[.pointer (some ⟨p, 0, none⟩)] w (GivesB w.heap.size w (obits O)) := by
  have c2 := h.cells.2.1
  cases O with
  | none =>
    have c2 : w.cell? ⟨p, 2, none⟩ = some (.int .i64 (-1)) := c2
    clear h hS hb
    have HG : Hid (GivesB w.heap.size w (obits none) (.returned (.slice none 0 0)) w) := ⟨_, rfl, World.ownsRow_nil _ _ _ _, Below.refl _ _⟩
    go_enter Tryd.func31, Tryd.ntmps31
    go_wp2_with fail
    refine (tAllN_none _ p).mono ?_
    rintro e w' ⟨rfl, rfl⟩
    go_wp2_with fail
    go_ret
    exact HG.out
  | some T =>
    change w.cell? ⟨p, 2, none⟩ = some (.int .i64 (T.num : Int)) at c2
    have HA : Hid (Calls Tryd.prog 73 #[.pointer (some ⟨p, 0, none⟩), .int .i64 (T.num : Int)] w (GivesB w.heap.size w T.st.bits)) := tAllN_any T w p C A xs _ vis h hS hb
    change Calls _ _ _ _ (GivesB w.heap.size w T.st.bits)
    clear h hS hb
    generalize T.st.bits = L at *
    generalize (T.num : Int) = n at *
    go_enter Tryd.func31, Tryd.ntmps31
    go_wp2_with fail
    refine HA.out.mono ?_
    rintro e w' ⟨v, rfl, hown, hb⟩
    have HO := Lib.hid hown
    have HW := Lib.hid hb
    clear hown hb
    go_wp2_with fail
    go_ret
    exact ⟨v, rfl, HO.out, HW.out⟩

theorem tLive_nil (w : World) : Calls Tryd.prog 33 #[.pointer none] w fun e w' => e = .returned (.int .i64 0) ∧ w = w' := by
  go_enter Tryd.func33, Tryd.ntmps33
  go_wp2_with fail
  go_ret
  exact ⟨rfl, rfl⟩
theorem tLive_any {w : World} {p : Nat} {C : Nat → Prop} {A : Ar} {xs : List Nd} {root vis : Int} (h : Head w p C A xs root vis) :
    Calls Tryd.prog 33 #[.pointer (some ⟨p, 0, none⟩)] w fun e w' => e = .returned (.int .i64 A.live) ∧ ∃ n, w' = w.drewN n := by
  obtain ⟨ap, SA, p0, hA, _, _⟩ := h.arena
  have HL := Lib.hid (arLive_any hA)
  clear h hA
  go_enter Tryd.func33, Tryd.ntmps33
  go_wp2_with fail
  refine HL.out.mono ?_
  rintro e w' ⟨rfl, n, rfl⟩
  go_wp2_with fail
  go_ret
  exact ⟨rfl, n, rfl⟩
theorem tMade_any {w : World} {p : Nat} {C : Nat → Prop} {A : Ar} {xs : List Nd} {root vis : Int} (h : Head w p C A xs root vis) :
    Calls Tryd.prog 34 #[.pointer (some ⟨p, 0, none⟩)] w fun e w' => e = .returned (.int .i64 A.T.length) ∧ ∃ n, w' = w.drewN n := by
  obtain ⟨ap, SA, p0, hA, _, _⟩ := h.arena
  have HL := Lib.hid (arMade_any hA)
  clear h hA
  go_enter Tryd.func34, Tryd.ntmps34
  go_wp2_with fail
  refine HL.out.mono ?_
  rintro e w' ⟨rfl, hw⟩
  go_wp2_with fail
  go_ret
  first
  | exact ⟨rfl, 0, hw.symm⟩
  | exact ⟨rfl, 0, hw⟩
  | exact ⟨rfl, hw⟩
theorem tVisits_any {w : World} {p : Nat} {C : Nat → Prop} {A : Ar} {xs : List Nd} {root vis : Int} (h : Head w p C A xs root vis) :
    Calls Tryd.prog 72 #[.pointer (some ⟨p, 0, none⟩)] w fun e w' => e = .returned (.int .i64 vis) ∧ w = w' := by
  have c3 := h.cells.2.2.1
  clear h
  go_enter Tryd.func72, Tryd.ntmps72
  go_wp2_with fail
  go_ret
  exact ⟨rfl, rfl⟩

theorem tShape_nil (w : World) : Calls Tryd.prog 27 #[.pointer none] w fun e w' => e = .returned (.agg #[.int .i64 0, .int .i64 0, .int .i64 0, .int .i64 0]) ∧ Below w.heap.size w w' := by
  go_enter Tryd.func27, Tryd.ntmps27
  go_wp2_with fail
  exact bodyPost_ret (v := .agg #[.int .i64 0, .int .i64 0, .int .i64 0, .int .i64 0]) (by simp [results, Tryd.results27, go_sem]) rfl ⟨rfl, (Below.refl _ _).alloc (Nat.le_refl _) _⟩
theorem tShape_none {w : World} {p : Nat} {C : Nat → Prop} {A : Ar} {xs : List Nd} {vis : Int} (h : Head w p C A xs (-1) vis) :
    Calls Tryd.prog 27 #[.pointer (some ⟨p, 0, none⟩)] w fun e w' => e = .returned (.agg #[.int .i64 0, .int .i64 0, .int .i64 0, .int .i64 0]) ∧ Below w.heap.size w w' := by
  have c2 := h.cells.2.1
  have hp := h.lt p h.self
  clear h
  go_enter Tryd.func27, Tryd.ntmps27
  go_wp2_with fail
  exact bodyPost_ret (v := .agg #[.int .i64 0, .int .i64 0, .int .i64 0, .int .i64 0]) (by simp [results, Tryd.results27, go_sem]) rfl ⟨rfl, (Below.refl _ _).alloc (Nat.le_refl _) _⟩

set_option maxHeartbeats 3200000 in
theorem tShape_some {w : World} {p : Nat} {C : Nat → Prop} {A : Ar} {xs : List Nd} {vis : Int} {T : TT} (h : Head w p C A xs T.num vis) (hS : Sub w xs T) (hl : A.live = T.st.size) (hlm : T.st.size ≤ 1000000000) :
    Calls Tryd.prog 27 #[.pointer (some ⟨p, 0, none⟩)] w fun e w' => e = .returned (.agg #[.int .i64 T.st.bits.length, .int .i64 T.st.high, .int .i64 T.st.leaves, .int .i64 T.st.size]) ∧ Below w.heap.size w w' := by
  have hr := hS.root
  obtain ⟨g, rc, cur, c1, hgp, hCg, _⟩ := h.row (by have := (List.getElem?_eq_some_iff.1 hr).1; omega)
  obtain ⟨_, _, hkx, _⟩ := h.node c1 hr
  obtain ⟨_, _, a2, _⟩ := h.eight c1 hr
  rw [T.nd_high] at a2
  have c2 := h.cells.2.1
  have hp := h.lt p h.self
  have hg := h.lt g hCg
  have hlv := T.st.size_leaves
  have hll : (T.st.leaves : Int) = ((T.st.size : Int) + 1) / 2 := by omega
  have dr : ((T.num : Int) == -1) = false := by rw [beq_eq_false_iff_ne]; omega
  have h1 : ∀ n o, Head ((w.alloc o).drewN n) p C A xs T.num vis := fun n o => (h.below (below_alloc w o)).drewN n
  have HLI : Hid (∀ o, Calls Tryd.prog 33 #[.pointer (some ⟨p, 0, none⟩)] (w.alloc o) fun e w' => e = .returned (.int .i64 T.st.size) ∧ ∃ n, w' = (w.alloc o).drewN n) := fun o => by
    have := tLive_any (h1 0 o); rw [hl] at this; exact this
  have HLE : Hid (∀ n o, Calls Tryd.prog 24 #[.pointer (some ⟨p, 0, none⟩)] ((w.alloc o).drewN n) fun e w' => e = .returned (.int .i64 T.st.bits.length) ∧ ∃ m, w' = ((w.alloc o).drewN n).drewN m) := fun n o =>
    tLen_some (h1 n o) (hS.chgC h ((Chg.refl.alloc o).drewN n) (fun _ _ => rfl))
  have HLL := Lib.hid hll
  clear h hS hr hl h1 hCg hlv hll
  generalize T.num = nt at *
  generalize T.st.size = z at *
  generalize T.st.bits.length = n at *
  generalize T.st.high = ht at *
  go_enter Tryd.func27, Tryd.ntmps27
  go_wp2_with fail
  refine (HLI.out _).mono ?_
  rintro e w' ⟨rfl, n1, rfl⟩
  go_wp2_with fail
  obtain ⟨lv, hlv⟩ : ∃ l, l = T.st.leaves := ⟨_, rfl⟩
  have hw3 : ((z : Int) + 1) / 2 = (lv : Int) := by rw [hlv]; exact HLL.out.symm
  have hlv2 : lv ≤ 1000000000 := by omega
  have hw1 : IntKind.i64.wrap ((z : Int) + 1) = (z : Int) + 1 := IntWalk.i64_in _ (by omega)
  have hw4 : IntKind.i64.wrap (lv : Int) = (lv : Int) := IntWalk.i64_in _ (by omega)
  have hw5 : IntKind.i64.wrap (((z : Int) + 1).tdiv 2) = (lv : Int) := by rw [Int.tdiv_eq_ediv_of_nonneg (by omega), hw3, hw4]
  have HLV := Lib.hid hlv
  have HL2 := Lib.hid (HLE.out (n1 + 1) (.cells #[.int .i64 0, .int .i64 0, .int .i64 0, .int .i64 0] 36))
  clear hlv HLI HLE
  -- REGION shape
  refine reg_start (fun w' => w'.cell? ⟨p, 1, none⟩ = some (.slice (some ⟨g, 0, none⟩) xs.length rc) ∧ w'.cell? ⟨p, 2, none⟩ = some (.int .i64 nt) ∧ w'.cell? ⟨g, nt * 8 + 2, none⟩ = some (.int .i64 ht)) (by kernel_rfl) ?hish (fun hHeld => ?_)
  case hish => (refine ⟨?_, ?_, ?_⟩ <;> go_simp)
  refine reg_take (i := 0) (v := ?vsh0) rfl (by kernel_rfl) rfl hHeld ?ysh0 ?rsh0
  case ysh0 => (intro w hSw; (try dsimp only at hSw); go_simp; all_goals with_reducible rfl)
  try simp only [Act.put, List.setIfInBounds_toArray, List.set_cons_zero, List.set_cons_succ]
  refine reg_take (i := 2) (v := ?vsh2) rfl (by kernel_rfl) rfl hHeld ?ysh2 ?rsh2
  case ysh2 => (intro w hSw; (try dsimp only at hSw); go_simp; all_goals with_reducible rfl)
  try simp only [Act.put, List.setIfInBounds_toArray, List.set_cons_zero, List.set_cons_succ]
  refine reg_take (i := 3) (v := ?vsh3) rfl (by kernel_rfl) rfl hHeld ?ysh3 ?rsh3
  case ysh3 => (intro w hSw; (try dsimp only at hSw); go_simp; all_goals with_reducible rfl)
  try simp only [Act.put, List.setIfInBounds_toArray, List.set_cons_zero, List.set_cons_succ]
  refine reg_take (i := 4) (v := ?vsh4) rfl (by kernel_rfl) rfl hHeld ?ysh4 ?rsh4
  case ysh4 => (intro w hSw; (try dsimp only at hSw); go_simp; all_goals with_reducible rfl)
  try simp only [Act.put, List.setIfInBounds_toArray, List.set_cons_zero, List.set_cons_succ]
  refine reg_take (i := 5) (v := ?vsh5) rfl (by kernel_rfl) rfl hHeld ?ysh5 ?rsh5
  case ysh5 => (intro w hSw; (try dsimp only at hSw); go_simp; all_goals with_reducible rfl)
  try simp only [Act.put, List.setIfInBounds_toArray, List.set_cons_zero, List.set_cons_succ]
  refine reg_take (i := 6) (v := ?vsh6) rfl (by kernel_rfl) rfl hHeld ?ysh6 ?rsh6
  case ysh6 => (intro w hSw; (try dsimp only at hSw); go_simp; all_goals with_reducible rfl)
  try simp only [Act.put, List.setIfInBounds_toArray, List.set_cons_zero, List.set_cons_succ]
  refine reg_take (i := 7) (v := ?vsh7) rfl (by kernel_rfl) rfl hHeld ?ysh7 ?rsh7
  case ysh7 => (intro w hSw; (try dsimp only at hSw); go_simp; all_goals with_reducible rfl)
  try simp only [Act.put, List.setIfInBounds_toArray, List.set_cons_zero, List.set_cons_succ]
  refine reg_take (i := 8) (v := ?vsh8) rfl (by kernel_rfl) rfl hHeld ?ysh8 ?rsh8
  case ysh8 => (intro w hSw; (try dsimp only at hSw); go_simp; all_goals with_reducible rfl)
  try simp only [Act.put, List.setIfInBounds_toArray, List.set_cons_zero, List.set_cons_succ]
  refine reg_take (i := 9) (v := ?vsh9) rfl (by kernel_rfl) rfl hHeld ?ysh9 ?rsh9
  case ysh9 => (intro w hSw; (try dsimp only at hSw); go_simp; all_goals with_reducible rfl)
  try simp only [Act.put, List.setIfInBounds_toArray, List.set_cons_zero, List.set_cons_succ]
  refine reg_take (i := 10) (v := ?vsh10) rfl (by kernel_rfl) rfl hHeld ?ysh10 ?rsh10
  case ysh10 => (intro w hSw; (try dsimp only at hSw); go_simp; all_goals with_reducible rfl)
  try simp only [Act.put, List.setIfInBounds_toArray, List.set_cons_zero, List.set_cons_succ]
  refine reg_take (i := 11) (v := ?vsh11) rfl (by kernel_rfl) rfl hHeld ?ysh11 ?rsh11
  case ysh11 => (intro w hSw; (try dsimp only at hSw); go_simp; all_goals with_reducible rfl)
  try simp only [Act.put, List.setIfInBounds_toArray, List.set_cons_zero, List.set_cons_succ]
  refine reg_take (i := 12) (v := ?vsh12) rfl (by kernel_rfl) rfl hHeld ?ysh12 ?rsh12
  case ysh12 => (intro w hSw; (try dsimp only at hSw); go_simp; all_goals with_reducible rfl)
  try simp only [Act.put, List.setIfInBounds_toArray, List.set_cons_zero, List.set_cons_succ]
  refine reg_take (i := 13) (v := ?vsh13) rfl (by kernel_rfl) rfl hHeld ?ysh13 ?rsh13
  case ysh13 => (intro w hSw; (try dsimp only at hSw); go_simp; all_goals with_reducible rfl)
  try simp only [Act.put, List.setIfInBounds_toArray, List.set_cons_zero, List.set_cons_succ]
  refine reg_take (i := 14) (v := ?vsh14) rfl (by kernel_rfl) rfl hHeld ?ysh14 ?rsh14
  case ysh14 => (intro w hSw; (try dsimp only at hSw); go_simp; all_goals with_reducible rfl)
  try simp only [Act.put, List.setIfInBounds_toArray, List.set_cons_zero, List.set_cons_succ]
  refine reg_take (i := 15) (v := ?vsh15) rfl (by kernel_rfl) rfl hHeld ?ysh15 ?rsh15
  case ysh15 => (intro w hSw; (try dsimp only at hSw); go_simp; all_goals with_reducible rfl)
  try simp only [Act.put, List.setIfInBounds_toArray, List.set_cons_zero, List.set_cons_succ]
  refine reg_take (i := 16) (v := ?vsh16) rfl (by kernel_rfl) rfl hHeld ?ysh16 ?rsh16
  case ysh16 => (intro w hSw; (try dsimp only at hSw); go_simp; all_goals with_reducible rfl)
  try simp only [Act.put, List.setIfInBounds_toArray, List.set_cons_zero, List.set_cons_succ]
  refine reg_loud (i := 1) rfl (by kernel_rfl) rfl (fun K hK => ?_)
  go_simp
  ((refine HL2.out.mono ?_))
  rintro e w2 ⟨rfl, n2, rfl⟩
  refine hK.out _ _ ?kpsh1 (fun hNew => ?_)
  case kpsh1 => (refine ⟨?_, ?_, ?_⟩ <;> go_simp)
  clear hK K hHeld
  have hHeld := hNew
  clear hNew
  try simp only [Act.put, List.setIfInBounds_toArray, List.set_cons_zero, List.set_cons_succ]
  refine reg_take (i := 17) (v := ?vsh17) rfl (by kernel_rfl) rfl hHeld ?ysh17 ?rsh17
  case ysh17 => (intro w hSw; (try dsimp only at hSw); go_simp; all_goals with_reducible rfl)
  try simp only [Act.put, List.setIfInBounds_toArray, List.set_cons_zero, List.set_cons_succ]
  refine reg_loud (i := 18) rfl (by kernel_rfl) rfl (fun K hK => ?_)
  go_simp
  refine hK.out _ _ ?kpsh18 (fun hNew => ?_)
  case kpsh18 => (refine ⟨?_, ?_, ?_⟩ <;> go_simp)
  clear hK K hHeld
  have hHeld := hNew
  clear hNew
  try simp only [Act.put, List.setIfInBounds_toArray, List.set_cons_zero, List.set_cons_succ]
  refine reg_done (by kernel_rfl) ?_ _
  -- END OF REGION shape
  clear hHeld
  go_wp2_with fail
  rw [← HLV.out]
  exact bodyPost_ret (v := .agg #[.int .i64 n, .int .i64 ht, .int .i64 lv, .int .i64 z]) (by simp [results, Tryd.results27, go_sem]) rfl ⟨rfl, ((((below_drewQ ((Below.refl _ _).alloc (Nat.le_refl _) _) _).setCell (by exact Nat.le_refl _) _).setCell (by exact Nat.le_refl _) _).setCell (by exact Nat.le_refl _) _).setCell (by exact Nat.le_refl _) _⟩

end Go.Proofs.YtcppgpjodfeigaaDoor

namespace Go.Proofs.YtcppgpjodfeigaaDoor
set_option linter.unusedVariables false
set_option linter.unusedSimpArgs false
open Go.RowKit

/-- A look at a tree: it is as it was, but for how many nodes were looked at. -/
def TLook (S : Nat → Prop) (w w' : World) (p : Nat) (o : Option ST) (made m : Nat) : Prop := (∃ v : Nat, v ≤ m ∧ TreeIs S w' p o made v) ∧ Chg S w w'

section
variable {S : Nat → Prop} {w w' : World} {p made : Nat} {o : Option ST} {vis : Int}
theorem treeIs_sm {O : Option TT} (hg : Good (ost O)) (hl : (sbits (ost O)).length ≤ 2147483648) : OSm O := by
  cases O with
  | none => trivial
  | some T =>
    have h := good_small hg.2 hl
    refine ⟨?_, by omega⟩
    have : T.st.bits.length ≤ 2147483648 := hl
    omega
theorem ohigh_st (O : Option TT) : ohigh O ≤ shigh (ost O) + 1 := by cases O <;> simp [ohigh, shigh, ost]
/-- What a contract's proof needs of a tree. -/
theorem TreeIs.open (h : TreeIs S w p o made vis) : ∃ (C : Nat → Prop) (A : Ar) (xs : List Nd) (O : Option TT), Head w p C A xs (onum O) vis ∧ OSub w xs O ∧ OSm O ∧ obits O = sbits o ∧ ohigh O ≤ shigh o + 1 ∧ (∀ k, C k → S k) ∧ A.live = osz O ∧ made = A.T.length ∧ ost O = o ∧
    (∀ w' v, Head w' p C A xs (onum O) v → Chg C w w' → TreeIs S w' p o made v ∧ Chg S w w') := by
  obtain ⟨C, A, xs, O, h1, h2, h3, h4, h5, h6, rfl, h8, h9⟩ := h.ex
  have hCS : ∀ k, C k → S k := fun k hk => (h9 k).2 (Or.inl hk)
  exact ⟨C, A, xs, O, h1, h2, treeIs_sm h.good h.len, obits_st O, ohigh_st O, hCS, h5, h8, rfl, fun w' v hH hc =>
    ⟨⟨⟨C, A, xs, O, hH, h2.chgC h1 hc, h3, h4, h5, h6, rfl, h8, h9⟩, h.good, h.len⟩, hc.mono hCS⟩⟩
theorem TreeIs.drewN (h : TreeIs S w p o made vis) (n : Nat) : TreeIs S (w.drewN n) p o made vis := h.below ⟨rfl, rfl, rfl, Nat.le_refl _, fun _ _ => rfl⟩

theorem tLen_is (h : TreeIs S w p o made vis) : Calls Tryd.prog 24 #[.pointer (some ⟨p, 0, none⟩)] w fun e w' => e = .returned (.int .i64 (sbits o).length) ∧ ∃ n, w' = w.drewN n := by
  obtain ⟨C, A, xs, O, h1, h2, _, e, _⟩ := h.open
  rw [← e]; exact tLen_any h1 h2
theorem tOnes_is (h : TreeIs S w p o made vis) : Calls Tryd.prog 23 #[.pointer (some ⟨p, 0, none⟩)] w fun e w' => e = .returned (.int .i64 ((sbits o).count true)) ∧ ∃ n, w' = w.drewN n := by
  obtain ⟨C, A, xs, O, h1, h2, _, e, _⟩ := h.open
  rw [← e]; exact tOnes_any h1 h2
theorem tLive_is (h : TreeIs S w p o made vis) : Calls Tryd.prog 33 #[.pointer (some ⟨p, 0, none⟩)] w fun e w' => e = .returned (.int .i64 (match o with | none => 0 | some t => t.size : Nat)) ∧ ∃ n, w' = w.drewN n := by
  obtain ⟨C, A, xs, O, h1, h2, _, e, _, _, hl, _, rfl, _⟩ := h.open
  have := tLive_any h1
  rw [hl] at this
  cases O <;> exact this
theorem tMade_is (h : TreeIs S w p o made vis) : Calls Tryd.prog 34 #[.pointer (some ⟨p, 0, none⟩)] w fun e w' => e = .returned (.int .i64 made) ∧ ∃ n, w' = w.drewN n := by
  obtain ⟨C, A, xs, O, h1, h2, _, e, _, _, hl, rfl, _⟩ := h.open
  exact tMade_any h1
theorem tVisits_is (h : TreeIs S w p o made vis) : Calls Tryd.prog 72 #[.pointer (some ⟨p, 0, none⟩)] w fun e w' => e = .returned (.int .i64 vis) ∧ w = w' := by
  obtain ⟨C, A, xs, O, h1, _⟩ := h.open
  exact tVisits_any h1
theorem tAll_is (h : TreeIs S w p o made vis) : Calls Tryd.prog 31 #[.pointer (some ⟨p, 0, none⟩)] w (GivesB w.heap.size w (sbits o)) := by
  have hl := h.len
  obtain ⟨C, A, xs, O, h1, h2, _, e, _⟩ := h.open
  rw [← e] at hl ⊢
  exact tAll_any h1 h2 (by omega)
/-- What Shape tells. -/
def shapeV : Option ST → Value
  | none => .agg #[.int .i64 0, .int .i64 0, .int .i64 0, .int .i64 0]
  | some t => .agg #[.int .i64 t.bits.length, .int .i64 t.high, .int .i64 t.leaves, .int .i64 t.size]
theorem tShape_is (h : TreeIs S w p o made vis) : Calls Tryd.prog 27 #[.pointer (some ⟨p, 0, none⟩)] w fun e w' => e = .returned (shapeV o) ∧ Below w.heap.size w w' := by
  have hg := h.good
  have hl := h.len
  obtain ⟨C, A, xs, O, h1, h2, _, e, _, _, hv, _, rfl, _⟩ := h.open
  cases O with
  | none => exact tShape_none h1
  | some T =>
    have hs := good_small hg.2 hl
    exact tShape_some h1 h2 hv (by omega)

theorem TLook.of {C : Nat → Prop} {A : Ar} {xs : List Nd} {root : Int} {m m' : Nat} (hh : ∀ w' v, Head w' p C A xs root v → Chg C w w' → TreeIs S w' p o made v ∧ Chg S w w') (hL : Look w w' p C A xs root m) (hm : m ≤ m') : TLook S w w' p o made m' := by
  obtain ⟨⟨v, hv, hH⟩, hc⟩ := hL
  exact ⟨⟨v, by omega, (hh w' v hH hc).1⟩, (hh w' v hH hc).2⟩
theorem tGet_is (h : TreeIs S w p o made vis) (k : Nat) (hk : k < (sbits o).length) :
    Calls Tryd.prog 19 #[.pointer (some ⟨p, 0, none⟩), .int .i64 k] w fun e w' => e = .returned (.tuple #[.bool (bitAt (sbits o) k), .int .i64 0]) ∧ TLook S w w' p o made (shigh o + 1) := by
  obtain ⟨C, A, xs, O, h1, h2, hs, e, _, _, _, _, rfl, hh⟩ := h.open
  cases O with
  | none => simp [ost, sbits] at hk
  | some T =>
    refine (tGet_some h1 h2 hs k hk).mono ?_
    rintro e w' ⟨rfl, hL⟩
    exact ⟨rfl, TLook.of hh hL (Nat.le_refl _)⟩
theorem tGet_isBad (h : TreeIs S w p o made vis) (k : Int) (hk : k < 0 ∨ ((sbits o).length : Int) ≤ k) :
    Calls Tryd.prog 19 #[.pointer (some ⟨p, 0, none⟩), .int .i64 k] w fun e w' => e = .returned (.tuple #[.bool false, .int .i64 2]) ∧ TLook S w w' p o made 0 := by
  obtain ⟨C, A, xs, O, h1, h2, hs, e, _, _, _, _, rfl, hh⟩ := h.open
  rw [← e] at hk
  refine (tGet_bad h1 h2 k hk).mono ?_
  rintro e w' ⟨rfl, hH, hc⟩
  exact ⟨rfl, TLook.of hh ⟨⟨0, Nat.le_refl _, hH⟩, hc⟩ (Nat.le_refl _)⟩
theorem tRank_is (h : TreeIs S w p o made vis) (k : Int) (x : Bool) :
    Calls Tryd.prog 20 #[.pointer (some ⟨p, 0, none⟩), .int .i64 k, .bool x] w fun e w' => e = .returned (.int .i64 (rankL (sbits o) k.toNat x)) ∧ TLook S w w' p o made (shigh o + 1) := by
  obtain ⟨C, A, xs, O, h1, h2, hs, e, hi, _, _, _, _, hh⟩ := h.open
  rw [← e]
  refine (tRank_any h1 h2 hs k x).mono ?_
  rintro e w' ⟨rfl, hL⟩
  exact ⟨rfl, TLook.of hh hL hi⟩
theorem tSelect_is (h : TreeIs S w p o made vis) (hTab : BitTab w) (hN : ¬ S 0) (j : Int) (x : Bool) :
    Calls Tryd.prog 21 #[.pointer (some ⟨p, 0, none⟩), .int .i64 j, .bool x] w fun e w' => e = .returned (.int .i64 (selL (sbits o) j x)) ∧ TLook S w w' p o made (shigh o + 1) := by
  obtain ⟨C, A, xs, O, h1, h2, hs, e, hi, hCS, _, _, _, hh⟩ := h.open
  rw [← e]
  refine (tSelect_any h1 h2 hs hTab (fun hc => hN (hCS _ hc)) j x).mono ?_
  rintro e w' ⟨rfl, hL⟩
  exact ⟨rfl, TLook.of hh hL hi⟩
theorem tInsert_isBad (h : TreeIs S w p o made vis) (k : Int) (b : Bool) (hk : k < 0 ∨ ((sbits o).length : Int) < k) :
    Calls Tryd.prog 25 #[.pointer (some ⟨p, 0, none⟩), .int .i64 k, .bool b] w fun e w' => e = .returned (.int .i64 2) ∧ TLook S w w' p o made 0 := by
  obtain ⟨C, A, xs, O, h1, h2, hs, e, _, _, _, _, rfl, hh⟩ := h.open
  rw [← e] at hk
  refine (tInsert_bad h1 h2 k b hk).mono ?_
  rintro e w' ⟨rfl, hH, hc⟩
  exact ⟨rfl, TLook.of hh ⟨⟨0, Nat.le_refl _, hH⟩, hc⟩ (Nat.le_refl _)⟩
theorem tDelete_isBad (h : TreeIs S w p o made vis) (k : Int) (hk : k < 0 ∨ ((sbits o).length : Int) ≤ k) :
    Calls Tryd.prog 32 #[.pointer (some ⟨p, 0, none⟩), .int .i64 k] w fun e w' => e = .returned (.tuple #[.bool false, .int .i64 2]) ∧ TLook S w w' p o made 0 := by
  obtain ⟨C, A, xs, O, h1, h2, hs, e, _, _, _, _, rfl, hh⟩ := h.open
  rw [← e] at hk
  refine (tDelete_bad h1 h2 k hk).mono ?_
  rintro e w' ⟨rfl, hH, hc⟩
  exact ⟨rfl, TLook.of hh ⟨⟨0, Nat.le_refl _, hH⟩, hc⟩ (Nat.le_refl _)⟩
end

/-- A tree behind a bit less. -/
def delO (o : Option ST) (k : Nat) : Option ST := match o with
  | none => none
  | some t => if (delT t k).bits.length = 0 then none else some (delT t k)
theorem delO_bits {o : Option ST} {k : Nat} (hk : k < (sbits o).length) : sbits (delO o k) = outL (sbits o) k := by
  cases o with
  | none => simp [sbits] at hk
  | some t =>
    have h := delT_bits (t := t) (k := k) hk
    simp only [delO]
    split
    · next h0 => show [] = outL t.bits k; rw [← h]; exact (List.eq_nil_of_length_eq_zero h0).symm
    · exact h
theorem delO_good {o : Option ST} {k : Nat} (hg : Good o) (hk : k < (sbits o).length) : Good (delO o k) ∧ shigh (delO o k) ≤ shigh o := by
  cases o with
  | none => exact ⟨trivial, Nat.le_refl _⟩
  | some t =>
    have hk' : k < t.bits.length := hk
    simp only [delO]
    split
    · exact ⟨trivial, Nat.zero_le _⟩
    · next h0 =>
      cases t with
      | leaf l =>
        have h2 : (outL l k).length ≠ 0 := h0
        have h3 : l.length ≤ 128 := hg.2.2
        have h4 : (outL l k).length = l.length - 1 := outL_len hk
        exact ⟨⟨trivial, ⟨by omega, by omega⟩⟩, Nat.le_refl _⟩
      | pair a b =>
        obtain ⟨g1, g2, g3, g4⟩ := delT_ok hg.1 (show (ST.pair a b).Fill from hg.2) hk
        refine ⟨⟨g1, ?_⟩, g3⟩
        revert g2
        cases delT (.pair a b) k with
        | leaf l => intro g2; exact ⟨by have := g2.1; omega, g2.2⟩
        | pair x y => intro g2; exact g2
section
variable {S : Nat → Prop} {w w' : World} {p made : Nat} {o : Option ST} {vis : Int}
/-- Delete, where there is such a bit. -/
theorem tDelete_is (h : TreeIs S w p o made vis) (k : Nat) (hk : k < (sbits o).length) :
    Calls Tryd.prog 32 #[.pointer (some ⟨p, 0, none⟩), .int .i64 k] w fun e w' => e = .returned (.tuple #[.bool (bitAt (sbits o) k), .int .i64 0]) ∧ ∃ v', TreeStep S w w' p (delO o k) made v' ∧ 0 ≤ v' ∧ v' ≤ 7 * shigh o + 2 := by
  have hgood := (delO_good h.good hk).1
  have hbits := delO_bits hk
  have hlen' : (sbits (delO o k)).length ≤ 2147483648 := by rw [hbits, outL_len hk]; have := h.len; omega
  have hgo := h.good
  have hl := h.len
  obtain ⟨C, A, xs, O, h1, h2, h3, h4, h5, h6, rfl, h8, h9⟩ := h.ex
  have hCS : ∀ j, C j → S j := fun j hj => (h9 j).2 (Or.inl hj)
  cases O with
  | none => simp [ost, sbits] at hk
  | some T =>
    have hsm := good_small hgo.2 hl
    have hl' : T.st.bits.length ≤ 2147483648 := hl
    have hlv : A.live = T.st.size := h5
    refine (tDelete_some h1 h2 h4 h3 (by omega) (by omega) hgo.1 ?_ k hk).mono ?_
    · have hr : T.st.Root := hgo.2
      revert hr
      cases T.st with
      | leaf l => exact fun _ => Or.inl rfl
      | pair a b => exact fun hr => Or.inr hr
    rintro e w' ⟨rfl, T', C', A', xs', v', hst, hv0, hv1, hC, hB, hx, hM, hmd, hc, hO⟩
    have hbc : ∀ j, (C' j ∨ j ∈ T'.bl) → S j ∨ w.heap.size ≤ j := fun j hj => hj.elim (fun h => (hC j h).imp (hCS j) id) (fun h => (hB j h).imp (fun h => (h9 j).2 (Or.inr h)) id)
    have hcS : Chg S w w' := hc.mono (fun j hj => (h9 j).2 hj)
    rcases hO with ⟨h0, hH, hSub, hOw, hlv'⟩ | ⟨h0, hH, hlv'⟩
    · refine ⟨rfl, v', ⟨⟨fun j => C' j ∨ j ∈ obl (some T'), ⟨⟨C', A', xs', some T', hH, hSub, hOw, hx, ?_, by rw [hM, h6], ?_, by rw [h8, hmd], fun j => Iff.rfl⟩, hgood, hlen'⟩, hbc⟩, hcS⟩, hv0, hv1⟩
      · show A'.live = T'.st.size; omega
      · show some T'.st = _
        simp only [ost, delO]; rw [← hst, if_neg h0]
    · refine ⟨rfl, v', ⟨⟨C', ⟨⟨C', A', xs', none, hH, trivial, trivial, hx, ?_, by rw [hM, h6], ?_, by rw [h8, hmd], fun j => by simp [obl]⟩, hgood, hlen'⟩, fun j hj => hbc j (Or.inl hj)⟩, hcS⟩, hv0, hv1⟩
      · show A'.live = 0
        have h7 : T'.st.size = 1 := by
          have hg' : (delT T.st k).bits.length = 0 := by rw [← hst]; exact h0
          rw [hst]
          revert hg'
          have hav : T.st.Avl := hgo.1
          have hrt : T.st.Root := hgo.2
          have hk' : k < T.st.bits.length := hk
          revert hav hrt hk'
          cases T.st with
          | leaf l => intros; rfl
          | pair a b =>
            intro hav hrt hk' hg'
            obtain ⟨g1, g2, g3, g4⟩ := delT_ok hav (show (ST.pair a b).Fill from hrt) hk'
            revert g2 hg'
            cases delT (.pair a b) k with
            | leaf l => intros; rfl
            | pair x y =>
              intro hg' g2
              have g3 := ST.Fill.len (t := .pair x y) g2
              have := ST.leaves_pos (.pair x y)
              omega
        omega
      · simp only [ost, delO]; rw [← hst, if_pos h0]

/-- New. -/
theorem tNew_is (w : World) {a : Option Addr} {c : Nat} (L : List Bool) (hr : ReadsV w a (L.map Value.bool)) (hc : L.length ≤ c) (hL : L.length ≤ 2147483648) :
    Calls Tryd.prog 18 #[.slice a L.length c] w fun e w' => ∃ p S o, e = .returned (.pointer (some ⟨p, 0, none⟩)) ∧ TreeIs S w' p o (match o with | none => 0 | some t => t.size) 0 ∧ (∀ k, S k → w.heap.size ≤ k) ∧ sbits o = L ∧ Chg (fun _ => False) w w' := by
  by_cases h0 : L.length = 0
  · obtain rfl := List.eq_nil_of_length_eq_zero h0
    refine (tNew_nil w a c).mono ?_
    rintro e w' ⟨p, q, rfl, hp, hq, hH, hcg⟩
    refine ⟨p, fun k => k = p ∨ k = q, none, rfl, ⟨⟨_, _, [], none, hH, trivial, trivial, rfl, rfl, rfl, rfl, rfl, fun k => by simp [obl]⟩, trivial, by simp [sbits]⟩, fun k hk => by rcases hk with rfl | rfl <;> assumption, rfl, hcg⟩
  · have had : ∀ ad, a = some ad → ad.block < w.heap.size := by
      intro ad h
      obtain ⟨b, off, h2, h3, _⟩ := hr 0 (by rw [List.length_map]; omega)
      rw [h] at h2; injection h2 with h2; rw [h2]; exact h3
    refine (tNew_some w hr hc hL (by omega) had).mono ?_
    rintro e w' ⟨p, st, S, rfl, h1, h2, h3, h4⟩
    exact ⟨p, S, some st, rfl, h1, h2, h3, h4⟩
end

end Go.Proofs.YtcppgpjodfeigaaDoor

namespace Go.Proofs.YtcppgpjodfeigaaDoor
set_option linter.unusedVariables false
set_option linter.unusedSimpArgs false
open Go.RowKit

/-- The blocks from B on, but for some. -/
def exT (B : Nat) (X : Nat → Prop) (k : Nat) : Prop := B ≤ k ∧ ¬ X k
/-- The block of a row. -/
def obk (v : Value) (k : Nat) : Prop := v.ownBlock = some k
def sizeO : Option ST → Nat
  | none => 0
  | some t => t.size
theorem own_cap {w : World} {base : Nat} {e : TypeId} {a : Option Addr} {n c : Nat} {xs : List Value} (h : w.ownsRow base e 1 (.slice a n c) n xs) : n ≤ c ∧ c ≤ maxLen := by
  rcases h.2 with ⟨hv, h0⟩ | ⟨g, cap, cur, hv, _, _, h1, h2, _⟩
  · injection hv with _ _ e3; subst e3; unfold maxLen; omega
  · injection hv with _ _ e3; subst e3; exact ⟨h1, h2⟩
/-- A tree whose blocks lie from B on and are none of X. -/
structure TreeE (B : Nat) (X : Nat → Prop) (w : World) (p : Nat) (o : Option ST) (made : Nat) (vis : Int) : Prop where
  t : ∃ S, TreeIs S w p o made vis ∧ ∀ k, S k → exT B X k
  le : B ≤ w.heap.size
  x : ∀ k, X k → k < w.heap.size

section
variable {B : Nat} {X : Nat → Prop} {w w' : World} {p made : Nat} {o : Option ST} {vis : Int}
theorem TreeE.good (h : TreeE B X w p o made vis) : Good o := by obtain ⟨S, h, _⟩ := h.t; exact h.good
theorem TreeE.len (h : TreeE B X w p o made vis) : (sbits o).length ≤ 2147483648 := by obtain ⟨S, h, _⟩ := h.t; exact h.len
/-- Blocks that came later are none of the tree's. -/
theorem TreeE.less (h : TreeE B X w p o made vis) (hb : Below w.heap.size w w') {Y : Nat → Prop} (hy : ∀ k, Y k → X k ∨ w.heap.size ≤ k) (hl : ∀ k, Y k → k < w'.heap.size) : TreeE B Y w' p o made vis := by
  obtain ⟨S, h1, h2⟩ := h.t
  exact ⟨⟨S, h1.below hb, fun k hk => ⟨(h2 k hk).1, fun hY => (hy k hY).elim (h2 k hk).2 (fun g => by have := h1.lt k hk; omega)⟩⟩, Nat.le_trans h.le hb.size, hl⟩
theorem TreeE.below (h : TreeE B X w p o made vis) (hb : Below w.heap.size w w') : TreeE B X w' p o made vis := h.less hb (fun k hk => Or.inl hk) (fun k hk => Nat.lt_of_lt_of_le (h.x k hk) hb.size)
theorem TreeE.drewN (h : TreeE B X w p o made vis) (n : Nat) : TreeE B X (w.drewN n) p o made vis := h.below ⟨rfl, rfl, rfl, Nat.le_refl _, fun _ _ => rfl⟩
theorem TreeE.chg {S : Nat → Prop} (h : TreeE B X w p o made vis) (hc : Chg S w w') (hd : ∀ k, exT B X k → k < w.heap.size → ¬ S k) : TreeE B X w' p o made vis := by
  obtain ⟨S', h1, h2⟩ := h.t
  exact ⟨⟨S', h1.chg hc (fun k hk => hd k (h2 k hk) (h1.lt k hk)), h2⟩, Nat.le_trans h.le hc.size, fun k hk => Nat.lt_of_lt_of_le (h.x k hk) hc.size⟩
theorem exT_below (hc : Chg (exT B X) w w') (hB : B ≤ w.heap.size) : Below B w w' := hc.below (fun b hb => hb.1) hB

/-- A look, at a tree beside other rows. -/
def ELook (B : Nat) (X : Nat → Prop) (w w' : World) (p : Nat) (o : Option ST) (made m : Nat) : Prop := (∃ v : Nat, v ≤ m ∧ TreeE B X w' p o made v) ∧ Chg (exT B X) w w'
def EStep (B : Nat) (X : Nat → Prop) (w w' : World) (p : Nat) (o' : Option ST) (made' m : Nat) : Prop := (∃ v : Nat, v ≤ m ∧ TreeE B X w' p o' made' v) ∧ Chg (exT B X) w w'
theorem eLook {S : Nat → Prop} {m : Nat} (h : TreeE B X w p o made vis) (hS : ∀ k, S k → exT B X k) (hL : TLook S w w' p o made m) : ELook B X w w' p o made m := by
  obtain ⟨⟨v, hv, h1⟩, hc⟩ := hL
  exact ⟨⟨v, hv, ⟨⟨S, h1, hS⟩, Nat.le_trans h.le hc.size, fun k hk => Nat.lt_of_lt_of_le (h.x k hk) hc.size⟩⟩, hc.mono hS⟩
theorem eStep {S : Nat → Prop} {o' : Option ST} {made' : Nat} {v' : Int} {m : Nat} (h : TreeE B X w p o made vis) (hS : ∀ k, S k → exT B X k) (hL : TreeStep S w w' p o' made' v') (h0 : 0 ≤ v') (h1 : v' ≤ m) : EStep B X w w' p o' made' m := by
  obtain ⟨⟨S', h2, h3⟩, hc⟩ := hL
  obtain ⟨v, rfl⟩ := Int.eq_ofNat_of_zero_le h0
  have h1' : (v : Int) ≤ (m : Int) := h1
  exact ⟨⟨v, by omega, ⟨⟨S', h2, fun k hk => (h3 k hk).elim (hS k) (fun g => ⟨Nat.le_trans h.le g, fun hx => by have := h.x k hx; omega⟩)⟩, Nat.le_trans h.le hc.size, fun k hk => Nat.lt_of_lt_of_le (h.x k hk) hc.size⟩⟩, hc.mono hS⟩

theorem len_t (h : TreeE B X w p o made vis) {L : List Bool} (hL : sbits o = L) : Calls Tryd.prog 24 #[.pointer (some ⟨p, 0, none⟩)] w fun e w' => e = .returned (.int .i64 L.length) ∧ ∃ n, w' = w.drewN n := by
  subst hL; obtain ⟨S, h1, h2⟩ := h.t; exact tLen_is h1
theorem ones_t (h : TreeE B X w p o made vis) {L : List Bool} (hL : sbits o = L) : Calls Tryd.prog 23 #[.pointer (some ⟨p, 0, none⟩)] w fun e w' => e = .returned (.int .i64 (L.count true)) ∧ ∃ n, w' = w.drewN n := by
  subst hL; obtain ⟨S, h1, h2⟩ := h.t; exact tOnes_is h1
theorem live_t (h : TreeE B X w p o made vis) : Calls Tryd.prog 33 #[.pointer (some ⟨p, 0, none⟩)] w fun e w' => e = .returned (.int .i64 (sizeO o)) ∧ ∃ n, w' = w.drewN n := by
  obtain ⟨S, h1, h2⟩ := h.t; have := tLive_is h1; cases o <;> exact this
theorem made_t (h : TreeE B X w p o made vis) : Calls Tryd.prog 34 #[.pointer (some ⟨p, 0, none⟩)] w fun e w' => e = .returned (.int .i64 made) ∧ ∃ n, w' = w.drewN n := by
  obtain ⟨S, h1, h2⟩ := h.t; exact tMade_is h1
theorem visits_t (h : TreeE B X w p o made vis) : Calls Tryd.prog 72 #[.pointer (some ⟨p, 0, none⟩)] w fun e w' => e = .returned (.int .i64 vis) ∧ w = w' := by
  obtain ⟨S, h1, h2⟩ := h.t; exact tVisits_is h1
theorem all_t (h : TreeE B X w p o made vis) {L : List Bool} (hL : sbits o = L) : Calls Tryd.prog 31 #[.pointer (some ⟨p, 0, none⟩)] w (GivesB w.heap.size w L) := by
  subst hL; obtain ⟨S, h1, h2⟩ := h.t; exact tAll_is h1
theorem shape_t (h : TreeE B X w p o made vis) : Calls Tryd.prog 27 #[.pointer (some ⟨p, 0, none⟩)] w fun e w' => e = .returned (shapeV o) ∧ Below w.heap.size w w' := by
  obtain ⟨S, h1, h2⟩ := h.t; exact tShape_is h1
theorem get_t (h : TreeE B X w p o made vis) {L : List Bool} (hL : sbits o = L) (n : Nat) {k : Int} (hk : k = (n : Int)) (hn : n < L.length) {x : Bool} (hx : bitAt L n = x) :
    Calls Tryd.prog 19 #[.pointer (some ⟨p, 0, none⟩), .int .i64 k] w fun e w' => e = .returned (.tuple #[.bool x, .int .i64 0]) ∧ ELook B X w w' p o made (shigh o + 1) := by
  subst hL hk hx; obtain ⟨S, h1, h2⟩ := h.t
  refine (tGet_is h1 n hn).mono ?_
  rintro e w' ⟨rfl, hl⟩
  exact ⟨rfl, eLook h h2 hl⟩
theorem get_tBad (h : TreeE B X w p o made vis) {L : List Bool} (hL : sbits o = L) (k : Int) (hk : k < 0 ∨ (L.length : Int) ≤ k) :
    Calls Tryd.prog 19 #[.pointer (some ⟨p, 0, none⟩), .int .i64 k] w fun e w' => e = .returned (.tuple #[.bool false, .int .i64 2]) ∧ ELook B X w w' p o made 0 := by
  subst hL; obtain ⟨S, h1, h2⟩ := h.t
  refine (tGet_isBad h1 k hk).mono ?_
  rintro e w' ⟨rfl, hl⟩
  exact ⟨rfl, eLook h h2 hl⟩
theorem rank_t (h : TreeE B X w p o made vis) {L : List Bool} (hL : sbits o = L) (k : Int) (x : Bool) {r : Nat} (hr : rankL L k.toNat x = r) :
    Calls Tryd.prog 20 #[.pointer (some ⟨p, 0, none⟩), .int .i64 k, .bool x] w fun e w' => e = .returned (.int .i64 r) ∧ ELook B X w w' p o made (shigh o + 1) := by
  subst hL hr; obtain ⟨S, h1, h2⟩ := h.t
  refine (tRank_is h1 k x).mono ?_
  rintro e w' ⟨rfl, hl⟩
  exact ⟨rfl, eLook h h2 hl⟩
theorem select_t (h : TreeE B X w p o made vis) (hTab : BitTab w) (hN : 0 < B) {L : List Bool} (hL : sbits o = L) (j : Int) (x : Bool) {r : Int} (hr : selL L j x = r) :
    Calls Tryd.prog 21 #[.pointer (some ⟨p, 0, none⟩), .int .i64 j, .bool x] w fun e w' => e = .returned (.int .i64 r) ∧ ELook B X w w' p o made (shigh o + 1) := by
  subst hL hr; obtain ⟨S, h1, h2⟩ := h.t
  refine (tSelect_is h1 hTab (fun hs => by have := (h2 _ hs).1; omega) j x).mono ?_
  rintro e w' ⟨rfl, hl⟩
  exact ⟨rfl, eLook h h2 hl⟩
theorem insert_t (h : TreeE B X w p o made vis) {L : List Bool} (hL : sbits o = L) (n : Nat) {k : Int} (hk : k = (n : Int)) (hn : n ≤ L.length) (hl : L.length < 2147483648) (b : Bool) :
    Calls Tryd.prog 25 #[.pointer (some ⟨p, 0, none⟩), .int .i64 k, .bool b] w fun e w' => e = .returned (.int .i64 0) ∧ ∃ made', EStep B X w w' p (insO o n b) made' (7 * shigh o + 2) := by
  subst hL hk; obtain ⟨S, h1, h2⟩ := h.t
  refine (tInsert_is h1 hl n hn b).mono ?_
  rintro e w' ⟨rfl, made', v', hs, h3, h4⟩
  exact ⟨rfl, made', eStep h h2 hs h3 (by omega)⟩
theorem insert_tBad (h : TreeE B X w p o made vis) {L : List Bool} (hL : sbits o = L) (k : Int) (b : Bool) (hk : k < 0 ∨ (L.length : Int) < k) :
    Calls Tryd.prog 25 #[.pointer (some ⟨p, 0, none⟩), .int .i64 k, .bool b] w fun e w' => e = .returned (.int .i64 2) ∧ ELook B X w w' p o made 0 := by
  subst hL; obtain ⟨S, h1, h2⟩ := h.t
  refine (tInsert_isBad h1 k b hk).mono ?_
  rintro e w' ⟨rfl, hl⟩
  exact ⟨rfl, eLook h h2 hl⟩
theorem delete_t (h : TreeE B X w p o made vis) {L : List Bool} (hL : sbits o = L) (n : Nat) {k : Int} (hk : k = (n : Int)) (hn : n < L.length) {x : Bool} (hx : bitAt L n = x) :
    Calls Tryd.prog 32 #[.pointer (some ⟨p, 0, none⟩), .int .i64 k] w fun e w' => e = .returned (.tuple #[.bool x, .int .i64 0]) ∧ EStep B X w w' p (delO o n) made (7 * shigh o + 2) := by
  subst hL hk hx; obtain ⟨S, h1, h2⟩ := h.t
  refine (tDelete_is h1 n hn).mono ?_
  rintro e w' ⟨rfl, v', hs, h3, h4⟩
  exact ⟨rfl, eStep h h2 hs h3 (by omega)⟩
theorem delete_tBad (h : TreeE B X w p o made vis) {L : List Bool} (hL : sbits o = L) (k : Int) (hk : k < 0 ∨ (L.length : Int) ≤ k) :
    Calls Tryd.prog 32 #[.pointer (some ⟨p, 0, none⟩), .int .i64 k] w fun e w' => e = .returned (.tuple #[.bool false, .int .i64 2]) ∧ ELook B X w w' p o made 0 := by
  subst hL; obtain ⟨S, h1, h2⟩ := h.t
  refine (tDelete_isBad h1 k hk).mono ?_
  rintro e w' ⟨rfl, hl⟩
  exact ⟨rfl, eLook h h2 hl⟩
/-- A new tree of the call's own. -/
theorem new_t {B : Nat} {X : Nat → Prop} {w : World} {a : Option Addr} {c n : Nat} (L : List Bool) (hn : n = L.length) (hr : ReadsV w a (L.map Value.bool)) (hc : n ≤ c) (hL : L.length ≤ 2147483648) (hB : B ≤ w.heap.size) (hX : ∀ k, X k → k < w.heap.size) :
    Calls Tryd.prog 18 #[.slice a n c] w fun e w' => ∃ p o, e = .returned (.pointer (some ⟨p, 0, none⟩)) ∧ TreeE B X w' p o (sizeO o) 0 ∧ sbits o = L ∧ Below w.heap.size w w' := by
  subst hn
  refine (tNew_is w L hr hc hL).mono ?_
  rintro e w' ⟨p, S, o, rfl, h1, h2, h3, h4⟩
  refine ⟨p, o, rfl, ⟨⟨S, by cases o <;> exact h1, fun k hk => ⟨Nat.le_trans hB (h2 k hk), fun hx => by have := hX k hx; have := h2 k hk; omega⟩⟩, Nat.le_trans hB h4.size, fun k hk => Nat.lt_of_lt_of_le (hX k hk) h4.size⟩, h3, h4.below (fun _ hf => hf.elim) (Nat.le_refl _)⟩
end

end Go.Proofs.YtcppgpjodfeigaaDoor

namespace Go.Proofs.YtcppgpjodfeigaaDoor
set_option linter.unusedVariables false
set_option linter.unusedSimpArgs false
open Go.RowKit

theorem readsB {w : World} {a : Option Addr} {l : List Bool} (hr : ReadsV w a (l.map Value.bool)) {k : Nat} (hk : k < l.length) :
    ∃ b off, a = some ⟨b, off, none⟩ ∧ b < w.heap.size ∧ w.cell? ⟨b, off + k, none⟩ = some (.bool (bitAt l k)) := by
  obtain ⟨b, off, ha, hb, hc⟩ := hr.some (by rw [List.length_map]; omega)
  exact ⟨b, off, ha, hb, hc k _ (by rw [List.getElem?_map, List.getElem?_eq_getElem hk]; simp [bitAt, hk])⟩

theorem refRanks_any (a : Option Addr) (c : Nat) (l : List Bool) (k : Int) (b : Bool) (w : World) (hr : ReadsV w a (l.map Value.bool)) (hl : l.length ≤ 1000000) :
    Calls Tryd.prog 78 #[.slice a l.length c, .int .i64 k, .bool b] w fun e w' => e = .returned (.int .i64 (rankL l k.toNat b)) ∧ w = w' := by
  go_enter Tryd.func78, Tryd.ntmps78
  go_wp2_with fail
  go_loop [7, 8] (fun n i => ∃ m : Nat, m ≤ l.length ∧ m ≤ k.toNat ∧ i = .int .i64 m ∧ n = .int .i64 (rankL l m b)) (fun _ i => l.length - (intOf i).toNat)
  case atStart => exact ⟨0, Nat.zero_le _, Nat.zero_le _, rfl, by simp [rankL]⟩
  case round =>
    obtain ⟨m, hm, hmk, rfl, rfl⟩ := hrel
    have hle := (rankL_le l m b).1
    by_cases h1 : (m : Int) < k
    · by_cases h2 : m < l.length
      · obtain ⟨bb, off, rfl, _, hc⟩ := readsB hr h2
        have hs := rankL_succ b h2
        have e0 : l[m]?.getD false = bitAt l m := rfl
        rw [e0] at hs
        generalize bitAt l m = x at *
        have HS := Lib.hid hs
        clear hs e0 hr
        cases x <;> cases b
        all_goals
          go_wp2_with fail
          go_round
          case rel => exact ⟨m + 1, by omega, by omega, by go_num, by rw [HS.out]; simp⟩
          case measure => simp [intOf]; omega
      · have hR : rankL l k.toNat b = rankL l m b := by rw [rankL_over b (by omega), rankL_over b (by omega)]
        have HR := Lib.hid hR
        clear hR hr
        go_wp2_with fail
        go_ret
        exact ⟨ret_int (by rw [HR.out]), rfl⟩
    · have hR : rankL l k.toNat b = rankL l m b := by rw [show k.toNat = m by omega]
      have HR := Lib.hid hR
      clear hR hr
      go_wp2_with fail
      go_ret
      exact ⟨ret_int (by rw [HR.out]), rfl⟩

theorem refGets_bad (a : Option Addr) (n c : Nat) (k : Int) (w : World) (hk : k < 0 ∨ (n : Int) ≤ k) :
    Calls Tryd.prog 36 #[.slice a n c, .int .i64 k] w fun e w' => e = .returned (.tuple #[.bool false, .int .i64 2]) ∧ w = w' := by
  rcases hk with hk | hk
  · go_enter Tryd.func36, Tryd.ntmps36
    go_wp2_with fail
    go_ret2
    exact ⟨rfl, rfl⟩
  · have d : decide (k < 0) = false := by simp; omega
    go_enter Tryd.func36, Tryd.ntmps36
    go_wp2_with fail
    go_ret2
    exact ⟨rfl, rfl⟩
theorem refGets (a : Option Addr) (c : Nat) (l : List Bool) (k : Nat) (w : World) (hr : ReadsV w a (l.map Value.bool)) (hk : k < l.length) :
    Calls Tryd.prog 36 #[.slice a l.length c, .int .i64 k] w fun e w' => e = .returned (.tuple #[.bool (bitAt l k), .int .i64 0]) ∧ w = w' := by
  obtain ⟨b, off, rfl, _, hc⟩ := readsB hr hk
  have d : decide ((l.length : Int) ≤ (k : Int)) = false := by simp; omega
  clear hr
  go_enter Tryd.func36, Tryd.ntmps36
  go_wp2_with fail
  go_ret2
  exact ⟨rfl, rfl⟩

theorem refSelects_any (a : Option Addr) (c : Nat) (l : List Bool) (j : Int) (b : Bool) (w : World) (hr : ReadsV w a (l.map Value.bool)) (hl : l.length ≤ 1000000) :
    Calls Tryd.prog 79 #[.slice a l.length c, .int .i64 j, .bool b] w fun e w' => e = .returned (.int .i64 (selL l j b)) ∧ w = w' := by
  go_enter Tryd.func79, Tryd.ntmps79
  go_wp2_with fail
  go_loop [7, 8] (fun n i => ∃ m : Nat, m ≤ l.length ∧ i = .int .i64 m ∧ n = .int .i64 (rankL l m b) ∧ ∀ q, q < m → l[q]?.getD false = b → (rankL l q b : Int) ≠ j) (fun _ i => l.length - (intOf i).toNat)
  case atStart => exact ⟨0, Nat.zero_le _, rfl, by simp [rankL], fun q hq => by omega⟩
  case round =>
    obtain ⟨m, hm, rfl, rfl, hno⟩ := hrel
    have HNO := Lib.hid hno
    clear hno
    have hle := (rankL_le l m b).1
    by_cases h2 : m < l.length
    · obtain ⟨bb, off, rfl, _, hc⟩ := readsB hr h2
      have hs := rankL_succ b h2
      have e0 : l[m]?.getD false = bitAt l m := rfl
      rw [e0] at hs
      by_cases hb : bitAt l m = b
      · have HB := Lib.hid hb
        rw [if_pos hb] at hs
        have HS := Lib.hid hs
        rw [hb] at hc
        clear hs e0 hr hb
        by_cases hj : (rankL l m b : Int) = j
        · have hd : ((rankL l m b : Int) == j) = true := by simpa using hj
          have hR := Lib.hid (selL_hit h2 HB.out hj)
          clear hj
          cases b
          all_goals
            go_wp2_with fail
            go_ret
            exact ⟨ret_int hR.out.symm, rfl⟩
        · have hd : ((rankL l m b : Int) == j) = false := by simpa using hj
          have HJ := Lib.hid hj
          clear hj
          have hnx : Hid (∀ q, q < m + 1 → l[q]?.getD false = b → (rankL l q b : Int) ≠ j) := fun q hq hqb => by
            rcases Nat.lt_or_ge q m with h | h
            · exact HNO.out q h hqb
            · have : q = m := by omega
              rw [this]; exact HJ.out
          cases b
          all_goals
            go_wp2_with fail
            go_round
            case rel => exact ⟨m + 1, by omega, by go_num, by rw [HS.out]; simp, hnx.out⟩
            case measure => simp [intOf]; omega
      · have hbb : bitAt l m = !b := by cases b <;> cases h : bitAt l m <;> simp_all
        rw [if_neg hb] at hs
        have HS := Lib.hid hs
        rw [hbb] at hc
        have hnx : Hid (∀ q, q < m + 1 → l[q]?.getD false = b → (rankL l q b : Int) ≠ j) := fun q hq hqb => by
          rcases Nat.lt_or_ge q m with h | h
          · exact HNO.out q h hqb
          · have : q = m := by omega
            rw [this] at hqb; exact absurd hqb hb
        clear hs e0 hr hbb hb
        cases b
        all_goals
          go_wp2_with fail
          go_round
          case rel => exact ⟨m + 1, by omega, by go_num, by rw [HS.out]; simp, hnx.out⟩
          case measure => simp [intOf]; omega
    · have hR : selL l j b = -1 := selL_none (fun q hq => HNO.out q (by omega))
      have HR := Lib.hid hR
      clear hR hr
      go_wp2_with fail
      go_ret
      exact ⟨ret_int HR.out.symm, rfl⟩

theorem refSame_any (a : Option Addr) (c : Nat) (l : List Bool) (a2 : Option Addr) (c2 : Nat) (m : List Bool) (w : World) (hr : ReadsV w a (l.map Value.bool)) (hr2 : ReadsV w a2 (m.map Value.bool)) (hl : l.length ≤ 1000000) :
    Calls Tryd.prog 30 #[.slice a l.length c, .slice a2 m.length c2] w fun e w' => e = .returned (.bool (decide (l = m))) ∧ ∃ n, w' = w.drewN n := by
  by_cases hlen : l.length = m.length
  · have hd : ((l.length : Int) != (m.length : Int)) = false := by simp [hlen]
    have HLEN := Lib.hid hlen
    clear hlen
    go_enter Tryd.func30, Tryd.ntmps30
    go_wp2_with fail
    go_loopw [5] (fun i wr => ∃ k : Nat, k ≤ l.length ∧ i = .int .i64 k ∧ (∀ q, q < k → bitAt l q = bitAt m q) ∧ ∃ n, wr = w.drewN n) (fun i _ => l.length - (intOf i).toNat)
    case atStart => exact ⟨0, Nat.zero_le _, rfl, fun q hq => by omega, 0, rfl⟩
    case round =>
      obtain ⟨k, hk, rfl, hsame, n, rfl⟩ := hrel
      have HSM := Lib.hid hsame
      clear hsame
      by_cases hlt : k < l.length
      · obtain ⟨b1, o1, rfl, _, hc1⟩ := readsB hr hlt
        obtain ⟨b2, o2, rfl, _, hc2⟩ := readsB hr2 (k := k) (by have := HLEN.out; omega)
        have hkm : k < m.length := by have := HLEN.out; omega
        have hc1' : (w.drewN n).cell? ⟨b1, o1 + k, none⟩ = some (.bool (bitAt l k)) := hc1
        have hc2' : (w.drewN n).cell? ⟨b2, o2 + k, none⟩ = some (.bool (bitAt m k)) := hc2
        by_cases hb : bitAt l k = bitAt m k
        · have hs : Hid (∀ q, q < k + 1 → bitAt l q = bitAt m q) := fun q hq => by
            rcases Nat.lt_or_ge q k with h | h
            · exact HSM.out q h
            · have : q = k := by omega
              rw [this]; exact hb
          rw [← hb] at hc2'
          clear hb hc1 hc2 hr hr2
          have HD : Hid (∀ x, ∃ n', (w.drewN n).drewN x = w.drewN n') := fun x => ⟨n + x, by simp [World.drewN, Nat.add_assoc]⟩
          generalize w.drewN n = w1 at *
          cases hbv : bitAt l k
          all_goals
            rw [hbv] at hc1' hc2'
            clear hbv
            go_wp2_with fail
            go_quiet (fail)
            go_wp2_with fail
            go_roundw
            case rel => exact ⟨k + 1, by omega, by go_num, hs.out, HD.out _⟩
            case measure => simp [intOf]; omega
        · have hne : Hid (false = decide (l = m)) := by
            show _ = _
            symm; rw [decide_eq_false_iff_not]; intro e; exact hb (by rw [e])
          have HD : Hid (∀ x, ∃ n', (w.drewN n).drewN x = w.drewN n') := fun x => ⟨n + x, by simp [World.drewN, Nat.add_assoc]⟩
          generalize w.drewN n = w1 at *
          clear hc1 hc2 hr hr2
          cases hb1 : bitAt l k <;> cases hb2 : bitAt m k
          all_goals first
            | (exact absurd (hb1.trans hb2.symm) hb)
            | (rw [hb1] at hc1'
               rw [hb2] at hc2'
               clear hb1 hb2 hb
               go_wp2_with fail
               go_quiet (fail)
               go_wp2_with fail
               go_ret
               exact ⟨ret_bool hne.out, HD.out _⟩)
      · have heq : Hid (true = decide (l = m)) := by
          show _ = _
          symm; rw [decide_eq_true_eq]
          apply List.ext_getElem?
          intro i
          by_cases hi : i < l.length
          · have h1 := HSM.out i (by omega)
            have hm : i < m.length := by have := HLEN.out; omega
            rw [List.getElem?_eq_getElem hi, List.getElem?_eq_getElem hm]
            simpa [bitAt, hi, hm] using h1
          · rw [List.getElem?_eq_none (by omega), List.getElem?_eq_none (by have := HLEN.out; omega)]
        clear hr hr2
        go_wp2_with fail
        go_ret
        exact ⟨ret_bool heq.out, n, rfl⟩
  · have hd : ((l.length : Int) != (m.length : Int)) = true := by simp; omega
    have hne : Hid (false = decide (l = m)) := by
      show _ = _
      symm; rw [decide_eq_false_iff_not]; intro e; exact hlen (by rw [e])
    clear hr hr2 hlen
    go_enter Tryd.func30, Tryd.ntmps30
    go_wp2_with fail
    go_ret
    exact ⟨ret_bool hne.out, 0, rfl⟩

end Go.Proofs.YtcppgpjodfeigaaDoor

namespace Go.Proofs.YtcppgpjodfeigaaDoor
open Go.ChangeShapes Go.WideShapes Go.ChangeAt Go.RowKit

variable {H : Type} {enc : TypeId × Value → H} {P : Program} {w : World} {base : Nat} {sp : Nat → Bool} {held : Bool}

theorem argI_of {t e : TypeId} {k : IntKind} {fuel : Nat} {a : Option Addr} {len cap : Nat} {x : DataW H × List MemPlace} (ht : P.underlying t = some (.slice e)) (he : P.underlying e = some (.int k)) (hc : P.cellsOf e = 1)
    (hf : DataW.trod enc P w base sp held fuel t (Value.slice a len cap).cells.toList = some x) : ∃ xs : List Int, len = xs.length ∧ ArgI k w a cap xs := by
  rcases open_ints ht he hc hf with ⟨hcs, _⟩ | ⟨x, l, c, zs, hcs, _, hl, hm, hz, _, hcell, hwz⟩
  · simp [Value.cells] at hcs
    obtain ⟨rfl, rfl, rfl⟩ := hcs
    exact ⟨[], rfl, ⟨Reads.nil, fun i hi => absurd hi (by simp), by simp, by unfold maxLen; omega, fun _ => rfl⟩⟩
  · simp [Value.cells] at hcs
    obtain ⟨rfl, rfl, rfl⟩ := hcs
    have hzl : len ≤ zs.length := by rw [hz]; split <;> omega
    have hlen : (zs.take len).length = len := by rw [List.length_take]; omega
    clear hz
    refine ⟨zs.take len, hlen.symm, ⟨fun i hi => ?_, fun i hi => ?_, by rw [hlen]; exact hl, hm, fun h => by cases h⟩⟩
    · rw [hlen] at hi ⊢
      obtain ⟨b, off, spot⟩ := x
      have h0 := hcell 0 (by omega)
      have hspot : spot = none := by simpa [Addr.add] using World.cell?_spot h0
      subst hspot
      refine ⟨b, off, rfl, World.block_lt_of_cell? w _ (by simpa [Addr.add] using h0), fun j hj => ?_⟩
      have := hcell j (by omega)
      rw [List.getElem?_take, if_pos hj]
      rw [Addr.add_lit] at this
      simpa [List.getD_eq_getElem?_getD] using this
    · rw [hlen] at hi
      rw [List.getElem?_take, if_pos hi, List.getElem?_eq_getElem (by omega)]
      exact hwz _ (List.getElem_mem _)

end Go.Proofs.YtcppgpjodfeigaaDoor

namespace Go.Proofs.YtcppgpjodfeigaaDoor
set_option linter.unusedVariables false
set_option linter.unusedSimpArgs false
open Go.RowKit

/-- What is returned is some row of bools of the call's own, of at most so many. -/
def SomeB (B : Nat) (w : World) (most : Nat) (e : Ending) (w' : World) : Prop := ∃ l : List Bool, l.length ≤ most ∧ GivesB B w l e w'

set_option maxHeartbeats 1600000 in
theorem lawBits_any (a : Option Addr) (c : Nat) (z : List Int) (most : Nat) (w : World) (hr : Reads w .i64 a z) (hm : most ≤ 1000) (hz : z.length ≤ maxLen) :
    Calls Tryd.prog 17 #[.slice a z.length c, .int .i64 most] w (SomeB w.heap.size w most) := by
  unfold maxLen at hz
  go_enter Tryd.func17, Tryd.ntmps17
  go_wp2_with fail
  go_loopw [5, 6] (fun v i wr => ∃ (k : Nat) (l : List Bool), k ≤ z.length ∧ l.length ≤ most ∧ i = .int .i64 k ∧ wr.ownsRow w.heap.size 4 1 v l.length (l.map Value.bool) ∧ Below w.heap.size w wr) (fun _ i _ => z.length - (intOf i).toNat)
  case atStart => exact ⟨0, [], Nat.zero_le _, Nat.zero_le _, rfl, World.ownsRow_nil _ _ _ _, Below.refl _ _⟩
  case round =>
    obtain ⟨k, l, hk, hl, rfl, hown, hb⟩ := hrel
    by_cases hlt : k < z.length
    · obtain ⟨b, off, rfl, hbl, hcells⟩ := hr.some (by omega)
      have hcx : Hid (∀ w', Below w.heap.size w w' → w'.cell? ⟨b, off + k, none⟩ = some (.int .i64 (z[k]?.getD 0))) := fun w' hb => (hb.cell (p := ⟨b, off + k, none⟩) hbl).trans (hcells k hlt)
      have hc0 := hcx.out wr hb
      generalize z[k]?.getD 0 = x at *
      obtain ⟨u, hu0, hu1, hu⟩ : ∃ u : Int, 0 ≤ u ∧ u < 18446744073709551616 ∧ IntKind.u64.wrap x = u := ⟨IntKind.u64.wrap x, by rw [IntKind.wrap_u64]; omega, by rw [IntKind.wrap_u64]; omega, rfl⟩
      have hn0 : Hid (∃ n : Nat, n ≤ 12 ∧ u / 2 % 12 = (n : Int)) := ⟨(u / 2 % 12).toNat, by omega, by omega⟩
      clear hcells
      go_wp2_with fail
      obtain ⟨wo, rfl⟩ : ∃ wo : World, wo = wr := ⟨_, rfl⟩
      go_loopw [5, 7] (fun v i wr => ∃ (n : Nat) (l : List Bool), n ≤ 12 ∧ l.length ≤ most ∧ i = .int .u64 n ∧ wr.ownsRow w.heap.size 4 1 v l.length (l.map Value.bool) ∧ Below w.heap.size w wr) (fun _ i _ => (intOf i).toNat)
      case atStart =>
        obtain ⟨n, h1, h2⟩ := hn0.out
        exact ⟨n, l, h1, hl, by rw [h2], hown, hb⟩
      case round =>
        clear hc0 hown hb hl
        obtain ⟨n, l, hn, hl, rfl, hown, hb⟩ := hrel
        have hs := hb.size
        have hc0 := hcx.out wr hb
        obtain ⟨v, c, rfl, _, _⟩ := own_slice hown
        by_cases h1 : 0 < n ∧ l.length < most
        · obtain ⟨h1, h2⟩ := h1
          go_wp2_with (at_builtin; refine wpList_push rfl _ _ 23 rfl w.heap.size 4 Tryd.infoBoolR Tryd.underlying23 rfl _ _ _ rfl hown rfl rfl ?c1 ?c2 ?c3 ?_)
          case c1 => unfold maxLen; omega
          case c2 => omega
          case c3 => omega
          intro v' w1 hown' hgrow
          have hnx' : Below w.heap.size w w1 := hb.grown hgrow hs (fun j hj => (hown.lt j hj).1)
          generalize (bits BinOp.and IntKind.i64 x 1 == 1) = bv at *
          have HO : Hid (w1.ownsRow w.heap.size 4 1 v' (l ++ [bv]).length ((l ++ [bv]).map Value.bool)) := by
            show w1.ownsRow _ _ _ _ _ _
            rw [List.length_append, List.map_append]; exact hown'
          clear hown hgrow hown'
          go_wp2_with fail
          go_roundw
          case rel => exact ⟨n - 1, l ++ [bv], by omega, by rw [List.length_append]; simp; omega, by rw [show ((n - 1 : Nat) : Int) = (n : Int) - 1 by omega], HO.out, hnx'⟩
          case measure => simp [intOf]; omega
        · have hor : n = 0 ∨ (0 < n ∧ most ≤ l.length) := by omega
          rcases hor with rfl | ⟨h2, h3⟩
          · go_wp2_with fail
            go_roundw
            case rel => exact ⟨k + 1, l, by omega, hl, by go_num, hown, hb⟩
            case measure => simp [intOf]; omega
          · have hd : decide ((l.length : Int) < (most : Int)) = false := by simp; omega
            go_wp2_with fail
            go_roundw
            case rel => exact ⟨k + 1, l, by omega, hl, by go_num, hown, hb⟩
            case measure => simp [intOf]; omega
    · go_wp2_with fail
      go_ret
      exact ⟨l, hl, _, rfl, hown, hb⟩

/-- 'append(s, x...)' onto an own row behind a guard that is met. -/
theorem wpList_appendG {P : Program} {w : World} {ops : Array Oper} {rest : List Oper} {o : Oper} {a : Act} {Q : Exit → Act → World → Prop} (hw : Region.wanted o (yielded ops a.tmps) = true) (s x : Operand) (t : TypeId)
    (ho : o.op = .call { callee := .builtin .append, args := #[s, x], argTypes := #[t, t] })
    (base : Nat) (e : TypeId) {z : Value} {bytes : Nat} (hinfo : (P.info? e).map (fun i => (i.zero, i.size, i.bytes)) = some (some z, 1, bytes)) (ht : P.underlying t = some (.slice e)) (hz1 : z.cells.size = 1)
    (v : Value) (n : Nat) (xs : List Value) (hs : a.eval s = v) (hown : w.ownsRow base e 1 v n xs)
    (ad : Option Addr) (m c : Nat) (news : List Value) (hx : a.eval x = .slice ad m c) (hl : news.length = m) (hnil : ad = none → m = 0 ∧ c = 0)
    (hnews : ∀ p, ad = some p → ∀ j u, news[j]? = some u → w.cell? (p.add j) = some u) (h1 : ∀ u ∈ news, u.oneCell' = true)
    (h63 : n + m ≤ maxLen) (hbytes : (n + m) * bytes ≤ 140737488355328) (hbase : base ≤ w.heap.size)
    (h : ∀ a' c' w', w'.ownsRow base e 1 (.slice a' (n + m) c') (n + m) (xs ++ news) → w.grownBy w' v.ownBlock → (∀ g, a' = some ⟨g, 0, none⟩ → v.ownBlock = some g ∨ w.heap.size ≤ g) →
      wpList P ops Q rest (a.put o.dst (.slice a' (n + m) c')) w') : wpList P ops Q (o :: rest) a w :=
  wpList_step fun K hK => by
    rw [if_pos hw]
    exact wp_appendL s x t ho base e hinfo ht hz1 v n xs hs hown ad m c news hx hl hnil hnews h1 h63 hbytes hbase (fun a' c' w' h1 h2 h3 => hK _ _ (h a' c' w' h1 h2 h3))

/-- What a law's walk keeps of a block of its own. -/
def BkAt (B : Nat) (w : World) (p : Nat) (l : List Bool) : Prop := IsBlock w p l ∧ B ≤ p
theorem BkAt.below {B : Nat} {w w' : World} {p : Nat} {l : List Bool} (h : BkAt B w p l) (hb : Below w.heap.size w w') : BkAt B w' p l := ⟨h.1.below' hb, h.2⟩
theorem BlkStep.out {B : Nat} {w w' : World} {p : Nat} {l m : List Bool} (h : BlkStep w w' p m) (h0 : BkAt B w p l) (hB : B ≤ w.heap.size) : BkAt B w' p m ∧ Below B w w' :=
  ⟨⟨h.1, h0.2⟩, h.2.below (fun b hb => by have := h0.2; omega) hB⟩

theorem ins_at {B : Nat} {w : World} {p : Nat} {l m : List Bool} {k : Int} {b : Bool} (h : BkAt B w p l) (hB : B ≤ w.heap.size) (n : Nat) (hk : k = (n : Int)) (hl : l.length < 128) (hn : n ≤ l.length) (hm : inL l n b = m) :
    Calls Tryd.prog 101 #[.pointer (some ⟨p, 0, none⟩), .int .i64 k, .bool b] w fun e w' => e = .returned (.int .i64 0) ∧ BkAt B w' p m ∧ Below B w w' := by
  subst hk hm
  refine (blkInsert h.1 hl n hn b).mono ?_
  rintro e w' ⟨rfl, hs⟩
  exact ⟨rfl, hs.out h hB⟩
theorem del_at {B : Nat} {w : World} {p : Nat} {l m : List Bool} {k : Int} {x : Bool} (h : BkAt B w p l) (hB : B ≤ w.heap.size) (n : Nat) (hk : k = (n : Int)) (hn : n < l.length) (hm : outL l n = m) (hx : bitAt l n = x) :
    Calls Tryd.prog 105 #[.pointer (some ⟨p, 0, none⟩), .int .i64 k] w fun e w' => e = .returned (.tuple #[.bool x, .int .i64 0]) ∧ BkAt B w' p m ∧ Below B w w' := by
  subst hk hm hx
  refine (blkDelete h.1 n hn).mono ?_
  rintro e w' ⟨rfl, hs⟩
  exact ⟨rfl, hs.out h hB⟩
/-- Split, of a block of the call's own. -/
def SplitAt (B : Nat) (w : World) (p : Nat) (l : List Bool) (e : Ending) (w' : World) : Prop :=
  ∃ q, e = .returned (.pointer (some ⟨q, 0, none⟩)) ∧ BkAt B w' q (l.drop (l.length / 2)) ∧ BkAt B w' p (l.take (l.length / 2)) ∧ p ≠ q ∧ Below B w w'
theorem split_at {B : Nat} {w : World} {p : Nat} {l : List Bool} (h : BkAt B w p l) (hB : B ≤ w.heap.size) :
    Calls Tryd.prog 100 #[.pointer (some ⟨p, 0, none⟩)] w (SplitAt B w p l) := by
  refine (blkSplit h.1).mono ?_
  rintro e w' ⟨q, rfl, hq, h1, h2, hc⟩
  exact ⟨q, rfl, ⟨h1, by omega⟩, ⟨h2, h.2⟩, fun e => by have := h.1.lt; omega, hc.below (fun b hb => by have := h.2; omega) hB⟩
/-- Join, of blocks of the call's own. -/
def JoinAt (B : Nat) (w : World) (p q : Nat) (l m : List Bool) (e : Ending) (w' : World) : Prop :=
  e = .returned (.int .i64 0) ∧ BkAt B w' p (l ++ m) ∧ BkAt B w' q [] ∧ Below B w w'
theorem join_at {B : Nat} {w : World} {p q : Nat} {l m : List Bool} (h : BkAt B w p l) (h2 : BkAt B w q m) (hpq : p ≠ q) (hB : B ≤ w.heap.size) (hl : l.length + m.length ≤ 128) :
    Calls Tryd.prog 122 #[.pointer (some ⟨p, 0, none⟩), .pointer (some ⟨q, 0, none⟩)] w (JoinAt B w p q l m) := by
  refine (blkJoin h.1 h2.1 hpq hl).mono ?_
  rintro e w' ⟨rfl, h3, h4, hc⟩
  exact ⟨rfl, ⟨h3, h.2⟩, ⟨h4, h2.2⟩, hc.below (fun b hb => by have := h.2; have := h2.2; rcases hb with rfl | rfl <;> omega) hB⟩
theorem new_blk {B : Nat} {w : World} {a : Option Addr} {c n : Nat} (l : List Bool) (hn : n = l.length) (hr : ReadsV w a (l.map Value.bool)) (hl : l.length ≤ 128) (hB : B ≤ w.heap.size) :
    Calls Tryd.prog 67 #[.slice a n c] w fun e w' => e = .returned (.tuple #[.pointer (some ⟨w.heap.size, 0, none⟩), .int .i64 0]) ∧ BkAt B w' w.heap.size l ∧ Below w.heap.size w w' := by
  subst hn
  refine (blkNew w a c l hr hl).mono ?_
  rintro e w' ⟨rfl, h, hb⟩
  exact ⟨rfl, ⟨h, hB⟩, hb⟩
theorem below_drewW {B : Nat} {w w' : World} (h : Below B w w') (n : Nat) : Below B w (w'.drewN n) := ⟨h.os, h.tape, h.output, h.size, h.block⟩

end Go.Proofs.YtcppgpjodfeigaaDoor

namespace Go.Proofs.YtcppgpjodfeigaaDoor
set_option linter.unusedVariables false
set_option linter.unusedSimpArgs false
open Go.RowKit

/-- Bits in a row: of a word. -/
def bitsL (x n : Nat) : List Bool := (List.range n).map x.testBit
theorem bitsL_len (x n : Nat) : (bitsL x n).length = n := by simp [bitsL]
theorem bitsL_get {x n i : Nat} (h : i < n) : (bitsL x n)[i]? = some (x.testBit i) := by simp [bitsL, h]
theorem bitsL_succ (x n : Nat) : bitsL x (n + 1) = bitsL x n ++ [x.testBit n] := by simp [bitsL, List.range_succ]

theorem wordOf_congr {f g : Nat → Bool} {n : Nat} (h : ∀ i, i < n → f i = g i) : wordOf f n = wordOf g n :=
  word_ext (wordOf_lt f n) (wordOf_lt g n) (fun i hi => by rw [wordOf_bit, wordOf_bit, h i hi])
theorem wordOf_or {f : Nat → Bool} {k : Nat} : wordOf f k ||| (if f k then 2 ^ k else 0) = wordOf f (k + 1) := by
  have hl := wordOf_lt f k
  refine word_ext (n := k + 1) (Nat.or_lt_two_pow (Nat.lt_of_lt_of_le hl (Nat.pow_le_pow_right (by omega) (by omega))) ?_) (wordOf_lt _ _) (fun i hi => ?_)
  · rw [Nat.pow_succ]; have := Nat.two_pow_pos k; split <;> omega
  · rw [Nat.testBit_or, wordOf_bit, wordOf_bit]
    have hb : (if f k = true then 2 ^ k else 0 : Nat).testBit i = (f k && decide (i = k)) := by
      cases f k
      · simp
      · simp [Nat.testBit_two_pow, eq_comm]
    rw [hb]
    by_cases h1 : i < k
    · have h2 : ¬ i = k := by omega
      simp [h1, h2, hi]
    · have h2 : i = k := by omega
      subst h2; simp

end Go.Proofs.YtcppgpjodfeigaaDoor

namespace Go.Proofs.YtcppgpjodfeigaaDoor
set_option linter.unusedVariables false
set_option linter.unusedSimpArgs false
open Go.RowKit

set_option maxHeartbeats 1600000 in
theorem refOut_any (a : Option Addr) (c : Nat) (l : List Bool) (k : Nat) (w : World) (hr : ReadsV w a (l.map Value.bool)) (hk : k < l.length) (hc : l.length ≤ c) (hcm : c ≤ maxLen) (hl : l.length ≤ 1000000) (hnil : a = none → l.length = 0 ∧ c = 0) :
    Calls Tryd.prog 37 #[.slice a l.length c, .int .i64 k] w (GivesB w.heap.size w (outL l k)) := by
  have hs1 := fun (w : World) => run_sliceTo (P := Tryd.prog) (w := w) (t := 23) (a := a) (len := l.length) (cap := c) (k := k) Tryd.underlying23 (by kernel_rfl) (by omega)
  have hs2 : ∀ (w : World), (Instr.slice 23 (.slice a l.length c) (some (.int .i64 ((k : Int) + 1))) none none).run Tryd.prog w = .ok (.slice (offA a (k + 1) c) (l.length - (k + 1)) (c - (k + 1))) w :=
    fun w => run_sliceFrom (P := Tryd.prog) (w := w) (t := 23) (a := a) (len := l.length) (cap := c) (k := k + 1) Tryd.underlying23 (by kernel_rfl) (by omega)
  have HNIL := Lib.hid (offA_nil (k := k + 1) hnil)
  have HN0 : Hid (a = none → k = 0 ∧ c = 0) := fun h => by have := hnil h; omega
  have hrt : ReadsV w a ((l.take k).map Value.bool) := by rw [List.map_take]; exact hr.take k
  have HRT : Hid (∀ w', Below w.heap.size w w' → ReadsV w' a ((l.take k).map Value.bool)) := fun w' hb => hrt.below' hb
  have HRD : Hid (∀ w', Below w.heap.size w w' → ReadsV w' (offA a (k + 1) c) ((l.drop (k + 1)).map Value.bool)) := fun w' hb => by rw [List.map_drop]; exact (hr.below' hb).drop (by simpa using hc)
  have hb0 := below_alloc w (.cells #[] 4)
  have hown0 : (w.alloc (.cells #[] 4)).ownsRow w.heap.size 4 1 (.slice (some ⟨w.heap.size, 0, none⟩) 0 0) 0 [] := own_zero (Nat.le_refl _) (heap_alloc_new _ _)
  have HL := Lib.hid hl
  have HO0 := Lib.hid hown0
  have HB0 := Lib.hid hb0
  clear hnil hr hrt hown0 hb0
  go_enter Tryd.func37, Tryd.ntmps37
  go_wp2_with (at_builtin; refine wpList_appendL rfl _ _ 23 rfl w.heap.size 4 Tryd.infoBoolR Tryd.underlying23 rfl _ 0 _ rfl HO0.out a k c ((l.take k).map Value.bool) rfl (by simp; omega) HN0.out (HRT.out _ HB0.out).hnews (oneB _) (by unfold maxLen; omega) (by omega) HB0.out.size ?_)
  intro a1 c1 w1 hown hgrow _
  have hb1 : Below w.heap.size w w1 := HB0.out.grown hgrow HB0.out.size (fun j hj => by simp [Value.ownBlock] at hj; omega)
  have HB1 := Lib.hid hb1
  have hown1 : w1.ownsRow w.heap.size 4 1 (.slice a1 k c1) k ((l.take k).map Value.bool) := by simpa using hown
  have HOWN := Lib.hid hown1
  clear hown hown1 hgrow hb1
  go_wp2_with (at_builtin; refine wpList_appendL rfl _ _ 23 rfl w.heap.size 4 Tryd.infoBoolR Tryd.underlying23 rfl _ k _ rfl HOWN.out (offA a (k + 1) c) (l.length - (k + 1)) (c - (k + 1)) ((l.drop (k + 1)).map Value.bool) rfl (by simp) HNIL.out (HRD.out _ HB1.out).hnews (oneB _) (by unfold maxLen; omega) (by omega) HB1.out.size ?_)
  intro a2 c2 w2 hown2 hgrow2 _
  have hb2 : Below w.heap.size w w2 := HB1.out.grown hgrow2 HB1.out.size (fun j hj => (own_lt HOWN.out hj).1)
  have HB2 := Lib.hid hb2
  have HO2 := Lib.hid hown2
  clear hown2 hgrow2 hb2
  go_wp2_with fail
  go_ret
  refine ⟨_, rfl, ?_, HB2.out⟩
  have := HO2.out
  rw [show (outL l k).map Value.bool = List.take k (List.map Value.bool l) ++ List.drop (k + 1) (List.map Value.bool l) by simp [outL]]
  rw [show (outL l k).length = k + (l.length - (k + 1)) by rw [outL_len hk]; omega]
  exact this

set_option maxHeartbeats 1600000 in
theorem refIn_any (a : Option Addr) (c : Nat) (l : List Bool) (k : Nat) (b : Bool) (w : World) (hr : ReadsV w a (l.map Value.bool)) (hk : k ≤ l.length) (hc : l.length ≤ c) (hcm : c ≤ maxLen) (hl : l.length ≤ 1000000) (hnil : a = none → l.length = 0 ∧ c = 0) :
    Calls Tryd.prog 35 #[.slice a l.length c, .int .i64 k, .bool b] w (GivesB w.heap.size w (inL l k b)) := by
  have hs1 := fun (w : World) => run_sliceTo (P := Tryd.prog) (w := w) (t := 23) (a := a) (len := l.length) (cap := c) (k := k) Tryd.underlying23 (by kernel_rfl) (by omega)
  have hs2 := fun (w : World) => run_sliceFrom (P := Tryd.prog) (w := w) (t := 23) (a := a) (len := l.length) (cap := c) (k := k) Tryd.underlying23 (by kernel_rfl) (by omega)
  have HNIL := Lib.hid (offA_nil (k := k) hnil)
  have HN0 : Hid (a = none → k = 0 ∧ c = 0) := fun h => by have := hnil h; omega
  have hrt : ReadsV w a ((l.take k).map Value.bool) := by rw [List.map_take]; exact hr.take k
  have HRT : Hid (∀ w', Below w.heap.size w w' → ReadsV w' a ((l.take k).map Value.bool)) := fun w' hb => hrt.below' hb
  have HRD : Hid (∀ w', Below w.heap.size w w' → ReadsV w' (offA a k c) ((l.drop k).map Value.bool)) := fun w' hb => by rw [List.map_drop]; exact (hr.below' hb).drop (by simpa using hc)
  have hb0 := below_alloc w (.cells #[] 4)
  have hown0 : (w.alloc (.cells #[] 4)).ownsRow w.heap.size 4 1 (.slice (some ⟨w.heap.size, 0, none⟩) 0 0) 0 [] := own_zero (Nat.le_refl _) (heap_alloc_new _ _)
  have HL := Lib.hid hl
  have HO0 := Lib.hid hown0
  have HB0 := Lib.hid hb0
  clear hnil hr hrt hown0 hb0
  go_enter Tryd.func35, Tryd.ntmps35
  go_wp2_with (at_builtin; refine wpList_appendL rfl _ _ 23 rfl w.heap.size 4 Tryd.infoBoolR Tryd.underlying23 rfl _ 0 _ rfl HO0.out a k c ((l.take k).map Value.bool) rfl (by simp; omega) HN0.out (HRT.out _ HB0.out).hnews (oneB _) (by unfold maxLen; omega) (by omega) HB0.out.size ?_)
  intro a1 c1 w1 hown hgrow _
  have hb1 : Below w.heap.size w w1 := HB0.out.grown hgrow HB0.out.size (fun j hj => by simp [Value.ownBlock] at hj; omega)
  have hown1 : w1.ownsRow w.heap.size 4 1 (.slice a1 k c1) k ((l.take k).map Value.bool) := by simpa using hown
  have HB1 := Lib.hid hb1
  have HOWN := Lib.hid hown1
  clear hown hown1 hgrow hb1
  go_wp2_with fail
  have hs1b := HB1.out.drew.size
  have HB1A : Hid (Below w.heap.size w (w1.drew.alloc (.cells #[.bool b] 4))) := HB1.out.drew.alloc hs1b _
  have HOWN2 : Hid ((w1.drew.alloc (.cells #[.bool b] 4)).ownsRow w.heap.size 4 1 (.slice a1 k c1) k ((l.take k).map Value.bool)) := World.ownsRow.alloc (w := w1.drew) HOWN.out _
  have HNEW : Hid (∀ p, some (⟨w1.heap.size, 0, none⟩ : Addr) = some p → ∀ j u, [Value.bool b][j]? = some u → (w1.drew.alloc (.cells #[.bool b] 4)).cell? (p.add j) = some u) :=
    (readsV_block (xs := [.bool b]) (heap_alloc_new w1.drew _)).hnews
  refine reg_start (fun _ => True) (by kernel_rfl) (trivial) (fun hHeld => ?_)
  refine reg_take (i := 0) (v := ?v0) rfl (by kernel_rfl) rfl hHeld ?y0 ?r0
  case y0 => (intro w hSw; (try dsimp only at hSw); go_simp; all_goals with_reducible rfl)
  try simp only [Act.put, List.setIfInBounds_toArray, List.set_cons_zero, List.set_cons_succ]
  refine reg_take (i := 1) (v := ?v1) rfl (by kernel_rfl) rfl hHeld ?y1 ?r1
  case y1 => (intro w hSw; (try dsimp only at hSw); go_simp; all_goals with_reducible rfl)
  try simp only [Act.put, List.setIfInBounds_toArray, List.set_cons_zero, List.set_cons_succ]
  refine reg_take (i := 4) (v := ?v4) rfl (by kernel_rfl) rfl hHeld ?y4 ?r4
  case y4 => (intro w hSw; (try dsimp only at hSw); go_simp; all_goals with_reducible rfl)
  try simp only [Act.put, List.setIfInBounds_toArray, List.set_cons_zero, List.set_cons_succ]
  refine reg_take (i := 5) (v := ?v5) rfl (by kernel_rfl) rfl hHeld ?y5 ?r5
  case y5 => (intro w hSw; (try dsimp only at hSw); go_simp; all_goals with_reducible rfl)
  try simp only [Act.put, List.setIfInBounds_toArray, List.set_cons_zero, List.set_cons_succ]
  refine reg_take (i := 6) (v := ?v6) rfl (by kernel_rfl) rfl hHeld ?y6 ?r6
  case y6 => (intro w hSw; (try dsimp only at hSw); go_simp; all_goals with_reducible rfl)
  try simp only [Act.put, List.setIfInBounds_toArray, List.set_cons_zero, List.set_cons_succ]
  refine reg_loud (i := 2) rfl (by kernel_rfl) rfl (fun K hK => ?_)
  go_simp
  refine hK.out _ _ (trivial) (fun hNew => ?_)
  clear hK K hHeld
  have hHeld := hNew
  clear hNew
  try simp only [Act.put, List.setIfInBounds_toArray, List.set_cons_zero, List.set_cons_succ]
  refine reg_loud (i := 3) rfl (by kernel_rfl) rfl (fun K hK => ?_)
  refine wp_appendL _ _ 23 rfl w.heap.size 4 Tryd.infoBoolR Tryd.underlying23 rfl _ k _ rfl HOWN2.out (some ⟨w1.heap.size, 0, none⟩) 1 1 [.bool b] rfl rfl (fun h => by cases h) HNEW.out (oneB [b]) (by unfold maxLen; omega) (by omega) HB1A.out.size ?_
  intro a2 c2 w2 hown2 hgrow2 _
  have hb2 : Below w.heap.size w w2 := HB1A.out.grown hgrow2 HB1A.out.size (fun j hj => (own_lt HOWN2.out hj).1)
  have HB2 := Lib.hid hb2
  have HO2 := Lib.hid hown2
  clear hown2 hgrow2 hb2
  refine hK.out _ _ (trivial) (fun hNew => ?_)
  clear hK K hHeld
  have hHeld := hNew
  clear hNew
  try simp only [Act.put, List.setIfInBounds_toArray, List.set_cons_zero, List.set_cons_succ]
  refine reg_loud (i := 7) rfl (by kernel_rfl) rfl (fun K hK => ?_)
  refine wp_appendL _ _ 23 rfl w.heap.size 4 Tryd.infoBoolR Tryd.underlying23 rfl _ (k + 1) _ rfl HO2.out (offA a k c) (l.length - k) (c - k) ((l.drop k).map Value.bool) rfl (by simp) HNIL.out (HRD.out w2 (HB2.out)).hnews (oneB _) (by unfold maxLen; omega) (by omega) HB2.out.size ?_
  intro a3 c3 w3 hown3 hgrow3 _
  have hb3 : Below w.heap.size w w3 := HB2.out.grown hgrow3 HB2.out.size (fun j hj => (own_lt HO2.out hj).1)
  have HB3 := Lib.hid hb3
  have HO3 := Lib.hid hown3
  clear hown3 hgrow3 hb3
  refine hK.out _ _ (trivial) (fun hNew => ?_)
  clear hK K hHeld
  have hHeld := hNew
  clear hNew
  try simp only [Act.put, List.setIfInBounds_toArray, List.set_cons_zero, List.set_cons_succ]
  refine reg_take (i := 8) (v := ?v8) rfl (by kernel_rfl) rfl hHeld ?y8 ?r8
  case y8 => (intro w hSw; (try dsimp only at hSw); go_simp; all_goals with_reducible rfl)
  try simp only [Act.put, List.setIfInBounds_toArray, List.set_cons_zero, List.set_cons_succ]
  refine reg_done (by kernel_rfl) ?_ _
  go_wp2_with fail
  go_ret
  refine ⟨_, rfl, ?_, HB3.out⟩
  have := HO3.out
  rw [show (inL l k b).map Value.bool = (l.take k).map Value.bool ++ [.bool b] ++ (l.drop k).map Value.bool by simp [inL]]
  rw [show (inL l k b).length = k + 1 + (l.length - k) by rw [inL_len hk]; omega]
  exact this

theorem word_in (x k : Nat) (b : Bool) (hk : k < 64) : wordOf (fun i => (inL (bitsL x 64) k b)[i]?.getD false) 64 = putW x k b := by
  refine wordOf_congr (fun i hi => ?_)
  rw [inL_get (by rw [bitsL_len]; omega)]
  split
  · rw [bitsL_get hi]; rfl
  · split
    · rfl
    · rw [bitsL_get (by omega)]; rfl
theorem word_out (x k : Nat) (b : Bool) (hk : k < 64) : wordOf (fun i => (outL (bitsL x 64) k ++ [b])[i]?.getD false) 64 = cutW x k b := by
  refine wordOf_congr (fun i hi => ?_)
  have hl : (outL (bitsL x 64) k).length = 63 := by rw [outL_len (by rw [bitsL_len]; omega), bitsL_len]
  rw [List.getElem?_append, hl]
  by_cases h63 : i < 63
  · rw [if_pos h63, outL_get (by rw [bitsL_len]; omega)]
    split
    · rw [bitsL_get hi]; rfl
    · rw [bitsL_get (by omega), if_neg (by omega)]; rfl
  · have : i = 63 := by omega
    subst this
    simp
    intro h; omega

end Go.Proofs.YtcppgpjodfeigaaDoor

namespace Go.Proofs.YtcppgpjodfeigaaDoor
set_option linter.unusedVariables false
set_option linter.unusedSimpArgs false
open Go.RowKit

theorem u64r (a : Int) : ∃ u : Int, 0 ≤ u ∧ u < 18446744073709551616 ∧ IntKind.u64.wrap a = u := ⟨IntKind.u64.wrap a, by rw [IntKind.wrap_u64]; omega, by rw [IntKind.wrap_u64]; omega, rfl⟩

set_option maxHeartbeats 1600000 in
theorem near5_any (k : Int) (n : Nat) (hn : n ≤ 1000000000) (w : World) :
    Calls Tryd.prog 28 #[.int .i64 k, .int .i64 (n : Int)] w fun e w' => (∃ r : Nat, r ≤ n ∧ e = .returned (.int .i64 r)) ∧ w = w' := by
  obtain ⟨u, hu0, hu1, hu⟩ := u64r k
  obtain ⟨r, hr, hrn⟩ : ∃ r : Nat, u % ((n : Int) + 1) = (r : Int) ∧ r ≤ n := ⟨(u % ((n : Int) + 1)).toNat, by have := Int.emod_nonneg u (b := (n : Int) + 1) (by omega); omega, by have := Int.emod_lt_of_pos u (b := (n : Int) + 1) (by omega); omega⟩
  have hw1 : IntKind.i64.wrap ((n : Int) + 1) = (n : Int) + 1 := IntWalk.i64_in _ (by omega)
  have hw2 : IntKind.u64.wrap ((n : Int) + 1) = (n : Int) + 1 := by rw [IntKind.wrap_u64]; omega
  have hw3 : u.tmod ((n : Int) + 1) = (r : Int) := by rw [Int.tmod_eq_emod_of_nonneg hu0, hr]
  have hw4 : IntKind.u64.wrap (r : Int) = (r : Int) := by rw [IntKind.wrap_u64]; omega
  have hw5 : IntKind.i64.wrap (r : Int) = (r : Int) := IntWalk.i64_in _ (by omega)
  have hw6 : IntKind.u64.wrap (u.tmod ((n : Int) + 1)) = (r : Int) := by rw [hw3, hw4]
  have hne : ((n : Int) + 1 == 0) = false := by rw [beq_eq_false_iff_ne]; omega
  go_enter Tryd.func28, Tryd.ntmps28
  go_wp2_with fail
  go_ret
  exact ⟨⟨r, hrn, rfl⟩, rfl⟩

theorem leastP_two : ∀ h, (leastP h).2 ≤ 2 * (leastP h).1
  | 0 => by simp [leastP]
  | h + 1 => by have := leastP_pos h; simp only [leastP]; omega
theorem leastP_add {h : Nat} : (leastP (h + 1)).1 = (leastP h).2 ∧ (leastP (h + 1)).2 = (leastP h).1 + (leastP h).2 := ⟨rfl, rfl⟩

set_option maxHeartbeats 1600000 in
theorem refLeast_any (h : Nat) (hh : h ≤ 1000000000000) (w : World) :
    Calls Tryd.prog 70 #[.int .i64 (h : Int)] w fun e w' => e = .returned (.int .i64 (min (leastP h).1 2147483648 : Nat)) ∧ ∃ n, w' = w.drewN n := by
  go_enter Tryd.func70, Tryd.ntmps70
  go_wp2_with fail
  go_loopw [3, 4, 5] (fun a b i wr => ∃ k : Nat, k ≤ h ∧ i = .int .i64 k ∧ a = .int .i64 ((leastP k).1 : Nat) ∧ b = .int .i64 ((leastP k).2 : Nat) ∧ (leastP k).1 ≤ 4294967296 ∧ ∃ n, wr = w.drewN n) (fun _ _ i _ => h - (intOf i).toNat)
  case atStart => exact ⟨0, Nat.zero_le _, rfl, rfl, rfl, by decide, 0, rfl⟩
  case round =>
    obtain ⟨k, hk, rfl, rfl, rfl, hle, n, rfl⟩ := hrel
    have h2 := leastP_two k
    have h1 := leastP_pos k
    obtain ⟨e1, e2⟩ := leastP_add (h := k)
    by_cases hlt : k < h ∧ (leastP k).1 < 2147483648
    · obtain ⟨hlt, hl2⟩ := hlt
      have HE1 := Lib.hid e1
      have HE2 := Lib.hid e2
      clear e1 e2
      generalize (leastP k).1 = a at *
      generalize (leastP k).2 = b at *
      have d1 : decide ((a : Int) < 2147483648) = true := decide_eq_true (by omega)
      have d2 : IntKind.i64.wrap ((a : Int) + (b : Int)) = (a : Int) + (b : Int) := IntWalk.i64_in _ (by omega)
      have HL2 : Hid (b ≤ 4294967296) := (by omega : b ≤ 4294967296)
      clear hl2
      go_wp2_with fail
      go_roundw
      case rel => exact ⟨k + 1, by omega, by go_num, by rw [HE1.out], by rw [HE2.out]; go_num, by rw [HE1.out]; exact HL2.out, n, rfl⟩
      case measure => simp [intOf]; omega
    · have HR : Hid (((min (leastP k).1 2147483648 : Nat) : Int) = ((min (leastP h).1 2147483648 : Nat) : Int)) := by
        show _ = _
        by_cases hkh : k = h
        · rw [hkh]
        · have := leastP_mono (h := k) (g := h) hk
          omega
      clear e1 e2
      generalize (leastP k).1 = a at *
      generalize (leastP k).2 = b at *
      have HW : Hid ((k < h → ¬ a < 2147483648) ∧ (a < 2147483648 → k = h)) := ⟨fun h1 h2 => hlt ⟨h1, h2⟩, fun h1 => by omega⟩
      by_cases h5 : a < 2147483648
      · have hm : min (a : Int) 2147483648 = (a : Int) := by omega
        obtain rfl := HW.out.2 h5
        clear h5 hlt HW
        go_wp2_with fail
        all_goals
          go_ret
          exact ⟨ret_int (by rw [← HR.out]; omega), n, rfl⟩
      · have d1 : decide ((a : Int) < 2147483648) = false := decide_eq_false (by omega)
        have HA := Lib.hid h5
        have HM : Hid (2147483648 = ((min (leastP h).1 2147483648 : Nat) : Int)) := by show _ = _; rw [← HR.out]; omega
        rcases (by omega : (2147483648 : Int) < (a : Int) ∨ (a : Int) = 2147483648) with h6 | h6
        · clear h5 hlt HW
          by_cases h3 : k < h
          all_goals
            go_wp2_with fail
            all_goals
              go_ret
              exact ⟨ret_int HM.out, n, rfl⟩
        · rw [h6] at d1 ⊢
          clear h5 hlt HW h6 h1 h2
          by_cases h3 : k < h
          all_goals
            go_wp2_with fail
            all_goals
              go_ret
              exact ⟨ret_int HM.out, n, rfl⟩

set_option maxHeartbeats 1600000 in
theorem refFours_any (n : Nat) (hn : n ≤ 1000000000000) (w : World) :
    Calls Tryd.prog 71 #[.int .i64 (n : Int)] w fun e w' => e = .returned (.int .i64 (n / 32 : Nat)) ∧ w = w' := by
  have e : ((n / 32 : Nat) : Int) = (n : Int) / 128 * 4 + (n : Int) % 128 * 4 / 128 := by omega
  have HE := Lib.hid e
  clear e
  go_enter Tryd.func71, Tryd.ntmps71
  go_wp2_with fail
  go_ret
  exact ⟨ret_int HE.out.symm, rfl⟩

end Go.Proofs.YtcppgpjodfeigaaDoor

namespace Go.Proofs.YtcppgpjodfeigaaDoor
set_option linter.unusedVariables false
set_option linter.unusedSimpArgs false
open Go.RowKit

theorem box4 {w : World} {q : Nat} {T : TypeId} {a b c d : Value} (h : w.heap[q]? = some (.cells #[a, b, c, d] T (0, 0))) : w.cell? ⟨q, 0, none⟩ = some a ∧ w.cell? ⟨q, 1, none⟩ = some b ∧ w.cell? ⟨q, 2, none⟩ = some c ∧ w.cell? ⟨q, 3, none⟩ = some d :=
  ⟨by rw [cell_of_row w q 0 _ _ _ h]; rfl, by rw [cell_of_row w q 1 _ _ _ h]; rfl, by rw [cell_of_row w q 2 _ _ _ h]; rfl, by rw [cell_of_row w q 3 _ _ _ h]; rfl⟩
/-- Four cells and what lies below are kept. -/
theorem keep4 {w w1 w2 : World} {N q : Nat} {sa sb sc sd : Value} (hN : N ≤ w.heap.size) (h : (w1.cell? ⟨q, 0, none⟩ = some sa ∧ w1.cell? ⟨q, 1, none⟩ = some sb ∧ w1.cell? ⟨q, 2, none⟩ = some sc ∧ w1.cell? ⟨q, 3, none⟩ = some sd) ∧ Below N w w1) (hb : Below w1.heap.size w1 w2) :
    (w2.cell? ⟨q, 0, none⟩ = some sa ∧ w2.cell? ⟨q, 1, none⟩ = some sb ∧ w2.cell? ⟨q, 2, none⟩ = some sc ∧ w2.cell? ⟨q, 3, none⟩ = some sd) ∧ Below N w w2 := by
  have hq := World.block_lt_of_cell? w1 _ h.1.1
  exact ⟨⟨(hb.cell (p := ⟨q, 0, none⟩) hq).trans h.1.1, (hb.cell (p := ⟨q, 1, none⟩) hq).trans h.1.2.1, (hb.cell (p := ⟨q, 2, none⟩) hq).trans h.1.2.2.1, (hb.cell (p := ⟨q, 3, none⟩) hq).trans h.1.2.2.2⟩, h.2.trans (hb.mono (Nat.le_trans hN h.2.size))⟩

theorem keepD {w w1 w2 : World} {N q n : Nat} {sa sb sc sd : Value} (hN : N ≤ w.heap.size) (h : (w1.cell? ⟨q, 0, none⟩ = some sa ∧ w1.cell? ⟨q, 1, none⟩ = some sb ∧ w1.cell? ⟨q, 2, none⟩ = some sc ∧ w1.cell? ⟨q, 3, none⟩ = some sd) ∧ Below N w w1) (hw : w2 = w1.drewN n) :
    (w2.cell? ⟨q, 0, none⟩ = some sa ∧ w2.cell? ⟨q, 1, none⟩ = some sb ∧ w2.cell? ⟨q, 2, none⟩ = some sc ∧ w2.cell? ⟨q, 3, none⟩ = some sd) ∧ Below N w w2 := by
  subst hw; exact keep4 hN h ⟨rfl, rfl, rfl, Nat.le_refl _, fun _ _ => rfl⟩

/-- What May is asked of a tree that is as it must be. -/
theorem may_facts {t : ST} (ha : t.Avl) (hr : t.Root) (hl : t.bits.length ≤ 2147483648) : 1 ≤ t.bits.length ∧ t.high ≤ 1000000000 ∧ min (leastP t.high).1 2147483648 ≤ t.leaves ∧ 1 ≤ t.leaves ∧ t.leaves ≤ t.bits.length / 32 + 1 ∧ t.size + 1 = 2 * t.leaves ∧ t.leaves ≤ 1000000000 := by
  have h1 := hr.pos
  have h2 := good_small hr hl
  have h3 := avl_leaves ha
  have h4 := t.leaves_pos
  have h5 := hr.len
  have h6 := t.size_leaves
  omega

set_option maxHeartbeats 3200000 in
set_option maxRecDepth 100000 in
theorem refMay_any {o : Option ST} (hg : Good o) (hl : (sbits o).length ≤ 2147483648) (w : World) :
    Calls Tryd.prog 26 #[shapeV o] w fun e w' => e = .returned (.bool true) ∧ Below w.heap.size w w' := by
  cases o with
  | none =>
    show Calls _ _ #[.agg #[.int .i64 0, .int .i64 0, .int .i64 0, .int .i64 0]] w _
    go_enter Tryd.func26, Tryd.ntmps26
    go_wp2_with fail
    go_ret
    exact ⟨rfl, (Below.refl _ _).alloc (Nat.le_refl _) _⟩
  | some t =>
    obtain ⟨f1, f2, f3, f4, f5, f6, f7⟩ := may_facts hg.1 hg.2 hl
    have hl' : t.bits.length ≤ 2147483648 := hl
    have HL := Lib.hid (fun w => refLeast_any t.high (by omega) w)
    have HF := Lib.hid (fun w => refFours_any t.bits.length (by omega) w)
    show Calls _ _ #[.agg #[.int .i64 t.bits.length, .int .i64 t.high, .int .i64 t.leaves, .int .i64 t.size]] w _
    clear hg hl
    generalize t.bits.length = n at *
    generalize t.high = h at *
    generalize t.leaves = m at *
    generalize t.size = z at *
    generalize min (leastP h).1 2147483648 = q at *
    generalize hg : n / 32 = g at *
    have d0 : ((n : Int) == 0) = false := by rw [beq_eq_false_iff_ne]; omega
    have d1 : decide ((0 : Int) < (n : Int)) = true := decide_eq_true (by omega)
    have d1n : decide (0 < n) = true := decide_eq_true (by omega)
    have d1p : 0 < n := by omega
    have d2 : decide ((0 : Int) ≤ (h : Int)) = true := decide_eq_true (by omega)
    have d3 : decide (q ≤ m) = true := decide_eq_true f3
    have d4 : decide ((1 : Int) ≤ (m : Int)) = true := decide_eq_true (by omega)
    have d4n : decide (1 ≤ m) = true := decide_eq_true (by omega)
    have d5 : decide ((m : Int) - 1 ≤ (g : Int)) = true := decide_eq_true (by omega)
    have d6 : ((z : Int) == 2 * (m : Int) - 1) = true := by rw [beq_iff_eq]; omega
    have d7 : IntKind.i64.wrap ((m : Int) - 1) = (m : Int) - 1 := IntWalk.i64_in _ (by omega)
    have d8 : IntKind.i64.wrap (2 * (m : Int)) = 2 * (m : Int) := IntWalk.i64_in _ (by omega)
    have d9 : IntKind.i64.wrap (2 * (m : Int) - 1) = 2 * (m : Int) - 1 := IntWalk.i64_in _ (by omega)
    clear hg f1 f2 f3 f4 f5 f6 f7 hl'
    go_enter Tryd.func26, Tryd.ntmps26
    go_wp2_with fail
    have HW : Hid (Below w.heap.size w ((w.alloc (.cells #[.int .i64 n, .int .i64 h, .int .i64 m, .int .i64 z] 36)))) := (Below.refl _ _).alloc (Nat.le_refl _) _
    have hq := heap_alloc_new w (.cells #[.int .i64 n, .int .i64 h, .int .i64 m, .int .i64 z] 36)
    have b0 := box4 hq
    generalize w.alloc (.cells #[.int .i64 n, .int .i64 h, .int .i64 m, .int .i64 z] 36) = wb at *
    have B0 : Hid ((wb.drew.cell? ⟨w.heap.size, 0, none⟩ = some (.int .i64 n) ∧ wb.drew.cell? ⟨w.heap.size, 1, none⟩ = some (.int .i64 h) ∧ wb.drew.cell? ⟨w.heap.size, 2, none⟩ = some (.int .i64 m) ∧ wb.drew.cell? ⟨w.heap.size, 3, none⟩ = some (.int .i64 z)) ∧ Below w.heap.size w wb.drew) := ⟨b0, below_drewW HW.out 1⟩
    clear hq b0 HW
    -- REGION may
    refine reg_start (fun w' => (w'.cell? ⟨w.heap.size, 0, none⟩ = some (.int .i64 n) ∧ w'.cell? ⟨w.heap.size, 1, none⟩ = some (.int .i64 h) ∧ w'.cell? ⟨w.heap.size, 2, none⟩ = some (.int .i64 m) ∧ w'.cell? ⟨w.heap.size, 3, none⟩ = some (.int .i64 z)) ∧ Below w.heap.size w w') (by kernel_rfl) (B0.out) (fun hHeld => ?_)
    refine reg_take (i := 0) (v := ?vmy0) rfl (by kernel_rfl) rfl hHeld ?ymy0 ?rmy0
    case ymy0 => (intro w hSw; (try dsimp only at hSw); go_simp; all_goals with_reducible rfl)
    try simp only [Act.put, List.setIfInBounds_toArray, List.set_cons_zero, List.set_cons_succ]
    refine reg_take (i := 1) (v := ?vmy1) rfl (by kernel_rfl) rfl hHeld ?ymy1 ?rmy1
    case ymy1 => (intro w hSw; (try dsimp only at hSw); go_simp; all_goals with_reducible rfl)
    try simp only [Act.put, List.setIfInBounds_toArray, List.set_cons_zero, List.set_cons_succ]
    refine reg_take (i := 2) (v := ?vmy2) rfl (by kernel_rfl) rfl hHeld ?ymy2 ?rmy2
    case ymy2 => (intro w hSw; (try dsimp only at hSw); go_simp; all_goals with_reducible rfl)
    try simp only [Act.put, List.setIfInBounds_toArray, List.set_cons_zero, List.set_cons_succ]
    refine reg_take (i := 3) (v := ?vmy3) rfl (by kernel_rfl) rfl hHeld ?ymy3 ?rmy3
    case ymy3 => (intro w hSw; (try dsimp only at hSw); go_simp; all_goals with_reducible rfl)
    try simp only [Act.put, List.setIfInBounds_toArray, List.set_cons_zero, List.set_cons_succ]
    refine reg_take (i := 4) (v := ?vmy4) rfl (by kernel_rfl) rfl hHeld ?ymy4 ?rmy4
    case ymy4 => (intro w hSw; (try dsimp only at hSw); go_simp; all_goals with_reducible rfl)
    try simp only [Act.put, List.setIfInBounds_toArray, List.set_cons_zero, List.set_cons_succ]
    refine reg_take (i := 5) (v := ?vmy5) rfl (by kernel_rfl) rfl hHeld ?ymy5 ?rmy5
    case ymy5 => (intro w hSw; (try dsimp only at hSw); go_simp; all_goals with_reducible rfl)
    try simp only [Act.put, List.setIfInBounds_toArray, List.set_cons_zero, List.set_cons_succ]
    refine reg_take (i := 6) (v := ?vmy6) rfl (by kernel_rfl) rfl hHeld ?ymy6 ?rmy6
    case ymy6 => (intro w hSw; (try dsimp only at hSw); go_simp; all_goals with_reducible rfl)
    try simp only [Act.put, List.setIfInBounds_toArray, List.set_cons_zero, List.set_cons_succ]
    refine reg_take (i := 7) (v := ?vmy7) rfl (by kernel_rfl) rfl hHeld ?ymy7 ?rmy7
    case ymy7 => (intro w hSw; (try dsimp only at hSw); go_simp; all_goals with_reducible rfl)
    try simp only [Act.put, List.setIfInBounds_toArray, List.set_cons_zero, List.set_cons_succ]
    refine reg_take (i := 8) (v := ?vmy8) rfl (by kernel_rfl) rfl hHeld ?ymy8 ?rmy8
    case ymy8 => (intro w hSw; (try dsimp only at hSw); go_simp; all_goals with_reducible rfl)
    try simp only [Act.put, List.setIfInBounds_toArray, List.set_cons_zero, List.set_cons_succ]
    refine reg_take (i := 9) (v := ?vmy9) rfl (by kernel_rfl) rfl hHeld ?ymy9 ?rmy9
    case ymy9 => (intro w hSw; (try dsimp only at hSw); go_simp; all_goals with_reducible rfl)
    try simp only [Act.put, List.setIfInBounds_toArray, List.set_cons_zero, List.set_cons_succ]
    refine reg_take (i := 10) (v := ?vmy10) rfl (by kernel_rfl) rfl hHeld ?ymy10 ?rmy10
    case ymy10 => (intro w hSw; (try dsimp only at hSw); go_simp; all_goals with_reducible rfl)
    try simp only [Act.put, List.setIfInBounds_toArray, List.set_cons_zero, List.set_cons_succ]
    refine reg_take (i := 11) (v := ?vmy11) rfl (by kernel_rfl) rfl hHeld ?ymy11 ?rmy11
    case ymy11 => (intro w hSw; (try dsimp only at hSw); go_simp; all_goals with_reducible rfl)
    try simp only [Act.put, List.setIfInBounds_toArray, List.set_cons_zero, List.set_cons_succ]
    refine reg_take (i := 12) (v := ?vmy12) rfl (by kernel_rfl) rfl hHeld ?ymy12 ?rmy12
    case ymy12 => (intro w hSw; (try dsimp only at hSw); go_simp; all_goals with_reducible rfl)
    try simp only [Act.put, List.setIfInBounds_toArray, List.set_cons_zero, List.set_cons_succ]
    refine reg_loud (i := 13) rfl (by kernel_rfl) rfl (fun K hK => ?_)
    go_simp
    ((refine (HL.out _).mono ?_))
    rintro e w2 ⟨rfl, n2, rfl⟩
    refine hK.out _ _ (keep4 (Nat.le_refl _) hHeld ⟨rfl, rfl, rfl, Nat.le_refl _, fun _ _ => rfl⟩) (fun hNew => ?_)
    clear hK K hHeld
    have hHeld := hNew
    clear hNew
    try simp only [Act.put, List.setIfInBounds_toArray, List.set_cons_zero, List.set_cons_succ]
    refine reg_take (i := 14) (v := ?vmy14) rfl (by kernel_rfl) rfl hHeld ?ymy14 ?rmy14
    case ymy14 => (intro w hSw; (try dsimp only at hSw); go_simp; all_goals with_reducible rfl)
    try simp only [Act.put, List.setIfInBounds_toArray, List.set_cons_zero, List.set_cons_succ]
    refine reg_take (i := 15) (v := ?vmy15) rfl (by kernel_rfl) rfl hHeld ?ymy15 ?rmy15
    case ymy15 => (intro w hSw; (try dsimp only at hSw); go_simp; all_goals with_reducible rfl)
    try simp only [Act.put, List.setIfInBounds_toArray, List.set_cons_zero, List.set_cons_succ]
    refine reg_take (i := 16) (v := ?vmy16) rfl (by kernel_rfl) rfl hHeld ?ymy16 ?rmy16
    case ymy16 => (intro w hSw; (try dsimp only at hSw); go_simp; all_goals with_reducible rfl)
    try simp only [Act.put, List.setIfInBounds_toArray, List.set_cons_zero, List.set_cons_succ]
    refine reg_take (i := 17) (v := ?vmy17) rfl (by kernel_rfl) rfl hHeld ?ymy17 ?rmy17
    case ymy17 => (intro w hSw; (try dsimp only at hSw); go_simp; all_goals with_reducible rfl)
    try simp only [Act.put, List.setIfInBounds_toArray, List.set_cons_zero, List.set_cons_succ]
    refine reg_take (i := 18) (v := ?vmy18) rfl (by kernel_rfl) rfl hHeld ?ymy18 ?rmy18
    case ymy18 => (intro w hSw; (try dsimp only at hSw); go_simp; all_goals with_reducible rfl)
    try simp only [Act.put, List.setIfInBounds_toArray, List.set_cons_zero, List.set_cons_succ]
    refine reg_take (i := 19) (v := ?vmy19) rfl (by kernel_rfl) rfl hHeld ?ymy19 ?rmy19
    case ymy19 => (intro w hSw; (try dsimp only at hSw); go_simp; all_goals with_reducible rfl)
    try simp only [Act.put, List.setIfInBounds_toArray, List.set_cons_zero, List.set_cons_succ]
    refine reg_take (i := 20) (v := ?vmy20) rfl (by kernel_rfl) rfl hHeld ?ymy20 ?rmy20
    case ymy20 => (intro w hSw; (try dsimp only at hSw); go_simp; all_goals with_reducible rfl)
    try simp only [Act.put, List.setIfInBounds_toArray, List.set_cons_zero, List.set_cons_succ]
    refine reg_take (i := 21) (v := ?vmy21) rfl (by kernel_rfl) rfl hHeld ?ymy21 ?rmy21
    case ymy21 => (intro w hSw; (try dsimp only at hSw); go_simp; all_goals with_reducible rfl)
    try simp only [Act.put, List.setIfInBounds_toArray, List.set_cons_zero, List.set_cons_succ]
    refine reg_take (i := 22) (v := ?vmy22) rfl (by kernel_rfl) rfl hHeld ?ymy22 ?rmy22
    case ymy22 => (intro w hSw; (try dsimp only at hSw); go_simp; all_goals with_reducible rfl)
    try simp only [Act.put, List.setIfInBounds_toArray, List.set_cons_zero, List.set_cons_succ]
    refine reg_take (i := 23) (v := ?vmy23) rfl (by kernel_rfl) rfl hHeld ?ymy23 ?rmy23
    case ymy23 => (intro w hSw; (try dsimp only at hSw); go_simp; all_goals with_reducible rfl)
    try simp only [Act.put, List.setIfInBounds_toArray, List.set_cons_zero, List.set_cons_succ]
    refine reg_take (i := 24) (v := ?vmy24) rfl (by kernel_rfl) rfl hHeld ?ymy24 ?rmy24
    case ymy24 => (intro w hSw; (try dsimp only at hSw); go_simp; all_goals with_reducible rfl)
    try simp only [Act.put, List.setIfInBounds_toArray, List.set_cons_zero, List.set_cons_succ]
    refine reg_take (i := 25) (v := ?vmy25) rfl (by kernel_rfl) rfl hHeld ?ymy25 ?rmy25
    case ymy25 => (intro w hSw; (try dsimp only at hSw); go_simp; all_goals with_reducible rfl)
    try simp only [Act.put, List.setIfInBounds_toArray, List.set_cons_zero, List.set_cons_succ]
    refine reg_take (i := 26) (v := ?vmy26) rfl (by kernel_rfl) rfl hHeld ?ymy26 ?rmy26
    case ymy26 => (intro w hSw; (try dsimp only at hSw); go_simp; all_goals with_reducible rfl)
    try simp only [Act.put, List.setIfInBounds_toArray, List.set_cons_zero, List.set_cons_succ]
    refine reg_loud (i := 27) rfl (by kernel_rfl) rfl (fun K hK => ?_)
    go_simp
    ((refine (HF.out _).mono ?_))
    rintro e w2 ⟨rfl, rfl⟩
    refine hK.out _ _ (keep4 (Nat.le_refl _) hHeld ⟨rfl, rfl, rfl, Nat.le_refl _, fun _ _ => rfl⟩) (fun hNew => ?_)
    clear hK K hHeld
    have hHeld := hNew
    clear hNew
    try simp only [Act.put, List.setIfInBounds_toArray, List.set_cons_zero, List.set_cons_succ]
    refine reg_take (i := 28) (v := ?vmy28) rfl (by kernel_rfl) rfl hHeld ?ymy28 ?rmy28
    case ymy28 => (intro w hSw; (try dsimp only at hSw); go_simp; all_goals with_reducible rfl)
    try simp only [Act.put, List.setIfInBounds_toArray, List.set_cons_zero, List.set_cons_succ]
    refine reg_take (i := 29) (v := ?vmy29) rfl (by kernel_rfl) rfl hHeld ?ymy29 ?rmy29
    case ymy29 => (intro w hSw; (try dsimp only at hSw); go_simp; all_goals with_reducible rfl)
    try simp only [Act.put, List.setIfInBounds_toArray, List.set_cons_zero, List.set_cons_succ]
    refine reg_take (i := 30) (v := ?vmy30) rfl (by kernel_rfl) rfl hHeld ?ymy30 ?rmy30
    case ymy30 => (intro w hSw; (try dsimp only at hSw); go_simp; all_goals with_reducible rfl)
    try simp only [Act.put, List.setIfInBounds_toArray, List.set_cons_zero, List.set_cons_succ]
    refine reg_take (i := 31) (v := ?vmy31) rfl (by kernel_rfl) rfl hHeld ?ymy31 ?rmy31
    case ymy31 => (intro w hSw; (try dsimp only at hSw); go_simp; all_goals with_reducible rfl)
    try simp only [Act.put, List.setIfInBounds_toArray, List.set_cons_zero, List.set_cons_succ]
    refine reg_take (i := 32) (v := ?vmy32) rfl (by kernel_rfl) rfl hHeld ?ymy32 ?rmy32
    case ymy32 => (intro w hSw; (try dsimp only at hSw); go_simp; all_goals with_reducible rfl)
    try simp only [Act.put, List.setIfInBounds_toArray, List.set_cons_zero, List.set_cons_succ]
    refine reg_take (i := 33) (v := ?vmy33) rfl (by kernel_rfl) rfl hHeld ?ymy33 ?rmy33
    case ymy33 => (intro w hSw; (try dsimp only at hSw); go_simp; all_goals with_reducible rfl)
    try simp only [Act.put, List.setIfInBounds_toArray, List.set_cons_zero, List.set_cons_succ]
    refine reg_take (i := 34) (v := ?vmy34) rfl (by kernel_rfl) rfl hHeld ?ymy34 ?rmy34
    case ymy34 => (intro w hSw; (try dsimp only at hSw); go_simp; all_goals with_reducible rfl)
    try simp only [Act.put, List.setIfInBounds_toArray, List.set_cons_zero, List.set_cons_succ]
    refine reg_take (i := 35) (v := ?vmy35) rfl (by kernel_rfl) rfl hHeld ?ymy35 ?rmy35
    case ymy35 => (intro w hSw; (try dsimp only at hSw); go_simp; all_goals with_reducible rfl)
    try simp only [Act.put, List.setIfInBounds_toArray, List.set_cons_zero, List.set_cons_succ]
    refine reg_take (i := 36) (v := ?vmy36) rfl (by kernel_rfl) rfl hHeld ?ymy36 ?rmy36
    case ymy36 => (intro w hSw; (try dsimp only at hSw); go_simp; all_goals with_reducible rfl)
    try simp only [Act.put, List.setIfInBounds_toArray, List.set_cons_zero, List.set_cons_succ]
    refine reg_take (i := 37) (v := ?vmy37) rfl (by kernel_rfl) rfl hHeld ?ymy37 ?rmy37
    case ymy37 => (intro w hSw; (try dsimp only at hSw); go_simp; all_goals with_reducible rfl)
    try simp only [Act.put, List.setIfInBounds_toArray, List.set_cons_zero, List.set_cons_succ]
    refine reg_take (i := 38) (v := ?vmy38) rfl (by kernel_rfl) rfl hHeld ?ymy38 ?rmy38
    case ymy38 => (intro w hSw; (try dsimp only at hSw); go_simp; all_goals with_reducible rfl)
    try simp only [Act.put, List.setIfInBounds_toArray, List.set_cons_zero, List.set_cons_succ]
    refine reg_take (i := 39) (v := ?vmy39) rfl (by kernel_rfl) rfl hHeld ?ymy39 ?rmy39
    case ymy39 => (intro w hSw; (try dsimp only at hSw); go_simp; all_goals with_reducible rfl)
    try simp only [Act.put, List.setIfInBounds_toArray, List.set_cons_zero, List.set_cons_succ]
    refine reg_done (by kernel_rfl) ?_ _
    -- END OF REGION may
    have HHD := Lib.hid hHeld.2
    clear hHeld
    go_wp2_with fail
    go_ret
    exact ⟨rfl, HHD.out⟩

/-- What a tree's height is, for Fine: the fourth cell of its Shape. -/
theorem shapeV_cells (o : Option ST) : ∃ (n h m z : Nat), shapeV o = .agg #[.int .i64 n, .int .i64 h, .int .i64 m, .int .i64 z] ∧ n = (sbits o).length ∧ h = shigh o ∧ z = sizeO o := by
  cases o with
  | none => exact ⟨0, 0, 0, 0, rfl, rfl, rfl, rfl⟩
  | some t => exact ⟨_, _, _, _, rfl, rfl, rfl, rfl⟩

set_option maxHeartbeats 6400000 in
set_option maxRecDepth 100000 in
theorem fine5_any {B : Nat} {X : Nat → Prop} {w : World} {p made : Nat} {o : Option ST} {v : Nat} (h : TreeE B X w p o made v) (b : Nat) (hb : b ≤ 1000000000) (hv : v ≤ 8 * (max (shigh o) b + 2)) :
    Calls Tryd.prog 29 #[.pointer (some ⟨p, 0, none⟩), .int .i64 (b : Int)] w fun e w' => e = .returned (.bool true) ∧ Below w.heap.size w w' := by
  have hp : p < w.heap.size := by obtain ⟨S, h1, _⟩ := h.t; exact h1.lt p h1.self
  have HSH := Lib.hid (shape_t h)
  have HMY : Hid (∀ w, Calls Tryd.prog 26 #[shapeV o] w fun e w' => e = .returned (.bool true) ∧ Below w.heap.size w w') := fun w => refMay_any h.good h.len w
  have hhi : shigh o ≤ 1000000000 := by
    cases o with
    | none => simp [shigh]
    | some t => have := good_small h.good.2 h.len; simp only [shigh]; omega
  have hlen := h.len
  have HT : Hid (∀ w', Below w.heap.size w w' → TreeE B X w' p o made v) := fun w' hb => h.below hb
  have HLE : Hid (∀ w', Below w.heap.size w w' → Calls Tryd.prog 24 #[.pointer (some ⟨p, 0, none⟩)] w' fun e w'' => e = .returned (.int .i64 (sbits o).length) ∧ ∃ n, w'' = w'.drewN n) := fun w' hb => len_t (h.below hb) rfl
  have HLI : Hid (∀ w', Below w.heap.size w w' → Calls Tryd.prog 33 #[.pointer (some ⟨p, 0, none⟩)] w' fun e w'' => e = .returned (.int .i64 (sizeO o)) ∧ ∃ n, w'' = w'.drewN n) := fun w' hb => live_t (h.below hb)
  have HVI : Hid (∀ w', Below w.heap.size w w' → Calls Tryd.prog 72 #[.pointer (some ⟨p, 0, none⟩)] w' fun e w'' => e = .returned (.int .i64 (v : Int)) ∧ w' = w'') := fun w' hb => visits_t (h.below hb)
  obtain ⟨n, ht, m, z, e0, e1, e2, e3⟩ := shapeV_cells o
  rw [← e1] at HLE
  rw [← e3] at HLI
  rw [← e2] at hv hhi
  rw [e0] at HSH HMY
  clear h e0 e1 e2 e3 HT hlen
  have q4 : decide ((0 : Int) ≤ (v : Int)) = true := decide_eq_true (by omega)
  have HQ : Hid (ht < b → IntKind.i64.wrap ((b : Int) + 2) = (b : Int) + 2 ∧ IntKind.i64.wrap (8 * ((b : Int) + 2)) = 8 * ((b : Int) + 2) ∧ decide ((v : Int) ≤ 8 * ((b : Int) + 2)) = true) :=
    fun h => ⟨IntWalk.i64_in _ (by omega), IntWalk.i64_in _ (by omega), decide_eq_true (by omega)⟩
  have HQ2 : Hid (¬ ht < b → IntKind.i64.wrap ((ht : Int) + 2) = (ht : Int) + 2 ∧ IntKind.i64.wrap (8 * ((ht : Int) + 2)) = 8 * ((ht : Int) + 2) ∧ decide ((v : Int) ≤ 8 * ((ht : Int) + 2)) = true) :=
    fun h => ⟨IntWalk.i64_in _ (by omega), IntWalk.i64_in _ (by omega), decide_eq_true (by omega)⟩
  clear hv hhi hb
  go_enter Tryd.func29, Tryd.ntmps29
  go_wp2_with fail
  refine HSH.out.mono ?_
  rintro e w1 ⟨rfl, hb1⟩
  have hs1 := hb1.size
  have HB1 := Lib.hid hb1
  have HS1 := Lib.hid hs1
  clear hb1 hs1 HSH
  go_wp2_with fail
  have hw := box4 (heap_alloc_new w1 (.cells #[.int .i64 n, .int .i64 ht, .int .i64 m, .int .i64 z] 36))
  have hbw := HB1.out.alloc HS1.out (.cells #[.int .i64 n, .int .i64 ht, .int .i64 m, .int .i64 z] 36)
  generalize w1.alloc (.cells #[.int .i64 n, .int .i64 ht, .int .i64 m, .int .i64 z] 36) = wb at *
  have B0 : Hid ((wb.drew.cell? ⟨w1.heap.size, 0, none⟩ = some (.int .i64 n) ∧ wb.drew.cell? ⟨w1.heap.size, 1, none⟩ = some (.int .i64 ht) ∧ wb.drew.cell? ⟨w1.heap.size, 2, none⟩ = some (.int .i64 m) ∧ wb.drew.cell? ⟨w1.heap.size, 3, none⟩ = some (.int .i64 z)) ∧ Below w.heap.size w wb.drew) := ⟨hw, below_drewW hbw 1⟩
  clear hw hbw
  -- REGION fine
  refine reg_start (fun w' => (w'.cell? ⟨w1.heap.size, 0, none⟩ = some (.int .i64 n) ∧ w'.cell? ⟨w1.heap.size, 1, none⟩ = some (.int .i64 ht) ∧ w'.cell? ⟨w1.heap.size, 2, none⟩ = some (.int .i64 m) ∧ w'.cell? ⟨w1.heap.size, 3, none⟩ = some (.int .i64 z)) ∧ Below w.heap.size w w') (by kernel_rfl) (B0.out) (fun hHeld => ?_)
  refine reg_take (i := 0) (v := ?vfi0) rfl (by kernel_rfl) rfl hHeld ?yfi0 ?rfi0
  case yfi0 => (intro w hSw; (try dsimp only at hSw); go_simp; all_goals with_reducible rfl)
  try simp only [Act.put, List.setIfInBounds_toArray, List.set_cons_zero, List.set_cons_succ]
  refine reg_loud (i := 1) rfl (by kernel_rfl) rfl (fun K hK => ?_)
  go_simp
  ((refine (HMY.out _).mono ?_))
  rintro e w2 ⟨rfl, hb2⟩
  refine hK.out _ _ (keep4 (Nat.le_refl _) hHeld hb2) (fun hNew => ?_)
  clear hK K hHeld
  have hHeld := hNew
  clear hNew
  try simp only [Act.put, List.setIfInBounds_toArray, List.set_cons_zero, List.set_cons_succ]
  refine reg_take (i := 2) (v := ?vfi2) rfl (by kernel_rfl) rfl hHeld ?yfi2 ?rfi2
  case yfi2 => (intro w hSw; (try dsimp only at hSw); go_simp; all_goals with_reducible rfl)
  try simp only [Act.put, List.setIfInBounds_toArray, List.set_cons_zero, List.set_cons_succ]
  refine reg_take (i := 3) (v := ?vfi3) rfl (by kernel_rfl) rfl hHeld ?yfi3 ?rfi3
  case yfi3 => (intro w hSw; (try dsimp only at hSw); go_simp; all_goals with_reducible rfl)
  try simp only [Act.put, List.setIfInBounds_toArray, List.set_cons_zero, List.set_cons_succ]
  refine reg_take (i := 4) (v := ?vfi4) rfl (by kernel_rfl) rfl hHeld ?yfi4 ?rfi4
  case yfi4 => (intro w hSw; (try dsimp only at hSw); go_simp; all_goals with_reducible rfl)
  try simp only [Act.put, List.setIfInBounds_toArray, List.set_cons_zero, List.set_cons_succ]
  refine reg_take (i := 5) (v := ?vfi5) rfl (by kernel_rfl) rfl hHeld ?yfi5 ?rfi5
  case yfi5 => (intro w hSw; (try dsimp only at hSw); go_simp; all_goals with_reducible rfl)
  try simp only [Act.put, List.setIfInBounds_toArray, List.set_cons_zero, List.set_cons_succ]
  refine reg_loud (i := 6) rfl (by kernel_rfl) rfl (fun K hK => ?_)
  go_simp
  ((refine (HLE.out _ hHeld.2).mono ?_))
  rintro e w3 ⟨rfl, n2, hw2⟩
  have HK := Lib.hid (keepD (Nat.le_refl _) hHeld hw2)
  clear hw2
  refine hK.out _ _ (HK.out) (fun hNew => ?_)
  clear hK K hHeld
  have hHeld := hNew
  clear hNew
  try simp only [Act.put, List.setIfInBounds_toArray, List.set_cons_zero, List.set_cons_succ]
  refine reg_take (i := 7) (v := ?vfi7) rfl (by kernel_rfl) rfl hHeld ?yfi7 ?rfi7
  case yfi7 => (intro w hSw; (try dsimp only at hSw); go_simp; all_goals with_reducible rfl)
  try simp only [Act.put, List.setIfInBounds_toArray, List.set_cons_zero, List.set_cons_succ]
  refine reg_take (i := 8) (v := ?vfi8) rfl (by kernel_rfl) rfl hHeld ?yfi8 ?rfi8
  case yfi8 => (intro w hSw; (try dsimp only at hSw); go_simp; all_goals with_reducible rfl)
  try simp only [Act.put, List.setIfInBounds_toArray, List.set_cons_zero, List.set_cons_succ]
  refine reg_take (i := 9) (v := ?vfi9) rfl (by kernel_rfl) rfl hHeld ?yfi9 ?rfi9
  case yfi9 => (intro w hSw; (try dsimp only at hSw); go_simp; all_goals with_reducible rfl)
  try simp only [Act.put, List.setIfInBounds_toArray, List.set_cons_zero, List.set_cons_succ]
  refine reg_take (i := 10) (v := ?vfi10) rfl (by kernel_rfl) rfl hHeld ?yfi10 ?rfi10
  case yfi10 => (intro w hSw; (try dsimp only at hSw); go_simp; all_goals with_reducible rfl)
  try simp only [Act.put, List.setIfInBounds_toArray, List.set_cons_zero, List.set_cons_succ]
  refine reg_take (i := 12) (v := ?vfi12) rfl (by kernel_rfl) rfl hHeld ?yfi12 ?rfi12
  case yfi12 => (intro w hSw; (try dsimp only at hSw); go_simp; all_goals with_reducible rfl)
  try simp only [Act.put, List.setIfInBounds_toArray, List.set_cons_zero, List.set_cons_succ]
  refine reg_take (i := 13) (v := ?vfi13) rfl (by kernel_rfl) rfl hHeld ?yfi13 ?rfi13
  case yfi13 => (intro w hSw; (try dsimp only at hSw); go_simp; all_goals with_reducible rfl)
  try simp only [Act.put, List.setIfInBounds_toArray, List.set_cons_zero, List.set_cons_succ]
  refine reg_loud (i := 11) rfl (by kernel_rfl) rfl (fun K hK => ?_)
  go_simp
  ((refine (HLI.out _ hHeld.2).mono ?_))
  rintro e w4 ⟨rfl, n2, hw2⟩
  have HK := Lib.hid (keepD (Nat.le_refl _) hHeld hw2)
  clear hw2
  refine hK.out _ _ (HK.out) (fun hNew => ?_)
  clear hK K hHeld
  have hHeld := hNew
  clear hNew
  try simp only [Act.put, List.setIfInBounds_toArray, List.set_cons_zero, List.set_cons_succ]
  refine reg_take (i := 14) (v := ?vfi14) rfl (by kernel_rfl) rfl hHeld ?yfi14 ?rfi14
  case yfi14 => (intro w hSw; (try dsimp only at hSw); go_simp; all_goals with_reducible rfl)
  try simp only [Act.put, List.setIfInBounds_toArray, List.set_cons_zero, List.set_cons_succ]
  refine reg_take (i := 15) (v := ?vfi15) rfl (by kernel_rfl) rfl hHeld ?yfi15 ?rfi15
  case yfi15 => (intro w hSw; (try dsimp only at hSw); go_simp; all_goals with_reducible rfl)
  try simp only [Act.put, List.setIfInBounds_toArray, List.set_cons_zero, List.set_cons_succ]
  refine reg_take (i := 16) (v := ?vfi16) rfl (by kernel_rfl) rfl hHeld ?yfi16 ?rfi16
  case yfi16 => (intro w hSw; (try dsimp only at hSw); go_simp; all_goals with_reducible rfl)
  try simp only [Act.put, List.setIfInBounds_toArray, List.set_cons_zero, List.set_cons_succ]
  refine reg_take (i := 17) (v := ?vfi17) rfl (by kernel_rfl) rfl hHeld ?yfi17 ?rfi17
  case yfi17 => (intro w hSw; (try dsimp only at hSw); go_simp; all_goals with_reducible rfl)
  try simp only [Act.put, List.setIfInBounds_toArray, List.set_cons_zero, List.set_cons_succ]
  refine reg_loud (i := 18) rfl (by kernel_rfl) rfl (fun K hK => ?_)
  go_simp
  ((refine (HVI.out _ hHeld.2).mono ?_))
  rintro e w5 ⟨rfl, rfl⟩
  refine hK.out _ _ (hHeld) (fun hNew => ?_)
  clear hK K hHeld
  have hHeld := hNew
  clear hNew
  try simp only [Act.put, List.setIfInBounds_toArray, List.set_cons_zero, List.set_cons_succ]
  refine reg_take (i := 19) (v := ?vfi19) rfl (by kernel_rfl) rfl hHeld ?yfi19 ?rfi19
  case yfi19 => (intro w hSw; (try dsimp only at hSw); go_simp; all_goals with_reducible rfl)
  try simp only [Act.put, List.setIfInBounds_toArray, List.set_cons_zero, List.set_cons_succ]
  refine reg_take (i := 20) (v := ?vfi20) rfl (by kernel_rfl) rfl hHeld ?yfi20 ?rfi20
  case yfi20 => (intro w hSw; (try dsimp only at hSw); go_simp; all_goals with_reducible rfl)
  try simp only [Act.put, List.setIfInBounds_toArray, List.set_cons_zero, List.set_cons_succ]
  refine reg_take (i := 21) (v := ?vfi21) rfl (by kernel_rfl) rfl hHeld ?yfi21 ?rfi21
  case yfi21 => (intro w hSw; (try dsimp only at hSw); go_simp; all_goals with_reducible rfl)
  try simp only [Act.put, List.setIfInBounds_toArray, List.set_cons_zero, List.set_cons_succ]
  refine reg_take (i := 22) (v := ?vfi22) rfl (by kernel_rfl) rfl hHeld ?yfi22 ?rfi22
  case yfi22 => (intro w hSw; (try dsimp only at hSw); go_simp; all_goals with_reducible rfl)
  try simp only [Act.put, List.setIfInBounds_toArray, List.set_cons_zero, List.set_cons_succ]
  refine reg_take (i := 24) (v := ?vfi24) rfl (by kernel_rfl) rfl hHeld ?yfi24 ?rfi24
  case yfi24 => (intro w hSw; (try dsimp only at hSw); go_simp; all_goals with_reducible rfl)
  try simp only [Act.put, List.setIfInBounds_toArray, List.set_cons_zero, List.set_cons_succ]
  refine reg_take (i := 25) (v := ?vfi25) rfl (by kernel_rfl) rfl hHeld ?yfi25 ?rfi25
  case yfi25 => (intro w hSw; (try dsimp only at hSw); go_simp; all_goals with_reducible rfl)
  try simp only [Act.put, List.setIfInBounds_toArray, List.set_cons_zero, List.set_cons_succ]
  refine reg_take (i := 26) (v := ?vfi26) rfl (by kernel_rfl) rfl hHeld ?yfi26 ?rfi26
  case yfi26 => (intro w hSw; (try dsimp only at hSw); go_simp; all_goals with_reducible rfl)
  try simp only [Act.put, List.setIfInBounds_toArray, List.set_cons_zero, List.set_cons_succ]
  refine reg_take (i := 27) (v := ?vfi27) rfl (by kernel_rfl) rfl hHeld ?yfi27 ?rfi27
  case yfi27 => (intro w hSw; (try dsimp only at hSw); go_simp; all_goals with_reducible rfl)
  try simp only [Act.put, List.setIfInBounds_toArray, List.set_cons_zero, List.set_cons_succ]
  refine reg_take (i := 28) (v := ?vfi28) rfl (by kernel_rfl) rfl hHeld ?yfi28 ?rfi28
  case yfi28 => (intro w hSw; (try dsimp only at hSw); go_simp; all_goals with_reducible rfl)
  try simp only [Act.put, List.setIfInBounds_toArray, List.set_cons_zero, List.set_cons_succ]
  refine reg_take (i := 29) (v := ?vfi29) rfl (by kernel_rfl) rfl hHeld ?yfi29 ?rfi29
  case yfi29 => (intro w hSw; (try dsimp only at hSw); go_simp; all_goals with_reducible rfl)
  try simp only [Act.put, List.setIfInBounds_toArray, List.set_cons_zero, List.set_cons_succ]
  refine reg_loud (i := 23) rfl (by kernel_rfl) rfl (fun K hK => ?_)
  go_simp
  ((refine (HVI.out _ hHeld.2).mono ?_))
  rintro e w5 ⟨rfl, rfl⟩
  refine hK.out _ _ (hHeld) (fun hNew => ?_)
  clear hK K hHeld
  have hHeld := hNew
  clear hNew
  try simp only [Act.put, List.setIfInBounds_toArray, List.set_cons_zero, List.set_cons_succ]
  refine reg_take (i := 30) (v := ?vfi30) rfl (by kernel_rfl) rfl hHeld ?yfi30 ?rfi30
  case yfi30 => (intro w hSw; (try dsimp only at hSw); go_simp; all_goals with_reducible rfl)
  try simp only [Act.put, List.setIfInBounds_toArray, List.set_cons_zero, List.set_cons_succ]
  refine reg_take (i := 31) (v := ?vfi31) rfl (by kernel_rfl) rfl hHeld ?yfi31 ?rfi31
  case yfi31 => (intro w hSw; (try dsimp only at hSw); go_simp; all_goals with_reducible rfl)
  try simp only [Act.put, List.setIfInBounds_toArray, List.set_cons_zero, List.set_cons_succ]
  refine reg_take (i := 32) (v := ?vfi32) rfl (by kernel_rfl) rfl hHeld ?yfi32 ?rfi32
  case yfi32 => (intro w hSw; (try dsimp only at hSw); go_simp; all_goals with_reducible rfl)
  try simp only [Act.put, List.setIfInBounds_toArray, List.set_cons_zero, List.set_cons_succ]
  refine reg_done (by kernel_rfl) ?_ _
  -- END OF REGION fine
  have HHD := Lib.hid hHeld.2
  clear hHeld
  by_cases hbt : ht < b
  · obtain ⟨q1, q2, q3⟩ := HQ.out hbt
    go_wp2_with fail
    go_ret
    exact ⟨rfl, HHD.out⟩
  · obtain ⟨q1, q2, q3⟩ := HQ2.out hbt
    go_wp2_with fail
    go_ret
    exact ⟨rfl, HHD.out⟩

/-- What the calls of 'same' go through: a tree and a row. -/
structure TR (B : Nat) (X : Nat → Prop) (w0 w : World) (p : Nat) (o : Option ST) (made : Nat) (a : Option Addr) (L : List Bool) : Prop where
  t : ∃ v : Int, TreeE B X w p o made v
  bits : sbits o = L
  r : ReadsV w a (L.map Value.bool)
  xa : ∀ ad, a = some ad → X ad.block
  tab : BitTab w
  tl : 0 < B
  chg : Chg (exT B X) w0 w
section
variable {B : Nat} {X : Nat → Prop} {w0 w w' : World} {p made : Nat} {o : Option ST} {a : Option Addr} {L : List Bool}
theorem TR.look (h : TR B X w0 w p o made a L) {m : Nat} (hl : ELook B X w w' p o made m) : TR B X w0 w' p o made a L := by
  obtain ⟨v0, h0⟩ := h.t
  obtain ⟨⟨v, _, h1⟩, hc⟩ := hl
  exact ⟨⟨v, h1⟩, h.bits, h.r.chg hc (fun ad ha hk => hk.2 (h.xa ad ha)), h.xa, h.tab.below (exT_below hc h0.le) h.tl, h.tl, h.chg.trans hc (fun b hb => Or.inl hb)⟩
theorem TR.drewN (h : TR B X w0 w p o made a L) (n : Nat) : TR B X w0 (w.drewN n) p o made a L := by
  obtain ⟨v0, h0⟩ := h.t
  exact ⟨⟨v0, h0.drewN n⟩, h.bits, h.r, h.xa, h.tab, h.tl, h.chg.drewN n⟩
theorem TR.rank (h : TR B X w0 w p o made a L) (k : Int) (x : Bool) :
    Calls Tryd.prog 20 #[.pointer (some ⟨p, 0, none⟩), .int .i64 k, .bool x] w fun e w' => e = .returned (.int .i64 (rankL L k.toNat x)) ∧ TR B X w0 w' p o made a L := by
  obtain ⟨v, h0⟩ := h.t
  refine (rank_t h0 h.bits k x rfl).mono ?_
  rintro e w' ⟨rfl, hl⟩
  exact ⟨rfl, h.look hl⟩
theorem TR.select (h : TR B X w0 w p o made a L) (k : Int) (x : Bool) :
    Calls Tryd.prog 21 #[.pointer (some ⟨p, 0, none⟩), .int .i64 k, .bool x] w fun e w' => e = .returned (.int .i64 (selL L k x)) ∧ TR B X w0 w' p o made a L := by
  obtain ⟨v, h0⟩ := h.t
  refine (select_t h0 h.tab h.tl h.bits k x rfl).mono ?_
  rintro e w' ⟨rfl, hl⟩
  exact ⟨rfl, h.look hl⟩
end

set_option maxHeartbeats 6400000 in
set_option maxRecDepth 100000 in
theorem same5_any {B : Nat} {X : Nat → Prop} {w : World} {p made : Nat} {o : Option ST} {a : Option Addr} {L : List Bool} (h : TR B X w w p o made a L) (c : Nat) (k : Int) (hl : L.length ≤ 1000000) :
    Calls Tryd.prog 38 #[.pointer (some ⟨p, 0, none⟩), .slice a L.length c, .int .i64 k] w fun e w' => e = .returned (.bool true) ∧ TR B X w w' p o made a L := by
  have hrk : rankL L ((L.length : Int)).toNat true = L.count true := by rw [Int.toNat_natCast, rankL_over true (Nat.le_refl _)]
  have HRK := Lib.hid hrk
  have hcl := List.count_le_length (a := true) (l := L)
  have G1 : Hid (∃ (x : Bool) (y : Int), (Calls Tryd.prog 19 #[.pointer (some ⟨p, 0, none⟩), .int .i64 k] w fun e w'' => e = .returned (.tuple #[.bool x, .int .i64 y]) ∧ TR B X w w'' p o made a L) ∧
      (∀ w', ReadsV w' a (L.map Value.bool) → Calls Tryd.prog 36 #[.slice a L.length c, .int .i64 k] w' fun e w'' => e = .returned (.tuple #[.bool x, .int .i64 y]) ∧ w' = w'')) := by
    obtain ⟨v, h0⟩ := h.t
    by_cases hin : 0 ≤ k ∧ k < L.length
    · obtain ⟨n, rfl⟩ := Int.eq_ofNat_of_zero_le hin.1
      refine ⟨bitAt L n, 0, (get_t h0 h.bits n rfl (by omega) rfl).mono ?_, fun w' h => refGets a c L n w' h (by omega)⟩
      rintro e w' ⟨rfl, hk⟩
      exact ⟨rfl, h.look hk⟩
    · refine ⟨false, 2, (get_tBad h0 h.bits k (by omega)).mono ?_, fun w' _ => refGets_bad a L.length c k w' (by omega)⟩
      rintro e w' ⟨rfl, hk⟩
      exact ⟨rfl, h.look hk⟩
  obtain ⟨x, y, g1, g2⟩ := G1.out
  have GA := Lib.hid g1
  have GB := Lib.hid g2
  clear g1 g2 G1 hrk h
  go_enter Tryd.func38, Tryd.ntmps38
  go_wp2_with fail
  refine GA.out.mono ?_
  rintro e w1 ⟨rfl, h1⟩
  have H1 := Lib.hid h1
  clear h1 GA
  go_wp2_with fail
  refine (GB.out w1 H1.out.r).mono ?_
  rintro e w' ⟨rfl, rfl⟩
  clear GB
  go_wp2_with fail
  obtain ⟨v1, t1⟩ := H1.out.t
  refine (len_t t1 H1.out.bits).mono ?_
  clear t1
  rintro e w' ⟨rfl, n, rfl⟩
  have H2 := Lib.hid (H1.out.drewN n)
  generalize w1.drewN n = w2 at *
  clear H1
  go_wp2_with fail
  obtain ⟨v2, t2⟩ := H2.out.t
  refine (ones_t t2 H2.out.bits).mono ?_
  clear t2
  rintro e w' ⟨rfl, n2, rfl⟩
  have H3 := Lib.hid (H2.out.drewN n2)
  generalize w2.drewN n2 = w3 at *
  clear H2
  go_wp2_with fail
  refine (refRanks_any a c L L.length true _ H3.out.r hl).mono ?_
  rintro e w' ⟨rfl, rfl⟩
  rw [HRK.out]
  have hyy : (y == y) = true := by simp
  cases x
  all_goals
    go_wp2_with fail
    refine (H3.out.rank k true).mono ?_
    rintro e w4 ⟨rfl, h4⟩
    have H4 := Lib.hid h4
    clear h4 H3
    go_wp2_with fail
    refine (refRanks_any a c L k true _ H4.out.r hl).mono ?_
    rintro e w' ⟨rfl, rfl⟩
    go_wp2_with fail
    refine (H4.out.rank k false).mono ?_
    rintro e w5 ⟨rfl, h5⟩
    have H5 := Lib.hid h5
    clear h5 H4
    go_wp2_with fail
    refine (refRanks_any a c L k false _ H5.out.r hl).mono ?_
    rintro e w' ⟨rfl, rfl⟩
    go_wp2_with fail
    refine (H5.out.select k true).mono ?_
    rintro e w6 ⟨rfl, h6⟩
    have H6 := Lib.hid h6
    clear h6 H5
    go_wp2_with fail
    refine (refSelects_any a c L k true _ H6.out.r hl).mono ?_
    rintro e w' ⟨rfl, rfl⟩
    go_wp2_with fail
    refine (H6.out.select k false).mono ?_
    rintro e w7 ⟨rfl, h7⟩
    have H7 := Lib.hid h7
    clear h7 H6
    go_wp2_with fail
    refine (refSelects_any a c L k false _ H7.out.r hl).mono ?_
    rintro e w' ⟨rfl, rfl⟩
    go_wp2_with fail
    go_ret
    exact ⟨rfl, H7.out⟩

end Go.Proofs.YtcppgpjodfeigaaDoor

namespace Go.Proofs.YtcppgpjodfeigaaDoor
set_option linter.unusedVariables false
set_option linter.unusedSimpArgs false
open Go.RowKit

theorem out_in {l : List Bool} {k : Nat} {b : Bool} (h : k ≤ l.length) : outL (inL l k b) k = l := by
  apply List.ext_getElem?
  intro i
  have h2 : k < (inL l k b).length := by rw [inL_len h]; omega
  rw [outL_get h2, inL_get h, inL_get h]
  by_cases h3 : i < k
  · rw [if_pos h3, if_pos h3]
  · rw [if_neg h3, if_neg (by omega), if_neg (by omega)]; simp
theorem bitAt_in_self {l : List Bool} {k : Nat} {b : Bool} (h : k ≤ l.length) : bitAt (inL l k b) k = b := by rw [bitAt_in h, if_neg (by omega), if_pos rfl]
/-- A tree of a few bits is one leaf. -/
theorem small_leaf {o : Option ST} {L : List Bool} (hg : Good o) (hb : sbits o = L) (h0 : 0 < L.length) (h1 : L.length < 64) : o = some (.leaf L) := by
  cases o with
  | none => subst hb; simp [sbits] at h0
  | some t =>
    cases t with
    | leaf l => simp [sbits, ST.bits] at hb; rw [hb]
    | pair a b =>
      have hf : (ST.pair a b).Fill := hg.2
      have h2 := hf.len
      have h3 : (ST.pair a b).bits = L := hb
      have h4 := a.leaves_pos
      have h5 := b.leaves_pos
      simp only [ST.leaves] at h2
      rw [h3] at h2
      omega
theorem none_of {o : Option ST} (hg : Good o) (hb : sbits o = []) : o = none := by
  cases o with
  | none => rfl
  | some t =>
    have := hg.2.pos
    have h3 : t.bits = [] := hb
    rw [h3] at this
    simp at this

theorem exT_keep {B : Nat} {X : Nat → Prop} {w w' : World} {a : Option Addr} {xs : List Value} (hr : ReadsV w a xs) (hc : Chg (exT B X) w w') (hX : ∀ ad, a = some ad → X ad.block) : ReadsV w' a xs :=
  hr.chg hc (fun ad h hk => hk.2 (hX ad h))

theorem tabB {B : Nat} {X : Nat → Prop} {w w' : World} (h : BitTab w) (hc : Chg (exT B X) w w') (hB : B ≤ w.heap.size) (hl : 0 < B) : BitTab w' := h.below (exT_below hc hB) hl

set_option maxHeartbeats 3200000 in
set_option maxRecDepth 100000 in
theorem told5_any (w : World) (hT : BitTab w) : Calls Tryd.prog 22 #[] w fun e w' => e = .returned (.bool true) ∧ Below w.heap.size w w' := by
  have HT := Lib.hid hT
  have HTL := Lib.hid hT.lt
  clear hT
  go_enter Tryd.func22, Tryd.ntmps22
  go_wp2_with fail
  refine (new_t (B := w.heap.size) (X := fun _ => False) [true, false] rfl (by exact readsV_block (xs := [.bool true, .bool false]) (heap_alloc_new w _)) (by decide) (by decide) (by simp) (fun k hk => hk.elim)).mono ?_
  rintro e w1 ⟨p, o, rfl, ht, hbits, hb0⟩
  have HO : Hid (sbits o = [true, false]) := hbits
  have HB1 := Lib.hid ((below_alloc w (.cells #[.bool true, .bool false] 4)).trans (hb0.mono (by simp)))
  have HT1 := Lib.hid ht
  clear ht hbits hb0
  go_wp2_with fail
  refine (insert_t HT1.out HO.out 1 rfl (by decide) (by decide) true).mono ?_
  rintro e w2 ⟨rfl, made2, ⟨v2, _, ht2⟩, hc2⟩
  have HO2 : Hid (sbits (insO o 1 true) = [true, true, false]) := by show _ = _; rw [insO_bits (by rw [HO.out]; decide), HO.out]; rfl
  have HB2 := Lib.hid (HB1.out.trans (exT_below hc2 HT1.out.le))
  have HT2 := Lib.hid ht2
  clear ht2 hc2 HO HB1 HT1
  generalize insO o 1 true = o2 at *
  go_wp2_with fail
  refine (insert_tBad HT2.out HO2.out 9 true (Or.inr (by decide))).mono ?_
  rintro e w3 ⟨rfl, ⟨v3, _, ht3⟩, hc3⟩
  have HB3 := Lib.hid (HB2.out.trans (exT_below hc3 HT2.out.le))
  have HT3 := Lib.hid ht3
  clear ht3 hc3 HB2 HT2
  go_wp2_with fail
  refine (delete_t HT3.out HO2.out 0 rfl (by decide) (x := true) rfl).mono ?_
  rintro e w4 ⟨rfl, ⟨v4, _, ht4⟩, hc4⟩
  have HO4 : Hid (sbits (delO o2 0) = [true, false]) := by show _ = _; rw [delO_bits (by rw [HO2.out]; decide), HO2.out]; rfl
  have HB4 := Lib.hid (HB3.out.trans (exT_below hc4 HT3.out.le))
  have HT4 := Lib.hid ht4
  clear ht4 hc4 HB3 HT3 HO2
  generalize delO o2 0 = o4 at *
  go_wp2_with fail
  refine (get_tBad HT4.out HO4.out 2 (Or.inr (by decide))).mono ?_
  rintro e w5 ⟨rfl, ⟨v5, _, ht5⟩, hc5⟩
  have HB5 := Lib.hid (HB4.out.trans (exT_below hc5 HT4.out.le))
  have HT5 := Lib.hid ht5
  clear ht5 hc5 HB4 HT4
  obtain rfl := small_leaf HT5.out.good HO4.out (by decide) (by decide)
  go_wp2_with fail
  refine (new_t (B := w5.heap.size) (X := fun _ => False) (w := w5) (a := none) (c := 0) [] rfl ReadsV.nil (Nat.le_refl _) (by decide) (Nat.le_refl _) (fun k hk => hk.elim)).mono ?_
  rintro e w6 ⟨q, on, rfl, hn, hbn, hb6⟩
  obtain rfl := none_of hn.good hbn
  obtain ⟨Sn, hn1, hsn⟩ := hn.t
  have ht6 := HT5.out.less hb6 (Y := Sn) (fun k hk => Or.inr (hsn k hk).1) hn1.lt
  have HB6 := Lib.hid (HB5.out.trans (hb6.mono HB5.out.size))
  have HN6 := Lib.hid hn1
  have HT6 := Lib.hid ht6
  clear hn hn1 hsn ht6 hb6 hbn HB5 HT5
  go_wp2_with fail
  refine (len_t HT6.out HO4.out).mono ?_
  rintro e w' ⟨rfl, n1, rfl⟩
  have HB7 := Lib.hid (below_drewW HB6.out n1)
  have HN7 := Lib.hid (HN6.out.drewN n1)
  have HT7 := Lib.hid (HT6.out.drewN n1)
  generalize w6.drewN n1 = w7 at *
  clear HB6 HN6 HT6
  go_wp2_with fail
  refine (ones_t HT7.out HO4.out).mono ?_
  rintro e w' ⟨rfl, n1, rfl⟩
  have HB8 := Lib.hid (below_drewW HB7.out n1)
  have HN8 := Lib.hid (HN7.out.drewN n1)
  have HT8 := Lib.hid (HT7.out.drewN n1)
  generalize w7.drewN n1 = w8 at *
  clear HB7 HN7 HT7
  have c1 : (([true, false] : List Bool).count true : Int) = 1 := by decide
  go_wp2_with fail
  refine (rank_t HT8.out HO4.out 2 false (r := 1) (by decide)).mono ?_
  rintro e w9 ⟨rfl, ⟨v9, _, ht9⟩, hc9⟩
  have HB9 := Lib.hid (HB8.out.trans (exT_below hc9 HT8.out.le))
  have HN9 := Lib.hid (HN8.out.chg hc9 (fun k hk h => h.2 hk))
  have HT9 := Lib.hid ht9
  clear ht9 hc9 HB8 HN8 HT8
  go_wp2_with fail
  refine (select_t HT9.out (HT.out.below' HB9.out) HTL.out HO4.out 0 false (r := 1) (by decide)).mono ?_
  rintro e w10 ⟨rfl, ⟨v10, _, ht10⟩, hc10⟩
  have HB10 := Lib.hid (HB9.out.trans (exT_below hc10 HT9.out.le))
  have HN10 := Lib.hid (HN9.out.chg hc10 (fun k hk h => h.2 hk))
  have HT10 := Lib.hid ht10
  clear ht10 hc10 HB9 HN9 HT9 c1
  go_wp2_with fail
  refine (shape_t HT10.out).mono ?_
  rintro e w11 ⟨rfl, hb11⟩
  have HB11 := Lib.hid (HB10.out.trans (hb11.mono HB10.out.size))
  have HN11 := Lib.hid (HN10.out.below hb11)
  have HT11 := Lib.hid (HT10.out.below hb11)
  clear hb11 HB10 HN10 HT10
  rw [show shapeV (some (ST.leaf [true, false])) = .agg #[.int .i64 2, .int .i64 0, .int .i64 1, .int .i64 1] from rfl]
  go_wp2_with fail
  refine (live_t HT11.out).mono ?_
  rintro e w' ⟨rfl, n1, rfl⟩
  have HB12 := Lib.hid (below_drewW HB11.out n1)
  have HN12 := Lib.hid (HN11.out.drewN n1)
  generalize w11.drewN n1 = w12 at *
  clear HB11 HN11 HT11
  rw [show ((sizeO (some (ST.leaf [true, false])) : Nat) : Int) = 1 from rfl]
  go_wp2_with fail
  refine (tShape_is HN12.out).mono ?_
  rintro e w13 ⟨rfl, hb13⟩
  have HB13 := Lib.hid (HB12.out.trans (hb13.mono HB12.out.size))
  clear hb13 HB12 HN12
  rw [show shapeV none = .agg #[.int .i64 0, .int .i64 0, .int .i64 0, .int .i64 0] from rfl]
  go_wp2_with (first
    | (go_at_call 25; refine (tInsert_nil _ _ _).mono ?_; rintro e w' ⟨rfl, rfl⟩)
    | (go_at_call 20; refine (tRank_nil _ _ _).mono ?_; rintro e w' ⟨rfl, rfl⟩)
    | (go_at_call 21; refine (tSelect_nil _ _ _).mono ?_; rintro e w' ⟨rfl, rfl⟩))
  go_ret
  exact ⟨rfl, HB13.out⟩

end Go.Proofs.YtcppgpjodfeigaaDoor

namespace Go.Proofs.YtcppgpjodfeigaaDoor
set_option linter.unusedVariables false
set_option linter.unusedSimpArgs false
open Go.RowKit

section
variable {B : Nat} {X : Nat → Prop} {w0 w w' : World} {p made : Nat} {o : Option ST} {a : Option Addr} {L : List Bool}
theorem TR.le (h : TR B X w0 w p o made a L) : B ≤ w.heap.size := by obtain ⟨v, h0⟩ := h.t; exact h0.le
theorem TR.chgS (h : TR B X w0 w p o made a L) {S : Nat → Prop} (hc : Chg S w w') (hS : ∀ k, S k → k < w.heap.size → X k) (hr : ReadsV w' a (L.map Value.bool)) (ht : BitTab w') (hc0 : Chg (exT B X) w' w') (w1 : World) (hw : w1 = w') : TR B X w1 w' p o made a L := by
  obtain ⟨v0, h0⟩ := h.t
  subst hw
  exact ⟨⟨v0, h0.chg hc (fun k hk hl hs => hk.2 (hS k hs hl))⟩, h.bits, hr, h.xa, ht, h.tl, Chg.refl⟩
theorem TR.below (h : TR B X w0 w p o made a L) (hb : Below w.heap.size w w') : TR B X w0 w' p o made a L := by
  obtain ⟨v0, h0⟩ := h.t
  exact ⟨⟨v0, h0.below hb⟩, h.bits, h.r.below' hb, h.xa, h.tab.below' hb, h.tl, h.chg.trans (Chg.of_below (S := exT B X) hb) (fun b hb => Or.inl hb)⟩
theorem TR.get (h : TR B X w0 w p o made a L) (n : Nat) {k : Int} (hk : k = (n : Int)) (hn : n < L.length) {x : Bool} (hx : bitAt L n = x) :
    Calls Tryd.prog 19 #[.pointer (some ⟨p, 0, none⟩), .int .i64 k] w fun e w' => e = .returned (.tuple #[.bool x, .int .i64 0]) ∧ TR B X w0 w' p o made a L := by
  obtain ⟨v, h0⟩ := h.t
  refine (get_t h0 h.bits n hk hn hx).mono ?_
  rintro e w' ⟨rfl, hl⟩
  exact ⟨rfl, h.look hl⟩
theorem TR.rankE (h : TR B X w0 w p o made a L) (n : Nat) {k : Int} (hk : k = (n : Int)) (x : Bool) {r : Nat} (hr : rankL L n x = r) :
    Calls Tryd.prog 20 #[.pointer (some ⟨p, 0, none⟩), .int .i64 k, .bool x] w fun e w' => e = .returned (.int .i64 r) ∧ TR B X w0 w' p o made a L := by
  subst hk; subst hr
  have := h.rank (n : Int) x
  rwa [Int.toNat_natCast] at this
theorem TR.selE (h : TR B X w0 w p o made a L) (k : Int) (x : Bool) {r : Int} (hr : selL L k x = r) :
    Calls Tryd.prog 21 #[.pointer (some ⟨p, 0, none⟩), .int .i64 k, .bool x] w fun e w' => e = .returned (.int .i64 r) ∧ TR B X w0 w' p o made a L := by
  subst hr; exact h.select k x
theorem TR.ones (h : TR B X w0 w p o made a L) {r : Nat} (hr : L.count true = r) :
    Calls Tryd.prog 23 #[.pointer (some ⟨p, 0, none⟩)] w fun e w' => e = .returned (.int .i64 r) ∧ TR B X w0 w' p o made a L := by
  subst hr
  obtain ⟨v, h0⟩ := h.t
  refine (ones_t h0 h.bits).mono ?_
  rintro e w' ⟨rfl, n, rfl⟩
  exact ⟨rfl, h.drewN n⟩
theorem TR.len (h : TR B X w0 w p o made a L) {r : Nat} (hr : L.length = r) :
    Calls Tryd.prog 24 #[.pointer (some ⟨p, 0, none⟩)] w fun e w' => e = .returned (.int .i64 r) ∧ TR B X w0 w' p o made a L := by
  subst hr
  obtain ⟨v, h0⟩ := h.t
  refine (len_t h0 h.bits).mono ?_
  rintro e w' ⟨rfl, n, rfl⟩
  exact ⟨rfl, h.drewN n⟩
theorem TR.told (h : TR B X w0 w p o made a L) :
    Calls Tryd.prog 22 #[] w fun e w' => e = .returned (.bool true) ∧ TR B X w0 w' p o made a L := by
  refine (told5_any w h.tab).mono ?_
  rintro e w' ⟨rfl, hb⟩
  exact ⟨rfl, h.below hb⟩
theorem TR.done (h : TR B X w0 w p o made a L) {w00 : World} (hb : Below B w00 w0) (hB : B ≤ w0.heap.size) : Below B w00 w := hb.trans (exT_below h.chg hB)
end

end Go.Proofs.YtcppgpjodfeigaaDoor

namespace Go.Proofs.YtcppgpjodfeigaaDoor

def laidTab : List (String × DataW Unit) := [("math/bits.deBruijn64tab", Rows.laid_math_bits_deBruijn64tab)]
theorem tab_data : (Rows.laid_math_bits_deBruijn64tab : DataW Unit) = Lib.tabData .u8 (Lib.deBruijn64tab.map Int.ofNat) := rfl
theorem bitTab_of {W : World} (hL : laidMetH Tryd.prog laidTab W) : BitTab W := by
  rw [MakeChecks.laidMetH_plain _ _ _ (by kernel_rfl)] at hL
  have hL' : laidMet Tryd.prog [("math/bits.deBruijn64tab", Lib.tabData .u8 (Lib.deBruijn64tab.map Int.ofNat))] W := by rw [← tab_data]; exact hL
  have hg : Tryd.prog.globalNamed "math/bits.deBruijn64tab" = some 0 := by kernel_rfl
  have hT := Lib.tabIs_of_head hg (t := 128) (by kernel_rfl) Tryd.underlying128 Tryd.underlying5 (by kernel_rfl) (by kernel_rfl) hL'
  intro j hj
  rw [hT.cell hg j (by simpa using hj)]
  simp [List.getD_eq_getElem?_getD, List.getElem?_eq_getElem hj]

end Go.Proofs.YtcppgpjodfeigaaDoor

namespace Go.Proofs.YtcppgpjodfeigaaDoor
open Go.ChangeShapes Go.WideShapes Go.ChangeAt Go.RowKit

/-- A row of such structs that came in. -/
structure ArgO (w : World) (a : Option Addr) (cap : Nat) (xs : List (Int × Int × Bool)) : Prop where
  reads : ∀ i, i < xs.length → ∃ b off, a = some ⟨b, off, none⟩ ∧ b < w.heap.size ∧ ∀ j, j < xs.length →
    w.cell? ⟨b, off + j * 3, none⟩ = some (.int .i64 (xs[j]?.getD default).1) ∧ w.cell? ⟨b, off + j * 3 + 1, none⟩ = some (.int .i64 (xs[j]?.getD default).2.1) ∧ w.cell? ⟨b, off + j * 3 + 2, none⟩ = some (.bool (xs[j]?.getD default).2.2)
  wf : ∀ i, i < xs.length → (Lit.int .i64 (xs[i]?.getD default).2.1).wf = true
  le : xs.length ≤ cap
  max : cap ≤ maxLen

variable {H : Type} {enc : TypeId × Value → H} {P : Program} {w : World} {base : Nat} {sp : Nat → Bool} {held : Bool}

theorem trod_int_wf {t : TypeId} {k : IntKind} {fuel : Nat} {v : Value} {x : DataW H × List MemPlace} (ht : P.underlying t = some (.int k)) (hf : DataW.trod enc P w base sp held fuel t [v] = some x) : ∃ n, v = .int k n ∧ (Lit.int k n).wf = true := by
  cases fuel with
  | zero => simp [DataW.trod] at hf
  | succ fuel =>
    cases v <;> simp [DataW.trod, ht] at hf
    rename_i k' n
    obtain ⟨⟨rfl, h⟩, _⟩ := hf
    exact ⟨n, rfl, h⟩
theorem trod_bool_v {t : TypeId} {fuel : Nat} {v : Value} {x : DataW H × List MemPlace} (ht : P.underlying t = some .bool) (hf : DataW.trod enc P w base sp held fuel t [v] = some x) : ∃ b, v = .bool b := by
  cases fuel with
  | zero => simp [DataW.trod] at hf
  | succ fuel =>
    cases v <;> simp [DataW.trod, ht] at hf
    exact ⟨_, rfl⟩

theorem argO_of {t e : TypeId} {f0 f1 f2 : Field} {fuel : Nat} {a : Option Addr} {len cap : Nat} {x : DataW H × List MemPlace} (ht : P.underlying t = some (.slice e)) (he : P.underlying e = some (.struct #[f0, f1, f2]))
    (ce : P.cellsOf e = 3) (o0 : f0.offset = 0) (o1 : f1.offset = 1) (o2 : f2.offset = 2) (c0 : P.cellsOf f0.type = 1) (c1 : P.cellsOf f1.type = 1) (c2 : P.cellsOf f2.type = 1)
    (i0 : P.underlying f0.type = some (.int .i64)) (i1 : P.underlying f1.type = some (.int .i64)) (i2 : P.underlying f2.type = some .bool)
    (hf : DataW.trod enc P w base sp held fuel t (Value.slice a len cap).cells.toList = some x) : ∃ xs : List (Int × Int × Bool), len = xs.length ∧ ArgO w a cap xs := by
  rcases Go.Deep.open_slice ht hf with ⟨hcs, _⟩ | ⟨x, l, c, m, n, D, Pl, hcs, _, hl, hm, hmm, _, hx⟩
  · simp [Value.cells] at hcs
    obtain ⟨rfl, rfl, rfl⟩ := hcs
    exact ⟨[], rfl, ⟨fun i hi => absurd hi (by simp), fun i hi => absurd hi (by simp), by simp, by unfold maxLen; omega⟩⟩
  · simp [Value.cells] at hcs
    obtain ⟨rfl, rfl, rfl⟩ := hcs
    have hlm : len ≤ m := by rw [hmm]; split <;> omega
    have hz : ∀ i, i < m → ∃ z : Int × Int × Bool, w.cell? (x.add (i * 3)) = some (.int .i64 z.1) ∧ w.cell? (x.add (i * 3 + 1)) = some (.int .i64 z.2.1) ∧ w.cell? (x.add (i * 3 + 2)) = some (.bool z.2.2) ∧ (Lit.int .i64 z.2.1).wf = true := fun i hi => by
      obtain ⟨cs', h1, h2⟩ := hx i hi
      rw [ce] at h1
      obtain ⟨_, hlen, hcell⟩ := World.cells?_some h1
      obtain ⟨xs, k, hk, hxy, _, hxl, hfs⟩ := DataW.trod_struct he h2
      match xs, hxl, cs', hlen with
      | [y0, y1, y2], _, [v0, v1, v2], _ =>
        have g0 := hfs 0 f0 rfl
        have g1 := hfs 1 f1 rfl
        have g2 := hfs 2 f2 rfl
        simp [o0, o1, o2, c0, c1, c2] at g0 g1 g2
        have e0 := hcell 0 (by omega)
        have e1 := hcell 1 (by omega)
        have e2 := hcell 2 (by omega)
        rw [Go.Deep.add_add] at e0 e1 e2
        obtain ⟨n0, rfl, _⟩ := trod_int_wf i0 g0
        obtain ⟨n1, rfl, hw⟩ := trod_int_wf i1 g1
        obtain ⟨b2, rfl⟩ := trod_bool_v i2 g2
        exact ⟨(n0, n1, b2), by simpa using e0, by simpa using e1, by simpa using e2, hw⟩
    obtain ⟨z, hzz⟩ := Go.Deep.choose_lt hz
    have hlen : ((List.range len).map z).length = len := by simp
    have hget : ∀ j, j < len → ((List.range len).map z)[j]?.getD default = z j := fun j hj => by simp [hj]
    refine ⟨(List.range len).map z, hlen.symm, ⟨fun i hi => ?_, fun i hi => ?_, by rw [hlen]; exact hl, hm⟩⟩
    · rw [hlen] at hi ⊢
      obtain ⟨b, off, spot⟩ := x
      have h0 := (hzz 0 (by omega)).1
      have hspot : spot = none := by simpa [Addr.add] using World.cell?_spot h0
      subst hspot
      refine ⟨b, off, rfl, World.block_lt_of_cell? w _ (by simpa [Addr.add] using h0), fun j hj => ?_⟩
      obtain ⟨g0, g1, g2, _⟩ := hzz j (by omega)
      rw [Addr.add_lit] at g0 g1 g2
      rw [hget j hj]
      exact ⟨g0, g1, g2⟩
    · rw [hlen] at hi
      rw [hget i hi]
      exact (hzz i (by omega)).2.2.2

end Go.Proofs.YtcppgpjodfeigaaDoor

namespace Go.Proofs.YtcppgpjodfeigaaDoor
set_option linter.unusedVariables false
set_option linter.unusedSimpArgs false
open Go.RowKit

set_option maxHeartbeats 1600000 in
theorem lawBits_big (a : Option Addr) (c : Nat) (z : List Int) (most : Nat) (w : World) (hr : Reads w .i64 a z) (hm : most ≤ 100000) (hz : z.length ≤ maxLen) :
    Calls Tryd.prog 17 #[.slice a z.length c, .int .i64 most] w (SomeB w.heap.size w most) := by
  unfold maxLen at hz
  go_enter Tryd.func17, Tryd.ntmps17
  go_wp2_with fail
  go_loopw [5, 6] (fun v i wr => ∃ (k : Nat) (l : List Bool), k ≤ z.length ∧ l.length ≤ most ∧ i = .int .i64 k ∧ wr.ownsRow w.heap.size 4 1 v l.length (l.map Value.bool) ∧ Below w.heap.size w wr) (fun _ i _ => z.length - (intOf i).toNat)
  case atStart => exact ⟨0, [], Nat.zero_le _, Nat.zero_le _, rfl, World.ownsRow_nil _ _ _ _, Below.refl _ _⟩
  case round =>
    obtain ⟨k, l, hk, hl, rfl, hown, hb⟩ := hrel
    by_cases hlt : k < z.length
    · obtain ⟨b, off, rfl, hbl, hcells⟩ := hr.some (by omega)
      have hcx : Hid (∀ w', Below w.heap.size w w' → w'.cell? ⟨b, off + k, none⟩ = some (.int .i64 (z[k]?.getD 0))) := fun w' hb => (hb.cell (p := ⟨b, off + k, none⟩) hbl).trans (hcells k hlt)
      have hc0 := hcx.out wr hb
      generalize z[k]?.getD 0 = x at *
      obtain ⟨u, hu0, hu1, hu⟩ : ∃ u : Int, 0 ≤ u ∧ u < 18446744073709551616 ∧ IntKind.u64.wrap x = u := ⟨IntKind.u64.wrap x, by rw [IntKind.wrap_u64]; omega, by rw [IntKind.wrap_u64]; omega, rfl⟩
      have hn0 : Hid (∃ n : Nat, n ≤ 12 ∧ u / 2 % 12 = (n : Int)) := ⟨(u / 2 % 12).toNat, by omega, by omega⟩
      clear hcells
      go_wp2_with fail
      obtain ⟨wo, rfl⟩ : ∃ wo : World, wo = wr := ⟨_, rfl⟩
      go_loopw [5, 7] (fun v i wr => ∃ (n : Nat) (l : List Bool), n ≤ 12 ∧ l.length ≤ most ∧ i = .int .u64 n ∧ wr.ownsRow w.heap.size 4 1 v l.length (l.map Value.bool) ∧ Below w.heap.size w wr) (fun _ i _ => (intOf i).toNat)
      case atStart =>
        obtain ⟨n, h1, h2⟩ := hn0.out
        exact ⟨n, l, h1, hl, by rw [h2], hown, hb⟩
      case round =>
        clear hc0 hown hb hl
        obtain ⟨n, l, hn, hl, rfl, hown, hb⟩ := hrel
        have hs := hb.size
        have hc0 := hcx.out wr hb
        obtain ⟨v, c, rfl, _, _⟩ := own_slice hown
        by_cases h1 : 0 < n ∧ l.length < most
        · obtain ⟨h1, h2⟩ := h1
          go_wp2_with (at_builtin; refine wpList_push rfl _ _ 23 rfl w.heap.size 4 Tryd.infoBoolR Tryd.underlying23 rfl _ _ _ rfl hown rfl rfl ?c1 ?c2 ?c3 ?_)
          case c1 => unfold maxLen; omega
          case c2 => omega
          case c3 => omega
          intro v' w1 hown' hgrow
          have hnx' : Below w.heap.size w w1 := hb.grown hgrow hs (fun j hj => (hown.lt j hj).1)
          generalize (bits BinOp.and IntKind.i64 x 1 == 1) = bv at *
          have HO : Hid (w1.ownsRow w.heap.size 4 1 v' (l ++ [bv]).length ((l ++ [bv]).map Value.bool)) := by
            show w1.ownsRow _ _ _ _ _ _
            rw [List.length_append, List.map_append]; exact hown'
          clear hown hgrow hown'
          go_wp2_with fail
          go_roundw
          case rel => exact ⟨n - 1, l ++ [bv], by omega, by rw [List.length_append]; simp; omega, by rw [show ((n - 1 : Nat) : Int) = (n : Int) - 1 by omega], HO.out, hnx'⟩
          case measure => simp [intOf]; omega
        · have hor : n = 0 ∨ (0 < n ∧ most ≤ l.length) := by omega
          rcases hor with rfl | ⟨h2, h3⟩
          · go_wp2_with fail
            go_roundw
            case rel => exact ⟨k + 1, l, by omega, hl, by go_num, hown, hb⟩
            case measure => simp [intOf]; omega
          · have hd : decide ((l.length : Int) < (most : Int)) = false := by simp; omega
            go_wp2_with fail
            go_roundw
            case rel => exact ⟨k + 1, l, by omega, hl, by go_num, hown, hb⟩
            case measure => simp [intOf]; omega
    · go_wp2_with fail
      go_ret
      exact ⟨l, hl, _, rfl, hown, hb⟩


theorem run_slice3 {P : Program} {w : World} {t e : TypeId} {b off len cap k : Nat} (ht : P.underlying t = some (.slice e)) (hinfo : (P.info? e).map (fun i => i.size) = some 1) (hk : k ≤ cap) :
    (Instr.slice t (.slice (some ⟨b, off, none⟩) len cap) none (some (.int .i64 (k : Int))) (some (.int .i64 (k : Int)))).run P w = .ok (.slice (some ⟨b, off, none⟩) k k) w := by
  obtain ⟨i, hi, hs⟩ := Option.map_eq_some_iff.1 hinfo
  have hk' : (k : Int) ≤ (cap : Int) := by omega
  simp [Instr.slice, run_underlying ht, Instr.sliceBounds, Instr.sliceBound, asIntOf, hk', sizeOf, typeInfo, hi, hs, go_sem, Addr.add_lit]
  intro h; omega

/-- The block of an address. -/
def abk (a : Option Addr) (k : Nat) : Prop := ∃ ad, a = some ad ∧ ad.block = k

/-- 'append' onto a slice whose length is its capacity, one operation: nothing that was there is written. -/
theorem wp_append_full {P : Program} {w : World} {o : Oper} {a : Act} {K : Act → World → Prop} {Q : Exit → Act → World → Prop} (s x : Operand) (t : TypeId)
    (ho : o.op = .call { callee := .builtin .append, args := #[s, x], argTypes := #[t, t] })
    (e : TypeId) (i : TypeInfo) (z : Value) (bytes : Nat) (ht : P.underlying t = some (.slice e)) (hi : P.info? e = some i) (hz : i.zero = some z) (hsz : i.size = 1) (hby : i.bytes = bytes) (hz1 : z.cells.size = 1)
    (b off n : Nat) (olds : List Value) (hs : a.eval s = .slice (some ⟨b, off, none⟩) n n) (hlo : olds.length = n) (holds : ReadsV w (some ⟨b, off, none⟩) olds) (hb : b < w.heap.size)
    (ad : Option Addr) (m c : Nat) (news : List Value) (hx : a.eval x = .slice ad m c) (hl : news.length = m) (hnews : ReadsV w ad news) (had : ad ≠ none) (h1 : ∀ u ∈ news, u.oneCell' = true)
    (h63 : n + m ≤ maxLen) (hbytes : (n + m) * bytes ≤ 140737488355328)
    (h : ∀ a' c' w', ReadsV w' a' (olds ++ news) → n + m ≤ c' → c' ≤ maxLen → (a' = none → n + m = 0 ∧ c' = 0) → (∀ k, abk a' k → (k = b ∨ w.heap.size ≤ k) ∧ k < w'.heap.size) → Below w.heap.size w w' →
      K (a.put o.dst (.slice a' (n + m) c')) w') : Oper.wp P o a w K Q := by
  by_cases hm : m = 0
  · subst hm
    obtain rfl : news = [] := List.eq_nil_of_length_eq_zero hl
    obtain ⟨p, rfl⟩ : ∃ p, ad = some p := by cases ad with | none => exact absurd rfl had | some p => exact ⟨p, rfl⟩
    have hrun := run_append_room_cells (P := P) w t o.type e i ht hi b off n n p 0 c [] (by simp) (by simp) (by simp) (by omega) (by simp) (by simp)
    unfold Oper.wp execOp
    simp only [ho, resolve, invoke, builtin, Sem.run_bind, Sem.run_pure, Result.andThen_ok, List.map_toArray, List.map_cons, List.map_nil, hs, hx, hrun]
    refine h (some ⟨b, off, none⟩) n w (by simpa using holds) (by omega) (by omega) (by simp) (fun k hk => ?_) (Below.refl _ _)
    obtain ⟨ad, e1, e2⟩ := hk
    cases e1
    subst e2
    exact ⟨Or.inl rfl, hb⟩
  · obtain ⟨b2, off2, rfl, hb2, hc2⟩ := hnews 0 (by omega)
    obtain ⟨v', w', hrun, r1, r2⟩ := run_append_arg_grows (P := P) w t o.type e i z 1 bytes ht hi hz hsz hby hz1 (by omega) ⟨b, off, none⟩ n n olds (by omega) (fun j u hj => by
      obtain ⟨b', off', e1, _, h2⟩ := holds j (List.getElem?_eq_some_iff.1 hj).1
      cases e1
      rw [Addr.add_lit]; exact h2 j u hj) ⟨b2, off2, none⟩ m c news (by omega) (fun j u hj => by rw [Addr.add_lit]; exact hc2 j u hj) (by omega) h63 hbytes
    unfold Oper.wp execOp
    simp only [ho, resolve, invoke, builtin, Sem.run_bind, Sem.run_pure, Result.andThen_ok, List.map_toArray, List.map_cons, List.map_nil, hs, hx, hrun]
    obtain ⟨a', c', rfl, hn, hb'⟩ := own_slice r1
    have hcap := own_cap r1
    refine h a' c' w' (readsV_own r1) hcap.1 hcap.2 (fun h => hn h) (fun k hk => ?_) ?_
    · obtain ⟨ad, e1, e2⟩ := hk
      obtain ⟨g, rfl, h1, h2, _⟩ := hb' ad e1
      subst e2
      exact ⟨Or.inr h1, h2⟩
    · exact ⟨r2.os, r2.tape, r2.output, r2.size, fun k hk => r2.block k hk (by simp)⟩

end Go.Proofs.YtcppgpjodfeigaaDoor
