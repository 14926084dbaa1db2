/- Lemmas and contracts under the claims of this seat: Contracts of package tree: few, level. Contract of package tree: level, where the bits are too many for one leaf. Contract of package tree: mend; nodes given back. Contract of package tree: mend, both children leaves. Contract of package tree: mend, the left child a leaf with too few bits. Contract of package tree: mend, the right child a leaf with too few bits. Contract of package tree: mend. Contract of package tree: drop. Contract of package tree: Delete. -/
import Derived.Test.YtcppgpjodfeigaaDoorZt4

namespace Go.Proofs.YtcppgpjodfeigaaDoor
set_option linter.unusedVariables false
set_option linter.unusedSimpArgs false
open Go.RowKit

theorem tFew_any {w : World} {p : Nat} {C : Nat → Prop} {A : Ar} {xs : List Nd} {root vis : Int} {T : TT} (h : Head w p C A xs root vis) (hS : Sub w xs T) :
    Calls Tryd.prog 120 #[.pointer (some ⟨p, 0, none⟩), .int .i64 T.num] w fun e w' => e = .returned (.bool T.st.few) ∧ w = w' := by
  have hr := hS.root
  obtain ⟨g, rc, cur, c1, _⟩ := h.row (by have := (List.getElem?_eq_some_iff.1 hr).1; omega)
  obtain ⟨_, _, hk, _⟩ := h.node c1 hr
  obtain ⟨_, _, _, a3, _, _, _, a7⟩ := h.eight c1 hr
  cases T with
  | leaf kn q l =>
    change Calls Tryd.prog _ #[.pointer (some ⟨p, 0, none⟩), .int .i64 (kn : Int)] w _
    change w.cell? ⟨g, kn * 8 + 7, none⟩ = some (.pointer (some ⟨q, 0, none⟩)) at a7
    change w.cell? ⟨g, kn * 8 + 3, none⟩ = some (.int .i64 (l.length : Int)) at a3
    change kn < xs.length at hk
    clear h hS hr
    have HR : Hid ((TT.leaf kn q l).st.few = decide (l.length < 32)) := rfl
    by_cases hl : l.length < 32
    · have d1 : decide ((l.length : Int) < 32) = true := decide_eq_true (by omega)
      go_enter Tryd.func120, Tryd.ntmps120
      go_wp2_with fail
      go_ret
      exact ⟨ret_bool (by rw [HR.out]; exact (decide_eq_true hl).symm), rfl⟩
    · have d1 : decide ((l.length : Int) < 32) = false := decide_eq_false (by omega)
      go_enter Tryd.func120, Tryd.ntmps120
      go_wp2_with fail
      go_ret
      exact ⟨ret_bool (by rw [HR.out]; exact (decide_eq_false hl).symm), rfl⟩
  | pair kn a b =>
    change Calls Tryd.prog _ #[.pointer (some ⟨p, 0, none⟩), .int .i64 (kn : Int)] w _
    change w.cell? ⟨g, kn * 8 + 7, none⟩ = some (.pointer none) at a7
    change kn < xs.length at hk
    clear h hS hr a3
    have HR : Hid ((TT.pair kn a b).st.few = false) := rfl
    go_enter Tryd.func120, Tryd.ntmps120
    go_wp2_with fail
    go_ret
    exact ⟨ret_bool HR.out.symm, rfl⟩

set_option maxHeartbeats 1600000 in
/-- level, where both leaves' bits go into the first one. -/
theorem tLev_join {w : World} {p : Nat} {C : Nat → Prop} {A : Ar} {xs : List Nd} {root vis : Int} (h : Head w p C A xs root vis) {i j qa qb : Nat} {la lb : List Bool} (hi : Sub w xs (.leaf i qa la)) (hj : Sub w xs (.leaf j qb lb)) (hq : qa ≠ qb) (hl : la.length + lb.length ≤ 128) :
    Calls Tryd.prog 121 #[.pointer (some ⟨p, 0, none⟩), .int .i64 i, .int .i64 j] w fun e w' => e = .returned (.bool false) ∧ Head w' p C A (xs.set i (TT.leaf i qa (la ++ lb)).nd) root vis ∧ IsBlock w' qa (la ++ lb) ∧ Chg (fun b => C b ∨ b = qa ∨ b = qb) w w' := by
  have hx := hi.root
  have hy := hj.root
  obtain ⟨g, rc, cur, c1, _⟩ := h.row (by have := (List.getElem?_eq_some_iff.1 hx).1; omega)
  obtain ⟨_, _, hix, _⟩ := h.node c1 hx
  obtain ⟨_, _, hjx, _⟩ := h.node c1 hy
  obtain ⟨_, _, _, _, _, _, _, a7⟩ := h.eight c1 hx
  obtain ⟨_, _, _, _, _, _, _, b7⟩ := h.eight c1 hy
  change w.cell? ⟨g, i * 8 + 7, none⟩ = some (.pointer (some ⟨qa, 0, none⟩)) at a7
  change w.cell? ⟨g, j * 8 + 7, none⟩ = some (.pointer (some ⟨qb, 0, none⟩)) at b7
  change i < xs.length at hix
  change j < xs.length at hjx
  have HJ : Hid (∀ n, Calls Tryd.prog 122 #[.pointer (some ⟨qa, 0, none⟩), .pointer (some ⟨qb, 0, none⟩)] (w.drewN n) (JoinPost (w.drewN n) qa qb la lb)) := fun n => blkJoin (w := w.drewN n) hi.2 hj.2 hq hl
  have H := Lib.hid h
  have HX : Hid (xs[i]? = some (TT.leaf i qa la).nd) := hx
  have HN : Hid (¬ C qa ∧ ¬ C qb) := ⟨h.notBlk hi.2.type, h.notBlk hj.2.type⟩
  clear h hi hj hx hy hq
  go_enter Tryd.func121, Tryd.ntmps121
  go_wp2_with fail
  go_quiet (fail)
  obtain ⟨n1, rfl⟩ : ∃ n1, n1 = nq := ⟨_, rfl⟩
  go_wp2_with fail
  refine (HJ.out n1).mono ?_
  rintro e w2 ⟨rfl, hb2, hb3, c2⟩
  have h2 := (H.out.drewN n1).chg c2 (fun b hb e => e.elim (fun e => HN.out.1 (e ▸ hb)) (fun e => HN.out.2 (e ▸ hb)))
  have HF := Lib.hid (tFix_leaf h2 HX.out rfl hb2)
  have H2 := Lib.hid h2
  have HB2 := Lib.hid hb2
  have C2 : Hid (Chg (fun b => C b ∨ b = qa ∨ b = qb) w w2) := ((Chg.refl (S := fun b => C b ∨ b = qa ∨ b = qb)).drewN n1).trans c2 (fun b e => Or.inl (Or.inr e))
  clear h2 hb2 hb3 c2
  go_wp2_with fail
  refine HF.out.mono ?_
  rintro e w3 ⟨rfl, h3, c3⟩
  have H3 := Lib.hid h3
  have C3 := Lib.hid (H2.out.chgRow c3)
  clear h3 c3
  go_wp2_with fail
  go_ret
  exact ⟨rfl, H3.out, HB2.out.chg C3.out (H2.out.notBlk HB2.out.type), C2.out.trans C3.out (fun b hb => Or.inl (Or.inl hb))⟩

end Go.Proofs.YtcppgpjodfeigaaDoor

namespace Go.Proofs.YtcppgpjodfeigaaDoor
set_option linter.unusedVariables false
set_option linter.unusedSimpArgs false
open Go.RowKit

set_option maxHeartbeats 6400000 in
set_option maxRecDepth 100000 in
/-- level, where the bits are too many for one leaf. -/
theorem tLev_split {w : World} {p : Nat} {C : Nat → Prop} {A : Ar} {xs : List Nd} {root vis : Int} (h : Head w p C A xs root vis) {i j qa qb : Nat} {la lb : List Bool} (hi : Sub w xs (.leaf i qa la)) (hj : Sub w xs (.leaf j qb lb)) (hij : i ≠ j) (hq : qa ≠ qb) (hl : 128 < la.length + lb.length) :
    Calls Tryd.prog 121 #[.pointer (some ⟨p, 0, none⟩), .int .i64 i, .int .i64 j] w fun e w' => e = .returned (.bool true) ∧ ∃ q1 q2, w.heap.size ≤ q1 ∧ w.heap.size ≤ q2 ∧ q1 ≠ q2 ∧
      Head w' p C A ((xs.set i (TT.leaf i q1 ((la ++ lb).take ((la.length + lb.length) / 2))).nd).set j (TT.leaf j q2 ((la ++ lb).drop ((la.length + lb.length) / 2))).nd) root vis ∧
      IsBlock w' q1 ((la ++ lb).take ((la.length + lb.length) / 2)) ∧ IsBlock w' q2 ((la ++ lb).drop ((la.length + lb.length) / 2)) ∧ Chg C w w' := by
  have hx := hi.root
  have hy := hj.root
  have ka := hi.2.1
  have kb := hj.2.1
  obtain ⟨g, rc, cur, c1, hgp, hCg, _⟩ := h.row (by have := (List.getElem?_eq_some_iff.1 hx).1; omega)
  obtain ⟨_, _, hix, _⟩ := h.node c1 hx
  obtain ⟨_, _, hjx, _⟩ := h.node c1 hy
  obtain ⟨_, _, _, _, _, _, _, a7⟩ := h.eight c1 hx
  obtain ⟨_, _, _, _, _, _, _, b7⟩ := h.eight c1 hy
  change w.cell? ⟨g, i * 8 + 7, none⟩ = some (.pointer (some ⟨qa, 0, none⟩)) at a7
  change w.cell? ⟨g, j * 8 + 7, none⟩ = some (.pointer (some ⟨qb, 0, none⟩)) at b7
  change i < xs.length at hix
  change j < xs.length at hjx
  have HJ : Hid (∀ n, Calls Tryd.prog 122 #[.pointer (some ⟨qa, 0, none⟩), .pointer (some ⟨qb, 0, none⟩)] (w.drewN n) fun e w' => e = .returned (.int .i64 3) ∧ ∃ m, w' = (w.drewN n).drewN m) := fun n => blkJoin_full (w := w.drewN n) hi.2 hj.2 hq hl
  have HA : Hid (∀ n, IsBlock (w.drewN n) qa la) := fun n => hi.2
  have HB : Hid (∀ n, IsBlock (w.drewN n) qb lb) := fun n => hj.2
  have H := Lib.hid h
  have HC1 := Lib.hid c1
  have HX : Hid (xs[i]? = some (TT.leaf i qa la).nd) := hx
  have HY : Hid (xs[j]? = some (TT.leaf j qb lb).nd) := hy
  have HIJ := Lib.hid hij
  have hgw := h.lt g hCg
  have hpw := h.lt p h.self
  clear h hi hj hx hy hq hij hCg
  go_enter Tryd.func121, Tryd.ntmps121
  go_wp2_with fail
  go_quiet (fail)
  obtain ⟨n1, rfl⟩ : ∃ n1, n1 = nq := ⟨_, rfl⟩
  go_wp2_with fail
  refine (HJ.out n1).mono ?_
  rintro e w' ⟨rfl, m, rfl⟩
  have HW0 : Hid (∀ n, Below w.heap.size w (w.drewN n)) := fun n => ⟨rfl, rfl, rfl, Nat.le_refl _, fun _ _ => rfl⟩
  go_wp2_with fail
  refine (blkAll (HA.out _)).mono ?_
  rintro e w2 ⟨v, rfl, hown, hb1⟩
  have HB2 := Lib.hid ((HB.out _).below' hb1)
  have hbw2 : Below w.heap.size w w2 := (HW0.out _).trans hb1
  have hown : w2.ownsRow w.heap.size 4 1 v la.length (la.map Value.bool) := hown
  have HO2 := Lib.hid hown
  have hs2 := hbw2.size
  have HW2 := Lib.hid hbw2
  clear hown hb1 hbw2
  go_wp2_with fail
  refine (blkAll HB2.out).mono ?_
  rintro e w3 ⟨v3, rfl, hown3, hb3⟩
  have hown := own_below HO2.out hb3 (fun k hk => (own_lt HO2.out hk).2)
  obtain ⟨a3, c3, rfl, hnil3, _⟩ := own_slice hown3
  have hrd3 := readsV_own hown3
  have hbw3 : Below w.heap.size w w3 := HW2.out.trans (hb3.mono hs2)
  have hs3 := hbw3.size
  have HO3 := Lib.hid hown
  have HR3 := Lib.hid hrd3
  have HN3 := Lib.hid hnil3
  have HW3 := Lib.hid hbw3
  clear hown3 hown hb3 hrd3 hnil3 hbw3
  go_wp2_with (at_builtin; refine wpList_appendL rfl _ _ 23 rfl w.heap.size 4 Tryd.infoBoolR Tryd.underlying23 rfl _ la.length _ rfl HO3.out a3 lb.length c3 (lb.map Value.bool) rfl (by simp) HN3.out HR3.out.hnews (oneB _) (by unfold maxLen; omega) (by omega) (by omega) ?_)
  intro a4 c4 w4 hown4 hgrow _
  have hbw4 : Below w.heap.size w w4 := HW3.out.trans ((Below.refl _ _).grown hgrow hs3 (fun k hk => (own_lt HO3.out hk).1))
  obtain ⟨_, hcap, _⟩ : ∃ x, la.length + lb.length ≤ c4 ∧ x = 0 := by
    obtain ⟨gg, cap, hv, _, _, h5, _⟩ := own_some hown4 (by omega)
    injection hv with _ _ e3
    exact ⟨0, by rw [e3]; exact h5, rfl⟩
  obtain ⟨a4', c4', hv4, _, hab4⟩ := own_slice hown4
  injection hv4 with e1 e2 e3
  subst e1
  clear e2 e3
  have hrd4 := readsV_own hown4
  rw [← List.map_append] at hrd4
  have hall : (la ++ lb).length = la.length + lb.length := List.length_append
  have hN : la.length + lb.length ≤ 256 := by omega
  generalize hae : la ++ lb = all at *
  generalize hne : la.length + lb.length = N at *
  have HAE := Lib.hid hae
  have HNE := Lib.hid hne
  clear hae hne
  obtain ⟨M, hM⟩ : ∃ M, M = N / 2 := ⟨_, rfl⟩
  have hM2 : M ≤ N ∧ M ≤ 128 ∧ N - M ≤ 128 ∧ N ≤ 256 := by omega
  obtain ⟨hm1, hm2, hm3, hm4⟩ := hM2
  have hwr : IntKind.i64.wrap (M : Int) = (M : Int) := IntWalk.i64_in _ (by omega)
  have hwr2 : ((N : Int) / 2) = (M : Int) := by omega
  have hs1 := fun (w : World) => run_sliceTo (P := Tryd.prog) (w := w) (t := 23) (a := a4) (len := N) (cap := c4) (k := M) Tryd.underlying23 (by kernel_rfl) (by omega)
  have hs5 := fun (w : World) => run_sliceFrom (P := Tryd.prog) (w := w) (t := 23) (a := a4) (len := N) (cap := c4) (k := M) Tryd.underlying23 (by kernel_rfl) (by omega)
  have HT4 : Hid (ReadsV w4 a4 ((all.take M).map Value.bool)) := by rw [List.map_take]; exact hrd4.take M
  have HD4 : Hid (ReadsV w4 (offA a4 M c4) ((all.drop M).map Value.bool)) := by rw [List.map_drop]; exact hrd4.drop (by simpa [hall] using hcap)
  have hoff : ∀ ad, offA a4 M c4 = some ad → w.heap.size ≤ ad.block := by
    intro ad had
    unfold offA at had
    split at had
    · obtain ⟨gg, rfl, hg, _⟩ := hab4 _ had; exact hg
    · cases a4 with
      | none => cases had
      | some x =>
        obtain ⟨gg, rfl, hg, _⟩ := hab4 _ rfl
        simp [Addr.add_lit] at had
        subst had; exact hg
  have hl1 : (all.take M).length = M := by rw [List.length_take]; omega
  have hl2 : (all.drop M).length = N - M := by rw [List.length_drop]; omega
  have r4 := (hbw4.cell (p := ⟨p, 1, none⟩) hpw).trans c1
  have s7 := (hbw4.cell (p := ⟨g, i * 8 + 7, none⟩) hgw).trans a7
  have t7 := (hbw4.cell (p := ⟨g, j * 8 + 7, none⟩) hgw).trans b7
  have h4 := H.out.below hbw4
  have z4 := (h4.node r4 HX.out).2.1
  have z1 := z4 (i * 8 + 7)
  have z2 := z4 (j * 8 + 7)
  have hne7 : ¬ (j * 8 + 7 = i * 8 + 7) := by have := HIJ.out; omega
  have hs4 := hbw4.size
  have HOFF := Lib.hid hoff
  have HW4 := Lib.hid hbw4
  have H4 := Lib.hid h4
  have HL1 := Lib.hid hl1
  have HL2 := Lib.hid hl2
  have HALL := Lib.hid hall
  have HM := Lib.hid hM
  have hnew := blkNew w4.drew a4 c4 (all.take M) HT4.out (by rw [hl1]; omega)
  rw [hl1] at hnew
  have HNEW := Lib.hid hnew
  clear hown4 hgrow hrd4 hab4 hoff hbw4 h4 z4 hl1 hl2 hall hM hnew a7 b7 c1 HJ HA HB HB2 HO2 HO3 HR3 HN3 HW2 HW3 hcap HW0
  go_wp2_with fail
  -- REGION six
  refine reg_start (fun w' => w'.cell? ⟨p, 1, none⟩ = some (.slice (some ⟨g, 0, none⟩) xs.length rc)) (by kernel_rfl) (r4) (fun hHeld => ?_)
  refine reg_take (i := 0) (v := ?vsix0) rfl (by kernel_rfl) rfl hHeld ?ysix0 ?rsix0
  case ysix0 => (intro w hSw; (try dsimp only at hSw); go_simp; all_goals with_reducible rfl)
  try simp only [Act.put, List.setIfInBounds_toArray, List.set_cons_zero, List.set_cons_succ]
  refine reg_take (i := 1) (v := ?vsix1) rfl (by kernel_rfl) rfl hHeld ?ysix1 ?rsix1
  case ysix1 => (intro w hSw; (try dsimp only at hSw); go_simp; all_goals with_reducible rfl)
  try simp only [Act.put, List.setIfInBounds_toArray, List.set_cons_zero, List.set_cons_succ]
  refine reg_take (i := 2) (v := ?vsix2) rfl (by kernel_rfl) rfl hHeld ?ysix2 ?rsix2
  case ysix2 => (intro w hSw; (try dsimp only at hSw); go_simp; all_goals with_reducible rfl)
  try simp only [Act.put, List.setIfInBounds_toArray, List.set_cons_zero, List.set_cons_succ]
  refine reg_take (i := 3) (v := ?vsix3) rfl (by kernel_rfl) rfl hHeld ?ysix3 ?rsix3
  case ysix3 => (intro w hSw; (try dsimp only at hSw); go_simp; all_goals with_reducible rfl)
  try simp only [Act.put, List.setIfInBounds_toArray, List.set_cons_zero, List.set_cons_succ]
  refine reg_take (i := 4) (v := ?vsix4) rfl (by kernel_rfl) rfl hHeld ?ysix4 ?rsix4
  case ysix4 => (intro w hSw; (try dsimp only at hSw); go_simp; all_goals with_reducible rfl)
  try simp only [Act.put, List.setIfInBounds_toArray, List.set_cons_zero, List.set_cons_succ]
  refine reg_take (i := 5) (v := ?vsix5) rfl (by kernel_rfl) rfl hHeld ?ysix5 ?rsix5
  case ysix5 => (intro w hSw; (try dsimp only at hSw); go_simp; all_goals with_reducible rfl)
  try simp only [Act.put, List.setIfInBounds_toArray, List.set_cons_zero, List.set_cons_succ]
  refine reg_take (i := 6) (v := ?vsix6) rfl (by kernel_rfl) rfl hHeld ?ysix6 ?rsix6
  case ysix6 => (intro w hSw; (try dsimp only at hSw); go_simp; all_goals with_reducible rfl)
  try simp only [Act.put, List.setIfInBounds_toArray, List.set_cons_zero, List.set_cons_succ]
  refine reg_take (i := 7) (v := ?vsix7) rfl (by kernel_rfl) rfl hHeld ?ysix7 ?rsix7
  case ysix7 => (intro w hSw; (try dsimp only at hSw); go_simp; all_goals with_reducible rfl)
  try simp only [Act.put, List.setIfInBounds_toArray, List.set_cons_zero, List.set_cons_succ]
  refine reg_take (i := 8) (v := ?vsix8) rfl (by kernel_rfl) rfl hHeld ?ysix8 ?rsix8
  case ysix8 => (intro w hSw; (try dsimp only at hSw); go_simp; all_goals with_reducible rfl)
  try simp only [Act.put, List.setIfInBounds_toArray, List.set_cons_zero, List.set_cons_succ]
  refine reg_take (i := 9) (v := ?vsix9) rfl (by kernel_rfl) rfl hHeld ?ysix9 ?rsix9
  case ysix9 => (intro w hSw; (try dsimp only at hSw); go_simp; all_goals with_reducible rfl)
  try simp only [Act.put, List.setIfInBounds_toArray, List.set_cons_zero, List.set_cons_succ]
  refine reg_loud (i := 10) rfl (by kernel_rfl) rfl (fun K hK => ?_)
  go_simp
  ((with_reducible refine HNEW.out.mono ?_))
  rintro e w5 ⟨rfl, hq5, hb5⟩
  have r5 : w5.cell? ⟨p, 1, none⟩ = some (.slice (some ⟨g, 0, none⟩) xs.length rc) := (hb5.cell (p := ⟨p, 1, none⟩) (by show p < w4.heap.size; omega)).trans r4
  have s5 : w5.cell? ⟨g, i * 8 + 7, none⟩ = some (.pointer (some ⟨qa, 0, none⟩)) := (hb5.cell (p := ⟨g, i * 8 + 7, none⟩) (by show g < w4.heap.size; omega)).trans s7
  have t5 : w5.cell? ⟨g, j * 8 + 7, none⟩ = some (.pointer (some ⟨qb, 0, none⟩)) := (hb5.cell (p := ⟨g, j * 8 + 7, none⟩) (by show g < w4.heap.size; omega)).trans t7
  have z5 : w5.frozen? ⟨g, i * 8 + 7, none⟩ = false := (hb5.frozen (p := ⟨g, i * 8 + 7, none⟩) (by show g < w4.heap.size; omega)).trans z1
  have y5 : w5.frozen? ⟨g, j * 8 + 7, none⟩ = false := (hb5.frozen (p := ⟨g, j * 8 + 7, none⟩) (by show g < w4.heap.size; omega)).trans z2
  have HQ5 := Lib.hid hq5
  have HB5 := Lib.hid hb5
  clear hq5 hb5
  refine hK.out _ _ (r5) (fun hNew => ?_)
  clear hK K hHeld
  have hHeld := hNew
  clear hNew
  try simp only [Act.put, List.setIfInBounds_toArray, List.set_cons_zero, List.set_cons_succ]
  refine reg_take (i := 11) (v := ?vsix11) rfl (by kernel_rfl) rfl hHeld ?ysix11 ?rsix11
  case ysix11 => (intro w hSw; (try dsimp only at hSw); go_simp; all_goals with_reducible rfl)
  try simp only [Act.put, List.setIfInBounds_toArray, List.set_cons_zero, List.set_cons_succ]
  refine reg_take (i := 12) (v := ?vsix12) rfl (by kernel_rfl) rfl hHeld ?ysix12 ?rsix12
  case ysix12 => (intro w hSw; (try dsimp only at hSw); go_simp; all_goals with_reducible rfl)
  try simp only [Act.put, List.setIfInBounds_toArray, List.set_cons_zero, List.set_cons_succ]
  refine reg_take (i := 13) (v := ?vsix13) rfl (by kernel_rfl) rfl hHeld ?ysix13 ?rsix13
  case ysix13 => (intro w hSw; (try dsimp only at hSw); go_simp; all_goals with_reducible rfl)
  try simp only [Act.put, List.setIfInBounds_toArray, List.set_cons_zero, List.set_cons_succ]
  refine reg_take (i := 14) (v := ?vsix14) rfl (by kernel_rfl) rfl hHeld ?ysix14 ?rsix14
  case ysix14 => (intro w hSw; (try dsimp only at hSw); go_simp; all_goals with_reducible rfl)
  try simp only [Act.put, List.setIfInBounds_toArray, List.set_cons_zero, List.set_cons_succ]
  refine reg_take (i := 15) (v := ?vsix15) rfl (by kernel_rfl) rfl hHeld ?ysix15 ?rsix15
  case ysix15 => (intro w hSw; (try dsimp only at hSw); go_simp; all_goals with_reducible rfl)
  try simp only [Act.put, List.setIfInBounds_toArray, List.set_cons_zero, List.set_cons_succ]
  refine reg_loud (i := 16) rfl (by kernel_rfl) rfl (fun K hK => ?_)
  go_simp
  refine hK.out _ _ ?kpsix16 (fun hNew => ?_)
  case kpsix16 => (go_simp)
  clear hK K hHeld
  have hHeld := hNew
  clear hNew
  try simp only [Act.put, List.setIfInBounds_toArray, List.set_cons_zero, List.set_cons_succ]
  refine reg_done (by kernel_rfl) ?_ _
  -- END OF REGION six
  clear hHeld
  have h5 := H4.out.drew.below HB5.out
  obtain ⟨h6, g6, r6⟩ := h5.put r5 HX.out (i := 7) (v := .pointer (some ⟨w4.heap.size, 0, none⟩)) (x' := ⟨-1, -1, 0, la.length, la.count true, 0, 0, some w4.heap.size⟩) (by omega) rfl
  have hy6 : (xs.set i ⟨-1, -1, 0, la.length, la.count true, 0, 0, some w4.heap.size⟩)[j]? = some (TT.leaf j qb lb).nd := by rw [set_ne HIJ.out.symm]; exact HY.out
  have hx6 : (xs.set i ⟨-1, -1, 0, la.length, la.count true, 0, 0, some w4.heap.size⟩)[i]? = some ⟨-1, -1, 0, la.length, la.count true, 0, 0, some w4.heap.size⟩ := set_get HX.out
  have t6 : (w5.setCell ⟨g, i * 8 + 7, none⟩ (.pointer (some ⟨w4.heap.size, 0, none⟩))).cell? ⟨g, j * 8 + 7, none⟩ = some (.pointer (some ⟨qb, 0, none⟩)) := (h6.eight r6 hy6).2.2.2.2.2.2.2
  have y6 := (h6.node r6 hy6).2.1 (j * 8 + 7)
  have d6 := ((show ReadsV w4.drew (offA a4 M c4) ((all.drop M).map Value.bool) from HD4.out).below' HB5.out).chg g6 (fun ad had e => by have := HOFF.out ad had; rw [e] at this; omega)
  have q6 := HQ5.out.chg g6 (by show ¬ w4.heap.size = g; omega)
  have hc5 : Chg C w w5 := (Chg.of_below HW4.out).trans (Chg.of_below (S := C) (show Below w4.heap.size w4 w5 from ⟨HB5.out.os, HB5.out.tape, HB5.out.output, HB5.out.size, HB5.out.block⟩)) (fun b hb => Or.inl hb)
  have c6 : Chg C w _ := hc5.trans g6 (fun b e => Or.inl (by subst e; exact H.out.rowC ⟨_, _, HC1.out⟩))
  have hs6 := c6.size
  generalize w5.setCell ⟨g, i * 8 + 7, none⟩ (.pointer (some ⟨w4.heap.size, 0, none⟩)) = w6 at *
  have hq1w : w.heap.size ≤ w4.heap.size := hs4
  have q6 : IsBlock w6 w4.heap.size (all.take M) := q6
  obtain ⟨q1, hq1⟩ : ∃ q1, q1 = w4.heap.size := ⟨_, rfl⟩
  rw [← hq1] at h6 hy6 hx6 q6 hq1w
  have len6 : (xs.set i ⟨-1, -1, 0, la.length, la.count true, 0, 0, some q1⟩).length = xs.length := by simp
  have s6 : xs.set i ⟨-1, -1, 0, la.length, la.count true, 0, 0, some q1⟩ = xs.set i ⟨-1, -1, 0, la.length, la.count true, 0, 0, some q1⟩ := rfl
  generalize hx6e : xs.set i ⟨-1, -1, 0, la.length, la.count true, 0, 0, some q1⟩ = xs6 at h6 hy6 hx6 len6
  have HX6E := Lib.hid hx6e
  have hq1s := q6.lt
  have hnew := blkNew w6.drew (offA a4 M c4) (c4 - M) (all.drop M) d6 (by rw [HL2.out]; omega)
  rw [HL2.out] at hnew
  have HNEW2 := Lib.hid hnew
  have H6 := Lib.hid h6
  have HY6 := Lib.hid hy6
  have HX6 := Lib.hid hx6
  have Q6 := Lib.hid q6
  have HC6 := Lib.hid c6
  have L6 := Lib.hid len6
  have hgw6 : g < w6.heap.size := by omega
  have hpw6 : p < w6.heap.size := by omega
  clear h5 h6 g6 hy6 hx6 d6 q6 hc5 c6 hx6e hnew len6 s6 r5 s5 t5 z5 y5 r4 s7 t7 z1 z2 HQ5 HB5 HNEW HT4 HD4 hq1 hown
  go_wp2_with fail
  -- REGION seven
  refine reg_start (fun w' => w'.cell? ⟨p, 1, none⟩ = some (.slice (some ⟨g, 0, none⟩) xs.length rc)) (by kernel_rfl) (r6) (fun hHeld => ?_)
  refine reg_take (i := 0) (v := ?vsev0) rfl (by kernel_rfl) rfl hHeld ?ysev0 ?rsev0
  case ysev0 => (intro w hSw; (try dsimp only at hSw); go_simp; all_goals with_reducible rfl)
  try simp only [Act.put, List.setIfInBounds_toArray, List.set_cons_zero, List.set_cons_succ]
  refine reg_take (i := 1) (v := ?vsev1) rfl (by kernel_rfl) rfl hHeld ?ysev1 ?rsev1
  case ysev1 => (intro w hSw; (try dsimp only at hSw); go_simp; all_goals with_reducible rfl)
  try simp only [Act.put, List.setIfInBounds_toArray, List.set_cons_zero, List.set_cons_succ]
  refine reg_take (i := 2) (v := ?vsev2) rfl (by kernel_rfl) rfl hHeld ?ysev2 ?rsev2
  case ysev2 => (intro w hSw; (try dsimp only at hSw); go_simp; all_goals with_reducible rfl)
  try simp only [Act.put, List.setIfInBounds_toArray, List.set_cons_zero, List.set_cons_succ]
  refine reg_take (i := 3) (v := ?vsev3) rfl (by kernel_rfl) rfl hHeld ?ysev3 ?rsev3
  case ysev3 => (intro w hSw; (try dsimp only at hSw); go_simp; all_goals with_reducible rfl)
  try simp only [Act.put, List.setIfInBounds_toArray, List.set_cons_zero, List.set_cons_succ]
  refine reg_take (i := 4) (v := ?vsev4) rfl (by kernel_rfl) rfl hHeld ?ysev4 ?rsev4
  case ysev4 => (intro w hSw; (try dsimp only at hSw); go_simp; all_goals with_reducible rfl)
  try simp only [Act.put, List.setIfInBounds_toArray, List.set_cons_zero, List.set_cons_succ]
  refine reg_take (i := 5) (v := ?vsev5) rfl (by kernel_rfl) rfl hHeld ?ysev5 ?rsev5
  case ysev5 => (intro w hSw; (try dsimp only at hSw); go_simp; all_goals with_reducible rfl)
  try simp only [Act.put, List.setIfInBounds_toArray, List.set_cons_zero, List.set_cons_succ]
  refine reg_take (i := 6) (v := ?vsev6) rfl (by kernel_rfl) rfl hHeld ?ysev6 ?rsev6
  case ysev6 => (intro w hSw; (try dsimp only at hSw); go_simp; all_goals with_reducible rfl)
  try simp only [Act.put, List.setIfInBounds_toArray, List.set_cons_zero, List.set_cons_succ]
  refine reg_take (i := 7) (v := ?vsev7) rfl (by kernel_rfl) rfl hHeld ?ysev7 ?rsev7
  case ysev7 => (intro w hSw; (try dsimp only at hSw); go_simp; all_goals with_reducible rfl)
  try simp only [Act.put, List.setIfInBounds_toArray, List.set_cons_zero, List.set_cons_succ]
  refine reg_take (i := 8) (v := ?vsev8) rfl (by kernel_rfl) rfl hHeld ?ysev8 ?rsev8
  case ysev8 => (intro w hSw; (try dsimp only at hSw); go_simp; all_goals with_reducible rfl)
  try simp only [Act.put, List.setIfInBounds_toArray, List.set_cons_zero, List.set_cons_succ]
  refine reg_take (i := 9) (v := ?vsev9) rfl (by kernel_rfl) rfl hHeld ?ysev9 ?rsev9
  case ysev9 => (intro w hSw; (try dsimp only at hSw); go_simp; all_goals with_reducible rfl)
  try simp only [Act.put, List.setIfInBounds_toArray, List.set_cons_zero, List.set_cons_succ]
  refine reg_loud (i := 10) rfl (by kernel_rfl) rfl (fun K hK => ?_)
  go_simp
  ((with_reducible refine HNEW2.out.mono ?_))
  rintro e w7 ⟨rfl, hq7, hb7⟩
  have r7 : w7.cell? ⟨p, 1, none⟩ = some (.slice (some ⟨g, 0, none⟩) xs.length rc) := (hb7.cell (p := ⟨p, 1, none⟩) hpw6).trans r6
  have t7 : w7.cell? ⟨g, j * 8 + 7, none⟩ = some (.pointer (some ⟨qb, 0, none⟩)) := (hb7.cell (p := ⟨g, j * 8 + 7, none⟩) hgw6).trans t6
  have y7 : w7.frozen? ⟨g, j * 8 + 7, none⟩ = false := (hb7.frozen (p := ⟨g, j * 8 + 7, none⟩) hgw6).trans y6
  have HQ7 := Lib.hid hq7
  have HB7 := Lib.hid hb7
  clear hq7 hb7
  refine hK.out _ _ (r7) (fun hNew => ?_)
  clear hK K hHeld
  have hHeld := hNew
  clear hNew
  try simp only [Act.put, List.setIfInBounds_toArray, List.set_cons_zero, List.set_cons_succ]
  refine reg_take (i := 11) (v := ?vsev11) rfl (by kernel_rfl) rfl hHeld ?ysev11 ?rsev11
  case ysev11 => (intro w hSw; (try dsimp only at hSw); go_simp; all_goals with_reducible rfl)
  try simp only [Act.put, List.setIfInBounds_toArray, List.set_cons_zero, List.set_cons_succ]
  refine reg_take (i := 12) (v := ?vsev12) rfl (by kernel_rfl) rfl hHeld ?ysev12 ?rsev12
  case ysev12 => (intro w hSw; (try dsimp only at hSw); go_simp; all_goals with_reducible rfl)
  try simp only [Act.put, List.setIfInBounds_toArray, List.set_cons_zero, List.set_cons_succ]
  refine reg_take (i := 13) (v := ?vsev13) rfl (by kernel_rfl) rfl hHeld ?ysev13 ?rsev13
  case ysev13 => (intro w hSw; (try dsimp only at hSw); go_simp; all_goals with_reducible rfl)
  try simp only [Act.put, List.setIfInBounds_toArray, List.set_cons_zero, List.set_cons_succ]
  refine reg_take (i := 14) (v := ?vsev14) rfl (by kernel_rfl) rfl hHeld ?ysev14 ?rsev14
  case ysev14 => (intro w hSw; (try dsimp only at hSw); go_simp; all_goals with_reducible rfl)
  try simp only [Act.put, List.setIfInBounds_toArray, List.set_cons_zero, List.set_cons_succ]
  refine reg_take (i := 15) (v := ?vsev15) rfl (by kernel_rfl) rfl hHeld ?ysev15 ?rsev15
  case ysev15 => (intro w hSw; (try dsimp only at hSw); go_simp; all_goals with_reducible rfl)
  try simp only [Act.put, List.setIfInBounds_toArray, List.set_cons_zero, List.set_cons_succ]
  refine reg_loud (i := 16) rfl (by kernel_rfl) rfl (fun K hK => ?_)
  go_simp
  refine hK.out _ _ ?kpsev16 (fun hNew => ?_)
  case kpsev16 => (go_simp)
  clear hK K hHeld
  have hHeld := hNew
  clear hNew
  try simp only [Act.put, List.setIfInBounds_toArray, List.set_cons_zero, List.set_cons_succ]
  refine reg_done (by kernel_rfl) ?_ _
  -- END OF REGION seven
  clear hHeld
  have h7 := H6.out.drew.below HB7.out
  obtain ⟨h8, g8, r8⟩ := h7.put r7 HY6.out (i := 7) (v := .pointer (some ⟨w6.heap.size, 0, none⟩)) (x' := ⟨-1, -1, 0, lb.length, lb.count true, 0, 0, some w6.heap.size⟩) (by omega) rfl
  have hx8 : (xs6.set j ⟨-1, -1, 0, lb.length, lb.count true, 0, 0, some w6.heap.size⟩)[i]? = some ⟨-1, -1, 0, la.length, la.count true, 0, 0, some q1⟩ := by rw [set_ne HIJ.out]; exact HX6.out
  have hy8 : (xs6.set j ⟨-1, -1, 0, lb.length, lb.count true, 0, 0, some w6.heap.size⟩)[j]? = some ⟨-1, -1, 0, lb.length, lb.count true, 0, 0, some w6.heap.size⟩ := set_get HY6.out
  have hc7 : Chg C w w7 := HC6.out.trans (Chg.of_below (S := C) (show Below w6.heap.size w6 w7 from ⟨HB7.out.os, HB7.out.tape, HB7.out.output, HB7.out.size, HB7.out.block⟩)) (fun b hb => Or.inl hb)
  have q17 := (show IsBlock w6.drew q1 (all.take M) from Q6.out).below' HB7.out
  have q18 := q17.chg g8 (by omega)
  have q28 := HQ7.out.chg g8 (by show ¬ w6.heap.size = g; omega)
  have c8 : Chg C w _ := hc7.trans g8 (fun b e => Or.inl (by subst e; exact H.out.rowC ⟨_, _, HC1.out⟩))
  generalize w7.setCell ⟨g, j * 8 + 7, none⟩ (.pointer (some ⟨w6.heap.size, 0, none⟩)) = w8 at *
  have q28 : IsBlock w8 w6.heap.size (all.drop M) := q28
  have hq12 : q1 ≠ w6.heap.size := by omega
  have hq2w : w.heap.size ≤ w6.heap.size := hs6
  generalize w6.heap.size = q2 at *
  generalize hx8e : xs6.set j ⟨-1, -1, 0, lb.length, lb.count true, 0, 0, some q2⟩ = xs8 at h8 hx8 hy8
  have HX8E := Lib.hid hx8e
  have HF := Lib.hid (tFix_leaf h8 hx8 rfl q18)
  have H8 := Lib.hid h8
  have HX8 := Lib.hid hx8
  have HY8 := Lib.hid hy8
  have Q18 := Lib.hid q18
  have Q28 := Lib.hid q28
  have HC8 := Lib.hid c8
  have HQ12 := Lib.hid hq12
  clear h7 h8 g8 r8 hx8 hy8 hc7 q17 q18 q28 c8 hx8e hq12 r7 t7 y7 HQ7 HB7 HNEW2 r6 t6 y6
  go_wp2_with fail
  refine HF.out.mono ?_
  rintro e w9 ⟨rfl, h9, c9⟩
  have c9C := H8.out.chgRow c9
  have q29 := Q28.out.chg c9C (H8.out.notBlk Q28.out.type)
  have q19 := Q18.out.chg c9C (H8.out.notBlk Q18.out.type)
  have HF2 := Lib.hid (tFix_leaf h9 (k := j) (x := ⟨-1, -1, 0, lb.length, lb.count true, 0, 0, some q2⟩) (by rw [set_ne HIJ.out.symm]; exact HY8.out) rfl q29)
  have H9 := Lib.hid h9
  have Q29 := Lib.hid q29
  have Q19 := Lib.hid q19
  have HC9 := Lib.hid (HC8.out.trans c9C (fun b hb => Or.inl hb))
  clear h9 c9 c9C q29 q19
  go_wp2_with fail
  refine HF2.out.mono ?_
  rintro e w10 ⟨rfl, h10, c10⟩
  have H10 := Lib.hid h10
  have C10 := Lib.hid (H9.out.chgRow c10)
  clear h10 c10
  go_wp2_with fail
  go_ret
  rw [HAE.out, HNE.out, ← HM.out]
  refine ⟨rfl, q1, q2, hq1w, hq2w, HQ12.out, ?_, Q19.out.chg C10.out (H9.out.notBlk Q19.out.type), Q29.out.chg C10.out (H9.out.notBlk Q29.out.type), HC9.out.trans C10.out (fun b hb => Or.inl hb)⟩
  have hfin := H10.out
  rw [← HX8E.out, ← HX6E.out, List.set_comm _ _ HIJ.out.symm, List.set_set, List.set_set] at hfin
  exact hfin

end Go.Proofs.YtcppgpjodfeigaaDoor

namespace Go.Proofs.YtcppgpjodfeigaaDoor
set_option linter.unusedVariables false
set_option linter.unusedSimpArgs false
open Go.RowKit

/-- An arena behind two nodes less. -/
def Ar.fr (a : Ar) (x y : Nat) : Ar := ⟨(a.T.set x false).set y false, a.F ++ [x, y], a.M⟩
def Ar.fr1 (a : Ar) (x : Nat) : Ar := ⟨a.T.set x false, a.F ++ [x], a.M⟩
theorem arIs_nat {T : List Bool} {x : Nat} (h : T[x]? = some true) : arIs T (x : Int) = true := by
  rw [arIs_iff]; exact ⟨by omega, by simpa using h⟩
theorem Ar.free2 {a : Ar} {x y : Nat} (hx : a.T[x]? = some true) (hy : a.T[y]? = some true) (hxy : x ≠ y) : a.free [(x : Int), (y : Int)] = (0, a.fr x y) := by
  have h1 := arIs_nat hx
  have h2 : arIs (a.T.set x false) (y : Int) = true := arIs_nat (by rw [List.getElem?_set, if_neg hxy]; exact hy)
  unfold Ar.free
  simp only [clr, h1, if_true, Int.toNat_natCast, h2]
  rfl
theorem Ar.free1 {a : Ar} {x : Nat} (hx : a.T[x]? = some true) : a.free [(x : Int)] = (0, a.fr1 x) := by
  have h1 := arIs_nat hx
  unfold Ar.free
  simp only [clr, h1, if_true, Int.toNat_natCast]
  rfl
theorem Ar.fr_live {a : Ar} (h : a.Ok) {x y : Nat} (hx : a.T[x]? = some true) (hy : a.T[y]? = some true) (hxy : x ≠ y) : (a.fr x y).live + 2 = a.live := by
  have hk : (a.fr x y).Ok := by
    have := Ar.free_ok h [(x : Int), (y : Int)]
    rw [Ar.free2 hx hy hxy] at this; exact this
  have h1 := hk.fle
  simp only [Ar.fr, Ar.live, List.length_append, List.length_set, List.length_cons, List.length_nil] at *
  omega
theorem Ar.fr1_live {a : Ar} (h : a.Ok) {x : Nat} (hx : a.T[x]? = some true) : (a.fr1 x).live + 1 = a.live := by
  have hk : (a.fr1 x).Ok := by
    have := Ar.free_ok h [(x : Int)]
    rw [Ar.free1 hx] at this; exact this
  have h1 := hk.fle
  simp only [Ar.fr1, Ar.live, List.length_append, List.length_set, List.length_cons, List.length_nil] at *
  omega
theorem Ar.fr_T {a : Ar} {x y j : Nat} (h1 : j ≠ x) (h2 : j ≠ y) : (a.fr x y).T[j]? = a.T[j]? := by
  simp only [Ar.fr]
  rw [set_ne h2, set_ne h1]

section
variable {w : World} {p : Nat} {C : Nat → Prop} {A : Ar} {xs : List Nd} {root vis : Int}
theorem reads_two {w : World} {B : Nat} {x y : Int} {T : TypeId} (h : w.heap[B]? = some (.cells #[.int .i64 x, .int .i64 y] T (0, 0))) : Reads w .i64 (some ⟨B, 0, none⟩) [x, y] := by
  intro i hi
  refine ⟨B, 0, rfl, (Array.getElem?_eq_some_iff.1 h).1, fun j hj => ?_⟩
  match j, hj with
  | 0, _ => rw [cell_of_row w B _ _ _ _ h]; rfl
  | 1, _ => rw [cell_of_row w B _ _ _ _ h]; rfl
theorem reads_lone {w : World} {B : Nat} {x : Int} {T : TypeId} (h : w.heap[B]? = some (.cells #[.int .i64 x] T (0, 0))) : Reads w .i64 (some ⟨B, 0, none⟩) [x] := by
  intro i hi
  refine ⟨B, 0, rfl, (Array.getElem?_eq_some_iff.1 h).1, fun j hj => ?_⟩
  match j, hj with
  | 0, _ => rw [cell_of_row w B _ _ _ _ h]; rfl
/-- Two nodes are given back. -/
theorem tFree2 (h : Head w p C A xs root vis) {x y : Nat} (hx : A.T[x]? = some true) (hy : A.T[y]? = some true) (hxy : x ≠ y) :
    ∃ ap, w.cell? ⟨p, 0, none⟩ = some (.pointer (some ⟨ap, 0, none⟩)) ∧ Calls Tryd.prog 75 #[.pointer (some ⟨ap, 0, none⟩), .slice (some ⟨w.heap.size, 0, none⟩) 2 2] (w.alloc (.cells #[.int .i64 x, .int .i64 y] 3)) fun e w' =>
      e = .returned (.int .i64 0) ∧ ∃ C', Head w' p C' (A.fr x y) xs root vis ∧ HStep w w' C C' := by
  have hb := below_alloc w (.cells #[.int .i64 x, .int .i64 y] 3)
  obtain ⟨ap, SA, p0, hA, hsub, hstep⟩ := (h.below hb).arena
  refine ⟨ap, (hb.cell (p := ⟨p, 0, none⟩) (h.lt p h.self)).symm.trans p0, ?_⟩
  have hf := arFree_any hA [(x : Int), (y : Int)] (some ⟨w.heap.size, 0, none⟩) 2 (reads_two (heap_alloc_new w _)) (fun h => by cases h) (fun ad had hs => by cases had; have := h.lt _ (hsub _ hs); simp at this) (by simp) (by simp)
  refine hf.mono ?_
  rintro e w' ⟨rfl, hst⟩
  rw [Ar.free2 hx hy hxy] at hst ⊢
  obtain ⟨C', g1, g2⟩ := hstep _ _ hst
  exact ⟨rfl, C', g1, (HStep.of_below hb).trans g2⟩
theorem tFree1 (h : Head w p C A xs root vis) {x : Nat} (hx : A.T[x]? = some true) :
    ∃ ap, w.cell? ⟨p, 0, none⟩ = some (.pointer (some ⟨ap, 0, none⟩)) ∧ Calls Tryd.prog 75 #[.pointer (some ⟨ap, 0, none⟩), .slice (some ⟨w.heap.size, 0, none⟩) 1 1] (w.alloc (.cells #[.int .i64 x] 3)) fun e w' =>
      e = .returned (.int .i64 0) ∧ ∃ C', Head w' p C' (A.fr1 x) xs root vis ∧ HStep w w' C C' := by
  have hb := below_alloc w (.cells #[.int .i64 x] 3)
  obtain ⟨ap, SA, p0, hA, hsub, hstep⟩ := (h.below hb).arena
  refine ⟨ap, (hb.cell (p := ⟨p, 0, none⟩) (h.lt p h.self)).symm.trans p0, ?_⟩
  have hf := arFree_any hA [(x : Int)] (some ⟨w.heap.size, 0, none⟩) 1 (reads_lone (heap_alloc_new w _)) (fun h => by cases h) (fun ad had hs => by cases had; have := h.lt _ (hsub _ hs); simp at this) (by simp) (by simp)
  refine hf.mono ?_
  rintro e w' ⟨rfl, hst⟩
  rw [Ar.free1 hx] at hst ⊢
  obtain ⟨C', g1, g2⟩ := hstep _ _ hst
  exact ⟨rfl, C', g1, (HStep.of_below hb).trans g2⟩
end

/-- A subtree whose first node may not be counted. -/
def SubW (w : World) (xs : List Nd) : TT → Prop
  | .leaf k q l => Sub w xs (.leaf k q l)
  | .pair k a c => ∃ x, xs[k]? = some x ∧ x.left = a.num ∧ x.right = c.num ∧ x.b = none ∧ Sub w xs a ∧ Sub w xs c
/-- What mend leaves. -/
def MendPost (w w' : World) (p : Nat) (C : Nat → Prop) (A : Ar) (xs : List Nd) (root vis : Int) (T : TT) (e : Ending) : Prop :=
  ∃ T' C' A' xs' v', e = .returned (.int .i64 T'.num) ∧ Head w' p C' A' xs' root v' ∧ SubPre w w' C A xs T T' C' A' xs' ∧ T'.st = mendT T.st ∧ vis ≤ v' ∧ v' ≤ vis + 2 ∧ SubW w' xs' T' ∧ A'.T.length = A.T.length

theorem SubPre.refl {w w' : World} {C : Nat → Prop} {A : Ar} {xs : List Nd} {T : TT} (hO : Own A T) (hl : xs.length = A.T.length) (hc : Chg C w w') : SubPre w w' C A xs T T C A xs :=
  ⟨hO, hl, fun j hj => Or.inl hj, fun j hj => Or.inl hj, fun j h1 h2 => ⟨rfl, h1, h2⟩, rfl, rfl, hc.mono (fun j hj => Or.inl hj)⟩

set_option maxHeartbeats 1600000 in
set_option maxRecDepth 100000 in
theorem tMend_no {w : World} {p : Nat} {C : Nat → Prop} {A : Ar} {xs : List Nd} {root vis : Int} (h : Head w p C A xs root vis) (hlen : xs.length = A.T.length) {k : Nat} {l r : TT} (hS : SubW w xs (.pair k l r)) (hO : Own A (.pair k l r)) (hf : l.st.few = false ∧ r.st.few = false) :
    Calls Tryd.prog 106 #[.pointer (some ⟨p, 0, none⟩), .int .i64 k] w fun e w' => MendPost w w' p C A xs root vis (.pair k l r) e := by
  obtain ⟨x, hx, hxl, hxr, hxb, hl, hr⟩ := hS
  obtain ⟨g, rc, cur, c1, _⟩ := h.row (by have := (List.getElem?_eq_some_iff.1 hx).1; omega)
  obtain ⟨_, _, hkx, _⟩ := h.node c1 hx
  obtain ⟨a0, a1, _⟩ := h.eight c1 hx
  rw [hxl] at a0
  rw [hxr] at a1
  have HF1 : Hid (∀ n, Calls Tryd.prog 120 #[.pointer (some ⟨p, 0, none⟩), .int .i64 l.num] (w.drewN n) fun e w' => e = .returned (.bool false) ∧ w.drewN n = w') := fun n => by
    have := tFew_any (h.drewN n) (hl.keep (w' := w.drewN n) (fun _ _ => rfl) (fun _ _ => rfl)); rw [hf.1] at this; exact this
  have HF2 : Hid (∀ n, Calls Tryd.prog 120 #[.pointer (some ⟨p, 0, none⟩), .int .i64 r.num] (w.drewN n) fun e w' => e = .returned (.bool false) ∧ w.drewN n = w') := fun n => by
    have := tFew_any (h.drewN n) (hr.keep (w' := w.drewN n) (fun _ _ => rfl) (fun _ _ => rfl)); rw [hf.2] at this; exact this
  have hm : (TT.pair k l r).st = mendT (TT.pair k l r).st := by simp only [TT.st, mendT]; rw [if_pos hf]
  have HM := Lib.hid hm
  have HFIN : Hid (∀ n, Head (w.drewN n) p C A xs root vis ∧ SubPre w (w.drewN n) C A xs (.pair k l r) (.pair k l r) C A xs ∧ SubW (w.drewN n) xs (.pair k l r)) := fun n =>
    ⟨h.drewN n, SubPre.refl hO hlen (Chg.refl.drewN n), x, hx, hxl, hxr, hxb, hl.keep (fun _ _ => rfl) (fun _ _ => rfl), hr.keep (fun _ _ => rfl) (fun _ _ => rfl)⟩
  obtain ⟨nl, hnl⟩ : ∃ n, l.num = n := ⟨_, rfl⟩
  obtain ⟨nr, hnr⟩ : ∃ n, r.num = n := ⟨_, rfl⟩
  rw [hnl] at a0 HF1
  rw [hnr] at a1 HF2
  clear h hlen hO hf hx hxl hxr hxb hl hr hm hnl hnr
  go_enter Tryd.func106, Tryd.ntmps106
  go_wp2_with fail
  go_quiet (fail)
  obtain ⟨n1, rfl⟩ : ∃ n1, n1 = nq := ⟨_, rfl⟩
  go_wp2_with fail
  refine (HF1.out n1).mono ?_
  rintro e w' ⟨rfl, rfl⟩
  go_wp2_with fail
  refine (HF2.out n1).mono ?_
  rintro e w' ⟨rfl, rfl⟩
  go_wp2_with fail
  go_ret
  obtain ⟨f1, f2, f3⟩ := HFIN.out n1
  exact ⟨.pair k l r, C, A, xs, vis, rfl, f1, f2, HM.out, by omega, by omega, f3, rfl⟩

end Go.Proofs.YtcppgpjodfeigaaDoor

namespace Go.Proofs.YtcppgpjodfeigaaDoor
set_option linter.unusedVariables false
set_option linter.unusedSimpArgs false
open Go.RowKit

set_option maxHeartbeats 6400000 in
set_option maxRecDepth 100000 in
theorem tMend_join {w : World} {p : Nat} {C : Nat → Prop} {A : Ar} {xs : List Nd} {root vis : Int} (h : Head w p C A xs root vis) (hlen : xs.length = A.T.length) (hv0 : 0 ≤ vis) (hv : vis ≤ 100000000000) {k i qa j qb : Nat} {la lb : List Bool} (hS : SubW w xs (.pair k (.leaf i qa la) (.leaf j qb lb))) (hO : Own A (.pair k (.leaf i qa la) (.leaf j qb lb)))
    (hf : (TT.leaf i qa la).st.few = true ∨ ((TT.leaf i qa la).st.few = false ∧ (TT.leaf j qb lb).st.few = true)) (hle : la.length + lb.length ≤ 128) :
    Calls Tryd.prog 106 #[.pointer (some ⟨p, 0, none⟩), .int .i64 k] w fun e w' => MendPost w w' p C A xs root vis (.pair k (.leaf i qa la) (.leaf j qb lb)) e := by
  obtain ⟨x, hx, hxl, hxr, hxb, hl, hr⟩ := hS
  obtain ⟨g, rc, cur, c1, hgp, hCg, _⟩ := h.row (by have := (List.getElem?_eq_some_iff.1 hx).1; omega)
  obtain ⟨_, _, hkx, _⟩ := h.node c1 hx
  obtain ⟨a0, a1, _⟩ := h.eight c1 hx
  rw [hxl] at a0
  rw [hxr] at a1
  change w.cell? ⟨g, k * 8, none⟩ = some (.int .i64 (i : Int)) at a0
  change w.cell? ⟨g, k * 8 + 1, none⟩ = some (.int .i64 (j : Int)) at a1
  obtain ⟨_, _, cv, fz⟩ := h.cells
  have f3 := fz 3
  have HF1 : Hid (∀ n, Calls Tryd.prog 120 #[.pointer (some ⟨p, 0, none⟩), .int .i64 i] (w.drewN n) fun e w' => e = .returned (.bool (TT.leaf i qa la).st.few) ∧ w.drewN n = w') := fun n =>
    tFew_any (T := TT.leaf i qa la) (h.drewN n) (hl.keep (w' := w.drewN n) (fun _ _ => rfl) (fun _ _ => rfl))
  have HF2 : Hid (∀ n, Calls Tryd.prog 120 #[.pointer (some ⟨p, 0, none⟩), .int .i64 j] (w.drewN n) fun e w' => e = .returned (.bool (TT.leaf j qb lb).st.few) ∧ w.drewN n = w') := fun n =>
    tFew_any (T := TT.leaf j qb lb) (h.drewN n) (hr.keep (w' := w.drewN n) (fun _ _ => rfl) (fun _ _ => rfl))
  have h1 : ∀ n, Head ((w.drewN n).setCell ⟨p, 3, none⟩ (.int .i64 (vis + 2))) p C A xs root (vis + 2) := fun n => (h.drewN n).set3 _
  have g1 : ∀ n, Chg C w ((w.drewN n).setCell ⟨p, 3, none⟩ (.int .i64 (vis + 2))) := fun n => (Chg.refl.drewN n).setCell _ (Or.inl h.self) _
  have HL1 : Hid (∀ n, Sub ((w.drewN n).setCell ⟨p, 3, none⟩ (.int .i64 (vis + 2))) xs (TT.leaf i qa la)) := fun n => hl.chgC h (g1 n) (fun _ _ => rfl)
  have HR1 : Hid (∀ n, Sub ((w.drewN n).setCell ⟨p, 3, none⟩ (.int .i64 (vis + 2))) xs (TT.leaf j qb lb)) := fun n => hr.chgC h (g1 n) (fun _ _ => rfl)
  have HC1 : Hid (∀ n, ((w.drewN n).setCell ⟨p, 3, none⟩ (.int .i64 (vis + 2))).cell? ⟨p, 1, none⟩ = some (.slice (some ⟨g, 0, none⟩) xs.length rc)) := fun n => by
    have := c1
    go_simp
  have H1 := Lib.hid h1
  have G1 := Lib.hid g1
  have HO := Lib.hid hO
  have HLN := Lib.hid hlen
  have HX : Hid (xs[k]? = some x ∧ x.left = i ∧ x.right = j ∧ x.b = none) := ⟨hx, hxl, hxr, hxb⟩
  obtain ⟨_, _, hix, _⟩ := h.node c1 hl.root
  obtain ⟨_, _, hjx, _⟩ := h.node c1 hr.root
  obtain ⟨_, _, _, _, _, _, _, b7⟩ := h.eight c1 hl.root
  obtain ⟨_, _, _, _, _, _, _, d7⟩ := h.eight c1 hr.root
  change w.cell? ⟨g, i * 8 + 7, none⟩ = some (.pointer (some ⟨qa, 0, none⟩)) at b7
  change w.cell? ⟨g, j * 8 + 7, none⟩ = some (.pointer (some ⟨qb, 0, none⟩)) at d7
  change i < xs.length at hix
  change j < xs.length at hjx
  have hqq : qa ≠ qb := by have := hO.bn; simp [TT.bl] at this; exact this
  have hnn : k ≠ i ∧ k ≠ j ∧ i ≠ j := by have := hO.nn; simp [TT.nums] at this; exact ⟨this.1.1, this.1.2, this.2⟩
  have HNN := Lib.hid hnn
  have hmd : mendT (TT.pair k (.leaf i qa la) (.leaf j qb lb)).st = lev la lb := by
    simp only [TT.st, mendT]
    rw [if_neg (by rintro ⟨e1, e2⟩; rcases hf with hf | ⟨_, hf⟩ <;> simp only [TT.st] at hf <;> simp_all)]
  have HMD := Lib.hid hmd
  have hpw := h.lt p h.self
  have hgw := h.lt g hCg
  have HXI : Hid (xs[i]? = some (TT.leaf i qa la).nd) := hl.root
  have HXJ : Hid (xs[j]? = some (TT.leaf j qb lb).nd) := hr.root
  have HLV : Hid (∀ n, Calls Tryd.prog 121 #[.pointer (some ⟨p, 0, none⟩), .int .i64 i, .int .i64 j] ((w.drewN n).setCell ⟨p, 3, none⟩ (.int .i64 (vis + 2))) fun e w' => e = .returned (.bool false) ∧ Head w' p C A (xs.set i (TT.leaf i qa (la ++ lb)).nd) root (vis + 2) ∧ IsBlock w' qa (la ++ lb) ∧ Chg (fun b => C b ∨ b = qa ∨ b = qb) ((w.drewN n).setCell ⟨p, 3, none⟩ (.int .i64 (vis + 2))) w') :=
    fun n => tLev_join (h1 n) (HL1.out n) (HR1.out n) hqq hle
  clear h hlen hO hx hxl hxr hxb hl hr fz h1 g1 hnn hmd hCg hqq
  rcases hf with hlf | ⟨hlf, hrf⟩
  case' inl =>
    have HLF := Lib.hid hlf
    clear hlf
    go_enter Tryd.func106, Tryd.ntmps106
    go_wp2_with fail
    go_quiet (fail)
    obtain ⟨n1, rfl⟩ : ∃ n1, n1 = nq := ⟨_, rfl⟩
    go_wp2_with fail
    refine (HF1.out n1).mono ?_
    rintro e w' ⟨rfl, rfl⟩
    rw [HLF.out]
    go_wp2_with fail
  case' inr =>
    have HLF := Lib.hid hlf
    have HRF := Lib.hid hrf
    clear hlf hrf
    go_enter Tryd.func106, Tryd.ntmps106
    go_wp2_with fail
    go_quiet (fail)
    obtain ⟨n1, rfl⟩ : ∃ n1, n1 = nq := ⟨_, rfl⟩
    go_wp2_with fail
    refine (HF1.out n1).mono ?_
    rintro e w' ⟨rfl, rfl⟩
    rw [HLF.out]
    go_wp2_with fail
    refine (HF2.out n1).mono ?_
    rintro e w' ⟨rfl, rfl⟩
    rw [HRF.out]
    go_wp2_with fail
  all_goals
    refine (HLV.out n1).mono ?_
    rintro e w2 ⟨rfl, h2, q2, g2⟩
    have tk := HO.out.tk
    obtain ⟨m1, m2, m3⟩ := HNN.out
    obtain ⟨ap, p0, hfr⟩ := tFree2 h2 (tk j (by simp [TT.nums])) (tk k TT.mem_k) m2.symm
    have HFR := Lib.hid hfr
    have H2 := Lib.hid h2
    have Q2 := Lib.hid q2
    have G2 := Lib.hid g2
    clear h2 q2 g2 tk m1 m2 m3 hfr
    go_wp2_with fail
    refine HFR.out.mono ?_
    rintro e w3 ⟨rfl, C3, h3, s3⟩
    have H3 := Lib.hid h3
    have S3 := Lib.hid s3
    clear h3 s3
    go_wp2_with fail
    go_ret
    obtain ⟨m1, m2, m3⟩ := HNN.out
    have tk := HO.out.tk
    have g12 : Chg (fun b => C b ∨ b ∈ (TT.pair k (.leaf i qa la) (.leaf j qb lb)).bl) w w2 := ((G1.out n1).mono (fun b hb => Or.inl hb)).trans G2.out (fun b hb => Or.inl (by simpa [TT.bl] using hb))
    have hsz := g12.size
    refine ⟨.leaf i qa (la ++ lb), C3, A.fr j k, _, _, rfl, H3.out, ⟨⟨by simp [TT.nums], by simp [TT.bl], fun b hb => ?_⟩, ?_, fun b hb => (S3.out.new b hb).imp id (fun h => by omega), fun b hb => ?_, fun b e1 e2 => ?_, ?_, rfl, g12.trans S3.out.chg (fun b hb => Or.inl (Or.inl hb))⟩, ?_, by omega, by omega, ⟨?_, ?_⟩, by simp [Ar.fr]⟩
    · simp [TT.nums] at hb; subst hb
      rw [Ar.fr_T m3 m1.symm]; exact tk _ (by simp [TT.nums])
    · rw [List.length_set, HLN.out]; simp [Ar.fr]
    · simp [TT.bl] at hb; subst hb; exact Or.inl (by simp [TT.bl])
    · simp only [TT.nums, List.mem_cons, List.mem_append, List.not_mem_nil, or_false, not_or] at e2
      refine ⟨set_ne e2.2.1, by rw [Ar.fr_T e2.2.2 e2.1]; exact e1, by simp [TT.nums, e2.2.1]⟩
    · have hk := (H2.out.arOk)
      have := Ar.fr_live hk (tk j (by simp [TT.nums])) (tk k TT.mem_k) m2.symm
      simp only [TT.st, ST.size]; omega
    · rw [HMD.out]; simp only [TT.st, lev]; rw [if_pos hle]
    · exact set_get HXI.out
    · exact Q2.out.chg S3.out.chg (H2.out.notBlk Q2.out.type)

set_option maxHeartbeats 6400000 in
set_option maxRecDepth 100000 in
theorem tMend_split {w : World} {p : Nat} {C : Nat → Prop} {A : Ar} {xs : List Nd} {root vis : Int} (h : Head w p C A xs root vis) (hlen : xs.length = A.T.length) (hv0 : 0 ≤ vis) (hv : vis ≤ 100000000000) {k i qa j qb : Nat} {la lb : List Bool} (hS : SubW w xs (.pair k (.leaf i qa la) (.leaf j qb lb))) (hO : Own A (.pair k (.leaf i qa la) (.leaf j qb lb)))
    (hf : (TT.leaf i qa la).st.few = true ∨ ((TT.leaf i qa la).st.few = false ∧ (TT.leaf j qb lb).st.few = true)) (hle : ¬ la.length + lb.length ≤ 128) :
    Calls Tryd.prog 106 #[.pointer (some ⟨p, 0, none⟩), .int .i64 k] w fun e w' => MendPost w w' p C A xs root vis (.pair k (.leaf i qa la) (.leaf j qb lb)) e := by
  obtain ⟨x, hx, hxl, hxr, hxb, hl, hr⟩ := hS
  obtain ⟨g, rc, cur, c1, hgp, hCg, _⟩ := h.row (by have := (List.getElem?_eq_some_iff.1 hx).1; omega)
  obtain ⟨_, _, hkx, _⟩ := h.node c1 hx
  obtain ⟨a0, a1, _⟩ := h.eight c1 hx
  rw [hxl] at a0
  rw [hxr] at a1
  change w.cell? ⟨g, k * 8, none⟩ = some (.int .i64 (i : Int)) at a0
  change w.cell? ⟨g, k * 8 + 1, none⟩ = some (.int .i64 (j : Int)) at a1
  obtain ⟨_, _, cv, fz⟩ := h.cells
  have f3 := fz 3
  have HF1 : Hid (∀ n, Calls Tryd.prog 120 #[.pointer (some ⟨p, 0, none⟩), .int .i64 i] (w.drewN n) fun e w' => e = .returned (.bool (TT.leaf i qa la).st.few) ∧ w.drewN n = w') := fun n =>
    tFew_any (T := TT.leaf i qa la) (h.drewN n) (hl.keep (w' := w.drewN n) (fun _ _ => rfl) (fun _ _ => rfl))
  have HF2 : Hid (∀ n, Calls Tryd.prog 120 #[.pointer (some ⟨p, 0, none⟩), .int .i64 j] (w.drewN n) fun e w' => e = .returned (.bool (TT.leaf j qb lb).st.few) ∧ w.drewN n = w') := fun n =>
    tFew_any (T := TT.leaf j qb lb) (h.drewN n) (hr.keep (w' := w.drewN n) (fun _ _ => rfl) (fun _ _ => rfl))
  have h1 : ∀ n, Head ((w.drewN n).setCell ⟨p, 3, none⟩ (.int .i64 (vis + 2))) p C A xs root (vis + 2) := fun n => (h.drewN n).set3 _
  have g1 : ∀ n, Chg C w ((w.drewN n).setCell ⟨p, 3, none⟩ (.int .i64 (vis + 2))) := fun n => (Chg.refl.drewN n).setCell _ (Or.inl h.self) _
  have HL1 : Hid (∀ n, Sub ((w.drewN n).setCell ⟨p, 3, none⟩ (.int .i64 (vis + 2))) xs (TT.leaf i qa la)) := fun n => hl.chgC h (g1 n) (fun _ _ => rfl)
  have HR1 : Hid (∀ n, Sub ((w.drewN n).setCell ⟨p, 3, none⟩ (.int .i64 (vis + 2))) xs (TT.leaf j qb lb)) := fun n => hr.chgC h (g1 n) (fun _ _ => rfl)
  have HC1 : Hid (∀ n, ((w.drewN n).setCell ⟨p, 3, none⟩ (.int .i64 (vis + 2))).cell? ⟨p, 1, none⟩ = some (.slice (some ⟨g, 0, none⟩) xs.length rc)) := fun n => by
    have := c1
    go_simp
  have H1 := Lib.hid h1
  have G1 := Lib.hid g1
  have HO := Lib.hid hO
  have HLN := Lib.hid hlen
  have HX : Hid (xs[k]? = some x ∧ x.left = i ∧ x.right = j ∧ x.b = none) := ⟨hx, hxl, hxr, hxb⟩
  obtain ⟨_, _, hix, _⟩ := h.node c1 hl.root
  obtain ⟨_, _, hjx, _⟩ := h.node c1 hr.root
  obtain ⟨_, _, _, _, _, _, _, b7⟩ := h.eight c1 hl.root
  obtain ⟨_, _, _, _, _, _, _, d7⟩ := h.eight c1 hr.root
  change w.cell? ⟨g, i * 8 + 7, none⟩ = some (.pointer (some ⟨qa, 0, none⟩)) at b7
  change w.cell? ⟨g, j * 8 + 7, none⟩ = some (.pointer (some ⟨qb, 0, none⟩)) at d7
  change i < xs.length at hix
  change j < xs.length at hjx
  have hqq : qa ≠ qb := by have := hO.bn; simp [TT.bl] at this; exact this
  have hnn : k ≠ i ∧ k ≠ j ∧ i ≠ j := by have := hO.nn; simp [TT.nums] at this; exact ⟨this.1.1, this.1.2, this.2⟩
  have HNN := Lib.hid hnn
  have hmd : mendT (TT.pair k (.leaf i qa la) (.leaf j qb lb)).st = lev la lb := by
    simp only [TT.st, mendT]
    rw [if_neg (by rintro ⟨e1, e2⟩; rcases hf with hf | ⟨_, hf⟩ <;> simp only [TT.st] at hf <;> simp_all)]
  have HMD := Lib.hid hmd
  have hpw := h.lt p h.self
  have hgw := h.lt g hCg
  have HXI : Hid (xs[i]? = some (TT.leaf i qa la).nd) := hl.root
  have HXJ : Hid (xs[j]? = some (TT.leaf j qb lb).nd) := hr.root
  have HLV : Hid (∀ n, Calls Tryd.prog 121 #[.pointer (some ⟨p, 0, none⟩), .int .i64 i, .int .i64 j] ((w.drewN n).setCell ⟨p, 3, none⟩ (.int .i64 (vis + 2))) _) :=
    fun n => tLev_split (h1 n) (HL1.out n) (HR1.out n) hnn.2.2 hqq (by omega)
  clear h hlen hO hx hxl hxr hxb hl hr fz h1 g1 hnn hmd hCg hqq
  rcases hf with hlf | ⟨hlf, hrf⟩
  case' inl =>
    have HLF := Lib.hid hlf
    clear hlf
    go_enter Tryd.func106, Tryd.ntmps106
    go_wp2_with fail
    go_quiet (fail)
    obtain ⟨n1, rfl⟩ : ∃ n1, n1 = nq := ⟨_, rfl⟩
    go_wp2_with fail
    refine (HF1.out n1).mono ?_
    rintro e w' ⟨rfl, rfl⟩
    rw [HLF.out]
    go_wp2_with fail
  case' inr =>
    have HLF := Lib.hid hlf
    have HRF := Lib.hid hrf
    clear hlf hrf
    go_enter Tryd.func106, Tryd.ntmps106
    go_wp2_with fail
    go_quiet (fail)
    obtain ⟨n1, rfl⟩ : ∃ n1, n1 = nq := ⟨_, rfl⟩
    go_wp2_with fail
    refine (HF1.out n1).mono ?_
    rintro e w' ⟨rfl, rfl⟩
    rw [HLF.out]
    go_wp2_with fail
    refine (HF2.out n1).mono ?_
    rintro e w' ⟨rfl, rfl⟩
    rw [HRF.out]
    go_wp2_with fail
  all_goals
    refine (HLV.out n1).mono ?_
    rintro e w2 ⟨rfl, q1, q2, u1, u2, u3, h2, b1, b2, g2⟩
    have H2 := Lib.hid h2
    have B1 := Lib.hid b1
    have B2 := Lib.hid b2
    have G2 := Lib.hid g2
    have U : Hid (w.heap.size ≤ q1 ∧ w.heap.size ≤ q2 ∧ q1 ≠ q2) := ⟨Nat.le_trans (G1.out n1).size u1, Nat.le_trans (G1.out n1).size u2, u3⟩
    clear h2 b1 b2 g2 u1 u2 u3
    go_wp2_with fail
    go_ret
    obtain ⟨m1, m2, m3⟩ := HNN.out
    obtain ⟨u1, u2, u3⟩ := U.out
    have tk := HO.out.tk
    have g12 : Chg (fun b => C b ∨ b ∈ (TT.pair k (.leaf i qa la) (.leaf j qb lb)).bl) w w2 := ((G1.out n1).trans G2.out (fun b hb => Or.inl hb)).mono (fun b hb => Or.inl hb)
    have hg0 := H2.out
    refine ⟨.pair k (.leaf i q1 ((la ++ lb).take ((la.length + lb.length) / 2))) (.leaf j q2 ((la ++ lb).drop ((la.length + lb.length) / 2))), C, A, _, _, rfl, H2.out, ⟨⟨by simp [TT.nums, m1, m2, m3], by simp [TT.bl, u3], fun b hb => tk b (by simpa [TT.nums] using hb)⟩, ?_, fun b hb => Or.inl hb, fun b hb => ?_, fun b e1 e2 => ?_, ?_, rfl, g12⟩, ?_, by omega, by omega, ⟨x, ?_, HX.out.2.1, HX.out.2.2.1, HX.out.2.2.2, ⟨?_, B1.out⟩, ⟨?_, B2.out⟩⟩, rfl⟩
    · rw [List.length_set, List.length_set]; exact HLN.out
    · simp [TT.bl] at hb; rcases hb with rfl | rfl
      · exact Or.inr u1
      · exact Or.inr u2
    · simp only [TT.nums, List.mem_cons, List.mem_append, List.not_mem_nil, or_false, not_or] at e2
      refine ⟨by rw [set_ne e2.2.2, set_ne e2.2.1], e1, by simp [TT.nums, e2.1, e2.2.1, e2.2.2]⟩
    · simp only [TT.st, ST.size]
    · rw [HMD.out]; simp only [TT.st, lev]; rw [if_neg hle]
    · rw [set_ne m2, set_ne m1]; exact HX.out.1
    · rw [set_ne m3]; exact set_get HXI.out
    · exact set_get (x := (TT.leaf j qb lb).nd) (by rw [set_ne m3.symm]; exact HXJ.out)

end Go.Proofs.YtcppgpjodfeigaaDoor

namespace Go.Proofs.YtcppgpjodfeigaaDoor
set_option linter.unusedVariables false
set_option linter.unusedSimpArgs false
open Go.RowKit

set_option maxHeartbeats 6400000 in
set_option maxRecDepth 100000 in
theorem tMend_ljoin {w : World} {p : Nat} {C : Nat → Prop} {A : Ar} {xs : List Nd} {root vis : Int} (h : Head w p C A xs root vis) (hlen : xs.length = A.T.length) (hv0 : 0 ≤ vis) (hv : vis ≤ 100000000000) {k i qa r m qm : Nat} {la lm : List Bool} {c : TT} (hS : SubW w xs (.pair k (.leaf i qa la) (.pair r (.leaf m qm lm) c))) (hO : Own A (.pair k (.leaf i qa la) (.pair r (.leaf m qm lm) c)))
    (hf : (TT.leaf i qa la).st.few = true) (hsm : Small (TT.pair r (.leaf m qm lm) c).st) (hle : la.length + lm.length ≤ 128) :
    Calls Tryd.prog 106 #[.pointer (some ⟨p, 0, none⟩), .int .i64 k] w fun e w' => MendPost w w' p C A xs root vis (.pair k (.leaf i qa la) (.pair r (.leaf m qm lm) c)) e := by
  obtain ⟨x, hx, hxl, hxr, hxb, hl, hr⟩ := hS
  obtain ⟨g, rc, cur, c1, hgp, hCg, _⟩ := h.row (by have := (List.getElem?_eq_some_iff.1 hx).1; omega)
  obtain ⟨_, _, hkx, _⟩ := h.node c1 hx
  obtain ⟨a0, a1, _⟩ := h.eight c1 hx
  rw [hxl] at a0
  rw [hxr] at a1
  change w.cell? ⟨g, k * 8, none⟩ = some (.int .i64 (i : Int)) at a0
  change w.cell? ⟨g, k * 8 + 1, none⟩ = some (.int .i64 (r : Int)) at a1
  obtain ⟨_, _, cv, fz⟩ := h.cells
  have f3 := fz 3
  have HF1 : Hid (∀ n, Calls Tryd.prog 120 #[.pointer (some ⟨p, 0, none⟩), .int .i64 i] (w.drewN n) fun e w' => e = .returned (.bool (TT.leaf i qa la).st.few) ∧ w.drewN n = w') := fun n =>
    tFew_any (T := TT.leaf i qa la) (h.drewN n) (hl.keep (w' := w.drewN n) (fun _ _ => rfl) (fun _ _ => rfl))
  have HF2 : Hid (∀ n, Calls Tryd.prog 120 #[.pointer (some ⟨p, 0, none⟩), .int .i64 r] (w.drewN n) fun e w' => e = .returned (.bool (TT.pair r (TT.leaf m qm lm) c).st.few) ∧ w.drewN n = w') := fun n =>
    tFew_any (T := TT.pair r (TT.leaf m qm lm) c) (h.drewN n) (hr.keep (w' := w.drewN n) (fun _ _ => rfl) (fun _ _ => rfl))
  have h1 : ∀ n, Head ((w.drewN n).setCell ⟨p, 3, none⟩ (.int .i64 (vis + 2))) p C A xs root (vis + 2) := fun n => (h.drewN n).set3 _
  have g1 : ∀ n, Chg C w ((w.drewN n).setCell ⟨p, 3, none⟩ (.int .i64 (vis + 2))) := fun n => (Chg.refl.drewN n).setCell _ (Or.inl h.self) _
  have HL1 : Hid (∀ n, Sub ((w.drewN n).setCell ⟨p, 3, none⟩ (.int .i64 (vis + 2))) xs (TT.leaf i qa la)) := fun n => hl.chgC h (g1 n) (fun _ _ => rfl)
  have HR1 : Hid (∀ n, Sub ((w.drewN n).setCell ⟨p, 3, none⟩ (.int .i64 (vis + 2))) xs (TT.pair r (TT.leaf m qm lm) c)) := fun n => hr.chgC h (g1 n) (fun _ _ => rfl)
  have HC1 : Hid (∀ n, ((w.drewN n).setCell ⟨p, 3, none⟩ (.int .i64 (vis + 2))).cell? ⟨p, 1, none⟩ = some (.slice (some ⟨g, 0, none⟩) xs.length rc)) := fun n => by
    have := c1
    go_simp
  have H1 := Lib.hid h1
  have G1 := Lib.hid g1
  have HO := Lib.hid hO
  have HLN := Lib.hid hlen
  have HX : Hid (xs[k]? = some x ∧ x.left = i ∧ x.right = r ∧ x.b = none) := ⟨hx, hxl, hxr, hxb⟩
  obtain ⟨_, _, hix, _⟩ := h.node c1 hl.root
  obtain ⟨_, _, hrx, _⟩ := h.node c1 hr.root
  obtain ⟨_, _, _, _, _, _, _, b7⟩ := h.eight c1 hl.root
  obtain ⟨d0, d1, _, _, _, _, _, d7⟩ := h.eight c1 hr.root
  change w.cell? ⟨g, i * 8 + 7, none⟩ = some (.pointer (some ⟨qa, 0, none⟩)) at b7
  change w.cell? ⟨g, r * 8, none⟩ = some (.int .i64 (m : Int)) at d0
  change w.cell? ⟨g, r * 8 + 1, none⟩ = some (.int .i64 (c.num : Int)) at d1
  change w.cell? ⟨g, r * 8 + 7, none⟩ = some (.pointer none) at d7
  change i < xs.length at hix
  change r < xs.length at hrx
  have hD : k ≠ i ∧ k ≠ r ∧ k ≠ m ∧ k ∉ c.nums ∧ i ≠ r ∧ i ≠ m ∧ i ∉ c.nums ∧ r ≠ m ∧ r ∉ c.nums ∧ m ∉ c.nums ∧ c.nums.Nodup := by
    obtain ⟨e1, e2, _, e4, e5⟩ := TT.dis hO.nn
    obtain ⟨f1, f2, _, f4, f5⟩ := TT.dis e4
    have e5' := e5 i (by simp [TT.nums])
    have f5' := f5 m (by simp [TT.nums])
    simp only [TT.nums, List.mem_cons, List.mem_append, List.not_mem_nil, or_false, not_or] at e1 e2 e5' f1
    exact ⟨e1, e2.1, e2.2.1, e2.2.2, e5'.1, e5'.2.1, e5'.2.2, f1, f2, f5', f4⟩
  have hB : qa ≠ qm ∧ qa ∉ c.bl ∧ qm ∉ c.bl ∧ c.bl.Nodup := by
    have := hO.bn
    simp only [TT.bl, List.nodup_append, List.nodup_cons, List.not_mem_nil, not_false_eq_true, List.nodup_nil, and_self, true_and, List.mem_cons, or_false, List.mem_append, forall_eq] at this
    refine ⟨fun e => this.2 qm (Or.inl rfl) e, fun e => this.2 qa (Or.inr e) rfl, fun e => this.1.2 qm e rfl, this.1.1⟩
  have HD := Lib.hid hD
  have HBB := Lib.hid hB
  have hmd : mendT (TT.pair k (.leaf i qa la) (.pair r (.leaf m qm lm) c)).st = (if la.length + lm.length ≤ 128 then .pair (.leaf (la ++ lm)) c.st else .pair (.leaf ((la ++ lm).take ((la.length + lm.length) / 2))) (.pair (.leaf ((la ++ lm).drop ((la.length + lm.length) / 2))) c.st)) := by
    simp only [TT.st, mendT]
    rw [if_neg (by rintro ⟨e1, e2⟩; simp only [TT.st] at hf; rw [hf] at e1; cases e1)]
  have HMD := Lib.hid hmd
  have hpw := h.lt p h.self
  have hgw := h.lt g hCg
  have HXI : Hid (xs[i]? = some (TT.leaf i qa la).nd) := hl.root
  have HXR : Hid (xs[r]? = some (TT.pair r (.leaf m qm lm) c).nd) := hr.1
  have HXM : Hid (xs[m]? = some (TT.leaf m qm lm).nd) := hr.2.1.1
  have HFA : Hid (∀ n, Calls Tryd.prog 120 #[.pointer (some ⟨p, 0, none⟩), .int .i64 i] ((w.drewN n).setCell ⟨p, 3, none⟩ (.int .i64 (vis + 2))) fun e w' => e = .returned (.bool true) ∧ (w.drewN n).setCell ⟨p, 3, none⟩ (.int .i64 (vis + 2)) = w') := fun n => by
    have := tFew_any (T := TT.leaf i qa la) (h1 n) (HL1.out n); rw [hf] at this; exact this
  have HSM := Lib.hid hsm
  have HLF := Lib.hid hf
  have HLV : Hid (∀ n, Calls Tryd.prog 121 #[.pointer (some ⟨p, 0, none⟩), .int .i64 i, .int .i64 m] ((w.drewN n).setCell ⟨p, 3, none⟩ (.int .i64 (vis + 2))) fun e w' => e = .returned (.bool false) ∧ Head w' p C A (xs.set i (TT.leaf i qa (la ++ lm)).nd) root (vis + 2) ∧ IsBlock w' qa (la ++ lm) ∧ Chg (fun b => C b ∨ b = qa ∨ b = qm) ((w.drewN n).setCell ⟨p, 3, none⟩ (.int .i64 (vis + 2))) w') :=
    fun n => tLev_join (h1 n) (HL1.out n) (HR1.out n).2.1 hB.1 hle
  clear h hlen hO hx hxl hxr hxb hl hr fz h1 g1 hD hmd hCg hB hf hsm
  go_enter Tryd.func106, Tryd.ntmps106
  go_wp2_with fail
  go_quiet (fail)
  obtain ⟨n1, rfl⟩ : ∃ n1, n1 = nq := ⟨_, rfl⟩
  go_wp2_with fail
  refine (HF1.out n1).mono ?_
  rintro e w' ⟨rfl, rfl⟩
  rw [HLF.out]
  go_wp2_with fail
  refine (HFA.out n1).mono ?_
  rintro e w' ⟨rfl, rfl⟩
  go_wp2_with fail
  refine (HLV.out n1).mono ?_
  rintro e w2 ⟨rfl, h2, q2, g2⟩
  obtain ⟨t1, t2, t3, t4, t5, t6, t7, t8, t9, t10, t11⟩ := HD.out
  have g12 : Chg (fun b => C b ∨ b ∈ (TT.pair k (.leaf i qa la) (.pair r (.leaf m qm lm) c)).bl) w w2 := ((G1.out n1).mono (fun b hb => Or.inl hb)).trans g2 (fun b hb => Or.inl (hb.imp id (fun h => by rcases h with rfl | rfl <;> simp [TT.bl])))
  have xr2 : (xs.set i (TT.leaf i qa (la ++ lm)).nd)[r]? = some (TT.pair r (.leaf m qm lm) c).nd := by rw [set_ne t5.symm]; exact HXR.out
  have xk2 : (xs.set i (TT.leaf i qa (la ++ lm)).nd)[k]? = some x := by rw [set_ne t1]; exact HX.out.1
  have xi2 : (xs.set i (TT.leaf i qa (la ++ lm)).nd)[i]? = some (TT.leaf i qa (la ++ lm)).nd := set_get HXI.out
  have kp2 : ∀ b : Nat, b ≠ i → (xs.set i (TT.leaf i qa (la ++ lm)).nd)[b]? = xs[b]? := fun b hb => set_ne hb
  have ln2 : (xs.set i (TT.leaf i qa (la ++ lm)).nd).length = A.T.length := by rw [List.length_set]; exact HLN.out
  have sc2 : Sub w2 (xs.set i (TT.leaf i qa (la ++ lm)).nd) c := (HR1.out n1).2.2.chg g2 (fun b hb e => by
    rcases e with e | rfl | rfl
    · exact (H1.out n1).notBlk ((HR1.out n1).2.2.type hb) e
    · exact HBB.out.2.1 hb
    · exact HBB.out.2.2.1 hb) (set_out t7)
  generalize xs.set i (TT.leaf i qa (la ++ lm)).nd = xs2 at *
  obtain ⟨g3, rc3, cur3, r3, hgp3, _⟩ := h2.row (by have := (List.getElem?_eq_some_iff.1 xk2).1; omega)
  obtain ⟨_, fz3, hkx3, _⟩ := h2.node r3 xk2
  obtain ⟨_, _, hrx3, _⟩ := h2.node r3 xr2
  obtain ⟨_, e1, _⟩ := h2.eight r3 xk2
  obtain ⟨_, l1, _⟩ := h2.eight r3 xr2
  change w2.cell? ⟨g3, r * 8 + 1, none⟩ = some (.int .i64 (c.num : Int)) at l1
  have z1 := fz3 (k * 8 + 1)
  obtain ⟨nc, hnc⟩ : ∃ n, c.num = n := ⟨_, rfl⟩
  rw [hnc] at l1
  have hne : ¬ (r * 8 + 1 = k * 8 + 1) := by omega
  obtain ⟨h3, c3, r4⟩ := h2.put r3 xk2 (i := 1) (v := .int .i64 nc) (x' := ⟨x.left, nc, x.height, x.n, x.ones, x.ln, x.lones, x.b⟩) (by omega) rfl
  have c3C : Chg C w2 _ := (c3.mono (fun b e => by subst e; exact h2.rowC ⟨_, _, r3⟩)).drew
  have tk := HO.out.tk
  obtain ⟨W3, hW3⟩ : ∃ W3, W3 = (w2.setCell ⟨g3, k * 8 + 1, none⟩ (.int .i64 nc)).drew := ⟨_, rfl⟩
  rw [← hW3] at c3C
  have h3' : Head W3 p C A (xs2.set k ⟨x.left, nc, x.height, x.n, x.ones, x.ln, x.lones, x.b⟩) root (vis + 2) := by rw [hW3]; exact h3.drew
  obtain ⟨ap, p0, hfr⟩ := tFree2 h3' (tk m (by simp [TT.nums])) (tk r (by simp [TT.nums])) t8.symm
  have HFR := Lib.hid hfr
  have H2 := Lib.hid h2
  have H3 := Lib.hid h3'
  have Q2 := Lib.hid q2
  have G12 := Lib.hid g12
  have C3 := Lib.hid c3C
  have HW3 := Lib.hid hW3
  have XX : Hid (xs2[k]? = some x ∧ xs2[i]? = some (TT.leaf i qa (la ++ lm)).nd ∧ (∀ b : Nat, b ≠ i → xs2[b]? = xs[b]?) ∧ xs2.length = A.T.length ∧ Sub w2 xs2 c) := ⟨xk2, xi2, kp2, ln2, sc2⟩
  have HNC := Lib.hid hnc
  clear h2 h3 h3' q2 g12 g2 c3 c3C tk t1 t2 t3 t4 t5 t6 t7 t8 t9 t10 t11 hfr xr2 xk2 xi2 kp2 ln2 sc2 fz3 r4 hnc hW3 c1 a0 a1 d0 d1 d7 b7 cv
  go_wp2_with fail
  -- REGION lj
  refine reg_start (fun w' => w'.cell? ⟨p, 1, none⟩ = some (.slice (some ⟨g3, 0, none⟩) xs2.length rc3) ∧ w'.cell? ⟨g3, r * 8 + 1, none⟩ = some (.int .i64 nc)) (by kernel_rfl) ?hilj (fun hHeld => ?_)
  case hilj => (refine ⟨?_, ?_⟩ <;> go_simp)
  refine reg_take (i := 0) (v := ?vlj0) rfl (by kernel_rfl) rfl hHeld ?ylj0 ?rlj0
  case ylj0 => (intro w hSw; (try dsimp only at hSw); go_simp; all_goals with_reducible rfl)
  try simp only [Act.put, List.setIfInBounds_toArray, List.set_cons_zero, List.set_cons_succ]
  refine reg_take (i := 1) (v := ?vlj1) rfl (by kernel_rfl) rfl hHeld ?ylj1 ?rlj1
  case ylj1 => (intro w hSw; (try dsimp only at hSw); go_simp; all_goals with_reducible rfl)
  try simp only [Act.put, List.setIfInBounds_toArray, List.set_cons_zero, List.set_cons_succ]
  refine reg_take (i := 2) (v := ?vlj2) rfl (by kernel_rfl) rfl hHeld ?ylj2 ?rlj2
  case ylj2 => (intro w hSw; (try dsimp only at hSw); go_simp; all_goals with_reducible rfl)
  try simp only [Act.put, List.setIfInBounds_toArray, List.set_cons_zero, List.set_cons_succ]
  refine reg_take (i := 3) (v := ?vlj3) rfl (by kernel_rfl) rfl hHeld ?ylj3 ?rlj3
  case ylj3 => (intro w hSw; (try dsimp only at hSw); go_simp; all_goals with_reducible rfl)
  try simp only [Act.put, List.setIfInBounds_toArray, List.set_cons_zero, List.set_cons_succ]
  refine reg_take (i := 4) (v := ?vlj4) rfl (by kernel_rfl) rfl hHeld ?ylj4 ?rlj4
  case ylj4 => (intro w hSw; (try dsimp only at hSw); go_simp; all_goals with_reducible rfl)
  try simp only [Act.put, List.setIfInBounds_toArray, List.set_cons_zero, List.set_cons_succ]
  refine reg_take (i := 5) (v := ?vlj5) rfl (by kernel_rfl) rfl hHeld ?ylj5 ?rlj5
  case ylj5 => (intro w hSw; (try dsimp only at hSw); go_simp; all_goals with_reducible rfl)
  try simp only [Act.put, List.setIfInBounds_toArray, List.set_cons_zero, List.set_cons_succ]
  refine reg_take (i := 6) (v := ?vlj6) rfl (by kernel_rfl) rfl hHeld ?ylj6 ?rlj6
  case ylj6 => (intro w hSw; (try dsimp only at hSw); go_simp; all_goals with_reducible rfl)
  try simp only [Act.put, List.setIfInBounds_toArray, List.set_cons_zero, List.set_cons_succ]
  refine reg_take (i := 7) (v := ?vlj7) rfl (by kernel_rfl) rfl hHeld ?ylj7 ?rlj7
  case ylj7 => (intro w hSw; (try dsimp only at hSw); go_simp; all_goals with_reducible rfl)
  try simp only [Act.put, List.setIfInBounds_toArray, List.set_cons_zero, List.set_cons_succ]
  refine reg_take (i := 8) (v := ?vlj8) rfl (by kernel_rfl) rfl hHeld ?ylj8 ?rlj8
  case ylj8 => (intro w hSw; (try dsimp only at hSw); go_simp; all_goals with_reducible rfl)
  try simp only [Act.put, List.setIfInBounds_toArray, List.set_cons_zero, List.set_cons_succ]
  refine reg_take (i := 9) (v := ?vlj9) rfl (by kernel_rfl) rfl hHeld ?ylj9 ?rlj9
  case ylj9 => (intro w hSw; (try dsimp only at hSw); go_simp; all_goals with_reducible rfl)
  try simp only [Act.put, List.setIfInBounds_toArray, List.set_cons_zero, List.set_cons_succ]
  refine reg_take (i := 10) (v := ?vlj10) rfl (by kernel_rfl) rfl hHeld ?ylj10 ?rlj10
  case ylj10 => (intro w hSw; (try dsimp only at hSw); go_simp; all_goals with_reducible rfl)
  try simp only [Act.put, List.setIfInBounds_toArray, List.set_cons_zero, List.set_cons_succ]
  refine reg_take (i := 11) (v := ?vlj11) rfl (by kernel_rfl) rfl hHeld ?ylj11 ?rlj11
  case ylj11 => (intro w hSw; (try dsimp only at hSw); go_simp; all_goals with_reducible rfl)
  try simp only [Act.put, List.setIfInBounds_toArray, List.set_cons_zero, List.set_cons_succ]
  refine reg_take (i := 12) (v := ?vlj12) rfl (by kernel_rfl) rfl hHeld ?ylj12 ?rlj12
  case ylj12 => (intro w hSw; (try dsimp only at hSw); go_simp; all_goals with_reducible rfl)
  try simp only [Act.put, List.setIfInBounds_toArray, List.set_cons_zero, List.set_cons_succ]
  refine reg_take (i := 13) (v := ?vlj13) rfl (by kernel_rfl) rfl hHeld ?ylj13 ?rlj13
  case ylj13 => (intro w hSw; (try dsimp only at hSw); go_simp; all_goals with_reducible rfl)
  try simp only [Act.put, List.setIfInBounds_toArray, List.set_cons_zero, List.set_cons_succ]
  refine reg_take (i := 14) (v := ?vlj14) rfl (by kernel_rfl) rfl hHeld ?ylj14 ?rlj14
  case ylj14 => (intro w hSw; (try dsimp only at hSw); go_simp; all_goals with_reducible rfl)
  try simp only [Act.put, List.setIfInBounds_toArray, List.set_cons_zero, List.set_cons_succ]
  refine reg_loud (i := 15) rfl (by kernel_rfl) rfl (fun K hK => ?_)
  go_simp
  refine hK.out _ _ ?kplj15 (fun hNew => ?_)
  case kplj15 => (refine ⟨?_, ?_⟩ <;> go_simp)
  clear hK K hHeld
  have hHeld := hNew
  clear hNew
  try simp only [Act.put, List.setIfInBounds_toArray, List.set_cons_zero, List.set_cons_succ]
  refine reg_done (by kernel_rfl) ?_ _
  -- END OF REGION lj
  clear hHeld
  rw [← HW3.out]
  go_wp2_with fail
  refine HFR.out.mono ?_
  rintro e w4 ⟨rfl, C4, h4, s4⟩
  have H4 := Lib.hid h4
  have S4 := Lib.hid s4
  clear h4 s4
  go_wp2_with fail
  go_ret
  obtain ⟨t1, t2, t3, t4, t5, t6, t7, t8, t9, t10, t11⟩ := HD.out
  obtain ⟨y1, y2, y3, y4, y5⟩ := XX.out
  have tk := HO.out.tk
  have g13 := G12.out.trans C3.out (fun b hb => Or.inl (Or.inl hb))
  have hsz := g13.size
  refine ⟨.pair k (.leaf i qa (la ++ lm)) c, C4, A.fr m r, _, _, rfl, H4.out, ⟨⟨?_, ?_, fun b hb => ?_⟩, ?_, fun b hb => (S4.out.new b hb).imp id (fun h => by omega), fun b hb => ?_, fun b e1 e2 => ?_, ?_, rfl, g13.trans S4.out.chg (fun b hb => Or.inl (Or.inl hb))⟩, ?_, by omega, by omega, ⟨_, set_get y1, HX.out.2.1, by rw [HNC.out], HX.out.2.2.2, ⟨?_, ?_⟩, ?_⟩, by simp [Ar.fr]⟩
  · simp [TT.nums, t1, t4, t7, t11]
  · simp [TT.bl, HBB.out.2.1, HBB.out.2.2.2]
  · have hb' : b ≠ m ∧ b ≠ r ∧ b ∈ (TT.pair k (.leaf i qa la) (.pair r (.leaf m qm lm) c)).nums := by
      simp only [TT.nums, List.mem_cons, List.mem_append, List.not_mem_nil, or_false] at hb ⊢
      rcases hb with rfl | rfl | hb
      · exact ⟨t3, t2, Or.inl rfl⟩
      · exact ⟨t6, t5, Or.inr (Or.inl rfl)⟩
      · exact ⟨fun e => t10 (e ▸ hb), fun e => t9 (e ▸ hb), Or.inr (Or.inr (Or.inr (Or.inr hb)))⟩
    rw [Ar.fr_T hb'.1 hb'.2.1]; exact tk _ hb'.2.2
  · rw [List.length_set, y4]; simp [Ar.fr]
  · simp only [TT.bl, List.mem_append, List.mem_cons, List.not_mem_nil, or_false] at hb ⊢
    rcases hb with hb | hb
    · exact Or.inl (Or.inl hb)
    · exact Or.inl (Or.inr (Or.inr hb))
  · simp only [TT.nums, List.mem_cons, List.mem_append, List.not_mem_nil, or_false, not_or] at e2
    refine ⟨by rw [set_ne e2.1, y3 b e2.2.1], by rw [Ar.fr_T e2.2.2.2.1 e2.2.2.1]; exact e1, by simp only [TT.nums, List.mem_cons, List.mem_append, List.not_mem_nil, or_false, not_or]; exact ⟨e2.1, e2.2.1, e2.2.2.2.2⟩⟩
  · have := Ar.fr_live (H3.out.arOk) (tk m (by simp [TT.nums])) (tk r (by simp [TT.nums])) t8.symm
    simp only [TT.st, ST.size]; omega
  · rw [HMD.out, if_pos hle]; rfl
  · rw [set_ne t1.symm]; exact y2
  · exact (Q2.out.chg C3.out (H2.out.notBlk Q2.out.type)).chg S4.out.chg (H3.out.notBlk (Q2.out.chg C3.out (H2.out.notBlk Q2.out.type)).type)
  · exact (y5.chgC H2.out C3.out (set_out t4)).chgC H3.out S4.out.chg (fun _ _ => rfl)

set_option maxHeartbeats 6400000 in
set_option maxRecDepth 100000 in
theorem tMend_lsplit {w : World} {p : Nat} {C : Nat → Prop} {A : Ar} {xs : List Nd} {root vis : Int} (h : Head w p C A xs root vis) (hlen : xs.length = A.T.length) (hv0 : 0 ≤ vis) (hv : vis ≤ 100000000000) {k i qa r m qm : Nat} {la lm : List Bool} {c : TT} (hS : SubW w xs (.pair k (.leaf i qa la) (.pair r (.leaf m qm lm) c))) (hO : Own A (.pair k (.leaf i qa la) (.pair r (.leaf m qm lm) c)))
    (hf : (TT.leaf i qa la).st.few = true) (hsm : Small (TT.pair r (.leaf m qm lm) c).st) (hle : ¬ la.length + lm.length ≤ 128) :
    Calls Tryd.prog 106 #[.pointer (some ⟨p, 0, none⟩), .int .i64 k] w fun e w' => MendPost w w' p C A xs root vis (.pair k (.leaf i qa la) (.pair r (.leaf m qm lm) c)) e := by
  obtain ⟨x, hx, hxl, hxr, hxb, hl, hr⟩ := hS
  obtain ⟨g, rc, cur, c1, hgp, hCg, _⟩ := h.row (by have := (List.getElem?_eq_some_iff.1 hx).1; omega)
  obtain ⟨_, _, hkx, _⟩ := h.node c1 hx
  obtain ⟨a0, a1, _⟩ := h.eight c1 hx
  rw [hxl] at a0
  rw [hxr] at a1
  change w.cell? ⟨g, k * 8, none⟩ = some (.int .i64 (i : Int)) at a0
  change w.cell? ⟨g, k * 8 + 1, none⟩ = some (.int .i64 (r : Int)) at a1
  obtain ⟨_, _, cv, fz⟩ := h.cells
  have f3 := fz 3
  have HF1 : Hid (∀ n, Calls Tryd.prog 120 #[.pointer (some ⟨p, 0, none⟩), .int .i64 i] (w.drewN n) fun e w' => e = .returned (.bool (TT.leaf i qa la).st.few) ∧ w.drewN n = w') := fun n =>
    tFew_any (T := TT.leaf i qa la) (h.drewN n) (hl.keep (w' := w.drewN n) (fun _ _ => rfl) (fun _ _ => rfl))
  have HF2 : Hid (∀ n, Calls Tryd.prog 120 #[.pointer (some ⟨p, 0, none⟩), .int .i64 r] (w.drewN n) fun e w' => e = .returned (.bool (TT.pair r (TT.leaf m qm lm) c).st.few) ∧ w.drewN n = w') := fun n =>
    tFew_any (T := TT.pair r (TT.leaf m qm lm) c) (h.drewN n) (hr.keep (w' := w.drewN n) (fun _ _ => rfl) (fun _ _ => rfl))
  have h1 : ∀ n, Head ((w.drewN n).setCell ⟨p, 3, none⟩ (.int .i64 (vis + 2))) p C A xs root (vis + 2) := fun n => (h.drewN n).set3 _
  have g1 : ∀ n, Chg C w ((w.drewN n).setCell ⟨p, 3, none⟩ (.int .i64 (vis + 2))) := fun n => (Chg.refl.drewN n).setCell _ (Or.inl h.self) _
  have HL1 : Hid (∀ n, Sub ((w.drewN n).setCell ⟨p, 3, none⟩ (.int .i64 (vis + 2))) xs (TT.leaf i qa la)) := fun n => hl.chgC h (g1 n) (fun _ _ => rfl)
  have HR1 : Hid (∀ n, Sub ((w.drewN n).setCell ⟨p, 3, none⟩ (.int .i64 (vis + 2))) xs (TT.pair r (TT.leaf m qm lm) c)) := fun n => hr.chgC h (g1 n) (fun _ _ => rfl)
  have HC1 : Hid (∀ n, ((w.drewN n).setCell ⟨p, 3, none⟩ (.int .i64 (vis + 2))).cell? ⟨p, 1, none⟩ = some (.slice (some ⟨g, 0, none⟩) xs.length rc)) := fun n => by
    have := c1
    go_simp
  have H1 := Lib.hid h1
  have G1 := Lib.hid g1
  have HO := Lib.hid hO
  have HLN := Lib.hid hlen
  have HX : Hid (xs[k]? = some x ∧ x.left = i ∧ x.right = r ∧ x.b = none) := ⟨hx, hxl, hxr, hxb⟩
  obtain ⟨_, _, hix, _⟩ := h.node c1 hl.root
  obtain ⟨_, _, hrx, _⟩ := h.node c1 hr.root
  obtain ⟨_, _, _, _, _, _, _, b7⟩ := h.eight c1 hl.root
  obtain ⟨d0, d1, _, _, _, _, _, d7⟩ := h.eight c1 hr.root
  change w.cell? ⟨g, i * 8 + 7, none⟩ = some (.pointer (some ⟨qa, 0, none⟩)) at b7
  change w.cell? ⟨g, r * 8, none⟩ = some (.int .i64 (m : Int)) at d0
  change w.cell? ⟨g, r * 8 + 1, none⟩ = some (.int .i64 (c.num : Int)) at d1
  change w.cell? ⟨g, r * 8 + 7, none⟩ = some (.pointer none) at d7
  change i < xs.length at hix
  change r < xs.length at hrx
  have hD : k ≠ i ∧ k ≠ r ∧ k ≠ m ∧ k ∉ c.nums ∧ i ≠ r ∧ i ≠ m ∧ i ∉ c.nums ∧ r ≠ m ∧ r ∉ c.nums ∧ m ∉ c.nums ∧ c.nums.Nodup := by
    obtain ⟨e1, e2, _, e4, e5⟩ := TT.dis hO.nn
    obtain ⟨f1, f2, _, f4, f5⟩ := TT.dis e4
    have e5' := e5 i (by simp [TT.nums])
    have f5' := f5 m (by simp [TT.nums])
    simp only [TT.nums, List.mem_cons, List.mem_append, List.not_mem_nil, or_false, not_or] at e1 e2 e5' f1
    exact ⟨e1, e2.1, e2.2.1, e2.2.2, e5'.1, e5'.2.1, e5'.2.2, f1, f2, f5', f4⟩
  have hB : qa ≠ qm ∧ qa ∉ c.bl ∧ qm ∉ c.bl ∧ c.bl.Nodup := by
    have := hO.bn
    simp only [TT.bl, List.nodup_append, List.nodup_cons, List.not_mem_nil, not_false_eq_true, List.nodup_nil, and_self, true_and, List.mem_cons, or_false, List.mem_append, forall_eq] at this
    refine ⟨fun e => this.2 qm (Or.inl rfl) e, fun e => this.2 qa (Or.inr e) rfl, fun e => this.1.2 qm e rfl, this.1.1⟩
  have HD := Lib.hid hD
  have HBB := Lib.hid hB
  have hmd : mendT (TT.pair k (.leaf i qa la) (.pair r (.leaf m qm lm) c)).st = (if la.length + lm.length ≤ 128 then .pair (.leaf (la ++ lm)) c.st else .pair (.leaf ((la ++ lm).take ((la.length + lm.length) / 2))) (.pair (.leaf ((la ++ lm).drop ((la.length + lm.length) / 2))) c.st)) := by
    simp only [TT.st, mendT]
    rw [if_neg (by rintro ⟨e1, e2⟩; simp only [TT.st] at hf; rw [hf] at e1; cases e1)]
  have HMD := Lib.hid hmd
  have hpw := h.lt p h.self
  have hgw := h.lt g hCg
  have HXI : Hid (xs[i]? = some (TT.leaf i qa la).nd) := hl.root
  have HXR : Hid (xs[r]? = some (TT.pair r (.leaf m qm lm) c).nd) := hr.1
  have HXM : Hid (xs[m]? = some (TT.leaf m qm lm).nd) := hr.2.1.1
  have HFA : Hid (∀ n, Calls Tryd.prog 120 #[.pointer (some ⟨p, 0, none⟩), .int .i64 i] ((w.drewN n).setCell ⟨p, 3, none⟩ (.int .i64 (vis + 2))) fun e w' => e = .returned (.bool true) ∧ (w.drewN n).setCell ⟨p, 3, none⟩ (.int .i64 (vis + 2)) = w') := fun n => by
    have := tFew_any (T := TT.leaf i qa la) (h1 n) (HL1.out n); rw [hf] at this; exact this
  have HSM := Lib.hid hsm
  have HLF := Lib.hid hf
  have HLV : Hid (∀ n, Calls Tryd.prog 121 #[.pointer (some ⟨p, 0, none⟩), .int .i64 i, .int .i64 m] ((w.drewN n).setCell ⟨p, 3, none⟩ (.int .i64 (vis + 2))) _) :=
    fun n => tLev_split (h1 n) (HL1.out n) (HR1.out n).2.1 hD.2.2.2.2.2.1 hB.1 (by omega)
  clear h hlen hO hx hxl hxr hxb hl hr fz h1 g1 hD hmd hCg hB hf hsm
  go_enter Tryd.func106, Tryd.ntmps106
  go_wp2_with fail
  go_quiet (fail)
  obtain ⟨n1, rfl⟩ : ∃ n1, n1 = nq := ⟨_, rfl⟩
  go_wp2_with fail
  refine (HF1.out n1).mono ?_
  rintro e w' ⟨rfl, rfl⟩
  rw [HLF.out]
  go_wp2_with fail
  refine (HFA.out n1).mono ?_
  rintro e w' ⟨rfl, rfl⟩
  go_wp2_with fail
  refine (HLV.out n1).mono ?_
  rintro e w2 ⟨rfl, q1, q2, u1, u2, u3, h2, b1, b2, g2⟩
  obtain ⟨t1, t2, t3, t4, t5, t6, t7, t8, t9, t10, t11⟩ := HD.out
  have hll : ((la ++ lm).take ((la.length + lm.length) / 2)).length + ((la ++ lm).drop ((la.length + lm.length) / 2)).length = la.length + lm.length := by simp; omega
  have hsl : la.length ≤ 128 ∧ lm.length ≤ 128 := ⟨(HL1.out n1).2.1, (HR1.out n1).2.1.2.1⟩
  have hmd := HMD.out
  rw [if_neg hle] at hmd
  have HMD2 := Lib.hid hmd
  generalize (la ++ lm).take ((la.length + lm.length) / 2) = lo at *
  generalize (la ++ lm).drop ((la.length + lm.length) / 2) = hi at *
  have U : Hid (w.heap.size ≤ q1 ∧ w.heap.size ≤ q2 ∧ q1 ≠ q2) := ⟨Nat.le_trans (G1.out n1).size u1, Nat.le_trans (G1.out n1).size u2, u3⟩
  have g12 : Chg C w w2 := (G1.out n1).trans g2 (fun b hb => Or.inl hb)
  have xr2 : ((xs.set i (TT.leaf i q1 lo).nd).set m (TT.leaf m q2 hi).nd)[r]? = some (TT.pair r (.leaf m qm lm) c).nd := by rw [set_ne t8, set_ne t5.symm]; exact HXR.out
  have xk2 : ((xs.set i (TT.leaf i q1 lo).nd).set m (TT.leaf m q2 hi).nd)[k]? = some x := by rw [set_ne t3, set_ne t1]; exact HX.out.1
  have xi2 : ((xs.set i (TT.leaf i q1 lo).nd).set m (TT.leaf m q2 hi).nd)[i]? = some (TT.leaf i q1 lo).nd := by rw [set_ne t6]; exact set_get HXI.out
  have xm2 : ((xs.set i (TT.leaf i q1 lo).nd).set m (TT.leaf m q2 hi).nd)[m]? = some (TT.leaf m q2 hi).nd := set_get (x := (TT.leaf m qm lm).nd) (by rw [set_ne t6.symm]; exact HXM.out)
  have kp2 : ∀ b : Nat, b ≠ i → b ≠ m → ((xs.set i (TT.leaf i q1 lo).nd).set m (TT.leaf m q2 hi).nd)[b]? = xs[b]? := fun b hb hc => by rw [set_ne hc, set_ne hb]
  have ln2 : ((xs.set i (TT.leaf i q1 lo).nd).set m (TT.leaf m q2 hi).nd).length = A.T.length := by rw [List.length_set, List.length_set]; exact HLN.out
  have sc2 : Sub w2 ((xs.set i (TT.leaf i q1 lo).nd).set m (TT.leaf m q2 hi).nd) c := (HR1.out n1).2.2.chgC (H1.out n1) g2 (fun b hb => kp2 b (by rintro rfl; exact t7 hb) (by rintro rfl; exact t10 hb))
  generalize (xs.set i (TT.leaf i q1 lo).nd).set m (TT.leaf m q2 hi).nd = xs2 at *
  have hs2 := HSM.out.r
  have HF := Lib.hid (tFix_tt (a := .leaf m q2 hi) (b := c) h2 xr2 rfl rfl rfl ⟨xm2, b2⟩ sc2 ⟨by simp only [TT.st, ST.bits]; omega, by simp [TT.st, ST.high]⟩ hs2)
  have H2 := Lib.hid h2
  have B1 := Lib.hid b1
  have B2 := Lib.hid b2
  have G12 := Lib.hid g12
  have XX : Hid (xs2[k]? = some x ∧ xs2[i]? = some (TT.leaf i q1 lo).nd ∧ xs2[m]? = some (TT.leaf m q2 hi).nd ∧ xs2[r]? = some (TT.pair r (.leaf m qm lm) c).nd ∧ (∀ b : Nat, b ≠ i → b ≠ m → xs2[b]? = xs[b]?) ∧ xs2.length = A.T.length ∧ Sub w2 xs2 c) := ⟨xk2, xi2, xm2, xr2, kp2, ln2, sc2⟩
  clear h2 b1 b2 g2 g12 u1 u2 u3 t1 t2 t3 t4 t5 t6 t7 t8 t9 t10 t11 xr2 xk2 xi2 xm2 kp2 ln2 sc2 hmd hll hs2 hsl
  go_wp2_with fail
  refine HF.out.mono ?_
  rintro e w3 ⟨rfl, h3, g3⟩
  have H3 := Lib.hid h3
  have G3 := Lib.hid (H2.out.chgRow g3)
  clear h3 g3
  go_wp2_with fail
  go_ret
  obtain ⟨t1, t2, t3, t4, t5, t6, t7, t8, t9, t10, t11⟩ := HD.out
  obtain ⟨u1, u2, u3⟩ := U.out
  obtain ⟨y1, y2, y2', y2'', y3, y4, y5⟩ := XX.out
  have tk := HO.out.tk
  have cb : ∀ b ∈ c.bl, b < w.heap.size := fun b hb => by
    have := ((HR1.out n1).2.2.type hb).lt
    simpa [World.setCell] using this
  refine ⟨.pair k (.leaf i q1 lo) (.pair r (.leaf m q2 hi) c), C, A, _, _, rfl, H3.out, ⟨⟨?_, ?_, fun b hb => tk b (by simpa [TT.nums] using hb)⟩, ?_, fun b hb => Or.inl hb, fun b hb => ?_, fun b e1 e2 => ?_, ?_, rfl, (G12.out.trans G3.out (fun b hb => Or.inl hb)).mono (fun b hb => Or.inl hb)⟩, ?_, by omega, by omega, ⟨x, ?_, HX.out.2.1, HX.out.2.2.1, HX.out.2.2.2, ⟨?_, ?_⟩, ?_, ⟨?_, ?_⟩, ?_⟩, rfl⟩
  · simp [TT.nums, t1, t2, t3, t4, t5, t6, t7, t8, t9, t10, t11]
  · simp [TT.bl, HBB.out.2.2.2, u3]
    exact ⟨fun h => by have := cb _ h; omega, fun h => by have := cb _ h; omega⟩
  · rw [List.length_set, y4]
  · simp only [TT.bl, List.mem_append, List.mem_cons, List.not_mem_nil, or_false] at hb ⊢
    rcases hb with rfl | rfl | hb
    · exact Or.inr u1
    · exact Or.inr u2
    · exact Or.inl (Or.inr (Or.inr hb))
  · have e2' := e2
    simp only [TT.nums, List.mem_cons, List.mem_append, List.not_mem_nil, or_false, not_or] at e2
    refine ⟨by rw [set_ne e2.2.2.1, y3 b e2.2.1 e2.2.2.2.1], e1, by simpa [TT.nums] using e2'⟩
  · simp only [TT.st, ST.size]
  · exact HMD2.out.symm
  · rw [set_ne t2]; exact y1
  · rw [set_ne t5]; exact y2
  · exact B1.out.chg G3.out (H2.out.notBlk B1.out.type)
  · exact set_get y2''
  · rw [set_ne t8.symm]; exact y2'
  · exact B2.out.chg G3.out (H2.out.notBlk B2.out.type)
  · exact y5.chgC H2.out G3.out (set_out t9)

end Go.Proofs.YtcppgpjodfeigaaDoor

namespace Go.Proofs.YtcppgpjodfeigaaDoor
set_option linter.unusedVariables false
set_option linter.unusedSimpArgs false
open Go.RowKit

set_option maxHeartbeats 6400000 in
set_option maxRecDepth 100000 in
theorem tMend_rjoin {w : World} {p : Nat} {C : Nat → Prop} {A : Ar} {xs : List Nd} {root vis : Int} (h : Head w p C A xs root vis) (hlen : xs.length = A.T.length) (hv0 : 0 ≤ vis) (hv : vis ≤ 100000000000) {k l m qm j qb : Nat} {lm lb : List Bool} {c : TT} (hS : SubW w xs (.pair k (.pair l c (.leaf m qm lm)) (.leaf j qb lb))) (hO : Own A (.pair k (.pair l c (.leaf m qm lm)) (.leaf j qb lb)))
    (hf : (TT.leaf j qb lb).st.few = true) (hsm : Small (TT.pair l c (.leaf m qm lm)).st) (hle : lm.length + lb.length ≤ 128) :
    Calls Tryd.prog 106 #[.pointer (some ⟨p, 0, none⟩), .int .i64 k] w fun e w' => MendPost w w' p C A xs root vis (.pair k (.pair l c (.leaf m qm lm)) (.leaf j qb lb)) e := by
  obtain ⟨x, hx, hxl, hxr, hxb, hl, hr⟩ := hS
  obtain ⟨g, rc, cur, c1, hgp, hCg, _⟩ := h.row (by have := (List.getElem?_eq_some_iff.1 hx).1; omega)
  obtain ⟨_, _, hkx, _⟩ := h.node c1 hx
  obtain ⟨a0, a1, _⟩ := h.eight c1 hx
  rw [hxl] at a0
  rw [hxr] at a1
  change w.cell? ⟨g, k * 8, none⟩ = some (.int .i64 (l : Int)) at a0
  change w.cell? ⟨g, k * 8 + 1, none⟩ = some (.int .i64 (j : Int)) at a1
  obtain ⟨_, _, cv, fz⟩ := h.cells
  have f3 := fz 3
  have HF1 : Hid (∀ n, Calls Tryd.prog 120 #[.pointer (some ⟨p, 0, none⟩), .int .i64 l] (w.drewN n) fun e w' => e = .returned (.bool (TT.pair l c (TT.leaf m qm lm)).st.few) ∧ w.drewN n = w') := fun n =>
    tFew_any (T := TT.pair l c (TT.leaf m qm lm)) (h.drewN n) (hl.keep (w' := w.drewN n) (fun _ _ => rfl) (fun _ _ => rfl))
  have HF2 : Hid (∀ n, Calls Tryd.prog 120 #[.pointer (some ⟨p, 0, none⟩), .int .i64 j] (w.drewN n) fun e w' => e = .returned (.bool (TT.leaf j qb lb).st.few) ∧ w.drewN n = w') := fun n =>
    tFew_any (T := TT.leaf j qb lb) (h.drewN n) (hr.keep (w' := w.drewN n) (fun _ _ => rfl) (fun _ _ => rfl))
  have h1 : ∀ n, Head ((w.drewN n).setCell ⟨p, 3, none⟩ (.int .i64 (vis + 2))) p C A xs root (vis + 2) := fun n => (h.drewN n).set3 _
  have g1 : ∀ n, Chg C w ((w.drewN n).setCell ⟨p, 3, none⟩ (.int .i64 (vis + 2))) := fun n => (Chg.refl.drewN n).setCell _ (Or.inl h.self) _
  have HL1 : Hid (∀ n, Sub ((w.drewN n).setCell ⟨p, 3, none⟩ (.int .i64 (vis + 2))) xs (TT.pair l c (TT.leaf m qm lm))) := fun n => hl.chgC h (g1 n) (fun _ _ => rfl)
  have HR1 : Hid (∀ n, Sub ((w.drewN n).setCell ⟨p, 3, none⟩ (.int .i64 (vis + 2))) xs (TT.leaf j qb lb)) := fun n => hr.chgC h (g1 n) (fun _ _ => rfl)
  have HC1 : Hid (∀ n, ((w.drewN n).setCell ⟨p, 3, none⟩ (.int .i64 (vis + 2))).cell? ⟨p, 1, none⟩ = some (.slice (some ⟨g, 0, none⟩) xs.length rc)) := fun n => by
    have := c1
    go_simp
  have H1 := Lib.hid h1
  have G1 := Lib.hid g1
  have HO := Lib.hid hO
  have HLN := Lib.hid hlen
  have HX : Hid (xs[k]? = some x ∧ x.left = l ∧ x.right = j ∧ x.b = none) := ⟨hx, hxl, hxr, hxb⟩
  obtain ⟨_, _, hlx, _⟩ := h.node c1 hl.root
  obtain ⟨_, _, hjx, _⟩ := h.node c1 hr.root
  obtain ⟨d0, d1, _, _, _, _, _, d7⟩ := h.eight c1 hl.root
  obtain ⟨_, _, _, _, _, _, _, b7⟩ := h.eight c1 hr.root
  change w.cell? ⟨g, j * 8 + 7, none⟩ = some (.pointer (some ⟨qb, 0, none⟩)) at b7
  change w.cell? ⟨g, l * 8, none⟩ = some (.int .i64 (c.num : Int)) at d0
  change w.cell? ⟨g, l * 8 + 1, none⟩ = some (.int .i64 (m : Int)) at d1
  change w.cell? ⟨g, l * 8 + 7, none⟩ = some (.pointer none) at d7
  change l < xs.length at hlx
  change j < xs.length at hjx
  have hD : k ≠ l ∧ k ≠ m ∧ k ≠ j ∧ k ∉ c.nums ∧ l ≠ m ∧ l ≠ j ∧ l ∉ c.nums ∧ m ≠ j ∧ m ∉ c.nums ∧ j ∉ c.nums ∧ c.nums.Nodup := by
    obtain ⟨e1, e2, e3, _, e5⟩ := TT.dis hO.nn
    obtain ⟨f1, f2, f3, _, f5⟩ := TT.dis e3
    have g1 : m ∉ c.nums := fun h => f5 m h (by simp [TT.nums])
    have g2 : j ∉ (TT.pair l c (.leaf m qm lm)).nums := fun h => e5 j h (by simp [TT.nums])
    simp only [TT.nums, List.mem_cons, List.mem_append, List.not_mem_nil, or_false, not_or] at e1 e2 f2 g2
    exact ⟨e1.1, e1.2.2, e2, e1.2.1, f2, fun e => g2.1 e.symm, f1, fun e => g2.2.2 e.symm, g1, g2.2.1, f3⟩
  have hB : qm ≠ qb ∧ qm ∉ c.bl ∧ qb ∉ c.bl ∧ c.bl.Nodup := by
    have := hO.bn
    simp only [TT.bl, List.nodup_append, List.mem_append, List.mem_cons, List.not_mem_nil, or_false] at this
    obtain ⟨⟨z1, _, z2⟩, _, z3⟩ := this
    exact ⟨fun e => z3 qm (Or.inr rfl) qb rfl e, fun e => z2 qm e qm rfl rfl, fun e => z3 qb (Or.inl e) qb rfl rfl, z1⟩
  have HD := Lib.hid hD
  have HBB := Lib.hid hB
  have hmd : mendT (TT.pair k (.pair l c (.leaf m qm lm)) (.leaf j qb lb)).st = (if lm.length + lb.length ≤ 128 then .pair c.st (.leaf (lm ++ lb)) else .pair (.pair c.st (.leaf ((lm ++ lb).take ((lm.length + lb.length) / 2)))) (.leaf ((lm ++ lb).drop ((lm.length + lb.length) / 2)))) := by
    simp only [TT.st, mendT]
    rw [if_neg (by rintro ⟨e1, e2⟩; simp only [TT.st] at hf; rw [hf] at e2; cases e2)]
  have HMD := Lib.hid hmd
  have hpw := h.lt p h.self
  have hgw := h.lt g hCg
  have HXJ : Hid (xs[j]? = some (TT.leaf j qb lb).nd) := hr.root
  have HXL : Hid (xs[l]? = some (TT.pair l c (.leaf m qm lm)).nd) := hl.1
  have HXM : Hid (xs[m]? = some (TT.leaf m qm lm).nd) := hl.2.2.1
  have HFA : Hid (∀ n, Calls Tryd.prog 120 #[.pointer (some ⟨p, 0, none⟩), .int .i64 l] ((w.drewN n).setCell ⟨p, 3, none⟩ (.int .i64 (vis + 2))) fun e w' => e = .returned (.bool false) ∧ (w.drewN n).setCell ⟨p, 3, none⟩ (.int .i64 (vis + 2)) = w') := fun n =>
    tFew_any (T := TT.pair l c (.leaf m qm lm)) (h1 n) (HL1.out n)
  have HSM := Lib.hid hsm
  have HLF : Hid ((TT.pair l c (.leaf m qm lm)).st.few = false) := rfl
  have HRF := Lib.hid hf
  have HLV : Hid (∀ n, Calls Tryd.prog 121 #[.pointer (some ⟨p, 0, none⟩), .int .i64 m, .int .i64 j] ((w.drewN n).setCell ⟨p, 3, none⟩ (.int .i64 (vis + 2))) fun e w' => e = .returned (.bool false) ∧ Head w' p C A (xs.set m (TT.leaf m qm (lm ++ lb)).nd) root (vis + 2) ∧ IsBlock w' qm (lm ++ lb) ∧ Chg (fun b => C b ∨ b = qm ∨ b = qb) ((w.drewN n).setCell ⟨p, 3, none⟩ (.int .i64 (vis + 2))) w') :=
    fun n => tLev_join (h1 n) (HL1.out n).2.2 (HR1.out n) hB.1 hle
  clear h hlen hO hx hxl hxr hxb hl hr fz h1 g1 hD hmd hCg hB hf hsm
  go_enter Tryd.func106, Tryd.ntmps106
  go_wp2_with fail
  go_quiet (fail)
  obtain ⟨n1, rfl⟩ : ∃ n1, n1 = nq := ⟨_, rfl⟩
  go_wp2_with fail
  refine (HF1.out n1).mono ?_
  rintro e w' ⟨rfl, rfl⟩
  rw [HLF.out]
  go_wp2_with fail
  refine (HF2.out n1).mono ?_
  rintro e w' ⟨rfl, rfl⟩
  rw [HRF.out]
  go_wp2_with fail
  refine (HFA.out n1).mono ?_
  rintro e w' ⟨rfl, rfl⟩
  go_wp2_with fail
  refine (HLV.out n1).mono ?_
  rintro e w2 ⟨rfl, h2, q2, g2⟩
  obtain ⟨t1, t2, t3, t4, t5, t6, t7, t8, t9, t10, t11⟩ := HD.out
  have g12 : Chg (fun b => C b ∨ b ∈ (TT.pair k (.pair l c (.leaf m qm lm)) (.leaf j qb lb)).bl) w w2 := ((G1.out n1).mono (fun b hb => Or.inl hb)).trans g2 (fun b hb => Or.inl (hb.imp id (fun h => by rcases h with rfl | rfl <;> simp [TT.bl])))
  have xl2 : (xs.set m (TT.leaf m qm (lm ++ lb)).nd)[l]? = some (TT.pair l c (.leaf m qm lm)).nd := by rw [set_ne t5]; exact HXL.out
  have xk2 : (xs.set m (TT.leaf m qm (lm ++ lb)).nd)[k]? = some x := by rw [set_ne t2]; exact HX.out.1
  have xj2 : (xs.set m (TT.leaf m qm (lm ++ lb)).nd)[j]? = some (TT.leaf j qb lb).nd := by rw [set_ne t8.symm]; exact HXJ.out
  have xm2 : (xs.set m (TT.leaf m qm (lm ++ lb)).nd)[m]? = some (TT.leaf m qm (lm ++ lb)).nd := set_get HXM.out
  have kp2 : ∀ b : Nat, b ≠ m → (xs.set m (TT.leaf m qm (lm ++ lb)).nd)[b]? = xs[b]? := fun b hb => set_ne hb
  have ln2 : (xs.set m (TT.leaf m qm (lm ++ lb)).nd).length = A.T.length := by rw [List.length_set]; exact HLN.out
  have sc2 : Sub w2 (xs.set m (TT.leaf m qm (lm ++ lb)).nd) c := (HL1.out n1).2.1.chg g2 (fun b hb e => by
    rcases e with e | rfl | rfl
    · exact (H1.out n1).notBlk ((HL1.out n1).2.1.type hb) e
    · exact HBB.out.2.1 hb
    · exact HBB.out.2.2.1 hb) (set_out t9)
  generalize xs.set m (TT.leaf m qm (lm ++ lb)).nd = xs2 at *
  obtain ⟨g3, rc3, cur3, r3, hgp3, _⟩ := h2.row (by have := (List.getElem?_eq_some_iff.1 xk2).1; omega)
  obtain ⟨_, fz3, hkx3, _⟩ := h2.node r3 xk2
  obtain ⟨_, _, hlx3, _⟩ := h2.node r3 xl2
  obtain ⟨e0, _⟩ := h2.eight r3 xk2
  obtain ⟨l0, _⟩ := h2.eight r3 xl2
  change w2.cell? ⟨g3, l * 8, none⟩ = some (.int .i64 (c.num : Int)) at l0
  have z0 := fz3 (k * 8)
  obtain ⟨nc, hnc⟩ : ∃ n, c.num = n := ⟨_, rfl⟩
  rw [hnc] at l0
  have hne : ¬ (l * 8 = k * 8) := by omega
  have hne' : ¬ l = k := fun e => t1 e.symm
  obtain ⟨h3, c3, r4⟩ := h2.put r3 xk2 (i := 0) (v := .int .i64 nc) (x' := ⟨nc, x.right, x.height, x.n, x.ones, x.ln, x.lones, x.b⟩) (by omega) rfl
  have c3C : Chg C w2 _ := (c3.mono (fun b e => by subst e; exact h2.rowC ⟨_, _, r3⟩)).drew
  obtain ⟨W3, hW3⟩ : ∃ W3, W3 = (w2.setCell ⟨g3, k * 8, none⟩ (.int .i64 nc)).drew := ⟨_, rfl⟩
  have c3C : Chg C w2 W3 := by rw [hW3]; exact c3C
  have h3' : Head W3 p C A (xs2.set k ⟨nc, x.right, x.height, x.n, x.ones, x.ln, x.lones, x.b⟩) root (vis + 2) := by rw [hW3]; exact h3.drew
  have xm3 : (xs2.set k ⟨nc, x.right, x.height, x.n, x.ones, x.ln, x.lones, x.b⟩)[m]? = some (TT.leaf m qm (lm ++ lb)).nd := by rw [set_ne t2.symm]; exact xm2
  have xj3 : (xs2.set k ⟨nc, x.right, x.height, x.n, x.ones, x.ln, x.lones, x.b⟩)[j]? = some (TT.leaf j qb lb).nd := by rw [set_ne t3.symm]; exact xj2
  have xk3 : (xs2.set k ⟨nc, x.right, x.height, x.n, x.ones, x.ln, x.lones, x.b⟩)[k]? = some ⟨nc, x.right, x.height, x.n, x.ones, x.ln, x.lones, x.b⟩ := set_get xk2
  have kp3 : ∀ b : Nat, b ≠ m → b ≠ k → (xs2.set k ⟨nc, x.right, x.height, x.n, x.ones, x.ln, x.lones, x.b⟩)[b]? = xs[b]? := fun b hb hc => by rw [set_ne hc]; exact kp2 b hb
  have ln3 : (xs2.set k ⟨nc, x.right, x.height, x.n, x.ones, x.ln, x.lones, x.b⟩).length = A.T.length := by rw [List.length_set]; exact ln2
  have sc3 : Sub W3 (xs2.set k ⟨nc, x.right, x.height, x.n, x.ones, x.ln, x.lones, x.b⟩) c := sc2.chgC h2 c3C (set_out t4)
  have qm3 := q2.chg c3C (h2.notBlk q2.type)
  have HR4 : Hid (xs2.length = (xs2.set k ⟨nc, x.right, x.height, x.n, x.ones, x.ln, x.lones, x.b⟩).length) := by rw [List.length_set]; rfl
  generalize xs2.set k ⟨nc, x.right, x.height, x.n, x.ones, x.ln, x.lones, x.b⟩ = xs3 at *
  obtain ⟨g4, rc4, cur4, r5, hgp4, _⟩ := h3'.row (by have := (List.getElem?_eq_some_iff.1 xj3).1; omega)
  obtain ⟨_, fz4, hjx4, _⟩ := h3'.node r5 xj3
  obtain ⟨_, _, hmx4, _⟩ := h3'.node r5 xm3
  obtain ⟨o0, o1, o2, o3, o4, o5, o6, o7⟩ := h3'.eight r5 xj3
  obtain ⟨p0, p1, p2, p3, p4, p5, p6, p7⟩ := h3'.eight r5 xm3
  have y0 := fz4 (j * 8)
  have y1 := fz4 (j * 8 + 1)
  have y2 := fz4 (j * 8 + 2)
  have y3 := fz4 (j * 8 + 3)
  have y4 := fz4 (j * 8 + 4)
  have y5 := fz4 (j * 8 + 5)
  have y6 := fz4 (j * 8 + 6)
  have y7 := fz4 (j * 8 + 7)
  change W3.cell? ⟨g4, m * 8 + 7, none⟩ = some (.pointer (some ⟨qm, 0, none⟩)) at p7
  change W3.cell? ⟨g4, m * 8, none⟩ = some (.int .i64 (-1)) at p0
  change W3.cell? ⟨g4, m * 8 + 1, none⟩ = some (.int .i64 (-1)) at p1
  change W3.cell? ⟨g4, m * 8 + 2, none⟩ = some (.int .i64 0) at p2
  change W3.cell? ⟨g4, m * 8 + 3, none⟩ = some (.int .i64 ((lm ++ lb).length : Int)) at p3
  change W3.cell? ⟨g4, m * 8 + 4, none⟩ = some (.int .i64 ((lm ++ lb).count true : Int)) at p4
  change W3.cell? ⟨g4, m * 8 + 5, none⟩ = some (.int .i64 0) at p5
  change W3.cell? ⟨g4, m * 8 + 6, none⟩ = some (.int .i64 0) at p6
  change W3.cell? ⟨g4, j * 8 + 7, none⟩ = some (.pointer (some ⟨qb, 0, none⟩)) at o7
  have hp8 := h3'.puts8 r5 xj3 (TT.leaf j qm (lm ++ lb)).nd (pb := some ⟨qm, 0, none⟩) rfl
  obtain ⟨nl, hnl⟩ : ∃ n : Int, ((lm ++ lb).length : Int) = n := ⟨_, rfl⟩
  obtain ⟨no, hno⟩ : ∃ n : Int, ((lm ++ lb).count true : Int) = n := ⟨_, rfl⟩
  rw [hnl] at p3
  rw [hno] at p4
  obtain ⟨W5, hW5⟩ : ∃ W5, W5 = ((((((((W3.setCell ⟨g4, j * 8, none⟩ (.int .i64 (-1))).setCell ⟨g4, j * 8 + 1, none⟩ (.int .i64 (-1))).setCell ⟨g4, j * 8 + 2, none⟩ (.int .i64 0)).setCell ⟨g4, j * 8 + 3, none⟩ (.int .i64 nl)).setCell ⟨g4, j * 8 + 4, none⟩ (.int .i64 no)).setCell ⟨g4, j * 8 + 5, none⟩ (.int .i64 0)).setCell ⟨g4, j * 8 + 6, none⟩ (.int .i64 0)).setCell ⟨g4, j * 8 + 7, none⟩ (.pointer (some ⟨qm, 0, none⟩))).drew := ⟨_, rfl⟩
  have hW5' : Hid (W5 = ((((((((W3.setCell ⟨g4, j * 8, none⟩ (.int .i64 (TT.leaf j qm (lm ++ lb)).nd.left)).setCell ⟨g4, j * 8 + 1, none⟩ (.int .i64 (TT.leaf j qm (lm ++ lb)).nd.right)).setCell ⟨g4, j * 8 + 2, none⟩ (.int .i64 (TT.leaf j qm (lm ++ lb)).nd.height)).setCell ⟨g4, j * 8 + 3, none⟩ (.int .i64 (TT.leaf j qm (lm ++ lb)).nd.n)).setCell ⟨g4, j * 8 + 4, none⟩ (.int .i64 (TT.leaf j qm (lm ++ lb)).nd.ones)).setCell ⟨g4, j * 8 + 5, none⟩ (.int .i64 (TT.leaf j qm (lm ++ lb)).nd.ln)).setCell ⟨g4, j * 8 + 6, none⟩ (.int .i64 (TT.leaf j qm (lm ++ lb)).nd.lones)).setCell ⟨g4, j * 8 + 7, none⟩ (.pointer (some ⟨qm, 0, none⟩))).drew) := by
    show W5 = _
    rw [hW5, ← hnl, ← hno]; rfl
  have h5 : Head W5 p C A (xs3.set j (TT.leaf j qm (lm ++ lb)).nd) root (vis + 2) := by rw [hW5'.out]; exact hp8.1.drew
  have c5 : Chg C W3 W5 := by rw [hW5'.out]; exact (hp8.2.mono (fun b e => by subst e; exact h3'.rowC ⟨_, _, r5⟩)).drew
  have tk := HO.out.tk
  obtain ⟨ap, ap0, hfr⟩ := tFree2 h5 (tk m (by simp [TT.nums])) (tk l (by simp [TT.nums])) t5.symm
  have hm8 : ¬ m = j := t8
  have HFR := Lib.hid hfr
  have H2 := Lib.hid h2
  have H3 := Lib.hid h3'
  have H5 := Lib.hid h5
  have G12 := Lib.hid g12
  have C3 := Lib.hid c3C
  have C5 := Lib.hid c5
  have HW3 := Lib.hid hW3
  have HW5 := Lib.hid hW5
  have QM3 := Lib.hid qm3
  have XX : Hid (xs3[k]? = some ⟨nc, x.right, x.height, x.n, x.ones, x.ln, x.lones, x.b⟩ ∧ xs3[j]? = some (TT.leaf j qb lb).nd ∧ (∀ b : Nat, b ≠ m → b ≠ k → xs3[b]? = xs[b]?) ∧ xs3.length = A.T.length ∧ Sub W3 xs3 c) := ⟨xk3, xj3, kp3, ln3, sc3⟩
  have HNC := Lib.hid hnc
  clear h2 h3 h3' q2 g12 g2 c3 c3C tk t1 t2 t3 t4 t5 t6 t7 t9 t10 t11 t8 hfr xl2 xk2 xj2 xm2 kp2 ln2 sc2 fz3 r4 hnc hW3 hW5 h5 c5 qm3 xm3 xj3 xk3 kp3 ln3 sc3 hp8 hnl hno fz4 c1 a0 a1 d0 d1 d7 b7 cv
  go_wp2_with fail
  -- REGION rj
  refine reg_start (fun w' => w'.cell? ⟨p, 1, none⟩ = some (.slice (some ⟨g3, 0, none⟩) xs2.length rc3) ∧ w'.cell? ⟨g3, l * 8, none⟩ = some (.int .i64 nc)) (by kernel_rfl) ?hirj (fun hHeld => ?_)
  case hirj => (refine ⟨?_, ?_⟩ <;> go_simp)
  refine reg_take (i := 0) (v := ?vrj0) rfl (by kernel_rfl) rfl hHeld ?yrj0 ?rrj0
  case yrj0 => (intro w hSw; (try dsimp only at hSw); go_simp; all_goals with_reducible rfl)
  try simp only [Act.put, List.setIfInBounds_toArray, List.set_cons_zero, List.set_cons_succ]
  refine reg_take (i := 1) (v := ?vrj1) rfl (by kernel_rfl) rfl hHeld ?yrj1 ?rrj1
  case yrj1 => (intro w hSw; (try dsimp only at hSw); go_simp; all_goals with_reducible rfl)
  try simp only [Act.put, List.setIfInBounds_toArray, List.set_cons_zero, List.set_cons_succ]
  refine reg_take (i := 2) (v := ?vrj2) rfl (by kernel_rfl) rfl hHeld ?yrj2 ?rrj2
  case yrj2 => (intro w hSw; (try dsimp only at hSw); go_simp; all_goals with_reducible rfl)
  try simp only [Act.put, List.setIfInBounds_toArray, List.set_cons_zero, List.set_cons_succ]
  refine reg_take (i := 3) (v := ?vrj3) rfl (by kernel_rfl) rfl hHeld ?yrj3 ?rrj3
  case yrj3 => (intro w hSw; (try dsimp only at hSw); go_simp; all_goals with_reducible rfl)
  try simp only [Act.put, List.setIfInBounds_toArray, List.set_cons_zero, List.set_cons_succ]
  refine reg_take (i := 4) (v := ?vrj4) rfl (by kernel_rfl) rfl hHeld ?yrj4 ?rrj4
  case yrj4 => (intro w hSw; (try dsimp only at hSw); go_simp; all_goals with_reducible rfl)
  try simp only [Act.put, List.setIfInBounds_toArray, List.set_cons_zero, List.set_cons_succ]
  refine reg_take (i := 5) (v := ?vrj5) rfl (by kernel_rfl) rfl hHeld ?yrj5 ?rrj5
  case yrj5 => (intro w hSw; (try dsimp only at hSw); go_simp; all_goals with_reducible rfl)
  try simp only [Act.put, List.setIfInBounds_toArray, List.set_cons_zero, List.set_cons_succ]
  refine reg_take (i := 6) (v := ?vrj6) rfl (by kernel_rfl) rfl hHeld ?yrj6 ?rrj6
  case yrj6 => (intro w hSw; (try dsimp only at hSw); go_simp; all_goals with_reducible rfl)
  try simp only [Act.put, List.setIfInBounds_toArray, List.set_cons_zero, List.set_cons_succ]
  refine reg_take (i := 7) (v := ?vrj7) rfl (by kernel_rfl) rfl hHeld ?yrj7 ?rrj7
  case yrj7 => (intro w hSw; (try dsimp only at hSw); go_simp; all_goals with_reducible rfl)
  try simp only [Act.put, List.setIfInBounds_toArray, List.set_cons_zero, List.set_cons_succ]
  refine reg_take (i := 8) (v := ?vrj8) rfl (by kernel_rfl) rfl hHeld ?yrj8 ?rrj8
  case yrj8 => (intro w hSw; (try dsimp only at hSw); go_simp; all_goals with_reducible rfl)
  try simp only [Act.put, List.setIfInBounds_toArray, List.set_cons_zero, List.set_cons_succ]
  refine reg_take (i := 9) (v := ?vrj9) rfl (by kernel_rfl) rfl hHeld ?yrj9 ?rrj9
  case yrj9 => (intro w hSw; (try dsimp only at hSw); go_simp; all_goals with_reducible rfl)
  try simp only [Act.put, List.setIfInBounds_toArray, List.set_cons_zero, List.set_cons_succ]
  refine reg_take (i := 10) (v := ?vrj10) rfl (by kernel_rfl) rfl hHeld ?yrj10 ?rrj10
  case yrj10 => (intro w hSw; (try dsimp only at hSw); go_simp; all_goals with_reducible rfl)
  try simp only [Act.put, List.setIfInBounds_toArray, List.set_cons_zero, List.set_cons_succ]
  refine reg_take (i := 11) (v := ?vrj11) rfl (by kernel_rfl) rfl hHeld ?yrj11 ?rrj11
  case yrj11 => (intro w hSw; (try dsimp only at hSw); go_simp; all_goals with_reducible rfl)
  try simp only [Act.put, List.setIfInBounds_toArray, List.set_cons_zero, List.set_cons_succ]
  refine reg_take (i := 12) (v := ?vrj12) rfl (by kernel_rfl) rfl hHeld ?yrj12 ?rrj12
  case yrj12 => (intro w hSw; (try dsimp only at hSw); go_simp; all_goals with_reducible rfl)
  try simp only [Act.put, List.setIfInBounds_toArray, List.set_cons_zero, List.set_cons_succ]
  refine reg_take (i := 13) (v := ?vrj13) rfl (by kernel_rfl) rfl hHeld ?yrj13 ?rrj13
  case yrj13 => (intro w hSw; (try dsimp only at hSw); go_simp; all_goals with_reducible rfl)
  try simp only [Act.put, List.setIfInBounds_toArray, List.set_cons_zero, List.set_cons_succ]
  refine reg_take (i := 14) (v := ?vrj14) rfl (by kernel_rfl) rfl hHeld ?yrj14 ?rrj14
  case yrj14 => (intro w hSw; (try dsimp only at hSw); go_simp; all_goals with_reducible rfl)
  try simp only [Act.put, List.setIfInBounds_toArray, List.set_cons_zero, List.set_cons_succ]
  refine reg_loud (i := 15) rfl (by kernel_rfl) rfl (fun K hK => ?_)
  go_simp
  refine hK.out _ _ ?kprj15 (fun hNew => ?_)
  case kprj15 => (refine ⟨?_, ?_⟩ <;> go_simp)
  clear hK K hHeld
  have hHeld := hNew
  clear hNew
  try simp only [Act.put, List.setIfInBounds_toArray, List.set_cons_zero, List.set_cons_succ]
  refine reg_done (by kernel_rfl) ?_ _
  -- END OF REGION rj
  clear hHeld
  rw [← HW3.out]
  go_wp2_with fail
  -- REGION rc
  refine reg_start (fun w' => w'.cell? ⟨p, 1, none⟩ = some (.slice (some ⟨g4, 0, none⟩) xs3.length rc4) ∧ w'.cell? ⟨g4, m * 8, none⟩ = some (.int .i64 (-1)) ∧ w'.cell? ⟨g4, m * 8 + 1, none⟩ = some (.int .i64 (-1)) ∧ w'.cell? ⟨g4, m * 8 + 2, none⟩ = some (.int .i64 0) ∧ w'.cell? ⟨g4, m * 8 + 3, none⟩ = some (.int .i64 nl) ∧ w'.cell? ⟨g4, m * 8 + 4, none⟩ = some (.int .i64 no) ∧ w'.cell? ⟨g4, m * 8 + 5, none⟩ = some (.int .i64 0) ∧ w'.cell? ⟨g4, m * 8 + 6, none⟩ = some (.int .i64 0) ∧ w'.cell? ⟨g4, m * 8 + 7, none⟩ = some (.pointer (some ⟨qm, 0, none⟩))) (by kernel_rfl) ?hirc (fun hHeld => ?_)
  case hirc => (refine ⟨?_, ?_, ?_, ?_, ?_, ?_, ?_, ?_, ?_⟩ <;> go_simp)
  refine reg_take (i := 0) (v := ?vrc0) rfl (by kernel_rfl) rfl hHeld ?yrc0 ?rrc0
  case yrc0 => (intro w hSw; (try dsimp only at hSw); go_simp; all_goals with_reducible rfl)
  try simp only [Act.put, List.setIfInBounds_toArray, List.set_cons_zero, List.set_cons_succ]
  refine reg_take (i := 1) (v := ?vrc1) rfl (by kernel_rfl) rfl hHeld ?yrc1 ?rrc1
  case yrc1 => (intro w hSw; (try dsimp only at hSw); go_simp; all_goals with_reducible rfl)
  try simp only [Act.put, List.setIfInBounds_toArray, List.set_cons_zero, List.set_cons_succ]
  refine reg_take (i := 2) (v := ?vrc2) rfl (by kernel_rfl) rfl hHeld ?yrc2 ?rrc2
  case yrc2 => (intro w hSw; (try dsimp only at hSw); go_simp; all_goals with_reducible rfl)
  try simp only [Act.put, List.setIfInBounds_toArray, List.set_cons_zero, List.set_cons_succ]
  refine reg_take (i := 3) (v := ?vrc3) rfl (by kernel_rfl) rfl hHeld ?yrc3 ?rrc3
  case yrc3 => (intro w hSw; (try dsimp only at hSw); go_simp; all_goals with_reducible rfl)
  try simp only [Act.put, List.setIfInBounds_toArray, List.set_cons_zero, List.set_cons_succ]
  refine reg_take (i := 4) (v := ?vrc4) rfl (by kernel_rfl) rfl hHeld ?yrc4 ?rrc4
  case yrc4 => (intro w hSw; (try dsimp only at hSw); go_simp; all_goals with_reducible rfl)
  try simp only [Act.put, List.setIfInBounds_toArray, List.set_cons_zero, List.set_cons_succ]
  refine reg_take (i := 5) (v := ?vrc5) rfl (by kernel_rfl) rfl hHeld ?yrc5 ?rrc5
  case yrc5 => (intro w hSw; (try dsimp only at hSw); go_simp; all_goals with_reducible rfl)
  try simp only [Act.put, List.setIfInBounds_toArray, List.set_cons_zero, List.set_cons_succ]
  refine reg_take (i := 6) (v := ?vrc6) rfl (by kernel_rfl) rfl hHeld ?yrc6 ?rrc6
  case yrc6 => (intro w hSw; (try dsimp only at hSw); go_simp; all_goals with_reducible rfl)
  try simp only [Act.put, List.setIfInBounds_toArray, List.set_cons_zero, List.set_cons_succ]
  refine reg_take (i := 7) (v := ?vrc7) rfl (by kernel_rfl) rfl hHeld ?yrc7 ?rrc7
  case yrc7 => (intro w hSw; (try dsimp only at hSw); go_simp; all_goals with_reducible rfl)
  try simp only [Act.put, List.setIfInBounds_toArray, List.set_cons_zero, List.set_cons_succ]
  refine reg_take (i := 8) (v := ?vrc8) rfl (by kernel_rfl) rfl hHeld ?yrc8 ?rrc8
  case yrc8 => (intro w hSw; (try dsimp only at hSw); go_simp; all_goals with_reducible rfl)
  try simp only [Act.put, List.setIfInBounds_toArray, List.set_cons_zero, List.set_cons_succ]
  refine reg_take (i := 9) (v := ?vrc9) rfl (by kernel_rfl) rfl hHeld ?yrc9 ?rrc9
  case yrc9 => (intro w hSw; (try dsimp only at hSw); go_simp; all_goals with_reducible rfl)
  try simp only [Act.put, List.setIfInBounds_toArray, List.set_cons_zero, List.set_cons_succ]
  refine reg_take (i := 10) (v := ?vrc10) rfl (by kernel_rfl) rfl hHeld ?yrc10 ?rrc10
  case yrc10 => (intro w hSw; (try dsimp only at hSw); go_simp; all_goals with_reducible rfl)
  try simp only [Act.put, List.setIfInBounds_toArray, List.set_cons_zero, List.set_cons_succ]
  refine reg_take (i := 11) (v := ?vrc11) rfl (by kernel_rfl) rfl hHeld ?yrc11 ?rrc11
  case yrc11 => (intro w hSw; (try dsimp only at hSw); go_simp; all_goals with_reducible rfl)
  try simp only [Act.put, List.setIfInBounds_toArray, List.set_cons_zero, List.set_cons_succ]
  refine reg_take (i := 12) (v := ?vrc12) rfl (by kernel_rfl) rfl hHeld ?yrc12 ?rrc12
  case yrc12 => (intro w hSw; (try dsimp only at hSw); go_simp; all_goals with_reducible rfl)
  try simp only [Act.put, List.setIfInBounds_toArray, List.set_cons_zero, List.set_cons_succ]
  refine reg_loud (i := 13) rfl (by kernel_rfl) rfl (fun K hK => ?_)
  go_simp
  refine hK.out _ _ ?kprc13 (fun hNew => ?_)
  case kprc13 => (refine ⟨?_, ?_, ?_, ?_, ?_, ?_, ?_, ?_, ?_⟩ <;> go_simp)
  clear hK K hHeld
  have hHeld := hNew
  clear hNew
  try simp only [Act.put, List.setIfInBounds_toArray, List.set_cons_zero, List.set_cons_succ]
  refine reg_done (by kernel_rfl) ?_ _
  -- END OF REGION rc
  clear hHeld
  rw [← HW5.out]
  go_wp2_with fail
  refine HFR.out.mono ?_
  rintro e w4 ⟨rfl, C4, h4, s4⟩
  have H4 := Lib.hid h4
  have S4 := Lib.hid s4
  clear h4 s4
  go_wp2_with fail
  go_ret
  obtain ⟨t1, t2, t3, t4, t5, t6, t7, t8, t9, t10, t11⟩ := HD.out
  obtain ⟨y1, y2, y3, y4, y5⟩ := XX.out
  have tk := HO.out.tk
  have g13 := (G12.out.trans C3.out (fun b hb => Or.inl (Or.inl hb))).trans C5.out (fun b hb => Or.inl (Or.inl hb))
  have hsz := g13.size
  have q5 := QM3.out.chg C5.out (H3.out.notBlk QM3.out.type)
  refine ⟨.pair k c (.leaf j qm (lm ++ lb)), C4, A.fr m l, _, _, rfl, H4.out, ⟨⟨?_, ?_, fun b hb => ?_⟩, ?_, fun b hb => (S4.out.new b hb).imp id (fun h => by omega), fun b hb => ?_, fun b e1 e2 => ?_, ?_, rfl, g13.trans S4.out.chg (fun b hb => Or.inl (Or.inl hb))⟩, ?_, by omega, by omega, ⟨_, (set_ne t3).trans y1, by rw [HNC.out], HX.out.2.2.1, HX.out.2.2.2, ?_, ⟨?_, ?_⟩⟩, by simp [Ar.fr]⟩
  · simp only [TT.nums, List.nodup_cons, List.mem_append, not_or, List.nodup_append, List.mem_cons, List.not_mem_nil, or_false, not_false_eq_true, List.nodup_nil, and_self, and_true, true_and]
    exact ⟨⟨t4, t3⟩, t11, fun a ha b hb e => by subst hb; subst e; exact t10 ha⟩
  · simp only [TT.bl, List.nodup_append, List.nodup_cons, List.mem_cons, List.not_mem_nil, or_false, not_false_eq_true, List.nodup_nil, and_self, and_true, true_and]
    exact ⟨HBB.out.2.2.2, fun a ha b hb e => by subst hb; subst e; exact HBB.out.2.1 ha⟩
  · have hb' : b ≠ m ∧ b ≠ l ∧ b ∈ (TT.pair k (.pair l c (.leaf m qm lm)) (.leaf j qb lb)).nums := by
      simp only [TT.nums, List.mem_cons, List.mem_append, List.not_mem_nil, or_false] at hb ⊢
      rcases hb with rfl | hb | rfl
      · exact ⟨t2, t1, Or.inl rfl⟩
      · exact ⟨fun e => t9 (e ▸ hb), fun e => t7 (e ▸ hb), Or.inr (Or.inl (Or.inr (Or.inl hb)))⟩
      · exact ⟨t8.symm, t6.symm, Or.inr (Or.inr rfl)⟩
    rw [Ar.fr_T hb'.1 hb'.2.1]; exact tk _ hb'.2.2
  · rw [List.length_set, y4]; simp [Ar.fr]
  · simp only [TT.bl, List.mem_append, List.mem_cons, List.not_mem_nil, or_false] at hb ⊢
    rcases hb with hb | hb
    · exact Or.inl (Or.inl (Or.inl hb))
    · exact Or.inl (Or.inl (Or.inr hb))
  · simp only [TT.nums, List.mem_cons, List.mem_append, List.not_mem_nil, or_false, not_or] at e2
    refine ⟨by rw [set_ne e2.2.2, y3 b e2.2.1.2.2 e2.1], by rw [Ar.fr_T e2.2.1.2.2 e2.2.1.1]; exact e1, by simp only [TT.nums, List.mem_cons, List.mem_append, List.not_mem_nil, or_false, not_or]; exact ⟨e2.1, e2.2.1.2.1, e2.2.2⟩⟩
  · have := Ar.fr_live (H3.out.arOk) (tk m (by simp [TT.nums])) (tk l (by simp [TT.nums])) t5.symm
    simp only [TT.st, ST.size]; omega
  · rw [HMD.out, if_pos hle]; rfl
  · exact (y5.chgC H3.out C5.out (set_out t10)).chgC H5.out S4.out.chg (fun _ _ => rfl)
  · exact set_get y2
  · exact q5.chg S4.out.chg (H5.out.notBlk q5.type)

set_option maxHeartbeats 6400000 in
set_option maxRecDepth 100000 in
theorem tMend_rsplit {w : World} {p : Nat} {C : Nat → Prop} {A : Ar} {xs : List Nd} {root vis : Int} (h : Head w p C A xs root vis) (hlen : xs.length = A.T.length) (hv0 : 0 ≤ vis) (hv : vis ≤ 100000000000) {k l m qm j qb : Nat} {lm lb : List Bool} {c : TT} (hS : SubW w xs (.pair k (.pair l c (.leaf m qm lm)) (.leaf j qb lb))) (hO : Own A (.pair k (.pair l c (.leaf m qm lm)) (.leaf j qb lb)))
    (hf : (TT.leaf j qb lb).st.few = true) (hsm : Small (TT.pair l c (.leaf m qm lm)).st) (hle : ¬ lm.length + lb.length ≤ 128) :
    Calls Tryd.prog 106 #[.pointer (some ⟨p, 0, none⟩), .int .i64 k] w fun e w' => MendPost w w' p C A xs root vis (.pair k (.pair l c (.leaf m qm lm)) (.leaf j qb lb)) e := by
  obtain ⟨x, hx, hxl, hxr, hxb, hl, hr⟩ := hS
  obtain ⟨g, rc, cur, c1, hgp, hCg, _⟩ := h.row (by have := (List.getElem?_eq_some_iff.1 hx).1; omega)
  obtain ⟨_, _, hkx, _⟩ := h.node c1 hx
  obtain ⟨a0, a1, _⟩ := h.eight c1 hx
  rw [hxl] at a0
  rw [hxr] at a1
  change w.cell? ⟨g, k * 8, none⟩ = some (.int .i64 (l : Int)) at a0
  change w.cell? ⟨g, k * 8 + 1, none⟩ = some (.int .i64 (j : Int)) at a1
  obtain ⟨_, _, cv, fz⟩ := h.cells
  have f3 := fz 3
  have HF1 : Hid (∀ n, Calls Tryd.prog 120 #[.pointer (some ⟨p, 0, none⟩), .int .i64 l] (w.drewN n) fun e w' => e = .returned (.bool (TT.pair l c (TT.leaf m qm lm)).st.few) ∧ w.drewN n = w') := fun n =>
    tFew_any (T := TT.pair l c (TT.leaf m qm lm)) (h.drewN n) (hl.keep (w' := w.drewN n) (fun _ _ => rfl) (fun _ _ => rfl))
  have HF2 : Hid (∀ n, Calls Tryd.prog 120 #[.pointer (some ⟨p, 0, none⟩), .int .i64 j] (w.drewN n) fun e w' => e = .returned (.bool (TT.leaf j qb lb).st.few) ∧ w.drewN n = w') := fun n =>
    tFew_any (T := TT.leaf j qb lb) (h.drewN n) (hr.keep (w' := w.drewN n) (fun _ _ => rfl) (fun _ _ => rfl))
  have h1 : ∀ n, Head ((w.drewN n).setCell ⟨p, 3, none⟩ (.int .i64 (vis + 2))) p C A xs root (vis + 2) := fun n => (h.drewN n).set3 _
  have g1 : ∀ n, Chg C w ((w.drewN n).setCell ⟨p, 3, none⟩ (.int .i64 (vis + 2))) := fun n => (Chg.refl.drewN n).setCell _ (Or.inl h.self) _
  have HL1 : Hid (∀ n, Sub ((w.drewN n).setCell ⟨p, 3, none⟩ (.int .i64 (vis + 2))) xs (TT.pair l c (TT.leaf m qm lm))) := fun n => hl.chgC h (g1 n) (fun _ _ => rfl)
  have HR1 : Hid (∀ n, Sub ((w.drewN n).setCell ⟨p, 3, none⟩ (.int .i64 (vis + 2))) xs (TT.leaf j qb lb)) := fun n => hr.chgC h (g1 n) (fun _ _ => rfl)
  have HC1 : Hid (∀ n, ((w.drewN n).setCell ⟨p, 3, none⟩ (.int .i64 (vis + 2))).cell? ⟨p, 1, none⟩ = some (.slice (some ⟨g, 0, none⟩) xs.length rc)) := fun n => by
    have := c1
    go_simp
  have H1 := Lib.hid h1
  have G1 := Lib.hid g1
  have HO := Lib.hid hO
  have HLN := Lib.hid hlen
  have HX : Hid (xs[k]? = some x ∧ x.left = l ∧ x.right = j ∧ x.b = none) := ⟨hx, hxl, hxr, hxb⟩
  obtain ⟨_, _, hlx, _⟩ := h.node c1 hl.root
  obtain ⟨_, _, hjx, _⟩ := h.node c1 hr.root
  obtain ⟨d0, d1, _, _, _, _, _, d7⟩ := h.eight c1 hl.root
  obtain ⟨_, _, _, _, _, _, _, b7⟩ := h.eight c1 hr.root
  change w.cell? ⟨g, j * 8 + 7, none⟩ = some (.pointer (some ⟨qb, 0, none⟩)) at b7
  change w.cell? ⟨g, l * 8, none⟩ = some (.int .i64 (c.num : Int)) at d0
  change w.cell? ⟨g, l * 8 + 1, none⟩ = some (.int .i64 (m : Int)) at d1
  change w.cell? ⟨g, l * 8 + 7, none⟩ = some (.pointer none) at d7
  change l < xs.length at hlx
  change j < xs.length at hjx
  have hD : k ≠ l ∧ k ≠ m ∧ k ≠ j ∧ k ∉ c.nums ∧ l ≠ m ∧ l ≠ j ∧ l ∉ c.nums ∧ m ≠ j ∧ m ∉ c.nums ∧ j ∉ c.nums ∧ c.nums.Nodup := by
    obtain ⟨e1, e2, e3, _, e5⟩ := TT.dis hO.nn
    obtain ⟨f1, f2, f3, _, f5⟩ := TT.dis e3
    have g1 : m ∉ c.nums := fun h => f5 m h (by simp [TT.nums])
    have g2 : j ∉ (TT.pair l c (.leaf m qm lm)).nums := fun h => e5 j h (by simp [TT.nums])
    simp only [TT.nums, List.mem_cons, List.mem_append, List.not_mem_nil, or_false, not_or] at e1 e2 f2 g2
    exact ⟨e1.1, e1.2.2, e2, e1.2.1, f2, fun e => g2.1 e.symm, f1, fun e => g2.2.2 e.symm, g1, g2.2.1, f3⟩
  have hB : qm ≠ qb ∧ qm ∉ c.bl ∧ qb ∉ c.bl ∧ c.bl.Nodup := by
    have := hO.bn
    simp only [TT.bl, List.nodup_append, List.mem_append, List.mem_cons, List.not_mem_nil, or_false] at this
    obtain ⟨⟨z1, _, z2⟩, _, z3⟩ := this
    exact ⟨fun e => z3 qm (Or.inr rfl) qb rfl e, fun e => z2 qm e qm rfl rfl, fun e => z3 qb (Or.inl e) qb rfl rfl, z1⟩
  have HD := Lib.hid hD
  have HBB := Lib.hid hB
  have hmd : mendT (TT.pair k (.pair l c (.leaf m qm lm)) (.leaf j qb lb)).st = (if lm.length + lb.length ≤ 128 then .pair c.st (.leaf (lm ++ lb)) else .pair (.pair c.st (.leaf ((lm ++ lb).take ((lm.length + lb.length) / 2)))) (.leaf ((lm ++ lb).drop ((lm.length + lb.length) / 2)))) := by
    simp only [TT.st, mendT]
    rw [if_neg (by rintro ⟨e1, e2⟩; simp only [TT.st] at hf; rw [hf] at e2; cases e2)]
  have HMD := Lib.hid hmd
  have hpw := h.lt p h.self
  have hgw := h.lt g hCg
  have HXJ : Hid (xs[j]? = some (TT.leaf j qb lb).nd) := hr.root
  have HXL : Hid (xs[l]? = some (TT.pair l c (.leaf m qm lm)).nd) := hl.1
  have HXM : Hid (xs[m]? = some (TT.leaf m qm lm).nd) := hl.2.2.1
  have HFA : Hid (∀ n, Calls Tryd.prog 120 #[.pointer (some ⟨p, 0, none⟩), .int .i64 l] ((w.drewN n).setCell ⟨p, 3, none⟩ (.int .i64 (vis + 2))) fun e w' => e = .returned (.bool false) ∧ (w.drewN n).setCell ⟨p, 3, none⟩ (.int .i64 (vis + 2)) = w') := fun n =>
    tFew_any (T := TT.pair l c (.leaf m qm lm)) (h1 n) (HL1.out n)
  have HSM := Lib.hid hsm
  have HLF : Hid ((TT.pair l c (.leaf m qm lm)).st.few = false) := rfl
  have HRF := Lib.hid hf
  have HLV : Hid (∀ n, Calls Tryd.prog 121 #[.pointer (some ⟨p, 0, none⟩), .int .i64 m, .int .i64 j] ((w.drewN n).setCell ⟨p, 3, none⟩ (.int .i64 (vis + 2))) _) :=
    fun n => tLev_split (h1 n) (HL1.out n).2.2 (HR1.out n) hD.2.2.2.2.2.2.2.1 hB.1 (by omega)
  clear h hlen hO hx hxl hxr hxb hl hr fz h1 g1 hD hmd hCg hB hf hsm
  go_enter Tryd.func106, Tryd.ntmps106
  go_wp2_with fail
  go_quiet (fail)
  obtain ⟨n1, rfl⟩ : ∃ n1, n1 = nq := ⟨_, rfl⟩
  go_wp2_with fail
  refine (HF1.out n1).mono ?_
  rintro e w' ⟨rfl, rfl⟩
  rw [HLF.out]
  go_wp2_with fail
  refine (HF2.out n1).mono ?_
  rintro e w' ⟨rfl, rfl⟩
  rw [HRF.out]
  go_wp2_with fail
  refine (HFA.out n1).mono ?_
  rintro e w' ⟨rfl, rfl⟩
  go_wp2_with fail
  refine (HLV.out n1).mono ?_
  rintro e w2 ⟨rfl, q1, q2, u1, u2, u3, h2, b1, b2, g2⟩
  obtain ⟨t1, t2, t3, t4, t5, t6, t7, t8, t9, t10, t11⟩ := HD.out
  have hll : ((lm ++ lb).take ((lm.length + lb.length) / 2)).length + ((lm ++ lb).drop ((lm.length + lb.length) / 2)).length = lm.length + lb.length := by simp; omega
  have hsl : lm.length ≤ 128 ∧ lb.length ≤ 128 := ⟨(HL1.out n1).2.2.2.1, (HR1.out n1).2.1⟩
  have hmd := HMD.out
  rw [if_neg hle] at hmd
  have HMD2 := Lib.hid hmd
  generalize (lm ++ lb).take ((lm.length + lb.length) / 2) = lo at *
  generalize (lm ++ lb).drop ((lm.length + lb.length) / 2) = hi at *
  have U : Hid (w.heap.size ≤ q1 ∧ w.heap.size ≤ q2 ∧ q1 ≠ q2) := ⟨Nat.le_trans (G1.out n1).size u1, Nat.le_trans (G1.out n1).size u2, u3⟩
  have g12 : Chg C w w2 := (G1.out n1).trans g2 (fun b hb => Or.inl hb)
  have xl2 : ((xs.set m (TT.leaf m q1 lo).nd).set j (TT.leaf j q2 hi).nd)[l]? = some (TT.pair l c (.leaf m qm lm)).nd := by rw [set_ne t6, set_ne t5]; exact HXL.out
  have xk2 : ((xs.set m (TT.leaf m q1 lo).nd).set j (TT.leaf j q2 hi).nd)[k]? = some x := by rw [set_ne t3, set_ne t2]; exact HX.out.1
  have xm2 : ((xs.set m (TT.leaf m q1 lo).nd).set j (TT.leaf j q2 hi).nd)[m]? = some (TT.leaf m q1 lo).nd := by rw [set_ne t8]; exact set_get HXM.out
  have xj2 : ((xs.set m (TT.leaf m q1 lo).nd).set j (TT.leaf j q2 hi).nd)[j]? = some (TT.leaf j q2 hi).nd := set_get (x := (TT.leaf j qb lb).nd) (by rw [set_ne t8.symm]; exact HXJ.out)
  have kp2 : ∀ b : Nat, b ≠ m → b ≠ j → ((xs.set m (TT.leaf m q1 lo).nd).set j (TT.leaf j q2 hi).nd)[b]? = xs[b]? := fun b hb hc => by rw [set_ne hc, set_ne hb]
  have ln2 : ((xs.set m (TT.leaf m q1 lo).nd).set j (TT.leaf j q2 hi).nd).length = A.T.length := by rw [List.length_set, List.length_set]; exact HLN.out
  have sc2 : Sub w2 ((xs.set m (TT.leaf m q1 lo).nd).set j (TT.leaf j q2 hi).nd) c := (HL1.out n1).2.1.chgC (H1.out n1) g2 (fun b hb => kp2 b (by rintro rfl; exact t9 hb) (by rintro rfl; exact t10 hb))
  generalize (xs.set m (TT.leaf m q1 lo).nd).set j (TT.leaf j q2 hi).nd = xs2 at *
  have hs2 := HSM.out.l
  have HF := Lib.hid (tFix_tt (a := c) (b := .leaf m q1 lo) h2 xl2 rfl rfl rfl sc2 ⟨xm2, b1⟩ hs2 ⟨by simp only [TT.st, ST.bits]; omega, by simp [TT.st, ST.high]⟩)
  have H2 := Lib.hid h2
  have B1 := Lib.hid b1
  have B2 := Lib.hid b2
  have G12 := Lib.hid g12
  have XX : Hid (xs2[k]? = some x ∧ xs2[m]? = some (TT.leaf m q1 lo).nd ∧ xs2[j]? = some (TT.leaf j q2 hi).nd ∧ xs2[l]? = some (TT.pair l c (.leaf m qm lm)).nd ∧ (∀ b : Nat, b ≠ m → b ≠ j → xs2[b]? = xs[b]?) ∧ xs2.length = A.T.length ∧ Sub w2 xs2 c) := ⟨xk2, xm2, xj2, xl2, kp2, ln2, sc2⟩
  clear h2 b1 b2 g2 g12 u1 u2 u3 t1 t2 t3 t4 t5 t6 t7 t8 t9 t10 t11 xl2 xk2 xm2 xj2 kp2 ln2 sc2 hmd hll hs2 hsl
  go_wp2_with fail
  refine HF.out.mono ?_
  rintro e w3 ⟨rfl, h3, g3⟩
  have H3 := Lib.hid h3
  have G3 := Lib.hid (H2.out.chgRow g3)
  clear h3 g3
  go_wp2_with fail
  go_ret
  obtain ⟨t1, t2, t3, t4, t5, t6, t7, t8, t9, t10, t11⟩ := HD.out
  obtain ⟨u1, u2, u3⟩ := U.out
  obtain ⟨y1, y2, y2', y2'', y3, y4, y5⟩ := XX.out
  have tk := HO.out.tk
  have cb : ∀ b ∈ c.bl, b < w.heap.size := fun b hb => by
    have := ((HL1.out n1).2.1.type hb).lt
    simpa [World.setCell] using this
  refine ⟨.pair k (.pair l c (.leaf m q1 lo)) (.leaf j q2 hi), C, A, _, _, rfl, H3.out, ⟨⟨HO.out.nn, ?_, fun b hb => tk b (by simpa [TT.nums] using hb)⟩, ?_, fun b hb => Or.inl hb, fun b hb => ?_, fun b e1 e2 => ?_, ?_, rfl, (G12.out.trans G3.out (fun b hb => Or.inl hb)).mono (fun b hb => Or.inl hb)⟩, ?_, by omega, by omega, ⟨x, ?_, HX.out.2.1, HX.out.2.2.1, HX.out.2.2.2, ⟨?_, ?_, ⟨?_, ?_⟩⟩, ⟨?_, ?_⟩⟩, rfl⟩
  · simp only [TT.bl, List.nodup_append, List.nodup_cons, List.mem_append, List.mem_cons, List.not_mem_nil, or_false, not_false_eq_true, List.nodup_nil, and_self, and_true, true_and]
    refine ⟨⟨HBB.out.2.2.2, fun a ha b hb e => by subst hb; subst e; have := cb _ ha; omega⟩, fun a ha b hb e => ?_⟩
    subst hb; subst e
    rcases ha with ha | ha
    · have := cb _ ha; omega
    · exact u3 ha.symm
  · rw [List.length_set, y4]
  · simp only [TT.bl, List.mem_append, List.mem_cons, List.not_mem_nil, or_false] at hb ⊢
    rcases hb with (hb | rfl) | rfl
    · exact Or.inl (Or.inl (Or.inl hb))
    · exact Or.inr u1
    · exact Or.inr u2
  · have e2' := e2
    simp only [TT.nums, List.mem_cons, List.mem_append, List.not_mem_nil, or_false, not_or] at e2
    refine ⟨by rw [set_ne e2.2.1.1, y3 b e2.2.1.2.2 e2.2.2], e1, by simpa [TT.nums] using e2'⟩
  · simp only [TT.st, ST.size]
  · exact HMD2.out.symm
  · rw [set_ne t1]; exact y1
  · exact set_get y2''
  · exact y5.chgC H2.out G3.out (set_out t7)
  · rw [set_ne t5.symm]; exact y2
  · exact B1.out.chg G3.out (H2.out.notBlk B1.out.type)
  · rw [set_ne t6.symm]; exact y2'
  · exact B2.out.chg G3.out (H2.out.notBlk B2.out.type)

end Go.Proofs.YtcppgpjodfeigaaDoor

namespace Go.Proofs.YtcppgpjodfeigaaDoor
set_option linter.unusedVariables false
set_option linter.unusedSimpArgs false
open Go.RowKit

theorem TT.leaf_of_few {T : TT} (h : T.st.few = true) : ∃ k q l, T = .leaf k q l := by
  cases T with
  | leaf k q l => exact ⟨k, q, l, rfl⟩
  | pair k a b => simp [TT.st, ST.few] at h
theorem TT.leaf_of_high {T : TT} (h : T.st.high = 0) : ∃ k q l, T = .leaf k q l := by
  cases T with
  | leaf k q l => exact ⟨k, q, l, rfl⟩
  | pair k a b => simp [TT.st, ST.high] at h

theorem tMend_any {w : World} {p : Nat} {C : Nat → Prop} {A : Ar} {xs : List Nd} {root vis : Int} (h : Head w p C A xs root vis) (hlen : xs.length = A.T.length) (hv0 : 0 ≤ vis) (hv : vis ≤ 100000000000) {k : Nat} {l r : TT} (hS : SubW w xs (.pair k l r)) (hO : Own A (.pair k l r))
    (hl : l.st.few = true → r.st.high ≤ 1) (hr : r.st.few = true → l.st.high ≤ 1) (s1 : Small l.st) (s2 : Small r.st) :
    Calls Tryd.prog 106 #[.pointer (some ⟨p, 0, none⟩), .int .i64 k] w fun e w' => MendPost w w' p C A xs root vis (.pair k l r) e := by
  cases hlf : l.st.few with
  | true =>
    obtain ⟨i, qa, la, rfl⟩ := TT.leaf_of_few hlf
    cases r with
    | leaf j qb lb =>
      by_cases hle : la.length + lb.length ≤ 128
      · exact tMend_join h hlen hv0 hv hS hO (Or.inl hlf) hle
      · exact tMend_split h hlen hv0 hv hS hO (Or.inl hlf) hle
    | pair r' r1 c =>
      have hh := hl hlf
      obtain ⟨m, qm, lm, rfl⟩ := TT.leaf_of_high (T := r1) (by simp only [TT.st, ST.high] at hh; omega)
      by_cases hle : la.length + lm.length ≤ 128
      · exact tMend_ljoin h hlen hv0 hv hS hO hlf s2 hle
      · exact tMend_lsplit h hlen hv0 hv hS hO hlf s2 hle
  | false =>
    cases hrf : r.st.few with
    | false => exact tMend_no h hlen hS hO ⟨hlf, hrf⟩
    | true =>
      obtain ⟨j, qb, lb, rfl⟩ := TT.leaf_of_few hrf
      cases l with
      | leaf i qa la =>
        by_cases hle : la.length + lb.length ≤ 128
        · exact tMend_join h hlen hv0 hv hS hO (Or.inr ⟨hlf, hrf⟩) hle
        · exact tMend_split h hlen hv0 hv hS hO (Or.inr ⟨hlf, hrf⟩) hle
      | pair l' c r1 =>
        have hh := hr hrf
        obtain ⟨m, qm, lm, rfl⟩ := TT.leaf_of_high (T := r1) (by simp only [TT.st, ST.high] at hh; omega)
        by_cases hle : lm.length + lb.length ≤ 128
        · exact tMend_rjoin h hlen hv0 hv hS hO hrf s1 hle
        · exact tMend_rsplit h hlen hv0 hv hS hO hrf s1 hle

/-- Only a leaf can have too few bits behind one less. -/
theorem few_del {x : ST} {k : Nat} (hf : x.Fill) (hk : k < x.bits.length) (h : (delT x k).few = true) : x.high = 0 := by
  cases x with
  | leaf l => rfl
  | pair c d =>
    exfalso
    cases hd : delT (.pair c d) k with
    | leaf z =>
      have hb := delT_bits hk
      rw [hd] at h hb
      simp only [ST.bits] at hb
      have hl := hf.len
      have hll : z.length = (ST.pair c d).bits.length - 1 := by rw [hb]; exact outL_len hk
      simp only [ST.leaves, ST.bits] at hl hll
      have := c.leaves_pos; have := d.leaves_pos
      simp only [ST.few, decide_eq_true_eq] at h
      omega
    | pair e f => rw [hd] at h; simp [ST.few] at h

/-- Two changes of a subtree, one behind the other. -/
theorem SubPre.cat {w w1 w2 : World} {C C1 C2 : Nat → Prop} {A A1 A2 : Ar} {xs xs1 xs2 : List Nd} {T T1 T2 : TT} (h : SubPre w w1 C A xs T T1 C1 A1 xs1) (g : SubPre w1 w2 C1 A1 xs1 T1 T2 C2 A2 xs2) : SubPre w w2 C A xs T T2 C2 A2 xs2 := by
  have hs := h.chg.size
  refine ⟨g.own, g.len, fun j hj => ?_, fun q hq => ?_, fun j h1 h2 => ?_, by have := h.live; have := g.live; omega, g.max.trans h.max, h.chg.trans g.chg (fun j hj => ?_)⟩
  · rcases g.newC j hj with e | e
    · exact h.newC j e
    · exact Or.inr (by omega)
  · rcases g.newB q hq with e | e
    · exact h.newB q e
    · exact Or.inr (by omega)
  · obtain ⟨e1, e2, e3⟩ := h.keep j h1 h2
    obtain ⟨f1, f2, f3⟩ := g.keep j e2 e3
    exact ⟨f1.trans e1, f2, f3⟩
  · rcases hj with e | e
    · exact (h.newC j e).imp Or.inl id
    · exact (h.newB j e).imp Or.inr id

/-- What drop leaves. -/
def DropPost (w w' : World) (p : Nat) (C : Nat → Prop) (A : Ar) (xs : List Nd) (root vis : Int) (T : TT) (k : Nat) (e : Ending) : Prop :=
  ∃ T' C' A' xs' v', e = .returned (.tuple #[.int .i64 T'.num, .bool (bitAt T.st.bits k)]) ∧ SubPost w w' p C A xs root vis T T' C' A' xs' v' ∧ T'.st = delT T.st k ∧ A'.T.length = A.T.length

set_option maxHeartbeats 3200000 in
set_option maxRecDepth 100000 in
theorem tDrop_leaf {w : World} {p : Nat} {C : Nat → Prop} {A : Ar} {xs : List Nd} {root vis : Int} (h : Head w p C A xs root vis) (hlen : xs.length = A.T.length) (hv0 : 0 ≤ vis) (hv : vis ≤ 100000000000) {kn q : Nat} {l : List Bool} (hS : Sub w xs (.leaf kn q l))
    (hO : Own A (.leaf kn q l)) (k : Nat) (hk : k < l.length) :
    Calls Tryd.prog 74 #[.pointer (some ⟨p, 0, none⟩), .int .i64 kn, .int .i64 k] w fun e w' => DropPost w w' p C A xs root vis (.leaf kn q l) k e := by
  have hx := hS.root
  change xs[kn]? = some (TT.leaf kn q l).nd at hx
  obtain ⟨g, rc, cur, c1, hgp, _⟩ := h.row (by have := (List.getElem?_eq_some_iff.1 hx).1; omega)
  obtain ⟨_, _, hkx, _⟩ := h.node c1 hx
  obtain ⟨a0, a1, a2, a3, a4, a5, a6, a7⟩ := h.eight c1 hx
  obtain ⟨_, _, cv, fz⟩ := h.cells
  have f3 := fz 3
  have hp := h.lt p h.self
  have hg := World.block_lt_of_cell? w _ a0
  simp only [TT.nd, ptrN, Option.map_some] at a0 a1 a2 a3 a4 a5 a6 a7
  have hq := hS.2
  have hqC : ¬ C q := h.notBlk hq.type
  have HW : Hid (∀ v o, IsBlock ((w.setCell ⟨p, 3, none⟩ v).alloc o) q l) := fun v o => hq.chg ((Chg.refl.setCell ⟨p, 3, none⟩ (Or.inl h.self) v).alloc o) hqC
  have HH3 : Hid (∀ o, Head ((w.setCell ⟨p, 3, none⟩ (.int .i64 (vis + 1))).alloc o) p C A xs root (vis + 1)) := fun o => (h.set3 (vis + 1)).below (below_alloc _ _)
  have HG : Hid (∀ o, Chg C w ((w.setCell ⟨p, 3, none⟩ (.int .i64 (vis + 1))).alloc o)) := fun o => (h.chg3 _ 3).alloc o
  have HX := Lib.hid hx
  have HQC := Lib.hid hqC
  have HO := Lib.hid hO
  have HL := Lib.hid hlen
  clear h fz hx hS hq hqC hO hlen
  go_enter Tryd.func74, Tryd.ntmps74
  go_wp2_with fail
  refine (blkDelete (HW.out _ _) k hk).mono ?_
  rintro e w3 ⟨rfl, hb3, c3⟩
  have h3 := (HH3.out _).chg c3 (fun j hj e => HQC.out (e ▸ hj))
  have g3 : Chg (fun j => C j ∨ j ∈ (TT.leaf kn q l).bl) w w3 := ((HG.out _).mono (fun j hj => Or.inl hj)).trans c3 (fun j e => Or.inl (Or.inr (by simp [TT.bl, e])))
  have HF := Lib.hid (tFix_leaf h3 HX.out rfl hb3)
  have H3 := Lib.hid h3
  have G3 := Lib.hid g3
  have HB3 := Lib.hid hb3
  clear h3 g3 hb3 c3
  go_wp2_with fail
  refine HF.out.mono ?_
  rintro e w4 ⟨rfl, h4, g4⟩
  have H4 := Lib.hid h4
  have G4 := Lib.hid g4
  clear h4 g4
  go_wp2_with fail
  go_ret2
  refine ⟨.leaf kn q (outL l k), C, A, _, _, rfl, ⟨H4.out, ⟨set_get HX.out, ?_⟩, ⟨HO.out.nn, HO.out.bn, HO.out.tk⟩, ?_, fun j hj => Or.inl hj, fun j hj => Or.inl hj, fun j h1 h2 => ⟨?_, h1, h2⟩, rfl, rfl, ?_, ?_⟩, rfl, rfl⟩
  · exact HB3.out.chg (H3.out.chgRow G4.out) (H3.out.notBlk HB3.out.type)
  · rw [List.length_set]; exact HL.out
  · exact set_ne (by rintro rfl; exact h2 (by simp [TT.nums]))
  · exact ⟨by omega, by simp only [TT.st, ST.high]; omega⟩
  · exact G3.out.trans (H3.out.chgRow G4.out) (fun j hj => Or.inl (Or.inl hj))

end Go.Proofs.YtcppgpjodfeigaaDoor

namespace Go.Proofs.YtcppgpjodfeigaaDoor
set_option linter.unusedVariables false
set_option linter.unusedSimpArgs false
open Go.RowKit

set_option maxHeartbeats 6400000 in
set_option maxRecDepth 100000 in
theorem tDrop_any (T : TT) : ∀ (w : World) (p : Nat) (C : Nat → Prop) (A : Ar) (xs : List Nd) (root vis : Int) (k : Nat), Head w p C A xs root vis → xs.length = A.T.length → 0 ≤ vis → vis + 7 * T.st.high + 20 ≤ 100000000000 → Sub w xs T → Own A T → k < T.st.bits.length →
    T.st.bits.length ≤ 8589934592 → T.st.high ≤ 1000000000 → T.st.Avl → (∀ t, T.st = t → (t.isLeaf = true ∨ t.Fill)) →
    Calls Tryd.prog 74 #[.pointer (some ⟨p, 0, none⟩), .int .i64 T.num, .int .i64 k] w fun e w' => DropPost w w' p C A xs root vis T k e := by
  induction T with
  | leaf kn q l =>
    intro w p C A xs root vis k h hlen hv0 hv hS hO hk hb1 hh1 hav hfl
    simp only [TT.st, ST.bits] at hk
    exact tDrop_leaf h hlen hv0 (by simp only [TT.st, ST.high] at hv; omega) hS hO k hk
  | pair kn a c iha ihc =>
    intro w p C A xs root vis k h hlen hv0 hv hS hO hk hb1 hh1 hav hfl
    have hfill : (TT.pair kn a c).st.Fill := by
      rcases hfl _ rfl with e | e
      · cases e
      · exact e
    obtain ⟨av1, av2, av3, av4⟩ := hav
    obtain ⟨fa, fc⟩ := hfill
    change Calls Tryd.prog _ #[.pointer (some ⟨p, 0, none⟩), .int .i64 (kn : Int), .int .i64 k] w _
    have hx := hS.root
    change xs[kn]? = some (TT.pair kn a c).nd at hx
    obtain ⟨g, rc, cur, c1, hgp, _⟩ := h.row (by have := (List.getElem?_eq_some_iff.1 hx).1; omega)
    obtain ⟨_, _, hkx, _⟩ := h.node c1 hx
    obtain ⟨a0, a1, a2, a3, a4, a5, a6, a7⟩ := h.eight c1 hx
    obtain ⟨_, _, cv, fz⟩ := h.cells
    have f3 := fz 3
    have hp := h.lt p h.self
    have hg := World.block_lt_of_cell? w _ a0
    simp only [TT.st, ST.bits, ST.high, List.length_append] at hv hk hb1 hh1
    obtain ⟨na, hna⟩ : ∃ na, a.num = na := ⟨_, rfl⟩
    obtain ⟨nc, hnc⟩ : ∃ nc, c.num = nc := ⟨_, rfl⟩
    obtain ⟨la, hla⟩ : ∃ la, a.st.bits.length = la := ⟨_, rfl⟩
    obtain ⟨ha, hha⟩ : ∃ h, a.st.high = h := ⟨_, rfl⟩
    obtain ⟨hc, hhc⟩ : ∃ h, c.st.high = h := ⟨_, rfl⟩
    rw [hla] at hk hb1
    rw [hha, hhc] at hv hh1 av3 av4
    simp only [TT.nd, ptrN, Option.map_none] at a0 a1 a2 a3 a4 a5 a6 a7
    rw [hla] at a3 a5
    change w.cell? ⟨g, kn * 8, none⟩ = some (.int .i64 (a.num : Int)) at a0
    change w.cell? ⟨g, kn * 8 + 1, none⟩ = some (.int .i64 (c.num : Int)) at a1
    rw [hna] at a0
    rw [hnc] at a1
    have HNA := Lib.hid hna
    have HNC := Lib.hid hnc
    have HLA := Lib.hid hla
    have HHA := Lib.hid hha
    have HHC := Lib.hid hhc
    have HH3 : Hid (∀ o, Head ((w.setCell ⟨p, 3, none⟩ (.int .i64 (vis + 1))).alloc o) p C A xs root (vis + 1)) := fun o => (h.set3 (vis + 1)).below (below_alloc _ _)
    have HG : Hid (∀ o, Chg C w ((w.setCell ⟨p, 3, none⟩ (.int .i64 (vis + 1))).alloc o)) := fun o => (h.chg3 _ 3).alloc o
    have HSA : Hid (∀ w', Chg C w w' → Sub w' xs a) := fun w' hc => hS.2.1.chgC h hc (fun _ _ => rfl)
    have HSC : Hid (∀ w', Chg C w w' → Sub w' xs c) := fun w' hc => hS.2.2.chgC h hc (fun _ _ => rfl)
    have HX := Lib.hid hx
    have HO := Lib.hid hO
    have HL := Lib.hid hlen
    have HIA := Lib.hid iha
    have HIC := Lib.hid ihc
    have HAV : Hid (a.st.Avl ∧ c.st.Avl ∧ a.st.Fill ∧ c.st.Fill) := ⟨av1, av2, fa, fc⟩
    have hkb : k ≤ 8589934592 := by omega
    clear h fz hx hS hO hlen iha ihc hna hnc hla hha hhc av1 av2 fa fc hfl
    by_cases hlt : k < la
    · have d1 : decide (k < la) = true := decide_eq_true hlt
      go_enter Tryd.func74, Tryd.ntmps74
      go_wp2_with fail
      have h2 := HH3.out (.cells #[.int .i64 na, .int .i64 nc, .int .i64 (ST.pair a.st c.st).high, .int .i64 (la + c.st.bits.length), .int .i64 (a.st.bits.count true + c.st.bits.count true), .int .i64 la, .int .i64 (a.st.bits.count true), .pointer none] 88)
      have hih := HIA.out _ p C A xs root (vis + 1) k h2 HL.out (by omega) (by rw [HHA.out]; omega) (HSA.out _ (HG.out _)) HO.out.l (by rw [HLA.out]; exact hlt) (by rw [HLA.out]; omega) (by rw [HHA.out]; omega) HAV.out.1 (fun t ht => Or.inr (by rw [← ht]; exact HAV.out.2.2.1))
      rw [HNA.out] at hih
      refine hih.mono ?_
      rintro e w3 ⟨T', C3, A3, xs3, v3, rfl, hP, hst, hmade⟩
      obtain ⟨q1, q2, q3⟩ := SubPre.left HO.out hP.pre h2 (HSC.out _ (HG.out _))
      have hx3 := q3.trans HX.out
      have hpre := SubPre.first (HG.out (.cells #[.int .i64 na, .int .i64 nc, .int .i64 (ST.pair a.st c.st).high, .int .i64 (la + c.st.bits.length), .int .i64 (a.st.bits.count true + c.st.bits.count true), .int .i64 la, .int .i64 (a.st.bits.count true), .pointer none] 88)) q1
      have h3 := hP.head
      have s3 := hP.sub
      have hv3 := hP.vis
      rw [HHA.out] at hv3
      have hdo := delT_ok HAV.out.1 HAV.out.2.2.1 (k := k) (by rw [HLA.out]; exact hlt)
      have hfw := few_del (k := k) HAV.out.2.2.1 (by rw [HLA.out]; exact hlt)
      rw [← hst, HHA.out] at hdo
      rw [← hst, HHA.out] at hfw
      obtain ⟨w1, w2, w4, w5⟩ := hdo
      have hTb : T'.st.bits.length + 1 = la := by rw [hst, delT_bits (by rw [HLA.out]; exact hlt), outL_len (by rw [HLA.out]; exact hlt)]; rw [HLA.out]; omega
      have hbit : bitAt (TT.pair kn a c).st.bits k = bitAt a.st.bits k := by simp only [TT.st, ST.bits]; exact bitAt_app_l (by rw [HLA.out]; exact hlt)
      obtain ⟨g3, rc3, cur3, r3, hgp3, _⟩ := h3.row (by have := (List.getElem?_eq_some_iff.1 hx3).1; omega)
      obtain ⟨_, fz3, hkx3, _⟩ := h3.node r3 hx3
      obtain ⟨e0, e1, _⟩ := h3.eight r3 hx3
      have z3 := fz3 (kn * 8)
      obtain ⟨h4, g4, _⟩ := h3.put r3 hx3 (i := 0) (v := .int .i64 T'.num) (x' := ⟨T'.num, c.num, (TT.pair kn a c).nd.height, (TT.pair kn a c).nd.n, (TT.pair kn a c).nd.ones, (TT.pair kn a c).nd.ln, (TT.pair kn a c).nd.lones, none⟩) (by omega) rfl
      have g4C : Chg C3 w3 _ := g4.mono (fun j e => by subst e; exact h3.rowC ⟨_, _, r3⟩)
      have hdis := TT.dis hpre.own.nn
      have st4 := s3.chgC h3 g4C (set_out (y := ⟨T'.num, c.num, (TT.pair kn a c).nd.height, (TT.pair kn a c).nd.n, (TT.pair kn a c).nd.ones, (TT.pair kn a c).nd.ln, (TT.pair kn a c).nd.lones, none⟩) hdis.1)
      have sc4 := q2.chgC h3 g4C (set_out (y := ⟨T'.num, c.num, (TT.pair kn a c).nd.height, (TT.pair kn a c).nd.n, (TT.pair kn a c).nd.ones, (TT.pair kn a c).nd.ln, (TT.pair kn a c).nd.lones, none⟩) hdis.2.1)
      have hp4 := hpre.next (T2 := .pair kn T' c) (xs' := xs3.set kn ⟨T'.num, c.num, (TT.pair kn a c).nd.height, (TT.pair kn a c).nd.n, (TT.pair kn a c).nd.ones, (TT.pair kn a c).nd.ln, (TT.pair kn a c).nd.lones, none⟩) g4C (fun j hj => set_ne (by rintro rfl; exact hj TT.mem_k)) (by simp) (List.Perm.refl _) rfl rfl
      have sm1 : Small T'.st := ⟨by omega, by omega⟩
      have sm2 : Small c.st := ⟨by omega, by rw [HHC.out]; omega⟩
      have HB := Lib.hid (tMend_any h4 hp4.len (by omega) (by omega) (k := kn) (l := T') (r := c) ⟨_, set_get hx3, rfl, rfl, rfl, st4, sc4⟩ hp4.own (fun hf => by rw [HHC.out]; have := hfw hf; omega) (fun hf => by rw [HAV.out.2.2.2.not_few] at hf; cases hf) sm1 sm2)
      have H4 := Lib.hid h4
      have HP4 := Lib.hid hp4
      have HST := Lib.hid hst
      have HV3 := Lib.hid hv3
      have HW : Hid (T'.st.Avl ∧ T'.st.Less ∧ T'.st.high ≤ ha ∧ ha ≤ T'.st.high + 1 ∧ (T'.st.few = true → ha = 0)) := ⟨w1, w2, w4, w5, hfw⟩
      have HTB := Lib.hid hTb
      have HBIT := Lib.hid hbit
      have HMADE := Lib.hid hmade
      clear h2 hih hP hst q1 q2 q3 hx3 hpre h3 s3 fz3 h4 g4 g4C hdis st4 sc4 hTb hv3 w1 w2 w4 w5 hfw sm1 sm2 hp4 hbit hmade
      obtain ⟨nt, hnt⟩ : ∃ n, T'.num = n := ⟨_, rfl⟩
      rw [hnt]
      rw [hnt] at HB H4 HP4
      go_wp2_with fail
      refine HB.out.mono ?_
      rintro e w5 ⟨T1, C5, A5, xs5, v5, rfl, h5, p5, hst5, v51, v52, s5, made5⟩
      have hmk := mend_ok (l := T'.st) (r := c.st) HW.out.1 HAV.out.2.1 HW.out.2.1 HAV.out.2.2.2.less (by have := HW.out; have := HHC.out; omega) (by have := HW.out; have := HHC.out; omega) (fun hf => by
        rcases hf with hf | hf
        · have h1 := ST.few_high hf; have h2 := HW.out.2.2.2.2 hf; have := HHC.out; omega
        · rw [HAV.out.2.2.2.not_few] at hf; cases hf)
      have hp5 : SubPre w w5 C A xs (.pair kn a c) T1 C5 A5 xs5 := HP4.out.cat p5
      obtain ⟨n1, hn1⟩ : ∃ n, T1.num = n := ⟨_, rfl⟩
      rw [hn1]
      cases T1 with
      | leaf k1 q1 l1 =>
        obtain rfl : k1 = n1 := hn1
        obtain ⟨g5, rc5, cur5, r5, _⟩ := h5.row (by have := (List.getElem?_eq_some_iff.1 s5.1).1; omega)
        obtain ⟨_, _, _, _, _, _, _, y7⟩ := h5.eight r5 s5.1
        obtain ⟨_, _, hk5, _⟩ := h5.node r5 s5.1
        change w5.cell? ⟨g5, k1 * 8 + 7, none⟩ = some (.pointer (some ⟨q1, 0, none⟩)) at y7
        change k1 < xs5.length at hk5
        have H5 := Lib.hid h5
        have P5 := Lib.hid hp5
        have HST5 := Lib.hid hst5
        have S5 := Lib.hid s5
        have HM5 := Lib.hid made5
        clear h5 hp5 p5 hst5 s5 hmk made5
        go_wp2_with fail
        go_ret2
        refine ⟨.leaf k1 q1 l1, C5, A5, xs5, v5, by rw [HBIT.out]; rfl, SubPost.of H5.out S5.out P5.out ?_, ?_, HM5.out.trans HMADE.out⟩
        · have := HV3.out
          simp only [TT.st, ST.high]
          rw [HHA.out, HHC.out]
          exact ⟨by omega, by omega⟩
        · have h1 := HST5.out
          have h2 := HST.out
          simp only [TT.st, delT] at h1 h2 ⊢
          rw [if_pos (by rw [HLA.out]; exact hlt), ← h2, ← h1]; rfl
      | pair k1 a1 b1 =>
        obtain rfl : k1 = n1 := hn1
        obtain ⟨x5, x51, x52, x53, x54, sa5, sb5⟩ := s5
        obtain ⟨g5, rc5, cur5, r5, _⟩ := h5.row (by have := (List.getElem?_eq_some_iff.1 x51).1; omega)
        obtain ⟨_, _, _, _, _, _, _, y7⟩ := h5.eight r5 x51
        obtain ⟨_, _, hk5, _⟩ := h5.node r5 x51
        rw [x54] at y7
        change w5.cell? ⟨g5, k1 * 8 + 7, none⟩ = some (.pointer none) at y7
        have hsm : Small (.pair a1.st b1.st) := by
          have e : ST.pair a1.st b1.st = mendT (.pair T'.st c.st) := hst5
          have hb5 := mend_bits (.pair T'.st c.st)
          rw [← e] at hb5 hmk
          have hl5 := congrArg List.length hb5
          have hTB := HTB.out
          have hw3 := HW.out.2.2.1
          obtain ⟨_, _, _, _, _, m5, _⟩ := hmk
          have hA := HHA.out
          have hC := HHC.out
          have hL := HLA.out
          simp only [ST.bits, List.length_append] at hl5
          refine ⟨by simp only [ST.bits, List.length_append]; omega, by simp only [ST.high]; omega⟩
        have HB6 := Lib.hid (tBal_any h5 (by have := HV3.out; omega) (by have := HV3.out; omega) (k := k1) (x := x5) (a := a1) (c := b1) x51 x54 x52 x53 sa5 sb5 hp5.own.nn hsm)
        have H5 := Lib.hid h5
        have P5 := Lib.hid hp5
        have HST5 := Lib.hid hst5
        have HM5 := Lib.hid made5
        clear h5 hp5 p5 hst5 sa5 sb5 hmk made5 hsm x51 x52 x53 x54
        go_wp2_with fail
        refine HB6.out.mono ?_
        rintro e w6 hB
        obtain ⟨T2, xs6, v6, rfl, h6, s6, hst6, hn6, hb6, kp6, ln6, hv6⟩ := hB.ex
        have H6 := Lib.hid h6
        have S6 := Lib.hid s6
        have HST6 := Lib.hid hst6
        have HN6 := Lib.hid hn6
        have HB7 := Lib.hid hb6
        have KP6 := Lib.hid kp6
        have LN6 := Lib.hid ln6
        have HV6 := Lib.hid hv6
        have C6 := Lib.hid hB.chg
        clear hB h6 s6 hst6 hn6 hb6 kp6 ln6 hv6
        go_wp2_with fail
        go_ret2
        have hx6 := P5.out.next (T2 := T2) (xs' := xs6) C6.out KP6.out LN6.out HN6.out HB7.out (by rw [HST6.out, bal_size]; rfl)
        refine ⟨T2, C5, A5, xs6, v6, by rw [HBIT.out]; rfl, SubPost.of H6.out S6.out hx6 ?_, ?_, HM5.out.trans HMADE.out⟩
        · have := HV3.out; have := HV6.out
          simp only [TT.st, ST.high]
          rw [HHA.out, HHC.out]
          exact ⟨by omega, by omega⟩
        · have h1 := HST5.out
          have h2 := HST.out
          simp only [TT.st, delT] at h1 h2 ⊢
          rw [if_pos (by rw [HLA.out]; exact hlt), ← h2, HST6.out, ← h1]
    · have d1 : decide (k < la) = false := decide_eq_false hlt
      go_enter Tryd.func74, Tryd.ntmps74
      go_wp2_with fail
      rw [show (k : Int) - (la : Int) = ((k - la : Nat) : Int) by omega]
      have h2 := HH3.out (.cells #[.int .i64 na, .int .i64 nc, .int .i64 (ST.pair a.st c.st).high, .int .i64 (la + c.st.bits.length), .int .i64 (a.st.bits.count true + c.st.bits.count true), .int .i64 la, .int .i64 (a.st.bits.count true), .pointer none] 88)
      have hih := HIC.out _ p C A xs root (vis + 1) (k - la) h2 HL.out (by omega) (by rw [HHC.out]; omega) (HSC.out _ (HG.out _)) HO.out.r (by omega) (by omega) (by rw [HHC.out]; omega) HAV.out.2.1 (fun t ht => Or.inr (by rw [← ht]; exact HAV.out.2.2.2))
      rw [HNC.out] at hih
      refine hih.mono ?_
      rintro e w3 ⟨T', C3, A3, xs3, v3, rfl, hP, hst, hmade⟩
      obtain ⟨q1, q2, q3⟩ := SubPre.right HO.out hP.pre h2 (HSA.out _ (HG.out _))
      have hx3 := q3.trans HX.out
      have hpre := SubPre.first (HG.out (.cells #[.int .i64 na, .int .i64 nc, .int .i64 (ST.pair a.st c.st).high, .int .i64 (la + c.st.bits.length), .int .i64 (a.st.bits.count true + c.st.bits.count true), .int .i64 la, .int .i64 (a.st.bits.count true), .pointer none] 88)) q1
      have h3 := hP.head
      have s3 := hP.sub
      have hv3 := hP.vis
      rw [HHC.out] at hv3
      have hdo := delT_ok HAV.out.2.1 HAV.out.2.2.2 (k := (k - la)) (by omega)
      have hfw := few_del (k := (k - la)) HAV.out.2.2.2 (by omega)
      rw [← hst, HHC.out] at hdo
      rw [← hst, HHC.out] at hfw
      obtain ⟨w1, w2, w4, w5⟩ := hdo
      have hTb : T'.st.bits.length + 1 = c.st.bits.length := by rw [hst, delT_bits (by omega), outL_len (by omega)]; omega
      have hbit : bitAt (TT.pair kn a c).st.bits k = bitAt c.st.bits (k - la) := by simp only [TT.st, ST.bits]; exact by rw [bitAt_app_r (by rw [HLA.out]; omega), HLA.out]
      obtain ⟨g3, rc3, cur3, r3, hgp3, _⟩ := h3.row (by have := (List.getElem?_eq_some_iff.1 hx3).1; omega)
      obtain ⟨_, fz3, hkx3, _⟩ := h3.node r3 hx3
      obtain ⟨e0, e1, _⟩ := h3.eight r3 hx3
      have z3 := fz3 (kn * 8 + 1)
      obtain ⟨h4, g4, _⟩ := h3.put r3 hx3 (i := 1) (v := .int .i64 T'.num) (x' := ⟨a.num, T'.num, (TT.pair kn a c).nd.height, (TT.pair kn a c).nd.n, (TT.pair kn a c).nd.ones, (TT.pair kn a c).nd.ln, (TT.pair kn a c).nd.lones, none⟩) (by omega) rfl
      have g4C : Chg C3 w3 _ := g4.mono (fun j e => by subst e; exact h3.rowC ⟨_, _, r3⟩)
      have hdis := TT.dis hpre.own.nn
      have st4 := s3.chgC h3 g4C (set_out (y := ⟨a.num, T'.num, (TT.pair kn a c).nd.height, (TT.pair kn a c).nd.n, (TT.pair kn a c).nd.ones, (TT.pair kn a c).nd.ln, (TT.pair kn a c).nd.lones, none⟩) hdis.2.1)
      have sc4 := q2.chgC h3 g4C (set_out (y := ⟨a.num, T'.num, (TT.pair kn a c).nd.height, (TT.pair kn a c).nd.n, (TT.pair kn a c).nd.ones, (TT.pair kn a c).nd.ln, (TT.pair kn a c).nd.lones, none⟩) hdis.1)
      have hp4 := hpre.next (T2 := .pair kn a T') (xs' := xs3.set kn ⟨a.num, T'.num, (TT.pair kn a c).nd.height, (TT.pair kn a c).nd.n, (TT.pair kn a c).nd.ones, (TT.pair kn a c).nd.ln, (TT.pair kn a c).nd.lones, none⟩) g4C (fun j hj => set_ne (by rintro rfl; exact hj TT.mem_k)) (by simp) (List.Perm.refl _) rfl rfl
      have sm1 : Small T'.st := ⟨by omega, by omega⟩
      have sm2 : Small a.st := ⟨by rw [HLA.out]; omega, by rw [HHA.out]; omega⟩
      have HB := Lib.hid (tMend_any h4 hp4.len (by omega) (by omega) (k := kn) (l := a) (r := T') ⟨_, set_get hx3, rfl, rfl, rfl, sc4, st4⟩ hp4.own (fun hf => by rw [HAV.out.2.2.1.not_few] at hf; cases hf) (fun hf => by rw [HHA.out]; have := hfw hf; omega) sm2 sm1)
      have H4 := Lib.hid h4
      have HP4 := Lib.hid hp4
      have HST := Lib.hid hst
      have HV3 := Lib.hid hv3
      have HW : Hid (T'.st.Avl ∧ T'.st.Less ∧ T'.st.high ≤ hc ∧ hc ≤ T'.st.high + 1 ∧ (T'.st.few = true → hc = 0)) := ⟨w1, w2, w4, w5, hfw⟩
      have HTB := Lib.hid hTb
      have HBIT := Lib.hid hbit
      have HMADE := Lib.hid hmade
      clear h2 hih hP hst q1 q2 q3 hx3 hpre h3 s3 fz3 h4 g4 g4C hdis st4 sc4 hTb hv3 w1 w2 w4 w5 hfw sm1 sm2 hp4 hbit hmade
      obtain ⟨nt, hnt⟩ : ∃ n, T'.num = n := ⟨_, rfl⟩
      rw [hnt]
      rw [hnt] at HB H4 HP4
      go_wp2_with fail
      refine HB.out.mono ?_
      rintro e w5 ⟨T1, C5, A5, xs5, v5, rfl, h5, p5, hst5, v51, v52, s5, made5⟩
      have hmk := mend_ok (l := a.st) (r := T'.st) HAV.out.1 HW.out.1 HAV.out.2.2.1.less HW.out.2.1 (by have := HW.out; have := HHA.out; omega) (by have := HW.out; have := HHA.out; omega) (fun hf => by
        rcases hf with hf | hf
        · rw [HAV.out.2.2.1.not_few] at hf; cases hf
        · have h1 := ST.few_high hf; have h2 := HW.out.2.2.2.2 hf; have := HHA.out; omega)
      have hp5 : SubPre w w5 C A xs (.pair kn a c) T1 C5 A5 xs5 := HP4.out.cat p5
      obtain ⟨n1, hn1⟩ : ∃ n, T1.num = n := ⟨_, rfl⟩
      rw [hn1]
      cases T1 with
      | leaf k1 q1 l1 =>
        obtain rfl : k1 = n1 := hn1
        obtain ⟨g5, rc5, cur5, r5, _⟩ := h5.row (by have := (List.getElem?_eq_some_iff.1 s5.1).1; omega)
        obtain ⟨_, _, _, _, _, _, _, y7⟩ := h5.eight r5 s5.1
        obtain ⟨_, _, hk5, _⟩ := h5.node r5 s5.1
        change w5.cell? ⟨g5, k1 * 8 + 7, none⟩ = some (.pointer (some ⟨q1, 0, none⟩)) at y7
        change k1 < xs5.length at hk5
        have H5 := Lib.hid h5
        have P5 := Lib.hid hp5
        have HST5 := Lib.hid hst5
        have S5 := Lib.hid s5
        have HM5 := Lib.hid made5
        clear h5 hp5 p5 hst5 s5 hmk made5
        go_wp2_with fail
        go_ret2
        refine ⟨.leaf k1 q1 l1, C5, A5, xs5, v5, by rw [HBIT.out]; rfl, SubPost.of H5.out S5.out P5.out ?_, ?_, HM5.out.trans HMADE.out⟩
        · have := HV3.out
          simp only [TT.st, ST.high]
          rw [HHA.out, HHC.out]
          exact ⟨by omega, by omega⟩
        · have h1 := HST5.out
          have h2 := HST.out
          simp only [TT.st, delT] at h1 h2 ⊢
          rw [if_neg (by rw [HLA.out]; exact hlt), HLA.out, ← h2, ← h1]; rfl
      | pair k1 a1 b1 =>
        obtain rfl : k1 = n1 := hn1
        obtain ⟨x5, x51, x52, x53, x54, sa5, sb5⟩ := s5
        obtain ⟨g5, rc5, cur5, r5, _⟩ := h5.row (by have := (List.getElem?_eq_some_iff.1 x51).1; omega)
        obtain ⟨_, _, _, _, _, _, _, y7⟩ := h5.eight r5 x51
        obtain ⟨_, _, hk5, _⟩ := h5.node r5 x51
        rw [x54] at y7
        change w5.cell? ⟨g5, k1 * 8 + 7, none⟩ = some (.pointer none) at y7
        have hsm : Small (.pair a1.st b1.st) := by
          have e : ST.pair a1.st b1.st = mendT (.pair a.st T'.st) := hst5
          have hb5 := mend_bits (.pair a.st T'.st)
          rw [← e] at hb5 hmk
          have hl5 := congrArg List.length hb5
          have hTB := HTB.out
          have hw3 := HW.out.2.2.1
          obtain ⟨_, _, _, _, _, m5, _⟩ := hmk
          have hA := HHA.out
          have hC := HHC.out
          have hL := HLA.out
          simp only [ST.bits, List.length_append] at hl5
          refine ⟨by simp only [ST.bits, List.length_append]; omega, by simp only [ST.high]; omega⟩
        have HB6 := Lib.hid (tBal_any h5 (by have := HV3.out; omega) (by have := HV3.out; omega) (k := k1) (x := x5) (a := a1) (c := b1) x51 x54 x52 x53 sa5 sb5 hp5.own.nn hsm)
        have H5 := Lib.hid h5
        have P5 := Lib.hid hp5
        have HST5 := Lib.hid hst5
        have HM5 := Lib.hid made5
        clear h5 hp5 p5 hst5 sa5 sb5 hmk made5 hsm x51 x52 x53 x54
        go_wp2_with fail
        refine HB6.out.mono ?_
        rintro e w6 hB
        obtain ⟨T2, xs6, v6, rfl, h6, s6, hst6, hn6, hb6, kp6, ln6, hv6⟩ := hB.ex
        have H6 := Lib.hid h6
        have S6 := Lib.hid s6
        have HST6 := Lib.hid hst6
        have HN6 := Lib.hid hn6
        have HB7 := Lib.hid hb6
        have KP6 := Lib.hid kp6
        have LN6 := Lib.hid ln6
        have HV6 := Lib.hid hv6
        have C6 := Lib.hid hB.chg
        clear hB h6 s6 hst6 hn6 hb6 kp6 ln6 hv6
        go_wp2_with fail
        go_ret2
        have hx6 := P5.out.next (T2 := T2) (xs' := xs6) C6.out KP6.out LN6.out HN6.out HB7.out (by rw [HST6.out, bal_size]; rfl)
        refine ⟨T2, C5, A5, xs6, v6, by rw [HBIT.out]; rfl, SubPost.of H6.out S6.out hx6 ?_, ?_, HM5.out.trans HMADE.out⟩
        · have := HV3.out; have := HV6.out
          simp only [TT.st, ST.high]
          rw [HHA.out, HHC.out]
          exact ⟨by omega, by omega⟩
        · have h1 := HST5.out
          have h2 := HST.out
          simp only [TT.st, delT] at h1 h2 ⊢
          rw [if_neg (by rw [HLA.out]; exact hlt), HLA.out, ← h2, HST6.out, ← h1]
end Go.Proofs.YtcppgpjodfeigaaDoor

namespace Go.Proofs.YtcppgpjodfeigaaDoor
set_option linter.unusedVariables false
set_option linter.unusedSimpArgs false
open Go.RowKit

theorem tDelete_nil (w : World) (k : Int) : Calls Tryd.prog 32 #[.pointer none, .int .i64 k] w fun e w' => e = .returned (.tuple #[.bool false, .int .i64 6]) ∧ w = w' := by
  go_enter Tryd.func32, Tryd.ntmps32
  go_wp2_with fail
  refine (tHas_nil w k).mono ?_
  rintro e w' ⟨rfl, rfl⟩
  go_wp2_with fail
  go_ret2
  exact ⟨rfl, rfl⟩
theorem tDelete_bad {w : World} {p : Nat} {C : Nat → Prop} {A : Ar} {xs : List Nd} {vis : Int} {O : Option TT} (h : Head w p C A xs (onum O) vis) (hS : OSub w xs O) (k : Int) (hk : k < 0 ∨ ((obits O).length : Int) ≤ k) :
    Calls Tryd.prog 32 #[.pointer (some ⟨p, 0, none⟩), .int .i64 k] w fun e w' => e = .returned (.tuple #[.bool false, .int .i64 2]) ∧ Head w' p C A xs (onum O) 0 ∧ Chg C w w' := by
  have hh := tHas_any h hS k
  have e0 : hasL (obits O) k = 2 := by unfold hasL; rw [if_neg (by omega)]
  rw [e0] at hh
  have HH := Lib.hid hh
  clear hh h hS e0
  go_enter Tryd.func32, Tryd.ntmps32
  go_wp2_with fail
  refine HH.out.mono ?_
  rintro e w1 ⟨rfl, hH1, hC1⟩
  have H1 := Lib.hid hH1
  have C1 := Lib.hid hC1
  clear hH1 hC1
  go_wp2_with fail
  go_ret2
  exact ⟨rfl, H1.out, C1.out⟩
theorem tGet_nil (w : World) (k : Int) : Calls Tryd.prog 19 #[.pointer none, .int .i64 k] w fun e w' => e = .returned (.tuple #[.bool false, .int .i64 6]) ∧ w = w' := by
  go_enter Tryd.func19, Tryd.ntmps19
  go_wp2_with fail
  refine (tHas_nil w k).mono ?_
  rintro e w' ⟨rfl, rfl⟩
  go_wp2_with fail
  go_ret2
  exact ⟨rfl, rfl⟩
theorem tGet_bad {w : World} {p : Nat} {C : Nat → Prop} {A : Ar} {xs : List Nd} {vis : Int} {O : Option TT} (h : Head w p C A xs (onum O) vis) (hS : OSub w xs O) (k : Int) (hk : k < 0 ∨ ((obits O).length : Int) ≤ k) :
    Calls Tryd.prog 19 #[.pointer (some ⟨p, 0, none⟩), .int .i64 k] w fun e w' => e = .returned (.tuple #[.bool false, .int .i64 2]) ∧ Head w' p C A xs (onum O) 0 ∧ Chg C w w' := by
  have hh := tHas_any h hS k
  have e0 : hasL (obits O) k = 2 := by unfold hasL; rw [if_neg (by omega)]
  rw [e0] at hh
  have HH := Lib.hid hh
  clear hh h hS e0
  go_enter Tryd.func19, Tryd.ntmps19
  go_wp2_with fail
  refine HH.out.mono ?_
  rintro e w1 ⟨rfl, hH1, hC1⟩
  have H1 := Lib.hid hH1
  have C1 := Lib.hid hC1
  clear hH1 hC1
  go_wp2_with fail
  go_ret2
  exact ⟨rfl, H1.out, C1.out⟩

/-- What Delete leaves. -/
def DelPost (w w' : World) (p : Nat) (C : Nat → Prop) (A : Ar) (xs : List Nd) (T : TT) (k : Nat) (e : Ending) : Prop :=
  e = .returned (.tuple #[.bool (bitAt T.st.bits k), .int .i64 0]) ∧ ∃ (T' : TT) (C' : Nat → Prop) (A' : Ar) (xs' : List Nd) (v' : Int), T'.st = delT T.st k ∧ 0 ≤ v' ∧ v' ≤ 7 * T.st.high + 2 ∧ (∀ j, C' j → C j ∨ w.heap.size ≤ j) ∧ (∀ q ∈ T'.bl, q ∈ T.bl ∨ w.heap.size ≤ q) ∧
    xs'.length = A'.T.length ∧ A'.M = A.M ∧ A'.T.length = A.T.length ∧ Chg (fun j => C j ∨ j ∈ T.bl) w w' ∧
    ((T'.st.bits.length ≠ 0 ∧ Head w' p C' A' xs' T'.num v' ∧ Sub w' xs' T' ∧ Own A' T' ∧ A'.live + T.st.size = A.live + T'.st.size) ∨
     (T'.st.bits.length = 0 ∧ Head w' p C' A' xs' (-1) v' ∧ A'.live + 1 + T.st.size = A.live + T'.st.size))

set_option maxHeartbeats 3200000 in
set_option maxRecDepth 100000 in
theorem tDelete_some {w : World} {p : Nat} {C : Nat → Prop} {A : Ar} {xs : List Nd} {vis : Int} {T : TT} (h : Head w p C A xs T.num vis) (hS : Sub w xs T) (hlen : xs.length = A.T.length) (hO : Own A T) (hb1 : T.st.bits.length ≤ 8589934592) (hh : T.st.high ≤ 1000000000) (hav : T.st.Avl) (hfl : T.st.isLeaf = true ∨ T.st.Fill) (k : Nat) (hk : k < T.st.bits.length) :
    Calls Tryd.prog 32 #[.pointer (some ⟨p, 0, none⟩), .int .i64 k] w fun e w' => DelPost w w' p C A xs T k e := by
  have h0 := tHas_any (o := some T) h hS k
  have e0 : hasL (obits (some T)) k = 0 := by
    have : ((k : Int) < ((obits (some T)).length : Int)) := by show (k : Int) < (T.st.bits.length : Int); omega
    unfold hasL; rw [if_pos (by omega)]
  rw [e0] at h0
  have HH := Lib.hid h0
  have HD : Hid (∀ w1, Head w1 p C A xs T.num 0 → Chg C w w1 → Calls Tryd.prog 74 #[.pointer (some ⟨p, 0, none⟩), .int .i64 T.num, .int .i64 k] w1 fun e w' => DropPost w1 w' p C A xs T.num 0 T k e) :=
    fun w1 h1 c1 => tDrop_any T w1 p C A xs T.num 0 k h1 hlen (by omega) (by omega) (hS.chgC h c1 (fun _ _ => rfl)) hO hk hb1 hh hav (fun t ht => by rw [← ht]; exact hfl)
  clear h0 h hS e0 hlen hO hav hfl
  go_enter Tryd.func32, Tryd.ntmps32
  go_wp2_with fail
  refine HH.out.mono ?_
  rintro e w1 ⟨rfl, hH1, hC1⟩
  have hH1 : Head w1 p C A xs T.num 0 := hH1
  have c2 := hH1.cells.2.1
  have HDD := Lib.hid (HD.out w1 hH1 hC1)
  have C1 := Lib.hid hC1
  clear hH1 hC1
  obtain ⟨nt, hnt⟩ : ∃ n, T.num = n := ⟨_, rfl⟩
  rw [hnt] at c2 HDD
  clear hnt
  go_wp2_with fail
  refine HDD.out.mono ?_
  rintro e w2 ⟨T', C2, A2, xs2, v2, rfl, hP, hst, hmade⟩
  have h2 := hP.head
  have hr := hP.sub.root
  obtain ⟨g, rc, cur, r2, hgp, _⟩ := h2.row (by have := (List.getElem?_eq_some_iff.1 hr).1; omega)
  obtain ⟨_, _, hkx, _⟩ := h2.node r2 hr
  obtain ⟨_, _, _, a3, _⟩ := h2.eight r2 hr
  rw [T'.nd_n] at a3
  obtain ⟨_, b2, _, fz⟩ := h2.cells
  have f2 := fz 2
  obtain ⟨n', hn'⟩ : ∃ n, T'.num = n := ⟨_, rfl⟩
  obtain ⟨m', hm'⟩ : ∃ n, T'.st.bits.length = n := ⟨_, rfl⟩
  have hF : ∃ ap, (w2.setCell ⟨p, 2, none⟩ (.int .i64 n')).cell? ⟨p, 0, none⟩ = some (.pointer (some ⟨ap, 0, none⟩)) ∧ Calls Tryd.prog 75 #[.pointer (some ⟨ap, 0, none⟩), .slice (some ⟨(w2.setCell ⟨p, 2, none⟩ (.int .i64 n')).heap.size, 0, none⟩) 1 1] ((w2.setCell ⟨p, 2, none⟩ (.int .i64 n')).alloc (.cells #[.int .i64 n'] 3)) fun e w' =>
      e = .returned (.int .i64 0) ∧ ∃ C', Head w' p C' (A2.fr1 n') xs2 n' v2 ∧ HStep (w2.setCell ⟨p, 2, none⟩ (.int .i64 n')) w' C2 C' := by
    refine tFree1 (h2.set2 n') ?_
    rw [← hn']; exact hP.own.tk _ T'.num_mem
  obtain ⟨ap, p0, hfr⟩ := hF
  have hse : (w2.setCell ⟨p, 2, none⟩ (.int .i64 n')).heap.size = w2.heap.size := by simp [World.setCell]
  rw [hse] at hfr
  have p0' : w2.cell? ⟨p, 0, none⟩ = some (.pointer (some ⟨ap, 0, none⟩)) := by
    obtain ⟨⟨ap', q0⟩, _⟩ := h2.cells
    have q1 : (w2.setCell ⟨p, 2, none⟩ (.int .i64 n')).cell? ⟨p, 0, none⟩ = some (.pointer (some ⟨ap', 0, none⟩)) := by clear p0; go_simp
    rw [q1] at p0
    rw [q0]; exact p0
  rw [hn'] at hkx a3
  rw [hm'] at a3
  have H2 := Lib.hid h2
  have HP := Lib.hid hP
  have HST := Lib.hid hst
  have HMD := Lib.hid hmade
  have HN' := Lib.hid hn'
  have HM' := Lib.hid hm'
  have HFR := Lib.hid hfr
  clear h2 hP hst hmade hr fz hfr p0 hse
  rw [HN'.out]
  clear hn' hm'
  have c2C : Hid (Chg C2 w2 (w2.setCell ⟨p, 2, none⟩ (.int .i64 n'))) := Chg.refl.setCell _ (Or.inl H2.out.self) _
  by_cases hz : m' = 0
  · have d1 : ((m' : Int) == 0) = true := by rw [beq_iff_eq]; omega
    have HZ := Lib.hid hz
    clear hz
    go_wp2_with fail
    refine HFR.out.mono ?_
    rintro e w4 ⟨rfl, C4, h4, s4⟩
    obtain ⟨_, b4, _, fz4⟩ := h4.cells
    have f4 := fz4 2
    have H4 := Lib.hid h4
    have S4 := Lib.hid s4
    clear h4 s4 fz4
    go_wp2_with fail
    go_ret2
    have hv := HP.out.vis
    have c5 : Chg C4 w4 (w4.setCell ⟨p, 2, none⟩ (.int .i64 (-1))) := Chg.refl.setCell _ (Or.inl H4.out.self) _
    have hpc := (HP.out.chg.trans c2C.out (fun j hj => (HP.out.newC j hj).imp Or.inl id))
    have s1 := C1.out.size
    have s2 := hpc.size
    have gall : Chg (fun j => C j ∨ j ∈ T.bl) w (w4.setCell ⟨p, 2, none⟩ (.int .i64 (-1))) := ((C1.out.mono (fun j hj => Or.inl hj)).trans hpc (fun j hj => Or.inl hj)).trans (S4.out.chg.trans c5 S4.out.new) (fun j hj => (HP.out.newC j hj).imp Or.inl (fun h => by omega))
    refine ⟨rfl, T', C4, A2.fr1 n', xs2, v2, HST.out, by omega, by omega, fun j hj => ?_, fun q hq => (HP.out.newB q hq).imp id (fun h => by omega), ?_, HP.out.max, ?_, gall, Or.inr ⟨by rw [HM'.out, HZ.out], H4.out.set2 (-1), ?_⟩⟩
    · rcases S4.out.new j hj with e | e
      · exact (HP.out.newC j e).imp id (fun h => by omega)
      · right; omega
    · rw [HP.out.len]; simp [Ar.fr1]
    · rw [← HMD.out]; simp [Ar.fr1]
    · have h1 := HP.out.live
      have h2 := Ar.fr1_live H2.out.arOk (x := n') (by rw [← HN'.out]; exact HP.out.own.tk _ T'.num_mem)
      omega
  · have d1 : ((m' : Int) == 0) = false := by rw [beq_eq_false_iff_ne]; omega
    have HZ := Lib.hid hz
    clear hz
    go_wp2_with fail
    go_ret2
    have hv := HP.out.vis
    have s1 := C1.out.size
    have hpc := (HP.out.chg.trans c2C.out (fun j hj => (HP.out.newC j hj).imp Or.inl id))
    refine ⟨rfl, T', C2, A2, xs2, v2, HST.out, by omega, by omega, fun j hj => (HP.out.newC j hj).imp id (fun h => by omega), fun q hq => (HP.out.newB q hq).imp id (fun h => by omega), HP.out.len, HP.out.max, HMD.out, (C1.out.mono (fun j hj => Or.inl hj)).trans hpc (fun j hj => Or.inl hj), Or.inl ⟨by rw [HM'.out]; exact HZ.out, by rw [HN'.out]; exact H2.out.set2 n', HP.out.sub.chgC H2.out c2C.out (fun _ _ => rfl), HP.out.own, HP.out.live⟩⟩

end Go.Proofs.YtcppgpjodfeigaaDoor
