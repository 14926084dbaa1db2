/- Lemmas and contracts under the claims of this seat: Contract of package tree: balance. Contracts of package tree: node, leaf, pair. Contracts of package tree: leaf, pair. Contract of package tree: insert, at a leaf that has room. Contract of package tree: insert, at a leaf that is full. Trees of bits in memory: changes of subtrees put together. Contract of package tree: insert. -/
import Derived.Test.YtcppgpjodfeigaaDoorZw3
import Derived.Deep.DeepCutAuto
import Derived.Deep.CutBlock
import Derived.Deep.CutRange

namespace Go.Proofs.YtcppgpjodfeigaaDoor
set_option linter.unusedVariables false
set_option linter.unusedSimpArgs false
open Go.RowKit

theorem TT.dis {k : Nat} {a b : TT} (h : (TT.pair k a b).nums.Nodup) : k ∉ a.nums ∧ k ∉ b.nums ∧ a.nums.Nodup ∧ b.nums.Nodup ∧ (∀ j, j ∈ a.nums → j ∉ b.nums) := by
  simp only [TT.nums, List.nodup_cons, List.mem_append, not_or, List.nodup_append] at h
  obtain ⟨⟨h1, h2⟩, h3, h4, h5⟩ := h
  exact ⟨h1, h2, h3, h4, fun j hj hk => h5 j hj j hk rfl⟩
theorem TT.mem_l {k j : Nat} {a b : TT} (h : j ∈ a.nums) : j ∈ (TT.pair k a b).nums := by simp [TT.nums, h]
theorem TT.mem_r {k j : Nat} {a b : TT} (h : j ∈ b.nums) : j ∈ (TT.pair k a b).nums := by simp [TT.nums, h]
theorem TT.mem_k {k : Nat} {a b : TT} : k ∈ (TT.pair k a b).nums := by simp [TT.nums]

/-- What balance leaves: the node turned, if it leant. -/
structure BalPost (w w' : World) (p : Nat) (C : Nat → Prop) (A : Ar) (xs : List Nd) (root vis : Int) (k : Nat) (a c : TT) (e : Ending) : Prop where
  ex : ∃ (T' : TT) (xs' : List Nd) (v' : Int), e = .returned (.int .i64 T'.num) ∧ Head w' p C A xs' root v' ∧ Sub w' xs' T' ∧ T'.st = bal (.pair a.st c.st) ∧ T'.nums.Perm (TT.pair k a c).nums ∧ T'.bl = a.bl ++ c.bl ∧
    (∀ j, j ∉ (TT.pair k a c).nums → xs'[j]? = xs[j]?) ∧ xs'.length = xs.length ∧ vis ≤ v' ∧ v' ≤ vis + 4
  chg : Chg C w w'

set_option maxHeartbeats 6400000 in
set_option maxRecDepth 100000 in
theorem tBal_any {w : World} {p : Nat} {C : Nat → Prop} {A : Ar} {xs : List Nd} {root vis : Int} (h : Head w p C A xs root vis) (hv0 : 0 ≤ vis) (hv : vis ≤ 100000000000) {k : Nat} {x : Nd} {a c : TT} (hx : xs[k]? = some x) (hxb : x.b = none) (hxl : x.left = a.num) (hxr : x.right = c.num)
    (ha : Sub w xs a) (hc : Sub w xs c) (hn : (TT.pair k a c).nums.Nodup) (hs : Small (.pair a.st c.st)) :
    Calls Tryd.prog 103 #[.pointer (some ⟨p, 0, none⟩), .int .i64 k] w fun e w' => BalPost w w' p C A xs root vis k a c e := by
  have hF := tFix_tt h hx hxb hxl hxr ha hc hs.l hs.r
  obtain ⟨n1, n2, n3, n4, n5⟩ := TT.dis hn
  have HF := Lib.hid hF
  have HH := Lib.hid h
  have HA := Lib.hid ha
  have HC := Lib.hid hc
  have HX := Lib.hid hx
  have HN := Lib.hid hn
  have HND : Hid (k ∉ a.nums ∧ k ∉ c.nums) := ⟨n1, n2⟩
  have hsm := hs.2
  clear h hx hxb hxl hxr ha hc hn hF n1 n2 n3 n4 n5
  go_enter Tryd.func103, Tryd.ntmps103
  go_wp2_with fail
  refine HF.out.mono ?_
  rintro e w1 ⟨rfl, h1, g1⟩
  have g1C := HH.out.chgRow g1
  obtain ⟨n1, n2⟩ := HND.out
  have a1 : Sub w1 (xs.set k (TT.pair k a c).nd) a := HA.out.chgC HH.out g1C (set_out n1)
  have c1 : Sub w1 (xs.set k (TT.pair k a c).nd) c := HC.out.chgC HH.out g1C (set_out n2)
  have t1 : Sub w1 (xs.set k (TT.pair k a c).nd) (.pair k a c) := ⟨set_get HX.out, a1, c1⟩
  have kp1 : ∀ j, j ≠ k → (xs.set k (TT.pair k a c).nd)[j]? = xs[j]? := fun j hj => set_ne hj
  have ln1 : (xs.set k (TT.pair k a c).nd).length = xs.length := by simp
  generalize xs.set k (TT.pair k a c).nd = xs1 at *
  have hr := t1.root
  have hra := a1.root
  have hrc := c1.root
  obtain ⟨g, rc, cur, r1, hgp, _⟩ := h1.row (by have := (List.getElem?_eq_some_iff.1 hr).1; omega)
  have hkx := (h1.node r1 hr).2.2.1
  obtain ⟨l0, l1, _⟩ := h1.eight r1 hr
  change w1.cell? ⟨g, k * 8, none⟩ = some (.int .i64 (a.num : Int)) at l0
  change w1.cell? ⟨g, k * 8 + 1, none⟩ = some (.int .i64 (c.num : Int)) at l1
  change k < xs1.length at hkx
  have HH1 := Lib.hid h1
  have HG1 := Lib.hid g1C
  have HT1 := Lib.hid t1
  have HK1 := Lib.hid kp1
  have HL1 := Lib.hid ln1
  have HRA := Lib.hid hra
  have HRC := Lib.hid hrc
  clear h1 g1 g1C n1 n2 a1 c1 t1 kp1 ln1 hr hra hrc HF HA HC HX HND
  obtain ⟨na, hna⟩ : ∃ na, a.num = na := ⟨_, rfl⟩
  obtain ⟨nc, hnc⟩ : ∃ nc, c.num = nc := ⟨_, rfl⟩
  rw [hna] at l0 HRA
  rw [hnc] at l1 HRC
  have HNA := Lib.hid hna
  have HNC := Lib.hid hnc
  clear hna hnc
  go_wp2_with fail
  go_quiet (fail)
  obtain ⟨nq1, rfl⟩ : ∃ n1, n1 = nq := ⟨_, rfl⟩
  go_wp2_with fail
  refine (tHigh_any (HH1.out.drewN _) hv0 (by omega) HRA.out).mono ?_
  rintro e w2 ⟨rfl, rfl⟩
  have HH2 := Lib.hid ((HH1.out.drewN nq1).set3 (vis + 1))
  go_wp2_with fail
  refine (tHigh_any HH2.out (by omega) (by omega) HRC.out).mono ?_
  rintro e w3 ⟨rfl, rfl⟩
  rw [a.nd_high, c.nd_high]
  have hh3 := HH2.out.set3 (vis + 1 + 1)
  have hg3 : Chg C w (((w1.drewN nq1).setCell ⟨p, 3, none⟩ (.int .i64 (vis + 1))).setCell ⟨p, 3, none⟩ (.int .i64 (vis + 1 + 1))) := ((HG1.out.drewN nq1).setCell _ (Or.inl HH1.out.self) _).setCell _ (Or.inl HH1.out.self) _
  have ht3 : Sub (((w1.drewN nq1).setCell ⟨p, 3, none⟩ (.int .i64 (vis + 1))).setCell ⟨p, 3, none⟩ (.int .i64 (vis + 1 + 1))) xs1 (.pair k a c) :=
    HT1.out.chgC HH1.out (((Chg.refl.drewN nq1).setCell _ (Or.inl HH1.out.self) _).setCell _ (Or.inl HH1.out.self) _) (fun _ _ => rfl)
  have r3 : (((w1.drewN nq1).setCell ⟨p, 3, none⟩ (.int .i64 (vis + 1))).setCell ⟨p, 3, none⟩ (.int .i64 (vis + 1 + 1))).cell? ⟨p, 1, none⟩ = some (.slice (some ⟨g, 0, none⟩) xs1.length rc) := by go_simp
  generalize ((w1.drewN nq1).setCell ⟨p, 3, none⟩ (.int .i64 (vis + 1))).setCell ⟨p, 3, none⟩ (.int .i64 (vis + 1 + 1)) = W3 at *
  obtain ⟨v3, hv3⟩ : ∃ v3, v3 = vis + 1 + 1 := ⟨_, rfl⟩
  rw [← hv3] at hh3
  have hv30 : 0 ≤ v3 ∧ v3 ≤ 200000000000 := by omega
  obtain ⟨hv30, hv31⟩ := hv30
  have HV3 := Lib.hid hv3
  clear hv3
  have HH3 := Lib.hid hh3
  have HG3 := Lib.hid hg3
  have HT3 := Lib.hid ht3
  have HN3 := Lib.hid (TT.dis HN.out)
  clear hh3 hg3 ht3 HH1 HG1 HT1 HH2 r1 l0 l1
  obtain ⟨hta, hhta⟩ : ∃ h, a.st.high = h := ⟨_, rfl⟩
  obtain ⟨htc, hhtc⟩ : ∃ h, c.st.high = h := ⟨_, rfl⟩
  have hsm2 : hta ≤ 1000000000 ∧ htc ≤ 1000000000 := by simp only [ST.high] at hsm; omega
  obtain ⟨hsma, hsmc⟩ := hsm2
  rw [hhta, hhtc]
  have HTA := Lib.hid hhta
  have HTC := Lib.hid hhtc
  clear hhta hhtc hsm
  by_cases hr : htc + 1 < hta
  · have d1 : decide ((1 : Int) < (hta : Int) - (htc : Int)) = true := decide_eq_true (by omega)
    cases a with
    | leaf ka q l => exfalso; have := HTA.out; simp only [TT.st, ST.high] at this; omega
    | pair l b1 b2 =>
      have HNL : Hid (l = na) := HNA.out
      obtain rfl := HNL.out
      obtain ⟨hk3, ⟨hl3, sb1, sb2⟩, sc3⟩ := HT3.out
      obtain ⟨m0, m1, _⟩ := HH3.out.eight r3 hl3
      have hlx := (HH3.out.node r3 hl3).2.2.1
      change W3.cell? ⟨g, l * 8, none⟩ = some (.int .i64 (b1.num : Int)) at m0
      change W3.cell? ⟨g, l * 8 + 1, none⟩ = some (.int .i64 (b2.num : Int)) at m1
      have HB1 := Lib.hid sb1
      have HB2 := Lib.hid sb2
      have HC3 := Lib.hid sc3
      have HK3 := Lib.hid hk3
      have HL3 := Lib.hid hl3
      clear hk3 hl3 sb1 sb2 sc3
      obtain ⟨n1, hn1⟩ : ∃ n, b1.num = n := ⟨_, rfl⟩
      obtain ⟨n2, hn2⟩ : ∃ n, b2.num = n := ⟨_, rfl⟩
      rw [hn1] at m0
      rw [hn2] at m1
      have HR1 : Hid (xs1[n1]? = some b1.nd) := by rw [← hn1]; exact HB1.out.root
      have HR2 : Hid (xs1[n2]? = some b2.nd) := by rw [← hn2]; exact HB2.out.root
      have HN1 := Lib.hid hn1
      have HN2 := Lib.hid hn2
      obtain ⟨t1, ht1⟩ : ∃ h, b1.st.high = h := ⟨_, rfl⟩
      obtain ⟨t2, ht2⟩ : ∃ h, b2.st.high = h := ⟨_, rfl⟩
      have hts : t1 ≤ 1000000000 ∧ t2 ≤ 1000000000 := by have := HTA.out; simp only [TT.st, ST.high, ht1, ht2] at this; omega
      obtain ⟨hts1, hts2⟩ := hts
      have HT1 := Lib.hid ht1
      have HT2 := Lib.hid ht2
      clear hn1 hn2 ht1 ht2
      by_cases hd : t1 < t2
      · have d3 : decide (t1 < t2) = true := decide_eq_true hd
        go_wp2_with fail
        -- REGION ra
        refine reg_start (fun w' => w'.cell? ⟨p, 1, none⟩ = some (.slice (some ⟨g, 0, none⟩) xs1.length rc) ∧ w'.cell? ⟨g, l * 8, none⟩ = some (.int .i64 n1) ∧ w'.cell? ⟨g, l * 8 + 1, none⟩ = some (.int .i64 n2)) (by kernel_rfl) ?hira (fun hHeld => ?_)
        case hira => (refine ⟨?_, ?_, ?_⟩ <;> go_simp)
        refine reg_take (i := 0) (v := ?vra0) rfl (by kernel_rfl) rfl hHeld ?yra0 ?rra0
        case yra0 => (intro w hSw; (try dsimp only at hSw); go_simp; all_goals with_reducible rfl)
        try simp only [Act.put, List.setIfInBounds_toArray, List.set_cons_zero, List.set_cons_succ]
        refine reg_take (i := 1) (v := ?vra1) rfl (by kernel_rfl) rfl hHeld ?yra1 ?rra1
        case yra1 => (intro w hSw; (try dsimp only at hSw); go_simp; all_goals with_reducible rfl)
        try simp only [Act.put, List.setIfInBounds_toArray, List.set_cons_zero, List.set_cons_succ]
        refine reg_take (i := 2) (v := ?vra2) rfl (by kernel_rfl) rfl hHeld ?yra2 ?rra2
        case yra2 => (intro w hSw; (try dsimp only at hSw); go_simp; all_goals with_reducible rfl)
        try simp only [Act.put, List.setIfInBounds_toArray, List.set_cons_zero, List.set_cons_succ]
        refine reg_take (i := 3) (v := ?vra3) rfl (by kernel_rfl) rfl hHeld ?yra3 ?rra3
        case yra3 => (intro w hSw; (try dsimp only at hSw); go_simp; all_goals with_reducible rfl)
        try simp only [Act.put, List.setIfInBounds_toArray, List.set_cons_zero, List.set_cons_succ]
        refine reg_take (i := 4) (v := ?vra4) rfl (by kernel_rfl) rfl hHeld ?yra4 ?rra4
        case yra4 => (intro w hSw; (try dsimp only at hSw); go_simp; all_goals with_reducible rfl)
        try simp only [Act.put, List.setIfInBounds_toArray, List.set_cons_zero, List.set_cons_succ]
        refine reg_take (i := 5) (v := ?vra5) rfl (by kernel_rfl) rfl hHeld ?yra5 ?rra5
        case yra5 => (intro w hSw; (try dsimp only at hSw); go_simp; all_goals with_reducible rfl)
        try simp only [Act.put, List.setIfInBounds_toArray, List.set_cons_zero, List.set_cons_succ]
        refine reg_take (i := 6) (v := ?vra6) rfl (by kernel_rfl) rfl hHeld ?yra6 ?rra6
        case yra6 => (intro w hSw; (try dsimp only at hSw); go_simp; all_goals with_reducible rfl)
        try simp only [Act.put, List.setIfInBounds_toArray, List.set_cons_zero, List.set_cons_succ]
        refine reg_take (i := 7) (v := ?vra7) rfl (by kernel_rfl) rfl hHeld ?yra7 ?rra7
        case yra7 => (intro w hSw; (try dsimp only at hSw); go_simp; all_goals with_reducible rfl)
        try simp only [Act.put, List.setIfInBounds_toArray, List.set_cons_zero, List.set_cons_succ]
        refine reg_take (i := 8) (v := ?vra8) rfl (by kernel_rfl) rfl hHeld ?yra8 ?rra8
        case yra8 => (intro w hSw; (try dsimp only at hSw); go_simp; all_goals with_reducible rfl)
        try simp only [Act.put, List.setIfInBounds_toArray, List.set_cons_zero, List.set_cons_succ]
        refine reg_take (i := 10) (v := ?vra10) rfl (by kernel_rfl) rfl hHeld ?yra10 ?rra10
        case yra10 => (intro w hSw; (try dsimp only at hSw); go_simp; all_goals with_reducible rfl)
        try simp only [Act.put, List.setIfInBounds_toArray, List.set_cons_zero, List.set_cons_succ]
        refine reg_take (i := 11) (v := ?vra11) rfl (by kernel_rfl) rfl hHeld ?yra11 ?rra11
        case yra11 => (intro w hSw; (try dsimp only at hSw); go_simp; all_goals with_reducible rfl)
        try simp only [Act.put, List.setIfInBounds_toArray, List.set_cons_zero, List.set_cons_succ]
        refine reg_take (i := 12) (v := ?vra12) rfl (by kernel_rfl) rfl hHeld ?yra12 ?rra12
        case yra12 => (intro w hSw; (try dsimp only at hSw); go_simp; all_goals with_reducible rfl)
        try simp only [Act.put, List.setIfInBounds_toArray, List.set_cons_zero, List.set_cons_succ]
        refine reg_take (i := 13) (v := ?vra13) rfl (by kernel_rfl) rfl hHeld ?yra13 ?rra13
        case yra13 => (intro w hSw; (try dsimp only at hSw); go_simp; all_goals with_reducible rfl)
        try simp only [Act.put, List.setIfInBounds_toArray, List.set_cons_zero, List.set_cons_succ]
        refine reg_take (i := 14) (v := ?vra14) rfl (by kernel_rfl) rfl hHeld ?yra14 ?rra14
        case yra14 => (intro w hSw; (try dsimp only at hSw); go_simp; all_goals with_reducible rfl)
        try simp only [Act.put, List.setIfInBounds_toArray, List.set_cons_zero, List.set_cons_succ]
        refine reg_take (i := 15) (v := ?vra15) rfl (by kernel_rfl) rfl hHeld ?yra15 ?rra15
        case yra15 => (intro w hSw; (try dsimp only at hSw); go_simp; all_goals with_reducible rfl)
        try simp only [Act.put, List.setIfInBounds_toArray, List.set_cons_zero, List.set_cons_succ]
        refine reg_take (i := 16) (v := ?vra16) rfl (by kernel_rfl) rfl hHeld ?yra16 ?rra16
        case yra16 => (intro w hSw; (try dsimp only at hSw); go_simp; all_goals with_reducible rfl)
        try simp only [Act.put, List.setIfInBounds_toArray, List.set_cons_zero, List.set_cons_succ]
        refine reg_take (i := 17) (v := ?vra17) rfl (by kernel_rfl) rfl hHeld ?yra17 ?rra17
        case yra17 => (intro w hSw; (try dsimp only at hSw); go_simp; all_goals with_reducible rfl)
        try simp only [Act.put, List.setIfInBounds_toArray, List.set_cons_zero, List.set_cons_succ]
        refine reg_take (i := 18) (v := ?vra18) rfl (by kernel_rfl) rfl hHeld ?yra18 ?rra18
        case yra18 => (intro w hSw; (try dsimp only at hSw); go_simp; all_goals with_reducible rfl)
        try simp only [Act.put, List.setIfInBounds_toArray, List.set_cons_zero, List.set_cons_succ]
        refine reg_loud (i := 9) rfl (by kernel_rfl) rfl (fun K hK => ?_)
        go_simp
        ((with_reducible refine (tHigh_any HH3.out.drew (by omega) (by omega) HR1.out).mono ?_))
        rintro e w2 ⟨rfl, rfl⟩
        rw [b1.nd_high, HT1.out]
        refine hK.out _ _ ?kpra9 (fun hNew => ?_)
        case kpra9 => (refine ⟨?_, ?_, ?_⟩ <;> go_simp)
        clear hK K hHeld
        have hHeld := hNew
        clear hNew
        try simp only [Act.put, List.setIfInBounds_toArray, List.set_cons_zero, List.set_cons_succ]
        refine reg_loud (i := 19) rfl (by kernel_rfl) rfl (fun K hK => ?_)
        go_simp
        ((with_reducible refine (tHigh_any (HH3.out.set3 (v3 + 1)).drew (by omega) (by omega) HR2.out).mono ?_))
        rintro e w2 ⟨rfl, rfl⟩
        rw [b2.nd_high, HT2.out]
        refine hK.out _ _ ?kpra19 (fun hNew => ?_)
        case kpra19 => (refine ⟨?_, ?_, ?_⟩ <;> go_simp)
        clear hK K hHeld
        have hHeld := hNew
        clear hNew
        try simp only [Act.put, List.setIfInBounds_toArray, List.set_cons_zero, List.set_cons_succ]
        refine reg_take (i := 20) (v := ?vra20) rfl (by kernel_rfl) rfl hHeld ?yra20 ?rra20
        case yra20 => (intro w hSw; (try dsimp only at hSw); go_simp; all_goals with_reducible rfl)
        try simp only [Act.put, List.setIfInBounds_toArray, List.set_cons_zero, List.set_cons_succ]
        refine reg_done (by kernel_rfl) ?_ _
        -- END OF REGION ra
        have hh4 := (HH3.out.set3 (v3 + 1)).drew.set3 (v3 + 1 + 1)
        have hg4 : Chg C w (((W3.setCell ⟨p, 3, none⟩ (.int .i64 (v3 + 1))).drew.setCell ⟨p, 3, none⟩ (.int .i64 (v3 + 1 + 1)))) := ((HG3.out.setCell _ (Or.inl HH3.out.self) _).drew).setCell _ (Or.inl HH3.out.self) _
        have ht4 : Sub (((W3.setCell ⟨p, 3, none⟩ (.int .i64 (v3 + 1))).drew.setCell ⟨p, 3, none⟩ (.int .i64 (v3 + 1 + 1)))) xs1 (.pair k (.pair l b1 b2) c) := HT3.out.chgC HH3.out (((Chg.refl.setCell _ (Or.inl HH3.out.self) _).drew).setCell _ (Or.inl HH3.out.self) _) (fun _ _ => rfl)
        have r4 := hHeld.1
        clear hHeld
        generalize (((W3.setCell ⟨p, 3, none⟩ (.int .i64 (v3 + 1))).drew.setCell ⟨p, 3, none⟩ (.int .i64 (v3 + 1 + 1)))) = W4 at *
        go_wp2_with fail
        have HD := Lib.hid hd
        cases b2 with
        | leaf kb qb lb => exfalso; have := HT2.out; simp only [TT.st, ST.high] at this; omega
        | pair m d1 d2 =>
        obtain rfl : m = n2 := HN2.out
        have hh4d := hh4.drew
        have ht4d : Sub W4.drew xs1 (.pair k (.pair l b1 (.pair m d1 d2)) c) := ht4.keep (fun _ _ => rfl) (fun _ _ => rfl)
        obtain ⟨q1, q2, q3, q4, q5⟩ := HN3.out
        obtain ⟨q6, q7, q8, q9, q10⟩ := TT.dis q3
        obtain ⟨q11, q12, q13, q14, q15⟩ := TT.dis q9
        have hkm : k ≠ m := by rintro rfl; exact q1 (TT.mem_r TT.mem_k)
        have hkl : k ≠ l := by rintro rfl; exact q1 TT.mem_k
        have hlm : l ≠ m := by rintro rfl; exact q7 TT.mem_k
        have HTL := Lib.hid (tTurnLeft hh4d (k := l) (l := m) (x := (TT.pair l b1 (.pair m d1 d2)).nd) (y := (TT.pair m d1 d2).nd) (a := b1) (b := d1) (c := d2) ht4d.2.1.1 rfl rfl rfl ht4d.2.1.2.2.1 rfl rfl rfl ht4d.2.1.2.1 ht4d.2.1.2.2.2.1 ht4d.2.1.2.2.2.2 hlm
          q6 (fun hj => q7 (TT.mem_l hj)) (fun hj => q7 (TT.mem_r hj)) (fun hj => q10 _ hj TT.mem_k) q11 q12 (by
            obtain ⟨g1, g2⟩ := hs; simp only [TT.st, ST.bits, ST.high, List.length_append] at g1 g2; refine ⟨?_, ?_⟩ <;> simp only [ST.bits, ST.high, List.length_append] <;> omega) (by
            obtain ⟨g1, g2⟩ := hs; simp only [TT.st, ST.bits, ST.high, List.length_append] at g1 g2; exact ⟨by omega, by omega⟩))
        have H4D := Lib.hid hh4d
        have R4D : Hid (W4.drew.cell? ⟨p, 1, none⟩ = some (.slice (some ⟨g, 0, none⟩) xs1.length rc)) := r4
        have HT4 := Lib.hid ht4
        have HT4D := Lib.hid ht4d
        have H4 := Lib.hid hh4
        have HG4 := Lib.hid hg4
        have HDD : Hid (k ≠ m ∧ k ≠ l ∧ l ≠ m) := ⟨hkm, hkl, hlm⟩
        have HQ : Hid (k ∉ (TT.pair l b1 d1).nums ∧ k ∉ d2.nums ∧ k ∉ c.nums ∧ m ∉ (TT.pair l b1 d1).nums ∧ m ∉ d2.nums ∧ m ∉ c.nums) := by
          refine ⟨fun hj => ?_, fun hj => q1 (TT.mem_r (TT.mem_r hj)), q2, fun hj => ?_, q12, q5 _ (TT.mem_r TT.mem_k)⟩
          · simp only [TT.nums, List.mem_cons, List.mem_append] at hj
            rcases hj with rfl | hj | hj
            · exact hkl rfl
            · exact q1 (TT.mem_l hj)
            · exact q1 (TT.mem_r (TT.mem_l hj))
          · simp only [TT.nums, List.mem_cons, List.mem_append] at hj
            rcases hj with rfl | hj | hj
            · exact hlm rfl
            · exact q10 _ hj TT.mem_k
            · exact q11 hj
        clear hh4 hg4 ht4 hh4d ht4d q1 q2 q3 q4 q5 q6 q7 q8 q9 q10 q11 q12 q13 q14 q15 hkm hkl hlm m0 m1 r3 hd
        -- REGION rc
        refine reg_start (fun w' => w'.cell? ⟨p, 1, none⟩ = some (.slice (some ⟨g, 0, none⟩) xs1.length rc)) (by kernel_rfl) ?hirc (fun hHeld => ?_)
        case hirc => (exact R4D.out)
        refine reg_take (i := 0) (v := ?vrc0) rfl (by kernel_rfl) rfl hHeld ?yrc0 ?rrc0
        case yrc0 => (intro w hSw; (try dsimp only at hSw); go_simp; all_goals with_reducible rfl)
        try simp only [Act.put, List.setIfInBounds_toArray, List.set_cons_zero, List.set_cons_succ]
        refine reg_take (i := 1) (v := ?vrc1) rfl (by kernel_rfl) rfl hHeld ?yrc1 ?rrc1
        case yrc1 => (intro w hSw; (try dsimp only at hSw); go_simp; all_goals with_reducible rfl)
        try simp only [Act.put, List.setIfInBounds_toArray, List.set_cons_zero, List.set_cons_succ]
        refine reg_take (i := 2) (v := ?vrc2) rfl (by kernel_rfl) rfl hHeld ?yrc2 ?rrc2
        case yrc2 => (intro w hSw; (try dsimp only at hSw); go_simp; all_goals with_reducible rfl)
        try simp only [Act.put, List.setIfInBounds_toArray, List.set_cons_zero, List.set_cons_succ]
        refine reg_take (i := 3) (v := ?vrc3) rfl (by kernel_rfl) rfl hHeld ?yrc3 ?rrc3
        case yrc3 => (intro w hSw; (try dsimp only at hSw); go_simp; all_goals with_reducible rfl)
        try simp only [Act.put, List.setIfInBounds_toArray, List.set_cons_zero, List.set_cons_succ]
        refine reg_take (i := 4) (v := ?vrc4) rfl (by kernel_rfl) rfl hHeld ?yrc4 ?rrc4
        case yrc4 => (intro w hSw; (try dsimp only at hSw); go_simp; all_goals with_reducible rfl)
        try simp only [Act.put, List.setIfInBounds_toArray, List.set_cons_zero, List.set_cons_succ]
        refine reg_take (i := 5) (v := ?vrc5) rfl (by kernel_rfl) rfl hHeld ?yrc5 ?rrc5
        case yrc5 => (intro w hSw; (try dsimp only at hSw); go_simp; all_goals with_reducible rfl)
        try simp only [Act.put, List.setIfInBounds_toArray, List.set_cons_zero, List.set_cons_succ]
        refine reg_take (i := 6) (v := ?vrc6) rfl (by kernel_rfl) rfl hHeld ?yrc6 ?rrc6
        case yrc6 => (intro w hSw; (try dsimp only at hSw); go_simp; all_goals with_reducible rfl)
        try simp only [Act.put, List.setIfInBounds_toArray, List.set_cons_zero, List.set_cons_succ]
        refine reg_loud (i := 7) rfl (by kernel_rfl) rfl (fun K hK => ?_)
        go_simp
        ((with_reducible refine HTL.out.mono ?_))
        rintro e w5 ⟨rfl, xs5, h5, g5, t5, kp5, ln5⟩
        have r5 := (H4D.out.rowKeep g5 1).trans R4D.out
        have hx5 : xs5[k]? = some (TT.pair k (.pair l b1 (.pair m d1 d2)) c).nd := by rw [kp5 k HDD.out.2.1 HDD.out.1]; exact HT4.out.1
        have l5 := (h5.eight r5 hx5).1
        have z5 := (h5.node r5 hx5).2.1 (k * 8)
        have HH5 := Lib.hid h5
        have HG5C := Lib.hid (H4D.out.chgRow g5)
        have HT5 := Lib.hid t5
        have HK5 := Lib.hid kp5
        have HL5 := Lib.hid ln5
        clear h5 g5 t5 kp5 ln5 hx5
        refine hK.out _ _ (r5) (fun hNew => ?_)
        clear hK K hHeld
        have hHeld := hNew
        clear hNew
        try simp only [Act.put, List.setIfInBounds_toArray, List.set_cons_zero, List.set_cons_succ]
        refine reg_take (i := 8) (v := ?vrc8) rfl (by kernel_rfl) rfl hHeld ?yrc8 ?rrc8
        case yrc8 => (intro w hSw; (try dsimp only at hSw); go_simp; all_goals with_reducible rfl)
        try simp only [Act.put, List.setIfInBounds_toArray, List.set_cons_zero, List.set_cons_succ]
        refine reg_take (i := 9) (v := ?vrc9) rfl (by kernel_rfl) rfl hHeld ?yrc9 ?rrc9
        case yrc9 => (intro w hSw; (try dsimp only at hSw); go_simp; all_goals with_reducible rfl)
        try simp only [Act.put, List.setIfInBounds_toArray, List.set_cons_zero, List.set_cons_succ]
        refine reg_loud (i := 10) rfl (by kernel_rfl) rfl (fun K hK => ?_)
        go_simp
        refine hK.out _ _ ?kprc10 (fun hNew => ?_)
        case kprc10 => (go_simp)
        clear hK K hHeld
        have hHeld := hNew
        clear hNew
        try simp only [Act.put, List.setIfInBounds_toArray, List.set_cons_zero, List.set_cons_succ]
        refine reg_done (by kernel_rfl) ?_ _
        -- END OF REGION rc
        go_wp2_with fail
        obtain ⟨e1, e2, e3⟩ := HDD.out
        have hx5 : xs5[k]? = some (TT.pair k (.pair l b1 (.pair m d1 d2)) c).nd := by rw [HK5.out k e2 e1]; exact HT4.out.1
        obtain ⟨h6, g6, r6⟩ := HH5.out.put r5 hx5 (i := 0) (v := .int .i64 m) (x' := ⟨m, c.num, (TT.pair k (.pair l b1 (.pair m d1 d2)) c).nd.height, (TT.pair k (.pair l b1 (.pair m d1 d2)) c).nd.n, (TT.pair k (.pair l b1 (.pair m d1 d2)) c).nd.ones, (TT.pair k (.pair l b1 (.pair m d1 d2)) c).nd.ln, (TT.pair k (.pair l b1 (.pair m d1 d2)) c).nd.lones, none⟩) (by omega) rfl
        have g6C : Chg C w5 _ := g6.mono (fun b hb => by subst hb; exact HH5.out.rowC ⟨_, _, r5⟩)
        obtain ⟨f1, f2, f3, f4, f5, f6⟩ := HQ.out
        have t6 := HT5.out.chgC HH5.out g6C (set_out (y := ⟨m, c.num, (TT.pair k (.pair l b1 (.pair m d1 d2)) c).nd.height, (TT.pair k (.pair l b1 (.pair m d1 d2)) c).nd.n, (TT.pair k (.pair l b1 (.pair m d1 d2)) c).nd.ones, (TT.pair k (.pair l b1 (.pair m d1 d2)) c).nd.ln, (TT.pair k (.pair l b1 (.pair m d1 d2)) c).nd.lones, none⟩) (k := k) (fun hj => by
          simp only [TT.nums, List.mem_cons, List.mem_append] at hj f1
          rcases hj with rfl | (rfl | hj | hj) | hj
          · exact e1 rfl
          · exact e2 rfl
          · exact f1 (Or.inr (Or.inl hj))
          · exact f1 (Or.inr (Or.inr hj))
          · exact f2 hj))
        have c5 : Sub w5 xs5 c := HT4D.out.2.2.chgC H4D.out HG5C.out (fun j hj => HK5.out j (by rintro rfl; exact HN3.out.2.2.2.2 _ TT.mem_k hj) (by rintro rfl; exact f6 hj))
        have c6 := c5.chgC HH5.out g6C (set_out (y := ⟨m, c.num, (TT.pair k (.pair l b1 (.pair m d1 d2)) c).nd.height, (TT.pair k (.pair l b1 (.pair m d1 d2)) c).nd.n, (TT.pair k (.pair l b1 (.pair m d1 d2)) c).nd.ones, (TT.pair k (.pair l b1 (.pair m d1 d2)) c).nd.ln, (TT.pair k (.pair l b1 (.pair m d1 d2)) c).nd.lones, none⟩) f3)
        have HTR := Lib.hid (tTurnRight h6 (k := k) (l := m) (y := (TT.pair m (.pair l b1 d1) d2).nd) (a := .pair l b1 d1) (b := d2) (c := c) (set_get hx5) rfl rfl rfl t6.1 rfl rfl rfl t6.2.1 t6.2.2 c6 e1 f1 f2 f3 f4 f5 f6 (by
            obtain ⟨g1, g2⟩ := hs; simp only [TT.st, ST.bits, ST.high, List.length_append] at g1 g2; refine ⟨?_, ?_⟩ <;> simp only [TT.st, ST.bits, ST.high, List.length_append] <;> omega) (by
            obtain ⟨g1, g2⟩ := hs; simp only [TT.st, ST.bits, ST.high, List.length_append] at g1 g2; refine ⟨?_, ?_⟩ <;> simp only [ST.bits, ST.high, List.length_append] <;> omega))
        have H6 := Lib.hid h6
        have G6 := Lib.hid g6C
        clear h6 g6 r6 g6C f1 f2 f3 f4 f5 f6 t6 c5 c6 hx5 e1 e2 e3
        refine HTR.out.mono ?_
        rintro e w7 ⟨rfl, xs7, h7, g7, t7, kp7, ln7⟩
        have hb : bal (.pair (TT.pair l b1 (.pair m d1 d2)).st c.st) = .pair (.pair b1.st d1.st) (.pair d2.st c.st) := by
          have e1 : (TT.pair l b1 (.pair m d1 d2)).st.high = hta := HTA.out
          have e2 : (TT.pair m d1 d2).st.high = t2 := HT2.out
          simp only [bal]
          rw [if_pos (by rw [e1, HTC.out]; exact hr), if_pos (by show b1.st.high < (TT.pair m d1 d2).st.high; rw [HT1.out, e2]; exact HD.out)]
          rfl
        have H7 := Lib.hid h7
        have G7 := Lib.hid g7
        have T7 := Lib.hid t7
        have K7 := Lib.hid kp7
        have L7 := Lib.hid ln7
        have HB := Lib.hid hb
        clear h7 g7 t7 kp7 ln7 hb
        go_wp2_with fail
        go_ret
        refine ⟨⟨.pair m (.pair l b1 d1) (.pair k d2 c), xs7, _, rfl, H7.out, T7.out, HB.out.symm, ?_, ?_, fun j hj => ?_, ?_, by have := HV3.out; omega, by have := HV3.out; omega⟩, ?_⟩
        · rw [List.perm_iff_count]; intro j; simp only [TT.nums, List.count_append, List.count_cons]; omega
        · simp [TT.bl]
        · have j1 : j ≠ k := fun e => hj (e ▸ TT.mem_k)
          have j2 : j ≠ l := fun e => hj (e ▸ TT.mem_l TT.mem_k)
          have j3 : j ≠ m := fun e => hj (e ▸ TT.mem_l (TT.mem_r TT.mem_k))
          rw [K7.out j j1 j3, set_ne j1, HK5.out j j2 j3, HK1.out j j1]
        · rw [L7.out, List.length_set, HL5.out, HL1.out]
        · exact (((HG4.out.drew).trans HG5C.out (fun _ h => Or.inl h)).trans G6.out (fun _ h => Or.inl h)).trans (H6.out.chgRow G7.out) (fun _ h => Or.inl h)
      · have d3 : decide (t1 < t2) = false := decide_eq_false hd
        go_wp2_with fail
        -- REGION rb
        refine reg_start (fun w' => w'.cell? ⟨p, 1, none⟩ = some (.slice (some ⟨g, 0, none⟩) xs1.length rc) ∧ w'.cell? ⟨g, l * 8, none⟩ = some (.int .i64 n1) ∧ w'.cell? ⟨g, l * 8 + 1, none⟩ = some (.int .i64 n2)) (by kernel_rfl) ?hirb (fun hHeld => ?_)
        case hirb => (refine ⟨?_, ?_, ?_⟩ <;> go_simp)
        refine reg_take (i := 0) (v := ?vrb0) rfl (by kernel_rfl) rfl hHeld ?yrb0 ?rrb0
        case yrb0 => (intro w hSw; (try dsimp only at hSw); go_simp; all_goals with_reducible rfl)
        try simp only [Act.put, List.setIfInBounds_toArray, List.set_cons_zero, List.set_cons_succ]
        refine reg_take (i := 1) (v := ?vrb1) rfl (by kernel_rfl) rfl hHeld ?yrb1 ?rrb1
        case yrb1 => (intro w hSw; (try dsimp only at hSw); go_simp; all_goals with_reducible rfl)
        try simp only [Act.put, List.setIfInBounds_toArray, List.set_cons_zero, List.set_cons_succ]
        refine reg_take (i := 2) (v := ?vrb2) rfl (by kernel_rfl) rfl hHeld ?yrb2 ?rrb2
        case yrb2 => (intro w hSw; (try dsimp only at hSw); go_simp; all_goals with_reducible rfl)
        try simp only [Act.put, List.setIfInBounds_toArray, List.set_cons_zero, List.set_cons_succ]
        refine reg_take (i := 3) (v := ?vrb3) rfl (by kernel_rfl) rfl hHeld ?yrb3 ?rrb3
        case yrb3 => (intro w hSw; (try dsimp only at hSw); go_simp; all_goals with_reducible rfl)
        try simp only [Act.put, List.setIfInBounds_toArray, List.set_cons_zero, List.set_cons_succ]
        refine reg_take (i := 4) (v := ?vrb4) rfl (by kernel_rfl) rfl hHeld ?yrb4 ?rrb4
        case yrb4 => (intro w hSw; (try dsimp only at hSw); go_simp; all_goals with_reducible rfl)
        try simp only [Act.put, List.setIfInBounds_toArray, List.set_cons_zero, List.set_cons_succ]
        refine reg_take (i := 5) (v := ?vrb5) rfl (by kernel_rfl) rfl hHeld ?yrb5 ?rrb5
        case yrb5 => (intro w hSw; (try dsimp only at hSw); go_simp; all_goals with_reducible rfl)
        try simp only [Act.put, List.setIfInBounds_toArray, List.set_cons_zero, List.set_cons_succ]
        refine reg_take (i := 6) (v := ?vrb6) rfl (by kernel_rfl) rfl hHeld ?yrb6 ?rrb6
        case yrb6 => (intro w hSw; (try dsimp only at hSw); go_simp; all_goals with_reducible rfl)
        try simp only [Act.put, List.setIfInBounds_toArray, List.set_cons_zero, List.set_cons_succ]
        refine reg_take (i := 7) (v := ?vrb7) rfl (by kernel_rfl) rfl hHeld ?yrb7 ?rrb7
        case yrb7 => (intro w hSw; (try dsimp only at hSw); go_simp; all_goals with_reducible rfl)
        try simp only [Act.put, List.setIfInBounds_toArray, List.set_cons_zero, List.set_cons_succ]
        refine reg_take (i := 8) (v := ?vrb8) rfl (by kernel_rfl) rfl hHeld ?yrb8 ?rrb8
        case yrb8 => (intro w hSw; (try dsimp only at hSw); go_simp; all_goals with_reducible rfl)
        try simp only [Act.put, List.setIfInBounds_toArray, List.set_cons_zero, List.set_cons_succ]
        refine reg_take (i := 10) (v := ?vrb10) rfl (by kernel_rfl) rfl hHeld ?yrb10 ?rrb10
        case yrb10 => (intro w hSw; (try dsimp only at hSw); go_simp; all_goals with_reducible rfl)
        try simp only [Act.put, List.setIfInBounds_toArray, List.set_cons_zero, List.set_cons_succ]
        refine reg_take (i := 11) (v := ?vrb11) rfl (by kernel_rfl) rfl hHeld ?yrb11 ?rrb11
        case yrb11 => (intro w hSw; (try dsimp only at hSw); go_simp; all_goals with_reducible rfl)
        try simp only [Act.put, List.setIfInBounds_toArray, List.set_cons_zero, List.set_cons_succ]
        refine reg_take (i := 12) (v := ?vrb12) rfl (by kernel_rfl) rfl hHeld ?yrb12 ?rrb12
        case yrb12 => (intro w hSw; (try dsimp only at hSw); go_simp; all_goals with_reducible rfl)
        try simp only [Act.put, List.setIfInBounds_toArray, List.set_cons_zero, List.set_cons_succ]
        refine reg_take (i := 13) (v := ?vrb13) rfl (by kernel_rfl) rfl hHeld ?yrb13 ?rrb13
        case yrb13 => (intro w hSw; (try dsimp only at hSw); go_simp; all_goals with_reducible rfl)
        try simp only [Act.put, List.setIfInBounds_toArray, List.set_cons_zero, List.set_cons_succ]
        refine reg_take (i := 14) (v := ?vrb14) rfl (by kernel_rfl) rfl hHeld ?yrb14 ?rrb14
        case yrb14 => (intro w hSw; (try dsimp only at hSw); go_simp; all_goals with_reducible rfl)
        try simp only [Act.put, List.setIfInBounds_toArray, List.set_cons_zero, List.set_cons_succ]
        refine reg_take (i := 15) (v := ?vrb15) rfl (by kernel_rfl) rfl hHeld ?yrb15 ?rrb15
        case yrb15 => (intro w hSw; (try dsimp only at hSw); go_simp; all_goals with_reducible rfl)
        try simp only [Act.put, List.setIfInBounds_toArray, List.set_cons_zero, List.set_cons_succ]
        refine reg_take (i := 16) (v := ?vrb16) rfl (by kernel_rfl) rfl hHeld ?yrb16 ?rrb16
        case yrb16 => (intro w hSw; (try dsimp only at hSw); go_simp; all_goals with_reducible rfl)
        try simp only [Act.put, List.setIfInBounds_toArray, List.set_cons_zero, List.set_cons_succ]
        refine reg_take (i := 17) (v := ?vrb17) rfl (by kernel_rfl) rfl hHeld ?yrb17 ?rrb17
        case yrb17 => (intro w hSw; (try dsimp only at hSw); go_simp; all_goals with_reducible rfl)
        try simp only [Act.put, List.setIfInBounds_toArray, List.set_cons_zero, List.set_cons_succ]
        refine reg_take (i := 18) (v := ?vrb18) rfl (by kernel_rfl) rfl hHeld ?yrb18 ?rrb18
        case yrb18 => (intro w hSw; (try dsimp only at hSw); go_simp; all_goals with_reducible rfl)
        try simp only [Act.put, List.setIfInBounds_toArray, List.set_cons_zero, List.set_cons_succ]
        refine reg_loud (i := 9) rfl (by kernel_rfl) rfl (fun K hK => ?_)
        go_simp
        ((with_reducible refine (tHigh_any HH3.out.drew (by omega) (by omega) HR1.out).mono ?_))
        rintro e w2 ⟨rfl, rfl⟩
        rw [b1.nd_high, HT1.out]
        refine hK.out _ _ ?kprb9 (fun hNew => ?_)
        case kprb9 => (refine ⟨?_, ?_, ?_⟩ <;> go_simp)
        clear hK K hHeld
        have hHeld := hNew
        clear hNew
        try simp only [Act.put, List.setIfInBounds_toArray, List.set_cons_zero, List.set_cons_succ]
        refine reg_loud (i := 19) rfl (by kernel_rfl) rfl (fun K hK => ?_)
        go_simp
        ((with_reducible refine (tHigh_any (HH3.out.set3 (v3 + 1)).drew (by omega) (by omega) HR2.out).mono ?_))
        rintro e w2 ⟨rfl, rfl⟩
        rw [b2.nd_high, HT2.out]
        refine hK.out _ _ ?kprb19 (fun hNew => ?_)
        case kprb19 => (refine ⟨?_, ?_, ?_⟩ <;> go_simp)
        clear hK K hHeld
        have hHeld := hNew
        clear hNew
        try simp only [Act.put, List.setIfInBounds_toArray, List.set_cons_zero, List.set_cons_succ]
        refine reg_take (i := 20) (v := ?vrb20) rfl (by kernel_rfl) rfl hHeld ?yrb20 ?rrb20
        case yrb20 => (intro w hSw; (try dsimp only at hSw); go_simp; all_goals with_reducible rfl)
        try simp only [Act.put, List.setIfInBounds_toArray, List.set_cons_zero, List.set_cons_succ]
        refine reg_done (by kernel_rfl) ?_ _
        -- END OF REGION rb
        have hh4 := (HH3.out.set3 (v3 + 1)).drew.set3 (v3 + 1 + 1)
        have hg4 : Chg C w (((W3.setCell ⟨p, 3, none⟩ (.int .i64 (v3 + 1))).drew.setCell ⟨p, 3, none⟩ (.int .i64 (v3 + 1 + 1)))) := ((HG3.out.setCell _ (Or.inl HH3.out.self) _).drew).setCell _ (Or.inl HH3.out.self) _
        have ht4 : Sub (((W3.setCell ⟨p, 3, none⟩ (.int .i64 (v3 + 1))).drew.setCell ⟨p, 3, none⟩ (.int .i64 (v3 + 1 + 1)))) xs1 (.pair k (.pair l b1 b2) c) := HT3.out.chgC HH3.out (((Chg.refl.setCell _ (Or.inl HH3.out.self) _).drew).setCell _ (Or.inl HH3.out.self) _) (fun _ _ => rfl)
        have r4 := hHeld.1
        clear hHeld
        generalize (((W3.setCell ⟨p, 3, none⟩ (.int .i64 (v3 + 1))).drew.setCell ⟨p, 3, none⟩ (.int .i64 (v3 + 1 + 1)))) = W4 at *
        go_wp2_with fail
        obtain ⟨q1, q2, q3, q4, q5⟩ := HN3.out
        obtain ⟨q6, q7, q8, q9, q10⟩ := TT.dis q3
        have hkl : k ≠ l := by rintro rfl; exact q1 TT.mem_k
        have HTR := Lib.hid (tTurnRight hh4 (k := k) (l := l) (x := (TT.pair k (.pair l b1 b2) c).nd) (y := (TT.pair l b1 b2).nd) (a := b1) (b := b2) (c := c) ht4.1 rfl rfl rfl ht4.2.1.1 rfl rfl rfl ht4.2.1.2.1 ht4.2.1.2.2 ht4.2.2 hkl (fun hj => q1 (TT.mem_l hj)) (fun hj => q1 (TT.mem_r hj)) q2 q6 q7 (q5 _ TT.mem_k) hs.l.l (by
            obtain ⟨g1, g2⟩ := hs; simp only [TT.st, ST.bits, ST.high, List.length_append] at g1 g2; refine ⟨?_, ?_⟩ <;> simp only [ST.bits, ST.high, List.length_append] <;> omega))
        have H4 := Lib.hid hh4
        have HG4 := Lib.hid hg4
        have HD := Lib.hid hd
        clear hh4 hg4 ht4 q1 q2 q3 q4 q5 q6 q7 q8 q9 q10 hkl m0 m1 r3 hd
        refine HTR.out.mono ?_
        rintro e w7 ⟨rfl, xs7, h7, g7, t7, kp7, ln7⟩
        have hb : bal (.pair (TT.pair l b1 b2).st c.st) = .pair b1.st (.pair b2.st c.st) := by
          have e1 : (TT.pair l b1 b2).st.high = hta := HTA.out
          simp only [bal]
          rw [if_pos (by rw [e1, HTC.out]; exact hr), if_neg (by show ¬ b1.st.high < b2.st.high; rw [HT1.out, HT2.out]; exact HD.out)]
          rfl
        have H7 := Lib.hid h7
        have G7 := Lib.hid g7
        have T7 := Lib.hid t7
        have K7 := Lib.hid kp7
        have L7 := Lib.hid ln7
        have HB := Lib.hid hb
        clear h7 g7 t7 kp7 ln7 hb
        go_wp2_with fail
        go_ret
        refine ⟨⟨.pair l b1 (.pair k b2 c), xs7, _, rfl, H7.out, T7.out, HB.out.symm, ?_, ?_, fun j hj => ?_, ?_, by have := HV3.out; omega, by have := HV3.out; omega⟩, ?_⟩
        · rw [List.perm_iff_count]; intro j; simp only [TT.nums, List.count_append, List.count_cons]; omega
        · simp [TT.bl]
        · have j1 : j ≠ k := fun e => hj (e ▸ TT.mem_k)
          have j2 : j ≠ l := fun e => hj (e ▸ TT.mem_l TT.mem_k)
          rw [K7.out j j1 j2, HK1.out j j1]
        · rw [L7.out, HL1.out]
        · exact HG4.out.trans (H4.out.chgRow G7.out) (fun _ h => Or.inl h)
  · have d1 : decide ((1 : Int) < (hta : Int) - (htc : Int)) = false := decide_eq_false (by omega)
    by_cases hl : hta + 1 < htc
    · have d2 : decide ((hta : Int) - (htc : Int) < -1) = true := decide_eq_true (by omega)
      cases c with
      | leaf ka q l => exfalso; have := HTC.out; simp only [TT.st, ST.high] at this; omega
      | pair l b1 b2 =>
        have HNL : Hid (l = nc) := HNC.out
        obtain rfl := HNL.out
        obtain ⟨hk3, sc3, hl3, sb1, sb2⟩ := HT3.out
        obtain ⟨m0, m1, _⟩ := HH3.out.eight r3 hl3
        have hlx := (HH3.out.node r3 hl3).2.2.1
        change W3.cell? ⟨g, l * 8, none⟩ = some (.int .i64 (b1.num : Int)) at m0
        change W3.cell? ⟨g, l * 8 + 1, none⟩ = some (.int .i64 (b2.num : Int)) at m1
        have HB1 := Lib.hid sb1
        have HB2 := Lib.hid sb2
        have HC3 := Lib.hid sc3
        have HK3 := Lib.hid hk3
        have HL3 := Lib.hid hl3
        clear hk3 hl3 sb1 sb2 sc3
        obtain ⟨n1, hn1⟩ : ∃ n, b1.num = n := ⟨_, rfl⟩
        obtain ⟨n2, hn2⟩ : ∃ n, b2.num = n := ⟨_, rfl⟩
        rw [hn1] at m0
        rw [hn2] at m1
        have HR1 : Hid (xs1[n1]? = some b1.nd) := by rw [← hn1]; exact HB1.out.root
        have HR2 : Hid (xs1[n2]? = some b2.nd) := by rw [← hn2]; exact HB2.out.root
        have HN1 := Lib.hid hn1
        have HN2 := Lib.hid hn2
        obtain ⟨t1, ht1⟩ : ∃ h, b1.st.high = h := ⟨_, rfl⟩
        obtain ⟨t2, ht2⟩ : ∃ h, b2.st.high = h := ⟨_, rfl⟩
        have hts : t1 ≤ 1000000000 ∧ t2 ≤ 1000000000 := by have := HTC.out; simp only [TT.st, ST.high, ht1, ht2] at this; omega
        obtain ⟨hts1, hts2⟩ := hts
        have HT1 := Lib.hid ht1
        have HT2 := Lib.hid ht2
        clear hn1 hn2 ht1 ht2
        by_cases hd : t2 < t1
        · have d3 : decide (t2 < t1) = true := decide_eq_true hd
          go_wp2_with fail
          -- REGION la
          refine reg_start (fun w' => w'.cell? ⟨p, 1, none⟩ = some (.slice (some ⟨g, 0, none⟩) xs1.length rc) ∧ w'.cell? ⟨g, l * 8, none⟩ = some (.int .i64 n1) ∧ w'.cell? ⟨g, l * 8 + 1, none⟩ = some (.int .i64 n2)) (by kernel_rfl) ?hila (fun hHeld => ?_)
          case hila => (refine ⟨?_, ?_, ?_⟩ <;> go_simp)
          refine reg_take (i := 0) (v := ?vla0) rfl (by kernel_rfl) rfl hHeld ?yla0 ?rla0
          case yla0 => (intro w hSw; (try dsimp only at hSw); go_simp; all_goals with_reducible rfl)
          try simp only [Act.put, List.setIfInBounds_toArray, List.set_cons_zero, List.set_cons_succ]
          refine reg_take (i := 1) (v := ?vla1) rfl (by kernel_rfl) rfl hHeld ?yla1 ?rla1
          case yla1 => (intro w hSw; (try dsimp only at hSw); go_simp; all_goals with_reducible rfl)
          try simp only [Act.put, List.setIfInBounds_toArray, List.set_cons_zero, List.set_cons_succ]
          refine reg_take (i := 2) (v := ?vla2) rfl (by kernel_rfl) rfl hHeld ?yla2 ?rla2
          case yla2 => (intro w hSw; (try dsimp only at hSw); go_simp; all_goals with_reducible rfl)
          try simp only [Act.put, List.setIfInBounds_toArray, List.set_cons_zero, List.set_cons_succ]
          refine reg_take (i := 3) (v := ?vla3) rfl (by kernel_rfl) rfl hHeld ?yla3 ?rla3
          case yla3 => (intro w hSw; (try dsimp only at hSw); go_simp; all_goals with_reducible rfl)
          try simp only [Act.put, List.setIfInBounds_toArray, List.set_cons_zero, List.set_cons_succ]
          refine reg_take (i := 4) (v := ?vla4) rfl (by kernel_rfl) rfl hHeld ?yla4 ?rla4
          case yla4 => (intro w hSw; (try dsimp only at hSw); go_simp; all_goals with_reducible rfl)
          try simp only [Act.put, List.setIfInBounds_toArray, List.set_cons_zero, List.set_cons_succ]
          refine reg_take (i := 5) (v := ?vla5) rfl (by kernel_rfl) rfl hHeld ?yla5 ?rla5
          case yla5 => (intro w hSw; (try dsimp only at hSw); go_simp; all_goals with_reducible rfl)
          try simp only [Act.put, List.setIfInBounds_toArray, List.set_cons_zero, List.set_cons_succ]
          refine reg_take (i := 6) (v := ?vla6) rfl (by kernel_rfl) rfl hHeld ?yla6 ?rla6
          case yla6 => (intro w hSw; (try dsimp only at hSw); go_simp; all_goals with_reducible rfl)
          try simp only [Act.put, List.setIfInBounds_toArray, List.set_cons_zero, List.set_cons_succ]
          refine reg_take (i := 7) (v := ?vla7) rfl (by kernel_rfl) rfl hHeld ?yla7 ?rla7
          case yla7 => (intro w hSw; (try dsimp only at hSw); go_simp; all_goals with_reducible rfl)
          try simp only [Act.put, List.setIfInBounds_toArray, List.set_cons_zero, List.set_cons_succ]
          refine reg_take (i := 8) (v := ?vla8) rfl (by kernel_rfl) rfl hHeld ?yla8 ?rla8
          case yla8 => (intro w hSw; (try dsimp only at hSw); go_simp; all_goals with_reducible rfl)
          try simp only [Act.put, List.setIfInBounds_toArray, List.set_cons_zero, List.set_cons_succ]
          refine reg_take (i := 10) (v := ?vla10) rfl (by kernel_rfl) rfl hHeld ?yla10 ?rla10
          case yla10 => (intro w hSw; (try dsimp only at hSw); go_simp; all_goals with_reducible rfl)
          try simp only [Act.put, List.setIfInBounds_toArray, List.set_cons_zero, List.set_cons_succ]
          refine reg_take (i := 11) (v := ?vla11) rfl (by kernel_rfl) rfl hHeld ?yla11 ?rla11
          case yla11 => (intro w hSw; (try dsimp only at hSw); go_simp; all_goals with_reducible rfl)
          try simp only [Act.put, List.setIfInBounds_toArray, List.set_cons_zero, List.set_cons_succ]
          refine reg_take (i := 12) (v := ?vla12) rfl (by kernel_rfl) rfl hHeld ?yla12 ?rla12
          case yla12 => (intro w hSw; (try dsimp only at hSw); go_simp; all_goals with_reducible rfl)
          try simp only [Act.put, List.setIfInBounds_toArray, List.set_cons_zero, List.set_cons_succ]
          refine reg_take (i := 13) (v := ?vla13) rfl (by kernel_rfl) rfl hHeld ?yla13 ?rla13
          case yla13 => (intro w hSw; (try dsimp only at hSw); go_simp; all_goals with_reducible rfl)
          try simp only [Act.put, List.setIfInBounds_toArray, List.set_cons_zero, List.set_cons_succ]
          refine reg_take (i := 14) (v := ?vla14) rfl (by kernel_rfl) rfl hHeld ?yla14 ?rla14
          case yla14 => (intro w hSw; (try dsimp only at hSw); go_simp; all_goals with_reducible rfl)
          try simp only [Act.put, List.setIfInBounds_toArray, List.set_cons_zero, List.set_cons_succ]
          refine reg_take (i := 15) (v := ?vla15) rfl (by kernel_rfl) rfl hHeld ?yla15 ?rla15
          case yla15 => (intro w hSw; (try dsimp only at hSw); go_simp; all_goals with_reducible rfl)
          try simp only [Act.put, List.setIfInBounds_toArray, List.set_cons_zero, List.set_cons_succ]
          refine reg_take (i := 16) (v := ?vla16) rfl (by kernel_rfl) rfl hHeld ?yla16 ?rla16
          case yla16 => (intro w hSw; (try dsimp only at hSw); go_simp; all_goals with_reducible rfl)
          try simp only [Act.put, List.setIfInBounds_toArray, List.set_cons_zero, List.set_cons_succ]
          refine reg_take (i := 17) (v := ?vla17) rfl (by kernel_rfl) rfl hHeld ?yla17 ?rla17
          case yla17 => (intro w hSw; (try dsimp only at hSw); go_simp; all_goals with_reducible rfl)
          try simp only [Act.put, List.setIfInBounds_toArray, List.set_cons_zero, List.set_cons_succ]
          refine reg_take (i := 18) (v := ?vla18) rfl (by kernel_rfl) rfl hHeld ?yla18 ?rla18
          case yla18 => (intro w hSw; (try dsimp only at hSw); go_simp; all_goals with_reducible rfl)
          try simp only [Act.put, List.setIfInBounds_toArray, List.set_cons_zero, List.set_cons_succ]
          refine reg_loud (i := 9) rfl (by kernel_rfl) rfl (fun K hK => ?_)
          go_simp
          ((with_reducible refine (tHigh_any HH3.out.drew (by omega) (by omega) HR2.out).mono ?_))
          rintro e w2 ⟨rfl, rfl⟩
          rw [b2.nd_high, HT2.out]
          refine hK.out _ _ ?kpla9 (fun hNew => ?_)
          case kpla9 => (refine ⟨?_, ?_, ?_⟩ <;> go_simp)
          clear hK K hHeld
          have hHeld := hNew
          clear hNew
          try simp only [Act.put, List.setIfInBounds_toArray, List.set_cons_zero, List.set_cons_succ]
          refine reg_loud (i := 19) rfl (by kernel_rfl) rfl (fun K hK => ?_)
          go_simp
          ((with_reducible refine (tHigh_any (HH3.out.set3 (v3 + 1)).drew (by omega) (by omega) HR1.out).mono ?_))
          rintro e w2 ⟨rfl, rfl⟩
          rw [b1.nd_high, HT1.out]
          refine hK.out _ _ ?kpla19 (fun hNew => ?_)
          case kpla19 => (refine ⟨?_, ?_, ?_⟩ <;> go_simp)
          clear hK K hHeld
          have hHeld := hNew
          clear hNew
          try simp only [Act.put, List.setIfInBounds_toArray, List.set_cons_zero, List.set_cons_succ]
          refine reg_take (i := 20) (v := ?vla20) rfl (by kernel_rfl) rfl hHeld ?yla20 ?rla20
          case yla20 => (intro w hSw; (try dsimp only at hSw); go_simp; all_goals with_reducible rfl)
          try simp only [Act.put, List.setIfInBounds_toArray, List.set_cons_zero, List.set_cons_succ]
          refine reg_done (by kernel_rfl) ?_ _
          -- END OF REGION la
          have hh4 := (HH3.out.set3 (v3 + 1)).drew.set3 (v3 + 1 + 1)
          have hg4 : Chg C w (((W3.setCell ⟨p, 3, none⟩ (.int .i64 (v3 + 1))).drew.setCell ⟨p, 3, none⟩ (.int .i64 (v3 + 1 + 1)))) := ((HG3.out.setCell _ (Or.inl HH3.out.self) _).drew).setCell _ (Or.inl HH3.out.self) _
          have ht4 : Sub (((W3.setCell ⟨p, 3, none⟩ (.int .i64 (v3 + 1))).drew.setCell ⟨p, 3, none⟩ (.int .i64 (v3 + 1 + 1)))) xs1 (.pair k a (.pair l b1 b2)) := HT3.out.chgC HH3.out (((Chg.refl.setCell _ (Or.inl HH3.out.self) _).drew).setCell _ (Or.inl HH3.out.self) _) (fun _ _ => rfl)
          have r4 := hHeld.1
          clear hHeld
          generalize (((W3.setCell ⟨p, 3, none⟩ (.int .i64 (v3 + 1))).drew.setCell ⟨p, 3, none⟩ (.int .i64 (v3 + 1 + 1)))) = W4 at *
          go_wp2_with fail
          have HD := Lib.hid hd
          cases b1 with
          | leaf kb qb lb => exfalso; have := HT1.out; simp only [TT.st, ST.high] at this; omega
          | pair m d1 d2 =>
          obtain rfl : m = n1 := HN1.out
          have hh4d := hh4.drew
          have ht4d : Sub W4.drew xs1 (.pair k a (.pair l (.pair m d1 d2) b2)) := ht4.keep (fun _ _ => rfl) (fun _ _ => rfl)
          obtain ⟨q2, q1, q4, q3, q5'⟩ := HN3.out
          have q5 : ∀ j, j ∈ (TT.pair l (.pair m d1 d2) b2).nums → j ∉ a.nums := fun j h1 h2 => q5' j h2 h1
          obtain ⟨q7, q6, q9, q8, q10'⟩ := TT.dis q3
          have q10 : ∀ j, j ∈ b2.nums → j ∉ (TT.pair m d1 d2).nums := fun j h1 h2 => q10' j h2 h1
          obtain ⟨q11, q12, q13, q14, q15⟩ := TT.dis q9
          have hkm : k ≠ m := by rintro rfl; exact q1 (TT.mem_l TT.mem_k)
          have hkl : k ≠ l := by rintro rfl; exact q1 TT.mem_k
          have hlm : l ≠ m := by rintro rfl; exact q7 TT.mem_k
          have HTL := Lib.hid (tTurnRight hh4d (k := l) (l := m) (x := (TT.pair l (.pair m d1 d2) b2).nd) (y := (TT.pair m d1 d2).nd) (a := d1) (b := d2) (c := b2) ht4d.2.2.1 rfl rfl rfl ht4d.2.2.2.1.1 rfl rfl rfl ht4d.2.2.2.1.2.1 ht4d.2.2.2.1.2.2 ht4d.2.2.2.2 hlm
            (fun hj => q7 (TT.mem_l hj)) (fun hj => q7 (TT.mem_r hj)) q6 q11 q12 (fun hj => q10 _ hj TT.mem_k) (by
              obtain ⟨g1, g2⟩ := hs; simp only [TT.st, ST.bits, ST.high, List.length_append] at g1 g2; exact ⟨by omega, by omega⟩) (by
              obtain ⟨g1, g2⟩ := hs; simp only [TT.st, ST.bits, ST.high, List.length_append] at g1 g2; refine ⟨?_, ?_⟩ <;> simp only [ST.bits, ST.high, List.length_append] <;> omega))
          have H4D := Lib.hid hh4d
          have R4D : Hid (W4.drew.cell? ⟨p, 1, none⟩ = some (.slice (some ⟨g, 0, none⟩) xs1.length rc)) := r4
          have HT4 := Lib.hid ht4
          have HT4D := Lib.hid ht4d
          have H4 := Lib.hid hh4
          have HG4 := Lib.hid hg4
          have HDD : Hid (k ≠ m ∧ k ≠ l ∧ l ≠ m) := ⟨hkm, hkl, hlm⟩
          have HQ : Hid (k ∉ a.nums ∧ k ∉ d1.nums ∧ k ∉ (TT.pair l d2 b2).nums ∧ m ∉ a.nums ∧ m ∉ d1.nums ∧ m ∉ (TT.pair l d2 b2).nums) := by
            refine ⟨q2, fun hj => q1 (TT.mem_l (TT.mem_l hj)), fun hj => ?_, q5 _ (TT.mem_l TT.mem_k), q11, fun hj => ?_⟩
            · simp only [TT.nums, List.mem_cons, List.mem_append] at hj
              rcases hj with rfl | hj | hj
              · exact hkl rfl
              · exact q1 (TT.mem_l (TT.mem_r hj))
              · exact q1 (TT.mem_r hj)
            · simp only [TT.nums, List.mem_cons, List.mem_append] at hj
              rcases hj with rfl | hj | hj
              · exact hlm rfl
              · exact q12 hj
              · exact q10 _ hj TT.mem_k
          clear hh4 hg4 ht4 hh4d ht4d q1 q2 q3 q4 q5 q5' q6 q7 q8 q9 q10 q10' q11 q12 q13 q14 q15 hkm hkl hlm m0 m1 r3 hd
          -- REGION lc
          refine reg_start (fun w' => w'.cell? ⟨p, 1, none⟩ = some (.slice (some ⟨g, 0, none⟩) xs1.length rc)) (by kernel_rfl) ?hilc (fun hHeld => ?_)
          case hilc => (exact R4D.out)
          refine reg_take (i := 0) (v := ?vlc0) rfl (by kernel_rfl) rfl hHeld ?ylc0 ?rlc0
          case ylc0 => (intro w hSw; (try dsimp only at hSw); go_simp; all_goals with_reducible rfl)
          try simp only [Act.put, List.setIfInBounds_toArray, List.set_cons_zero, List.set_cons_succ]
          refine reg_take (i := 1) (v := ?vlc1) rfl (by kernel_rfl) rfl hHeld ?ylc1 ?rlc1
          case ylc1 => (intro w hSw; (try dsimp only at hSw); go_simp; all_goals with_reducible rfl)
          try simp only [Act.put, List.setIfInBounds_toArray, List.set_cons_zero, List.set_cons_succ]
          refine reg_take (i := 2) (v := ?vlc2) rfl (by kernel_rfl) rfl hHeld ?ylc2 ?rlc2
          case ylc2 => (intro w hSw; (try dsimp only at hSw); go_simp; all_goals with_reducible rfl)
          try simp only [Act.put, List.setIfInBounds_toArray, List.set_cons_zero, List.set_cons_succ]
          refine reg_take (i := 3) (v := ?vlc3) rfl (by kernel_rfl) rfl hHeld ?ylc3 ?rlc3
          case ylc3 => (intro w hSw; (try dsimp only at hSw); go_simp; all_goals with_reducible rfl)
          try simp only [Act.put, List.setIfInBounds_toArray, List.set_cons_zero, List.set_cons_succ]
          refine reg_take (i := 4) (v := ?vlc4) rfl (by kernel_rfl) rfl hHeld ?ylc4 ?rlc4
          case ylc4 => (intro w hSw; (try dsimp only at hSw); go_simp; all_goals with_reducible rfl)
          try simp only [Act.put, List.setIfInBounds_toArray, List.set_cons_zero, List.set_cons_succ]
          refine reg_take (i := 5) (v := ?vlc5) rfl (by kernel_rfl) rfl hHeld ?ylc5 ?rlc5
          case ylc5 => (intro w hSw; (try dsimp only at hSw); go_simp; all_goals with_reducible rfl)
          try simp only [Act.put, List.setIfInBounds_toArray, List.set_cons_zero, List.set_cons_succ]
          refine reg_take (i := 6) (v := ?vlc6) rfl (by kernel_rfl) rfl hHeld ?ylc6 ?rlc6
          case ylc6 => (intro w hSw; (try dsimp only at hSw); go_simp; all_goals with_reducible rfl)
          try simp only [Act.put, List.setIfInBounds_toArray, List.set_cons_zero, List.set_cons_succ]
          refine reg_loud (i := 7) rfl (by kernel_rfl) rfl (fun K hK => ?_)
          go_simp
          ((with_reducible refine HTL.out.mono ?_))
          rintro e w5 ⟨rfl, xs5, h5, g5, t5, kp5, ln5⟩
          have r5 := (H4D.out.rowKeep g5 1).trans R4D.out
          have hx5 : xs5[k]? = some (TT.pair k a (.pair l (.pair m d1 d2) b2)).nd := by rw [kp5 k HDD.out.2.1 HDD.out.1]; exact HT4.out.1
          have l5 := (h5.eight r5 hx5).2.1
          have z5 := (h5.node r5 hx5).2.1 (k * 8 + 1)
          have HH5 := Lib.hid h5
          have HG5C := Lib.hid (H4D.out.chgRow g5)
          have HT5 := Lib.hid t5
          have HK5 := Lib.hid kp5
          have HL5 := Lib.hid ln5
          clear h5 g5 t5 kp5 ln5 hx5
          refine hK.out _ _ (r5) (fun hNew => ?_)
          clear hK K hHeld
          have hHeld := hNew
          clear hNew
          try simp only [Act.put, List.setIfInBounds_toArray, List.set_cons_zero, List.set_cons_succ]
          refine reg_take (i := 8) (v := ?vlc8) rfl (by kernel_rfl) rfl hHeld ?ylc8 ?rlc8
          case ylc8 => (intro w hSw; (try dsimp only at hSw); go_simp; all_goals with_reducible rfl)
          try simp only [Act.put, List.setIfInBounds_toArray, List.set_cons_zero, List.set_cons_succ]
          refine reg_take (i := 9) (v := ?vlc9) rfl (by kernel_rfl) rfl hHeld ?ylc9 ?rlc9
          case ylc9 => (intro w hSw; (try dsimp only at hSw); go_simp; all_goals with_reducible rfl)
          try simp only [Act.put, List.setIfInBounds_toArray, List.set_cons_zero, List.set_cons_succ]
          refine reg_loud (i := 10) rfl (by kernel_rfl) rfl (fun K hK => ?_)
          go_simp
          refine hK.out _ _ ?kplc10 (fun hNew => ?_)
          case kplc10 => (go_simp)
          clear hK K hHeld
          have hHeld := hNew
          clear hNew
          try simp only [Act.put, List.setIfInBounds_toArray, List.set_cons_zero, List.set_cons_succ]
          refine reg_done (by kernel_rfl) ?_ _
          -- END OF REGION lc
          go_wp2_with fail
          obtain ⟨e1, e2, e3⟩ := HDD.out
          have hx5 : xs5[k]? = some (TT.pair k a (.pair l (.pair m d1 d2) b2)).nd := by rw [HK5.out k e2 e1]; exact HT4.out.1
          obtain ⟨h6, g6, r6⟩ := HH5.out.put r5 hx5 (i := 1) (v := .int .i64 m) (x' := ⟨a.num, m, (TT.pair k a (.pair l (.pair m d1 d2) b2)).nd.height, (TT.pair k a (.pair l (.pair m d1 d2) b2)).nd.n, (TT.pair k a (.pair l (.pair m d1 d2) b2)).nd.ones, (TT.pair k a (.pair l (.pair m d1 d2) b2)).nd.ln, (TT.pair k a (.pair l (.pair m d1 d2) b2)).nd.lones, none⟩) (by omega) rfl
          have g6C : Chg C w5 _ := g6.mono (fun b hb => by subst hb; exact HH5.out.rowC ⟨_, _, r5⟩)
          obtain ⟨f1, f2, f3, f4, f5, f6⟩ := HQ.out
          have t6 := HT5.out.chgC HH5.out g6C (set_out (y := ⟨a.num, m, (TT.pair k a (.pair l (.pair m d1 d2) b2)).nd.height, (TT.pair k a (.pair l (.pair m d1 d2) b2)).nd.n, (TT.pair k a (.pair l (.pair m d1 d2) b2)).nd.ones, (TT.pair k a (.pair l (.pair m d1 d2) b2)).nd.ln, (TT.pair k a (.pair l (.pair m d1 d2) b2)).nd.lones, none⟩) (k := k) (fun hj => by
            simp only [TT.nums, List.mem_cons, List.mem_append] at hj f3
            rcases hj with rfl | hj | rfl | hj | hj
            · exact e1 rfl
            · exact f2 hj
            · exact e2 rfl
            · exact f3 (Or.inr (Or.inl hj))
            · exact f3 (Or.inr (Or.inr hj))))
          have c5 : Sub w5 xs5 a := HT4D.out.2.1.chgC H4D.out HG5C.out (fun j hj => HK5.out j (by rintro rfl; exact HN3.out.2.2.2.2 _ hj TT.mem_k) (by rintro rfl; exact f4 hj))
          have c6 := c5.chgC HH5.out g6C (set_out (y := ⟨a.num, m, (TT.pair k a (.pair l (.pair m d1 d2) b2)).nd.height, (TT.pair k a (.pair l (.pair m d1 d2) b2)).nd.n, (TT.pair k a (.pair l (.pair m d1 d2) b2)).nd.ones, (TT.pair k a (.pair l (.pair m d1 d2) b2)).nd.ln, (TT.pair k a (.pair l (.pair m d1 d2) b2)).nd.lones, none⟩) f1)
          have HTR := Lib.hid (tTurnLeft h6 (k := k) (l := m) (y := (TT.pair m d1 (.pair l d2 b2)).nd) (a := a) (b := d1) (c := .pair l d2 b2) (set_get hx5) rfl rfl rfl t6.1 rfl rfl rfl c6 t6.2.1 t6.2.2 e1 f1 f2 f3 f4 f5 f6 (by
              obtain ⟨g1, g2⟩ := hs; simp only [TT.st, ST.bits, ST.high, List.length_append] at g1 g2; refine ⟨?_, ?_⟩ <;> simp only [ST.bits, ST.high, List.length_append] <;> omega) (by
              obtain ⟨g1, g2⟩ := hs; simp only [TT.st, ST.bits, ST.high, List.length_append] at g1 g2; refine ⟨?_, ?_⟩ <;> simp only [TT.st, ST.bits, ST.high, List.length_append] <;> omega))
          have H6 := Lib.hid h6
          have G6 := Lib.hid g6C
          clear h6 g6 r6 g6C f1 f2 f3 f4 f5 f6 t6 c5 c6 hx5 e1 e2 e3
          refine HTR.out.mono ?_
          rintro e w7 ⟨rfl, xs7, h7, g7, t7, kp7, ln7⟩
          have hb : bal (.pair a.st (TT.pair l (.pair m d1 d2) b2).st) = .pair (.pair a.st d1.st) (.pair d2.st b2.st) := by
            have e1 : (TT.pair l (.pair m d1 d2) b2).st.high = htc := HTC.out
            have e2 : (TT.pair m d1 d2).st.high = t1 := HT1.out
            simp only [bal]
            rw [if_neg (by rw [e1, HTA.out]; exact hr), if_pos (by rw [e1, HTA.out]; exact hl), if_pos (by show b2.st.high < (TT.pair m d1 d2).st.high; rw [HT2.out, e2]; exact HD.out)]
            rfl
          have H7 := Lib.hid h7
          have G7 := Lib.hid g7
          have T7 := Lib.hid t7
          have K7 := Lib.hid kp7
          have L7 := Lib.hid ln7
          have HB := Lib.hid hb
          clear h7 g7 t7 kp7 ln7 hb
          go_wp2_with fail
          go_ret
          refine ⟨⟨.pair m (.pair k a d1) (.pair l d2 b2), xs7, _, rfl, H7.out, T7.out, HB.out.symm, ?_, ?_, fun j hj => ?_, ?_, by have := HV3.out; omega, by have := HV3.out; omega⟩, ?_⟩
          · rw [List.perm_iff_count]; intro j; simp only [TT.nums, List.count_append, List.count_cons]; omega
          · simp [TT.bl]
          · have j1 : j ≠ k := fun e => hj (e ▸ TT.mem_k)
            have j2 : j ≠ l := fun e => hj (e ▸ TT.mem_r TT.mem_k)
            have j3 : j ≠ m := fun e => hj (e ▸ TT.mem_r (TT.mem_l TT.mem_k))
            rw [K7.out j j1 j3, set_ne j1, HK5.out j j2 j3, HK1.out j j1]
          · rw [L7.out, List.length_set, HL5.out, HL1.out]
          · exact (((HG4.out.drew).trans HG5C.out (fun _ h => Or.inl h)).trans G6.out (fun _ h => Or.inl h)).trans (H6.out.chgRow G7.out) (fun _ h => Or.inl h)
        · have d3 : decide (t2 < t1) = false := decide_eq_false hd
          go_wp2_with fail
          -- REGION lb
          refine reg_start (fun w' => w'.cell? ⟨p, 1, none⟩ = some (.slice (some ⟨g, 0, none⟩) xs1.length rc) ∧ w'.cell? ⟨g, l * 8, none⟩ = some (.int .i64 n1) ∧ w'.cell? ⟨g, l * 8 + 1, none⟩ = some (.int .i64 n2)) (by kernel_rfl) ?hilb (fun hHeld => ?_)
          case hilb => (refine ⟨?_, ?_, ?_⟩ <;> go_simp)
          refine reg_take (i := 0) (v := ?vlb0) rfl (by kernel_rfl) rfl hHeld ?ylb0 ?rlb0
          case ylb0 => (intro w hSw; (try dsimp only at hSw); go_simp; all_goals with_reducible rfl)
          try simp only [Act.put, List.setIfInBounds_toArray, List.set_cons_zero, List.set_cons_succ]
          refine reg_take (i := 1) (v := ?vlb1) rfl (by kernel_rfl) rfl hHeld ?ylb1 ?rlb1
          case ylb1 => (intro w hSw; (try dsimp only at hSw); go_simp; all_goals with_reducible rfl)
          try simp only [Act.put, List.setIfInBounds_toArray, List.set_cons_zero, List.set_cons_succ]
          refine reg_take (i := 2) (v := ?vlb2) rfl (by kernel_rfl) rfl hHeld ?ylb2 ?rlb2
          case ylb2 => (intro w hSw; (try dsimp only at hSw); go_simp; all_goals with_reducible rfl)
          try simp only [Act.put, List.setIfInBounds_toArray, List.set_cons_zero, List.set_cons_succ]
          refine reg_take (i := 3) (v := ?vlb3) rfl (by kernel_rfl) rfl hHeld ?ylb3 ?rlb3
          case ylb3 => (intro w hSw; (try dsimp only at hSw); go_simp; all_goals with_reducible rfl)
          try simp only [Act.put, List.setIfInBounds_toArray, List.set_cons_zero, List.set_cons_succ]
          refine reg_take (i := 4) (v := ?vlb4) rfl (by kernel_rfl) rfl hHeld ?ylb4 ?rlb4
          case ylb4 => (intro w hSw; (try dsimp only at hSw); go_simp; all_goals with_reducible rfl)
          try simp only [Act.put, List.setIfInBounds_toArray, List.set_cons_zero, List.set_cons_succ]
          refine reg_take (i := 5) (v := ?vlb5) rfl (by kernel_rfl) rfl hHeld ?ylb5 ?rlb5
          case ylb5 => (intro w hSw; (try dsimp only at hSw); go_simp; all_goals with_reducible rfl)
          try simp only [Act.put, List.setIfInBounds_toArray, List.set_cons_zero, List.set_cons_succ]
          refine reg_take (i := 6) (v := ?vlb6) rfl (by kernel_rfl) rfl hHeld ?ylb6 ?rlb6
          case ylb6 => (intro w hSw; (try dsimp only at hSw); go_simp; all_goals with_reducible rfl)
          try simp only [Act.put, List.setIfInBounds_toArray, List.set_cons_zero, List.set_cons_succ]
          refine reg_take (i := 7) (v := ?vlb7) rfl (by kernel_rfl) rfl hHeld ?ylb7 ?rlb7
          case ylb7 => (intro w hSw; (try dsimp only at hSw); go_simp; all_goals with_reducible rfl)
          try simp only [Act.put, List.setIfInBounds_toArray, List.set_cons_zero, List.set_cons_succ]
          refine reg_take (i := 8) (v := ?vlb8) rfl (by kernel_rfl) rfl hHeld ?ylb8 ?rlb8
          case ylb8 => (intro w hSw; (try dsimp only at hSw); go_simp; all_goals with_reducible rfl)
          try simp only [Act.put, List.setIfInBounds_toArray, List.set_cons_zero, List.set_cons_succ]
          refine reg_take (i := 10) (v := ?vlb10) rfl (by kernel_rfl) rfl hHeld ?ylb10 ?rlb10
          case ylb10 => (intro w hSw; (try dsimp only at hSw); go_simp; all_goals with_reducible rfl)
          try simp only [Act.put, List.setIfInBounds_toArray, List.set_cons_zero, List.set_cons_succ]
          refine reg_take (i := 11) (v := ?vlb11) rfl (by kernel_rfl) rfl hHeld ?ylb11 ?rlb11
          case ylb11 => (intro w hSw; (try dsimp only at hSw); go_simp; all_goals with_reducible rfl)
          try simp only [Act.put, List.setIfInBounds_toArray, List.set_cons_zero, List.set_cons_succ]
          refine reg_take (i := 12) (v := ?vlb12) rfl (by kernel_rfl) rfl hHeld ?ylb12 ?rlb12
          case ylb12 => (intro w hSw; (try dsimp only at hSw); go_simp; all_goals with_reducible rfl)
          try simp only [Act.put, List.setIfInBounds_toArray, List.set_cons_zero, List.set_cons_succ]
          refine reg_take (i := 13) (v := ?vlb13) rfl (by kernel_rfl) rfl hHeld ?ylb13 ?rlb13
          case ylb13 => (intro w hSw; (try dsimp only at hSw); go_simp; all_goals with_reducible rfl)
          try simp only [Act.put, List.setIfInBounds_toArray, List.set_cons_zero, List.set_cons_succ]
          refine reg_take (i := 14) (v := ?vlb14) rfl (by kernel_rfl) rfl hHeld ?ylb14 ?rlb14
          case ylb14 => (intro w hSw; (try dsimp only at hSw); go_simp; all_goals with_reducible rfl)
          try simp only [Act.put, List.setIfInBounds_toArray, List.set_cons_zero, List.set_cons_succ]
          refine reg_take (i := 15) (v := ?vlb15) rfl (by kernel_rfl) rfl hHeld ?ylb15 ?rlb15
          case ylb15 => (intro w hSw; (try dsimp only at hSw); go_simp; all_goals with_reducible rfl)
          try simp only [Act.put, List.setIfInBounds_toArray, List.set_cons_zero, List.set_cons_succ]
          refine reg_take (i := 16) (v := ?vlb16) rfl (by kernel_rfl) rfl hHeld ?ylb16 ?rlb16
          case ylb16 => (intro w hSw; (try dsimp only at hSw); go_simp; all_goals with_reducible rfl)
          try simp only [Act.put, List.setIfInBounds_toArray, List.set_cons_zero, List.set_cons_succ]
          refine reg_take (i := 17) (v := ?vlb17) rfl (by kernel_rfl) rfl hHeld ?ylb17 ?rlb17
          case ylb17 => (intro w hSw; (try dsimp only at hSw); go_simp; all_goals with_reducible rfl)
          try simp only [Act.put, List.setIfInBounds_toArray, List.set_cons_zero, List.set_cons_succ]
          refine reg_take (i := 18) (v := ?vlb18) rfl (by kernel_rfl) rfl hHeld ?ylb18 ?rlb18
          case ylb18 => (intro w hSw; (try dsimp only at hSw); go_simp; all_goals with_reducible rfl)
          try simp only [Act.put, List.setIfInBounds_toArray, List.set_cons_zero, List.set_cons_succ]
          refine reg_loud (i := 9) rfl (by kernel_rfl) rfl (fun K hK => ?_)
          go_simp
          ((with_reducible refine (tHigh_any HH3.out.drew (by omega) (by omega) HR2.out).mono ?_))
          rintro e w2 ⟨rfl, rfl⟩
          rw [b2.nd_high, HT2.out]
          refine hK.out _ _ ?kplb9 (fun hNew => ?_)
          case kplb9 => (refine ⟨?_, ?_, ?_⟩ <;> go_simp)
          clear hK K hHeld
          have hHeld := hNew
          clear hNew
          try simp only [Act.put, List.setIfInBounds_toArray, List.set_cons_zero, List.set_cons_succ]
          refine reg_loud (i := 19) rfl (by kernel_rfl) rfl (fun K hK => ?_)
          go_simp
          ((with_reducible refine (tHigh_any (HH3.out.set3 (v3 + 1)).drew (by omega) (by omega) HR1.out).mono ?_))
          rintro e w2 ⟨rfl, rfl⟩
          rw [b1.nd_high, HT1.out]
          refine hK.out _ _ ?kplb19 (fun hNew => ?_)
          case kplb19 => (refine ⟨?_, ?_, ?_⟩ <;> go_simp)
          clear hK K hHeld
          have hHeld := hNew
          clear hNew
          try simp only [Act.put, List.setIfInBounds_toArray, List.set_cons_zero, List.set_cons_succ]
          refine reg_take (i := 20) (v := ?vlb20) rfl (by kernel_rfl) rfl hHeld ?ylb20 ?rlb20
          case ylb20 => (intro w hSw; (try dsimp only at hSw); go_simp; all_goals with_reducible rfl)
          try simp only [Act.put, List.setIfInBounds_toArray, List.set_cons_zero, List.set_cons_succ]
          refine reg_done (by kernel_rfl) ?_ _
          -- END OF REGION lb
          have hh4 := (HH3.out.set3 (v3 + 1)).drew.set3 (v3 + 1 + 1)
          have hg4 : Chg C w (((W3.setCell ⟨p, 3, none⟩ (.int .i64 (v3 + 1))).drew.setCell ⟨p, 3, none⟩ (.int .i64 (v3 + 1 + 1)))) := ((HG3.out.setCell _ (Or.inl HH3.out.self) _).drew).setCell _ (Or.inl HH3.out.self) _
          have ht4 : Sub (((W3.setCell ⟨p, 3, none⟩ (.int .i64 (v3 + 1))).drew.setCell ⟨p, 3, none⟩ (.int .i64 (v3 + 1 + 1)))) xs1 (.pair k a (.pair l b1 b2)) := HT3.out.chgC HH3.out (((Chg.refl.setCell _ (Or.inl HH3.out.self) _).drew).setCell _ (Or.inl HH3.out.self) _) (fun _ _ => rfl)
          have r4 := hHeld.1
          clear hHeld
          generalize (((W3.setCell ⟨p, 3, none⟩ (.int .i64 (v3 + 1))).drew.setCell ⟨p, 3, none⟩ (.int .i64 (v3 + 1 + 1)))) = W4 at *
          go_wp2_with fail
          obtain ⟨q2, q1, q4, q3, q5'⟩ := HN3.out
          have q5 : ∀ j, j ∈ (TT.pair l b1 b2).nums → j ∉ a.nums := fun j h1 h2 => q5' j h2 h1
          obtain ⟨q6, q7, q8, q9, q10⟩ := TT.dis q3
          have hkl : k ≠ l := by rintro rfl; exact q1 TT.mem_k
          have HTR := Lib.hid (tTurnLeft hh4 (k := k) (l := l) (x := (TT.pair k a (.pair l b1 b2)).nd) (y := (TT.pair l b1 b2).nd) (a := a) (b := b1) (c := b2) ht4.1 rfl rfl rfl ht4.2.2.1 rfl rfl rfl ht4.2.1 ht4.2.2.2.1 ht4.2.2.2.2 hkl q2 (fun hj => q1 (TT.mem_l hj)) (fun hj => q1 (TT.mem_r hj)) (q5 _ TT.mem_k) q6 q7 (by
              obtain ⟨g1, g2⟩ := hs; simp only [TT.st, ST.bits, ST.high, List.length_append] at g1 g2; refine ⟨?_, ?_⟩ <;> simp only [ST.bits, ST.high, List.length_append] <;> omega) hs.r.r)
          have H4 := Lib.hid hh4
          have HG4 := Lib.hid hg4
          have HD := Lib.hid hd
          clear hh4 hg4 ht4 q1 q2 q3 q4 q5 q5' q6 q7 q8 q9 q10 hkl m0 m1 r3 hd
          refine HTR.out.mono ?_
          rintro e w7 ⟨rfl, xs7, h7, g7, t7, kp7, ln7⟩
          have hb : bal (.pair a.st (TT.pair l b1 b2).st) = .pair (.pair a.st b1.st) b2.st := by
            have e1 : (TT.pair l b1 b2).st.high = htc := HTC.out
            simp only [bal]
            rw [if_neg (by rw [e1, HTA.out]; exact hr), if_pos (by rw [e1, HTA.out]; exact hl), if_neg (by show ¬ b2.st.high < b1.st.high; rw [HT1.out, HT2.out]; exact HD.out)]
            rfl
          have H7 := Lib.hid h7
          have G7 := Lib.hid g7
          have T7 := Lib.hid t7
          have K7 := Lib.hid kp7
          have L7 := Lib.hid ln7
          have HB := Lib.hid hb
          clear h7 g7 t7 kp7 ln7 hb
          go_wp2_with fail
          go_ret
          refine ⟨⟨.pair l (.pair k a b1) b2, xs7, _, rfl, H7.out, T7.out, HB.out.symm, ?_, ?_, fun j hj => ?_, ?_, by have := HV3.out; omega, by have := HV3.out; omega⟩, ?_⟩
          · rw [List.perm_iff_count]; intro j; simp only [TT.nums, List.count_append, List.count_cons]; omega
          · simp [TT.bl]
          · have j1 : j ≠ k := fun e => hj (e ▸ TT.mem_k)
            have j2 : j ≠ l := fun e => hj (e ▸ TT.mem_r TT.mem_k)
            rw [K7.out j j1 j2, HK1.out j j1]
          · rw [L7.out, HL1.out]
          · exact HG4.out.trans (H4.out.chgRow G7.out) (fun _ h => Or.inl h)
    · have d2 : decide ((hta : Int) - (htc : Int) < -1) = false := decide_eq_false (by omega)
      have hb : bal (.pair a.st c.st) = .pair a.st c.st := by
        simp only [bal]; rw [if_neg (by rw [HTA.out, HTC.out]; exact hr), if_neg (by rw [HTA.out, HTC.out]; exact hl)]
      have HB := Lib.hid hb
      clear hb
      go_wp2_with fail
      go_ret
      exact ⟨⟨.pair k a c, xs1, _, rfl, HH3.out, HT3.out, HB.out.symm, List.Perm.refl _, rfl, fun j hj => HK1.out j (fun e => hj (e ▸ TT.mem_k)), HL1.out, by have := HV3.out; omega, by have := HV3.out; omega⟩, HG3.out⟩

end Go.Proofs.YtcppgpjodfeigaaDoor

namespace Go.Proofs.YtcppgpjodfeigaaDoor
set_option linter.unusedVariables false
set_option linter.unusedSimpArgs false
open Go.RowKit

theorem Tryd.infoNode : (Tryd.prog.info? 88).map (fun i => (i.zero, i.size, i.bytes)) = some (some (.agg #[.int .i64 0, .int .i64 0, .int .i64 0, .int .i64 0, .int .i64 0, .int .i64 0, .int .i64 0, .pointer none]), 8, 64) := by kernel_rfl

/-- 's = append(s, x)' of one element of eight cells, one operation. -/
theorem wp_push8 {P : Program} {w : World} {o : Oper} {a : Act} {K : Act → World → Prop} {Q : Exit → Act → World → Prop} {e' : TypeId} {us : List Value} (s x : Operand) (t : TypeId)
    (ho : o.op = .call { callee := .builtin .append, args := #[s, x], argTypes := #[t, t] })
    (base : Nat) (e : TypeId) {z : Value} {bytes : Nat} (hinfo : (P.info? e).map (fun i => (i.zero, i.size, i.bytes)) = some (some z, 8, bytes)) (ht : P.underlying t = some (.slice e)) (hz1 : z.cells.size = 8)
    (v : Value) (n : Nat) (xs : List Value) (hs : a.eval s = v) (hown : w.ownsRow base e 8 v n xs)
    (hx : a.eval x = .slice (some ⟨w.heap.size, 0, none⟩) 1 1) (hu : us.length = 8) (h1 : ∀ u ∈ us, u.oneCell' = true)
    (h63 : n + 1 ≤ maxLen) (hbytes : (n + 1) * bytes ≤ 140737488355328) (hbase : base ≤ w.heap.size)
    (h : ∀ g cap w', w'.ownsRow base e 8 (.slice (some ⟨g, 0, none⟩) (n + 1) cap) (n + 1) (xs ++ us) → w.grownBy w' v.ownBlock → (v.ownBlock = some g ∨ w.heap.size ≤ g) → g < w'.heap.size →
      K (a.put o.dst (.slice (some ⟨g, 0, none⟩) (n + 1) cap)) w') : Oper.wp P o a (w.alloc (.cells us.toArray e')) K Q := by
  obtain ⟨i, hi, hz, hsz, hby⟩ := info_parts hinfo
  refine wp_append_lies (w.alloc (.cells us.toArray e')) s x t ho base e i z 8 bytes ht hi hz hsz hby hz1 (by omega) v n xs hs (hown.alloc _) ⟨w.heap.size, 0, none⟩ 1 1 us hx (by omega) ?_ h1 (by omega) h63 hbytes ?_ _ rfl ?_
  · intro j u hj
    rw [Addr.add_lit, Nat.zero_add, cell_of_row _ _ j _ _ _ (heap_alloc_new w _), List.getElem?_toArray, hj]
  · simp; omega
  · intro g cap w' h1 h2 h3 h4
    exact h g cap w' h1 ⟨h2.os, h2.tape, h2.output, by have := h2.size; simp at this; omega, fun k hk hne => by
      rw [h2.block k (by simp; omega) hne]; exact Below.heap_alloc w _ k hk⟩ (h3.imp id (fun h => by simp at h; omega)) h4

section
variable {w w' : World} {p : Nat} {C : Nat → Prop} {A : Ar} {xs : List Nd} {root vis : Int}
theorem HStep.of_below {C : Nat → Prop} (h : Below w.heap.size w w') : HStep w w' C C := ⟨Chg.of_below h, fun k hk => Or.inl hk⟩
theorem Head.see1 (h : Head w p C A xs root vis) : ∃ ra rc, w.cell? ⟨p, 1, none⟩ = some (.slice ra xs.length rc) ∧ w.ownsRow 0 88 8 (.slice ra xs.length rc) xs.length (cellsN xs) := by
  obtain ⟨ap, SA, ra, rc, hp, ha, ho, hC⟩ := h.ex
  exact ⟨ra, rc, by rw [cell_of_row w p 1 _ _ _ hp]; rfl, ho⟩
/-- The row of nodes has grown by one. -/
theorem Head.grow (h : Head w p C A xs root vis) {ra : Option Addr} {rc : Nat} (h1 : w.cell? ⟨p, 1, none⟩ = some (.slice ra xs.length rc)) {g cap : Nat} {x : Nd}
    (hown : w'.ownsRow 0 88 8 (.slice (some ⟨g, 0, none⟩) (xs.length + 1) cap) (xs.length + 1) (cellsN xs ++ x.cells)) (hg : w.grownBy w' (Value.slice ra xs.length rc).ownBlock) (hor : (Value.slice ra xs.length rc).ownBlock = some g ∨ w.heap.size ≤ g) :
    ∃ C', Head (w'.setCell ⟨p, 1, none⟩ (.slice (some ⟨g, 0, none⟩) (xs.length + 1) cap)) p C' A (xs ++ [x]) root vis ∧ HStep w (w'.setCell ⟨p, 1, none⟩ (.slice (some ⟨g, 0, none⟩) (xs.length + 1) cap)) C C' := by
  obtain ⟨ap, SA, ra', rc', hp, ha, ho, hC⟩ := h.ex
  have e0 : ra' = ra ∧ rc' = rc := by
    rw [cell_of_row w p 1 _ _ _ hp] at h1
    have h1 : some (Value.slice ra' xs.length rc') = some (.slice ra xs.length rc) := h1
    injection h1 with h1
    injection h1 with e1 _ e3
    exact ⟨e1, e3⟩
  obtain ⟨rfl, rfl⟩ := e0
  have hT : TypeAt w p 83 := ⟨_, hp⟩
  have hob : ∀ k, (Value.slice ra' xs.length rc').ownBlock = some k ↔ ra' = some ⟨k, 0, none⟩ := fun k => ownBlock_addr (own_addr ho)
  have hne : ∀ k T, TypeAt w k T → T ≠ 88 → (Value.slice ra' xs.length rc').ownBlock ≠ some k := by
    intro k T hk hT e
    rw [(hob k).1 e] at ho
    exact (own_type ho).ne hk (fun e => hT e.symm) rfl
  have hc1 : Chg (fun k => ra' = some ⟨k, 0, none⟩) w w' := Chg.refl.grown hg (fun k hk => Or.inl ((hob k).1 hk))
  have hp' := hc1.heap hp (fun e => hne p _ hT (by decide) ((hob p).2 e))
  have ha' : IsArena w' ap SA A := ha.chg hc1 (fun k hk e => by
    rcases ha.types hk with t | t | t <;> exact hne k _ t (by decide) ((hob k).2 e))
  have hgp : g ≠ p := by
    rcases hor with e | e
    · rintro rfl; exact hne _ _ hT (by decide) e
    · have := hT.lt; omega
  have hgT : TypeAt w' g 88 := own_type hown
  have hc2 : Chg (fun k => k = p) w' (w'.setCell ⟨p, 1, none⟩ (.slice (some ⟨g, 0, none⟩) (xs.length + 1) cap)) := Chg.refl.setCell (S := fun k => k = p) ⟨p, 1, none⟩ (Or.inl rfl) _
  refine ⟨fun k => k = p ∨ SA k ∨ (some (⟨g, 0, none⟩ : Addr)) = some ⟨k, 0, none⟩, ⟨ap, SA, some ⟨g, 0, none⟩, cap, ?_, ha'.chg hc2 (fun k hk e => ?_), ?_, fun k => Iff.rfl⟩, ?_, fun k hk => ?_⟩
  · have := heap_setCell_same w' p 1 _ _ (.slice (some ⟨g, 0, none⟩) (xs.length + 1) cap) hp'
    rw [List.length_append]; exact this
  · subst e
    rcases ha.types hk with t | t | t <;> exact t.ne hT (by decide) rfl
  · rw [List.length_append, cellsN_app, show cellsN [x] = x.cells by simp [cellsN]]
    exact hc2.own hown (fun k hk e => by
      simp [Value.ownBlock] at hk
      omega)
  · refine (hc1.mono (fun k e => (hC k).2 (Or.inr (Or.inr e)))).trans hc2 (fun k e => Or.inl (by subst e; exact (hC _).2 (Or.inl rfl)))
  · rcases hk with rfl | hk | hk
    · exact Or.inl ((hC _).2 (Or.inl rfl))
    · exact Or.inl ((hC _).2 (Or.inr (Or.inl hk)))
    · injection hk with hk
      injection hk with hk _ _
      subst hk
      rcases hor with e | e
      · exact Or.inl ((hC _).2 (Or.inr (Or.inr ((hob _).1 e))))
      · exact Or.inr e
end

theorem Nd.one (x : Nd) : ∀ u ∈ x.cells, u.oneCell' = true := by
  intro u hu
  simp only [Nd.cells, List.mem_cons, List.not_mem_nil, or_false] at hu
  rcases hu with rfl | rfl | rfl | rfl | rfl | rfl | rfl | rfl <;> first | rfl | (unfold ptrN; rfl)

/-- A whole node is written. -/
theorem Head.puts8 {w : World} {p : Nat} {C : Nat → Prop} {A : Ar} {xs : List Nd} {root vis : Int} (h : Head w p C A xs root vis) {g n rc : Nat} (hg : w.cell? ⟨p, 1, none⟩ = some (.slice (some ⟨g, 0, none⟩) n rc)) {k : Nat} {xk : Nd} (hx : xs[k]? = some xk) (x : Nd) {pb : Option Addr} (hpb : ptrN x.b = .pointer pb) :
    Head ((((((((w.setCell ⟨g, k * 8, none⟩ (.int .i64 x.left)).setCell ⟨g, k * 8 + 1, none⟩ (.int .i64 x.right)).setCell ⟨g, k * 8 + 2, none⟩ (.int .i64 x.height)).setCell ⟨g, k * 8 + 3, none⟩ (.int .i64 x.n)).setCell ⟨g, k * 8 + 4, none⟩ (.int .i64 x.ones)).setCell ⟨g, k * 8 + 5, none⟩ (.int .i64 x.ln)).setCell ⟨g, k * 8 + 6, none⟩ (.int .i64 x.lones)).setCell ⟨g, k * 8 + 7, none⟩ (.pointer pb)) p C A (xs.set k x) root vis ∧ Chg (fun b => b = g) w ((((((((w.setCell ⟨g, k * 8, none⟩ (.int .i64 x.left)).setCell ⟨g, k * 8 + 1, none⟩ (.int .i64 x.right)).setCell ⟨g, k * 8 + 2, none⟩ (.int .i64 x.height)).setCell ⟨g, k * 8 + 3, none⟩ (.int .i64 x.n)).setCell ⟨g, k * 8 + 4, none⟩ (.int .i64 x.ones)).setCell ⟨g, k * 8 + 5, none⟩ (.int .i64 x.ln)).setCell ⟨g, k * 8 + 6, none⟩ (.int .i64 x.lones)).setCell ⟨g, k * 8 + 7, none⟩ (.pointer pb)) := by
  rw [← hpb]
  obtain ⟨_, _, hk, _⟩ := h.node hg hx
  have key : ∀ y : Nd, (xs.set k y)[k]? = some y := fun y => by rw [List.getElem?_set, if_pos rfl, if_pos hk]
  obtain ⟨h1, c1, g1⟩ := h.put hg hx (i := 0) (v := .int .i64 x.left) (x' := ⟨x.left, xk.right, xk.height, xk.n, xk.ones, xk.ln, xk.lones, xk.b⟩) (by omega) rfl
  obtain ⟨h2, c2, g2⟩ := h1.put g1 (key _) (i := 1) (v := .int .i64 x.right) (x' := ⟨x.left, x.right, xk.height, xk.n, xk.ones, xk.ln, xk.lones, xk.b⟩) (by omega) rfl
  rw [List.set_set] at h2
  obtain ⟨h3, c3, g3⟩ := h2.put g2 (key _) (i := 2) (v := .int .i64 x.height) (x' := ⟨x.left, x.right, x.height, xk.n, xk.ones, xk.ln, xk.lones, xk.b⟩) (by omega) rfl
  rw [List.set_set] at h3
  obtain ⟨h4, c4, g4⟩ := h3.put g3 (key _) (i := 3) (v := .int .i64 x.n) (x' := ⟨x.left, x.right, x.height, x.n, xk.ones, xk.ln, xk.lones, xk.b⟩) (by omega) rfl
  rw [List.set_set] at h4
  obtain ⟨h5, c5, g5⟩ := h4.put g4 (key _) (i := 4) (v := .int .i64 x.ones) (x' := ⟨x.left, x.right, x.height, x.n, x.ones, xk.ln, xk.lones, xk.b⟩) (by omega) rfl
  rw [List.set_set] at h5
  obtain ⟨h6, c6, g6⟩ := h5.put g5 (key _) (i := 5) (v := .int .i64 x.ln) (x' := ⟨x.left, x.right, x.height, x.n, x.ones, x.ln, xk.lones, xk.b⟩) (by omega) rfl
  rw [List.set_set] at h6
  obtain ⟨h7, c7, g7⟩ := h6.put g6 (key _) (i := 6) (v := .int .i64 x.lones) (x' := ⟨x.left, x.right, x.height, x.n, x.ones, x.ln, x.lones, xk.b⟩) (by omega) rfl
  rw [List.set_set] at h7
  obtain ⟨h8, c8, g8⟩ := h7.put g7 (key _) (i := 7) (v := ptrN x.b) (x' := x) (by omega) rfl
  rw [List.set_set] at h8
  exact ⟨h8, ((((((c1.trans c2 (fun _ h => Or.inl h)).trans c3 (fun _ h => Or.inl h)).trans c4 (fun _ h => Or.inl h)).trans c5 (fun _ h => Or.inl h)).trans c6 (fun _ h => Or.inl h)).trans c7 (fun _ h => Or.inl h)).trans c8 (fun _ h => Or.inl h)⟩

/-- What a new node leaves. -/
structure NodePost (w w' : World) (p : Nat) (C : Nat → Prop) (A : Ar) (xs : List Nd) (root vis : Int) (y : Nd) (e : Ending) : Prop where
  ex : ∃ (k : Nat) (C' : Nat → Prop) (A' : Ar) (xs' : List Nd), e = .returned (.int .i64 k) ∧ Head w' p C' A' xs' root vis ∧ HStep w w' C C' ∧ xs'.length = A'.T.length ∧ xs'[k]? = some y ∧ A.T[k]? ≠ some true ∧
    (∀ j : Nat, A.T[j]? = some true → xs'[j]? = xs[j]? ∧ A'.T[j]? = some true) ∧ A'.T[k]? = some true ∧ A'.live = A.live + 1 ∧ A'.M = A.M ∧ (A.F = [] → A'.F = [])

def boxN (x : Nd) : Obj := .cells x.cells.toArray 88

set_option maxHeartbeats 3200000 in
set_option maxRecDepth 100000 in
theorem tNode_pop {w : World} {p : Nat} {C : Nat → Prop} {A : Ar} {xs : List Nd} {root vis : Int} (h : Head w p C A xs root vis) (hlen : xs.length = A.T.length) (hlive : A.live < A.M) (x y : Nd) {k : Nat} (hk : A.F.getLast? = some k)
    (hfix : ∀ (w1 : World) (C1 : Nat → Prop) (xs1 : List Nd), Head w1 p C1 (A.pop k) xs1 root vis → HStep w w1 C C1 → xs1[k]? = some x → (∀ j : Nat, A.T[j]? = some true → xs1[j]? = xs[j]?) →
      Calls Tryd.prog 102 #[.pointer (some ⟨p, 0, none⟩), .int .i64 k] w1 fun e w' => e = .returned (.tuple #[]) ∧ Head w' p C1 (A.pop k) (xs1.set k y) root vis ∧ Chg (RowB w1 p) w1 w') :
    Calls Tryd.prog 98 #[.pointer (some ⟨p, 0, none⟩), .agg x.cells.toArray] w fun e w' => NodePost w w' p C A xs root vis y e := by
  have h0 := h.below (below_alloc w (boxN x))
  obtain ⟨ap, SA, p0, hA, hsub, hstep⟩ := h0.arena
  have hok := hA.ok
  have hkT := hok.last_lt hk
  have hkF : A.T[k]? = some false := (hok.iff k).2 (List.mem_of_getLast? hk)
  have hTk := Lib.hid (arTake_pop hA (by omega) hk)
  have HST := Lib.hid hstep
  have hbox : (w.alloc (boxN x)).heap[w.heap.size]? = some (boxN x) := heap_alloc_new w _
  have hnb : ¬ SA w.heap.size := fun hs => by have := h.lt _ (hsub _ hs); omega
  have HBX : Hid (∀ w1 A', ArStep (w.alloc (boxN x)) w1 ap SA A' → w1.heap[w.heap.size]? = some (boxN x)) := fun w1 A' ⟨_, _, hc, _⟩ => hc.heap hbox hnb
  have HS0 : Hid (HStep w (w.alloc (boxN x)) C C) := HStep.of_below (below_alloc w _)
  have HF := Lib.hid hfix
  have HL := Lib.hid hlen
  have HKF := Lib.hid hkF
  have HOK := Lib.hid hok
  have hxk : k < xs.length := by omega
  have HLV := Lib.hid hlive
  have HK := Lib.hid hk
  have HLT : Hid (∀ j, C j → j < w.heap.size) := h.lt
  clear h h0 hA hsub hstep hbox hnb hfix hlen hkT hkF hok hlive hk
  unfold boxN at *
  go_enter Tryd.func98, Tryd.ntmps98
  go_wp2_with fail
  refine hTk.out.mono ?_
  rintro e w1 ⟨rfl, hst⟩
  obtain ⟨C1, h1, s1⟩ := HST.out _ _ hst
  have bx := HBX.out _ _ hst
  clear hst hTk HST HBX p0
  obtain ⟨g, rc, cur, r1, hgp, hCg, _⟩ := h1.row (by omega)
  obtain ⟨xk, hxk2⟩ : ∃ xk, xs[k]? = some xk := ⟨_, List.getElem?_eq_getElem hxk⟩
  obtain ⟨e0, e1, e2, e3, e4, e5, e6, e7⟩ := h1.eight r1 hxk2
  obtain ⟨_, fz, _⟩ := h1.node r1 hxk2
  have hs01 := HS0.out.trans s1
  have hgB : g ≠ w.heap.size := by
    rcases s1.new g hCg with e | e
    · have := HLT.out g e; omega
    · simp at e; omega
  obtain ⟨pb, hpb⟩ : ∃ pb, ptrN x.b = .pointer pb := ⟨_, rfl⟩
  obtain ⟨pk, hpk⟩ : ∃ pb, ptrN xk.b = .pointer pb := ⟨_, rfl⟩
  have b0 : w1.cell? ⟨w.heap.size, 0, none⟩ = some (.int .i64 x.left) := by rw [cell_of_row w1 _ 0 _ _ _ bx]; rfl
  have b1 : w1.cell? ⟨w.heap.size, 1, none⟩ = some (.int .i64 x.right) := by rw [cell_of_row w1 _ 1 _ _ _ bx]; rfl
  have b2 : w1.cell? ⟨w.heap.size, 2, none⟩ = some (.int .i64 x.height) := by rw [cell_of_row w1 _ 2 _ _ _ bx]; rfl
  have b3 : w1.cell? ⟨w.heap.size, 3, none⟩ = some (.int .i64 x.n) := by rw [cell_of_row w1 _ 3 _ _ _ bx]; rfl
  have b4 : w1.cell? ⟨w.heap.size, 4, none⟩ = some (.int .i64 x.ones) := by rw [cell_of_row w1 _ 4 _ _ _ bx]; rfl
  have b5 : w1.cell? ⟨w.heap.size, 5, none⟩ = some (.int .i64 x.ln) := by rw [cell_of_row w1 _ 5 _ _ _ bx]; rfl
  have b6 : w1.cell? ⟨w.heap.size, 6, none⟩ = some (.int .i64 x.lones) := by rw [cell_of_row w1 _ 6 _ _ _ bx]; rfl
  have b7 : w1.cell? ⟨w.heap.size, 7, none⟩ = some (.pointer pb) := by rw [cell_of_row w1 _ 7 _ _ _ bx, ← hpb]; rfl
  rw [hpk] at e7
  have z0 := fz (k * 8)
  have z1 := fz (k * 8 + 1)
  have z2 := fz (k * 8 + 2)
  have z3 := fz (k * 8 + 3)
  have z4 := fz (k * 8 + 4)
  have z5 := fz (k * 8 + 5)
  have z6 := fz (k * 8 + 6)
  have z7 := fz (k * 8 + 7)
  have H1 := Lib.hid h1
  have S01 := Lib.hid hs01
  have HX2 := Lib.hid hxk2
  have HPB := Lib.hid hpb
  have dk : ((k : Int) == (xs.length : Int)) = false := by rw [beq_eq_false_iff_ne]; omega
  clear h1 s1 bx hxk2 fz hs01 hpb hpk HS0 HLT hCg
  generalize w.heap.size = B0 at *
  obtain ⟨W2, hW2⟩ : ∃ W2, W2 = ((((((((w1.setCell ⟨g, k * 8, none⟩ (.int .i64 x.left)).setCell ⟨g, k * 8 + 1, none⟩ (.int .i64 x.right)).setCell ⟨g, k * 8 + 2, none⟩ (.int .i64 x.height)).setCell ⟨g, k * 8 + 3, none⟩ (.int .i64 x.n)).setCell ⟨g, k * 8 + 4, none⟩ (.int .i64 x.ones)).setCell ⟨g, k * 8 + 5, none⟩ (.int .i64 x.ln)).setCell ⟨g, k * 8 + 6, none⟩ (.int .i64 x.lones)).setCell ⟨g, k * 8 + 7, none⟩ (.pointer pb)).drew := ⟨_, rfl⟩
  have hp8 := H1.out.puts8 r1 HX2.out x HPB.out
  have h2 : Head W2 p C1 (A.pop k) (xs.set k x) root vis := by rw [hW2]; exact hp8.1.drew
  have c2 : Chg C1 w1 W2 := by rw [hW2]; exact (hp8.2.mono (fun b e => by subst e; exact H1.out.rowC ⟨_, _, r1⟩)).drew
  have hs2 := S01.out.trans ⟨c2, fun j hj => Or.inl hj⟩
  have hTk : ∀ j : Nat, A.T[j]? = some true → j ≠ k := by
    rintro j hj rfl
    have := HKF.out
    rw [hj] at this
    cases this
  have HFF := Lib.hid (HF.out W2 C1 (xs.set k x) h2 hs2 (set_get HX2.out) (fun j hj => set_ne (hTk j hj)))
  have HW2 := Lib.hid hW2
  have H2 := Lib.hid h2
  have HS2 := Lib.hid hs2
  have HTK := Lib.hid hTk
  clear hW2 hp8 h2 c2 hs2 hTk HF
  go_wp2_with fail
  -- REGION store
  refine reg_start (fun w' => w'.cell? ⟨p, 1, none⟩ = some (.slice (some ⟨g, 0, none⟩) xs.length rc) ∧ w'.cell? ⟨B0, 0, none⟩ = some (.int .i64 x.left) ∧ w'.cell? ⟨B0, 1, none⟩ = some (.int .i64 x.right) ∧ w'.cell? ⟨B0, 2, none⟩ = some (.int .i64 x.height) ∧ w'.cell? ⟨B0, 3, none⟩ = some (.int .i64 x.n) ∧ w'.cell? ⟨B0, 4, none⟩ = some (.int .i64 x.ones) ∧ w'.cell? ⟨B0, 5, none⟩ = some (.int .i64 x.ln) ∧ w'.cell? ⟨B0, 6, none⟩ = some (.int .i64 x.lones) ∧ w'.cell? ⟨B0, 7, none⟩ = some (.pointer pb)) (by kernel_rfl) ?hiq (fun hHeld => ?_)
  case hiq => (refine ⟨?_, ?_, ?_, ?_, ?_, ?_, ?_, ?_, ?_⟩ <;> go_simp)
  refine reg_take (i := 0) (v := ?vq0) rfl (by kernel_rfl) rfl hHeld ?yq0 ?rq0
  case yq0 => (intro w hSw; (try dsimp only at hSw); go_simp; all_goals with_reducible rfl)
  try simp only [Act.put, List.setIfInBounds_toArray, List.set_cons_zero, List.set_cons_succ]
  refine reg_take (i := 1) (v := ?vq1) rfl (by kernel_rfl) rfl hHeld ?yq1 ?rq1
  case yq1 => (intro w hSw; (try dsimp only at hSw); go_simp; all_goals with_reducible rfl)
  try simp only [Act.put, List.setIfInBounds_toArray, List.set_cons_zero, List.set_cons_succ]
  refine reg_take (i := 2) (v := ?vq2) rfl (by kernel_rfl) rfl hHeld ?yq2 ?rq2
  case yq2 => (intro w hSw; (try dsimp only at hSw); go_simp; all_goals with_reducible rfl)
  try simp only [Act.put, List.setIfInBounds_toArray, List.set_cons_zero, List.set_cons_succ]
  refine reg_take (i := 3) (v := ?vq3) rfl (by kernel_rfl) rfl hHeld ?yq3 ?rq3
  case yq3 => (intro w hSw; (try dsimp only at hSw); go_simp; all_goals with_reducible rfl)
  try simp only [Act.put, List.setIfInBounds_toArray, List.set_cons_zero, List.set_cons_succ]
  refine reg_take (i := 4) (v := ?vq4) rfl (by kernel_rfl) rfl hHeld ?yq4 ?rq4
  case yq4 => (intro w hSw; (try dsimp only at hSw); go_simp; all_goals with_reducible rfl)
  try simp only [Act.put, List.setIfInBounds_toArray, List.set_cons_zero, List.set_cons_succ]
  refine reg_take (i := 5) (v := ?vq5) rfl (by kernel_rfl) rfl hHeld ?yq5 ?rq5
  case yq5 => (intro w hSw; (try dsimp only at hSw); go_simp; all_goals with_reducible rfl)
  try simp only [Act.put, List.setIfInBounds_toArray, List.set_cons_zero, List.set_cons_succ]
  refine reg_take (i := 6) (v := ?vq6) rfl (by kernel_rfl) rfl hHeld ?yq6 ?rq6
  case yq6 => (intro w hSw; (try dsimp only at hSw); go_simp; all_goals with_reducible rfl)
  try simp only [Act.put, List.setIfInBounds_toArray, List.set_cons_zero, List.set_cons_succ]
  refine reg_loud (i := 7) rfl (by kernel_rfl) rfl (fun K hK => ?_)
  go_simp
  refine hK.out _ _ ?kpq7 (fun hNew => ?_)
  case kpq7 => (refine ⟨?_, ?_, ?_, ?_, ?_, ?_, ?_, ?_, ?_⟩ <;> go_simp)
  clear hK K hHeld
  have hHeld := hNew
  clear hNew
  try simp only [Act.put, List.setIfInBounds_toArray, List.set_cons_zero, List.set_cons_succ]
  refine reg_done (by kernel_rfl) ?_ _
  -- END OF REGION store
  go_wp2_with fail
  rw [← HW2.out]
  refine HFF.out.mono ?_
  rintro e w3 ⟨rfl, h3, c3⟩
  have H3 := Lib.hid h3
  have C3 := Lib.hid c3
  clear h3 c3 hHeld
  go_wp2_with fail
  go_ret
  refine ⟨⟨k, C1, A.pop k, _, rfl, H3.out, HS2.out.trans ⟨H2.out.chgRow C3.out, fun j hj => Or.inl hj⟩, ?_, set_get (set_get HX2.out), ?_, fun j hj => ⟨?_, ?_⟩, ?_, ?_, rfl, fun hF => by first | exact hF | (show A.F.dropLast = []; rw [hF]; rfl)⟩⟩
  · rw [List.length_set, List.length_set, HL.out]; simp [Ar.pop]
  · rw [HKF.out]; simp
  · rw [set_ne (HTK.out j hj), set_ne (HTK.out j hj)]
  · show (A.T.set k true)[j]? = some true
    rw [set_ne (HTK.out j hj)]; exact hj
  · exact set_get HKF.out
  · have e1 := HOK.out.fle
    have e2 : 0 < A.F.length := List.length_pos_iff.2 (by intro e; have := HK.out; rw [e] at this; cases this)
    show (A.T.set k true).length - A.F.dropLast.length = A.T.length - A.F.length + 1
    rw [List.length_set, List.length_dropLast]; omega

set_option maxHeartbeats 3200000 in
set_option maxRecDepth 100000 in
theorem tNode_more {w : World} {p : Nat} {C : Nat → Prop} {A : Ar} {xs : List Nd} {root vis : Int} (h : Head w p C A xs root vis) (hlen : xs.length = A.T.length) (hlive : A.live < A.M) (x y : Nd) (hk : A.F = []) (hlm : A.T.length ≤ 268435456)
    (hfix : ∀ (w1 : World) (C1 : Nat → Prop) (xs1 : List Nd), Head w1 p C1 (A.more) xs1 root vis → HStep w w1 C C1 → xs1[xs.length]? = some x → (∀ j : Nat, A.T[j]? = some true → xs1[j]? = xs[j]?) →
      Calls Tryd.prog 102 #[.pointer (some ⟨p, 0, none⟩), .int .i64 xs.length] w1 fun e w' => e = .returned (.tuple #[]) ∧ Head w' p C1 (A.more) (xs1.set xs.length y) root vis ∧ Chg (RowB w1 p) w1 w') :
    Calls Tryd.prog 98 #[.pointer (some ⟨p, 0, none⟩), .agg x.cells.toArray] w fun e w' => NodePost w w' p C A xs root vis y e := by
  have h0 := h.below (below_alloc w (boxN x))
  obtain ⟨ap, SA, p0, hA, hsub, hstep⟩ := h0.arena
  have hok := hA.ok
  have hTk0 := arTake_more hA (by omega) hk
  rw [← hlen] at hTk0
  have hTk := Lib.hid hTk0
  have HST := Lib.hid hstep
  have hbox : (w.alloc (boxN x)).heap[w.heap.size]? = some (boxN x) := heap_alloc_new w _
  have hnb : ¬ SA w.heap.size := fun hs => by have := h.lt _ (hsub _ hs); omega
  have HBX : Hid (∀ w1 A', ArStep (w.alloc (boxN x)) w1 ap SA A' → w1.heap[w.heap.size]? = some (boxN x)) := fun w1 A' ⟨_, _, hc, _⟩ => hc.heap hbox hnb
  have HS0 : Hid (HStep w (w.alloc (boxN x)) C C) := HStep.of_below (below_alloc w _)
  have HF := Lib.hid hfix
  have HL := Lib.hid hlen
  have HOK := Lib.hid hok
  have HLV := Lib.hid hlive
  have HK := Lib.hid hk
  have HLT : Hid (∀ j, C j → j < w.heap.size) := h.lt
  rw [← hlen] at hlm
  clear h h0 hA hsub hstep hbox hnb hfix hlen hok hlive hk hTk0
  unfold boxN at *
  go_enter Tryd.func98, Tryd.ntmps98
  go_wp2_with fail
  refine hTk.out.mono ?_
  rintro e w1 ⟨rfl, hst⟩
  obtain ⟨C1, h1, s1⟩ := HST.out _ _ hst
  have bx := HBX.out _ _ hst
  clear hst hTk HST HBX p0
  obtain ⟨ra, rc, r1, hown⟩ := h1.see1
  have hs01 := HS0.out.trans s1
  have hB1 : w.heap.size < w1.heap.size := (Array.getElem?_eq_some_iff.1 bx).1
  have hp := h1.lt p h1.self
  have fz := (h1.cells).2.2.2 1
  obtain ⟨pb, hpb⟩ : ∃ pb, ptrN x.b = .pointer pb := ⟨_, rfl⟩
  have b0 : w1.cell? ⟨w.heap.size, 0, none⟩ = some (.int .i64 x.left) := by rw [cell_of_row w1 _ 0 _ _ _ bx]; rfl
  have b1 : w1.cell? ⟨w.heap.size, 1, none⟩ = some (.int .i64 x.right) := by rw [cell_of_row w1 _ 1 _ _ _ bx]; rfl
  have b2 : w1.cell? ⟨w.heap.size, 2, none⟩ = some (.int .i64 x.height) := by rw [cell_of_row w1 _ 2 _ _ _ bx]; rfl
  have b3 : w1.cell? ⟨w.heap.size, 3, none⟩ = some (.int .i64 x.n) := by rw [cell_of_row w1 _ 3 _ _ _ bx]; rfl
  have b4 : w1.cell? ⟨w.heap.size, 4, none⟩ = some (.int .i64 x.ones) := by rw [cell_of_row w1 _ 4 _ _ _ bx]; rfl
  have b5 : w1.cell? ⟨w.heap.size, 5, none⟩ = some (.int .i64 x.ln) := by rw [cell_of_row w1 _ 5 _ _ _ bx]; rfl
  have b6 : w1.cell? ⟨w.heap.size, 6, none⟩ = some (.int .i64 x.lones) := by rw [cell_of_row w1 _ 6 _ _ _ bx]; rfl
  have b7 : w1.cell? ⟨w.heap.size, 7, none⟩ = some (.pointer pb) := by rw [cell_of_row w1 _ 7 _ _ _ bx, ← hpb]; rfl
  have H1 := Lib.hid h1
  have S01 := Lib.hid hs01
  have HPB := Lib.hid hpb
  have HO : Hid (w1.drew.ownsRow 0 88 8 (.slice ra xs.length rc) xs.length (cellsN xs)) := hown
  have HONE : Hid (∀ u ∈ [Value.int .i64 x.left, .int .i64 x.right, .int .i64 x.height, .int .i64 x.n, .int .i64 x.ones, .int .i64 x.ln, .int .i64 x.lones, .pointer pb], u.oneCell' = true) := by
    have h := x.one
    simp only [Nd.cells, hpb] at h
    exact h
  have HNP : Hid (some p ≠ (Value.slice ra xs.length rc).ownBlock ∧ some w.heap.size ≠ (Value.slice ra xs.length rc).ownBlock) := by
    refine ⟨fun e => ?_, fun e => ?_⟩
    · exact h1.rowNe ⟨_, _, by rw [r1, (ownBlock_addr (own_addr hown)).1 e.symm]⟩
    · have := h1.rowC ⟨_, _, by rw [r1, (ownBlock_addr (own_addr hown)).1 e.symm]⟩
      rcases s1.new _ this with e | e
      · have := HLT.out _ e; omega
      · simp at e; omega
  have hpB : ¬ p = w.heap.size := by
    rcases s1.new p h1.self with e | e
    · have := HLT.out p e; omega
    · simp at e; omega
  clear h1 s1 bx hs01 hpb HS0 HLT hown
  generalize w.heap.size = B0 at *
  go_upto_region 3 with fail
  go_cut [5] (fun v wx => v = .int .i64 xs.length ∧ ∃ C2, Head wx p C2 A.more (xs ++ [x]) root vis ∧ HStep w1 wx C1 C2)
  case first =>
    -- REGION app
    refine reg_start (fun w' => w'.cell? ⟨B0, 0, none⟩ = some (.int .i64 x.left) ∧ w'.cell? ⟨B0, 1, none⟩ = some (.int .i64 x.right) ∧ w'.cell? ⟨B0, 2, none⟩ = some (.int .i64 x.height) ∧ w'.cell? ⟨B0, 3, none⟩ = some (.int .i64 x.n) ∧ w'.cell? ⟨B0, 4, none⟩ = some (.int .i64 x.ones) ∧ w'.cell? ⟨B0, 5, none⟩ = some (.int .i64 x.ln) ∧ w'.cell? ⟨B0, 6, none⟩ = some (.int .i64 x.lones) ∧ w'.cell? ⟨B0, 7, none⟩ = some (.pointer pb)) (by kernel_rfl) ?hia (fun hHeld => ?_)
    case hia => (refine ⟨?_, ?_, ?_, ?_, ?_, ?_, ?_, ?_⟩ <;> go_simp)
    refine reg_take (i := 0) (v := ?va0) rfl (by kernel_rfl) rfl hHeld ?ya0 ?ra0
    case ya0 => (intro w hSw; (try dsimp only at hSw); go_simp; all_goals with_reducible rfl)
    try simp only [Act.put, List.setIfInBounds_toArray, List.set_cons_zero, List.set_cons_succ]
    refine reg_take (i := 1) (v := ?va1) rfl (by kernel_rfl) rfl hHeld ?ya1 ?ra1
    case ya1 => (intro w hSw; (try dsimp only at hSw); go_simp; all_goals with_reducible rfl)
    try simp only [Act.put, List.setIfInBounds_toArray, List.set_cons_zero, List.set_cons_succ]
    refine reg_take (i := 2) (v := ?va2) rfl (by kernel_rfl) rfl hHeld ?ya2 ?ra2
    case ya2 => (intro w hSw; (try dsimp only at hSw); go_simp; all_goals with_reducible rfl)
    try simp only [Act.put, List.setIfInBounds_toArray, List.set_cons_zero, List.set_cons_succ]
    refine reg_take (i := 3) (v := ?va3) rfl (by kernel_rfl) rfl hHeld ?ya3 ?ra3
    case ya3 => (intro w hSw; (try dsimp only at hSw); go_simp; all_goals with_reducible rfl)
    try simp only [Act.put, List.setIfInBounds_toArray, List.set_cons_zero, List.set_cons_succ]
    refine reg_take (i := 5) (v := ?va5) rfl (by kernel_rfl) rfl hHeld ?ya5 ?ra5
    case ya5 => (intro w hSw; (try dsimp only at hSw); go_simp; all_goals with_reducible rfl)
    try simp only [Act.put, List.setIfInBounds_toArray, List.set_cons_zero, List.set_cons_succ]
    refine wpAnyH_ready (rs := [4, 6]) (by kernel_rfl) (by simp) (all_cons rfl rfl (fun K hK => ?_) (all_cons rfl rfl (fun K hK => ?_) AllReadyH.nil))
    · go_simp
      refine hK.out _ _ ?k1p (fun hNew => ?_)
      case k1p => (refine ⟨?_, ?_, ?_, ?_, ?_, ?_, ?_, ?_⟩ <;> go_simp)
      clear hK K hHeld
      have hHeld := hNew
      clear hNew
      try simp only [Act.put, List.setIfInBounds_toArray, List.set_cons_zero, List.set_cons_succ]
      refine reg_loud (i := 6) rfl (by kernel_rfl) rfl (fun K hK => ?_)
      go_simp
      refine hK.out _ _ ?k2p (fun hNew => ?_)
      case k2p => (refine ⟨?_, ?_, ?_, ?_, ?_, ?_, ?_, ?_⟩ <;> go_simp)
      clear hK K hHeld
      have hHeld := hNew
      clear hNew
      try simp only [Act.put, List.setIfInBounds_toArray, List.set_cons_zero, List.set_cons_succ]
      refine reg_loud (i := 7) rfl (by kernel_rfl) rfl (fun K hK => ?_)
      refine wp_push8 (w := w1.drew) _ _ 81 rfl 0 88 Tryd.infoNode Tryd.underlying81 rfl _ _ _ rfl HO.out rfl rfl HONE.out (by unfold maxLen; omega) (by omega) (Nat.zero_le _) ?_
      intro g cap w2 hown2 hgrow hor hgl
      have u1 : w2.cell? ⟨p, 1, none⟩ = some (.slice ra xs.length rc) := hgrow.cell (w := w1.drew) r1 HNP.out.1
      have u2 : w2.frozen? ⟨p, 1, none⟩ = false := (World.frozen?_of_block (hgrow.block p hp HNP.out.1)).trans fz
      have v0 := hgrow.cell (w := w1.drew) b0 HNP.out.2
      have v1 := hgrow.cell (w := w1.drew) b1 HNP.out.2
      have v2 := hgrow.cell (w := w1.drew) b2 HNP.out.2
      have v3 := hgrow.cell (w := w1.drew) b3 HNP.out.2
      have v4 := hgrow.cell (w := w1.drew) b4 HNP.out.2
      have v5 := hgrow.cell (w := w1.drew) b5 HNP.out.2
      have v6 := hgrow.cell (w := w1.drew) b6 HNP.out.2
      have v7 := hgrow.cell (w := w1.drew) b7 HNP.out.2
      have hgr : ∃ C2, Head (w2.setCell ⟨p, 1, none⟩ (.slice (some ⟨g, 0, none⟩) (xs.length + 1) cap)) p C2 A.more (xs ++ [x]) root vis ∧ HStep w1 (w2.setCell ⟨p, 1, none⟩ (.slice (some ⟨g, 0, none⟩) (xs.length + 1) cap)) C1 C2 := by
        obtain ⟨C2, q1, q2⟩ := H1.out.drew.grow (x := x) (w' := w2) (g := g) (cap := cap) r1 (by rw [show x.cells = [Value.int .i64 x.left, .int .i64 x.right, .int .i64 x.height, .int .i64 x.n, .int .i64 x.ones, .int .i64 x.ln, .int .i64 x.lones, .pointer pb] by simp only [Nd.cells, HPB.out]]; exact hown2) hgrow hor
        exact ⟨C2, q1, ⟨(Chg.refl.drew).trans q2.chg (fun b hb => Or.inl hb), q2.new⟩⟩
      have HGR := Lib.hid hgr
      clear hgr hown2 hgrow hor hgl
      refine hK.out _ _ ?k3p (fun hNew => ?_)
      case k3p => exact ⟨v0, v1, v2, v3, v4, v5, v6, v7⟩
      clear hK K hHeld
      have hHeld := hNew
      clear hNew
      try simp only [Act.put, List.setIfInBounds_toArray, List.set_cons_zero, List.set_cons_succ]
      refine reg_take (i := 8) (v := ?vap8) rfl (by kernel_rfl) rfl hHeld ?yap8 ?rap8
      case yap8 => (intro w hSw; (try dsimp only at hSw); go_simp; all_goals with_reducible rfl)
      try simp only [Act.put, List.setIfInBounds_toArray, List.set_cons_zero, List.set_cons_succ]
      refine reg_take (i := 9) (v := ?vap9) rfl (by kernel_rfl) rfl hHeld ?yap9 ?rap9
      case yap9 => (intro w hSw; (try dsimp only at hSw); go_simp; all_goals with_reducible rfl)
      try simp only [Act.put, List.setIfInBounds_toArray, List.set_cons_zero, List.set_cons_succ]
      refine reg_loud (i := 10) rfl (by kernel_rfl) rfl (fun K hK => ?_)
      go_simp
      refine hK.out _ _ ?k4p (fun hNew => ?_)
      case k4p => (refine ⟨?_, ?_, ?_, ?_, ?_, ?_, ?_, ?_⟩ <;> go_simp)
      clear hK K hHeld
      have hHeld := hNew
      clear hNew
      try simp only [Act.put, List.setIfInBounds_toArray, List.set_cons_zero, List.set_cons_succ]
      refine reg_done (by kernel_rfl) ?_ _
      go_wp2_with fail
      go_meet
      case rel => exact ⟨rfl, HGR.out⟩
    · go_simp
      refine hK.out _ _ ?k1q (fun hNew => ?_)
      case k1q => (refine ⟨?_, ?_, ?_, ?_, ?_, ?_, ?_, ?_⟩ <;> go_simp)
      clear hK K hHeld
      have hHeld := hNew
      clear hNew
      try simp only [Act.put, List.setIfInBounds_toArray, List.set_cons_zero, List.set_cons_succ]
      refine reg_loud (i := 4) rfl (by kernel_rfl) rfl (fun K hK => ?_)
      go_simp
      refine hK.out _ _ ?k2q (fun hNew => ?_)
      case k2q => (refine ⟨?_, ?_, ?_, ?_, ?_, ?_, ?_, ?_⟩ <;> go_simp)
      clear hK K hHeld
      have hHeld := hNew
      clear hNew
      try simp only [Act.put, List.setIfInBounds_toArray, List.set_cons_zero, List.set_cons_succ]
      refine reg_loud (i := 7) rfl (by kernel_rfl) rfl (fun K hK => ?_)
      refine wp_push8 (w := w1.drew) _ _ 81 rfl 0 88 Tryd.infoNode Tryd.underlying81 rfl _ _ _ rfl HO.out rfl rfl HONE.out (by unfold maxLen; omega) (by omega) (Nat.zero_le _) ?_
      intro g cap w2 hown2 hgrow hor hgl
      have u1 : w2.cell? ⟨p, 1, none⟩ = some (.slice ra xs.length rc) := hgrow.cell (w := w1.drew) r1 HNP.out.1
      have u2 : w2.frozen? ⟨p, 1, none⟩ = false := (World.frozen?_of_block (hgrow.block p hp HNP.out.1)).trans fz
      have v0 := hgrow.cell (w := w1.drew) b0 HNP.out.2
      have v1 := hgrow.cell (w := w1.drew) b1 HNP.out.2
      have v2 := hgrow.cell (w := w1.drew) b2 HNP.out.2
      have v3 := hgrow.cell (w := w1.drew) b3 HNP.out.2
      have v4 := hgrow.cell (w := w1.drew) b4 HNP.out.2
      have v5 := hgrow.cell (w := w1.drew) b5 HNP.out.2
      have v6 := hgrow.cell (w := w1.drew) b6 HNP.out.2
      have v7 := hgrow.cell (w := w1.drew) b7 HNP.out.2
      have hgr : ∃ C2, Head (w2.setCell ⟨p, 1, none⟩ (.slice (some ⟨g, 0, none⟩) (xs.length + 1) cap)) p C2 A.more (xs ++ [x]) root vis ∧ HStep w1 (w2.setCell ⟨p, 1, none⟩ (.slice (some ⟨g, 0, none⟩) (xs.length + 1) cap)) C1 C2 := by
        obtain ⟨C2, q1, q2⟩ := H1.out.drew.grow (x := x) (w' := w2) (g := g) (cap := cap) r1 (by rw [show x.cells = [Value.int .i64 x.left, .int .i64 x.right, .int .i64 x.height, .int .i64 x.n, .int .i64 x.ones, .int .i64 x.ln, .int .i64 x.lones, .pointer pb] by simp only [Nd.cells, HPB.out]]; exact hown2) hgrow hor
        exact ⟨C2, q1, ⟨(Chg.refl.drew).trans q2.chg (fun b hb => Or.inl hb), q2.new⟩⟩
      have HGR := Lib.hid hgr
      clear hgr hown2 hgrow hor hgl
      refine hK.out _ _ ?k3q (fun hNew => ?_)
      case k3q => exact ⟨v0, v1, v2, v3, v4, v5, v6, v7⟩
      clear hK K hHeld
      have hHeld := hNew
      clear hNew
      try simp only [Act.put, List.setIfInBounds_toArray, List.set_cons_zero, List.set_cons_succ]
      refine reg_take (i := 8) (v := ?vaq8) rfl (by kernel_rfl) rfl hHeld ?yaq8 ?raq8
      case yaq8 => (intro w hSw; (try dsimp only at hSw); go_simp; all_goals with_reducible rfl)
      try simp only [Act.put, List.setIfInBounds_toArray, List.set_cons_zero, List.set_cons_succ]
      refine reg_take (i := 9) (v := ?vaq9) rfl (by kernel_rfl) rfl hHeld ?yaq9 ?raq9
      case yaq9 => (intro w hSw; (try dsimp only at hSw); go_simp; all_goals with_reducible rfl)
      try simp only [Act.put, List.setIfInBounds_toArray, List.set_cons_zero, List.set_cons_succ]
      refine reg_loud (i := 10) rfl (by kernel_rfl) rfl (fun K hK => ?_)
      go_simp
      refine hK.out _ _ ?k4q (fun hNew => ?_)
      case k4q => (refine ⟨?_, ?_, ?_, ?_, ?_, ?_, ?_, ?_⟩ <;> go_simp)
      clear hK K hHeld
      have hHeld := hNew
      clear hNew
      try simp only [Act.put, List.setIfInBounds_toArray, List.set_cons_zero, List.set_cons_succ]
      refine reg_done (by kernel_rfl) ?_ _
      go_wp2_with fail
      go_meet
      case rel => exact ⟨rfl, HGR.out⟩
    -- END OF REGION app
  case rest =>
    obtain ⟨rfl, C2, h2, s2⟩ := hcut
    have hs2 := S01.out.trans s2
    have hlt : ∀ j : Nat, A.T[j]? = some true → j < xs.length := fun j hj => by rw [HL.out]; exact (List.getElem?_eq_some_iff.1 hj).1
    have HLT := Lib.hid hlt
    have HFF := Lib.hid (HF.out wc C2 (xs ++ [x]) h2 hs2 (by simp) (fun j hj => List.getElem?_append_left (hlt j hj)))
    have H2 := Lib.hid h2
    have HS2 := Lib.hid hs2
    clear h2 s2 hs2 HF hlt b0 b1 b2 b3 b4 b5 b6 b7 hB1 hpB r1 hp fz
    go_wp2_with fail
    refine HFF.out.mono ?_
    rintro e w3 ⟨rfl, h3, c3⟩
    have H3 := Lib.hid h3
    have C3 := Lib.hid c3
    clear h3 c3
    go_wp2_with fail
    go_ret
    refine ⟨⟨xs.length, C2, A.more, _, rfl, H3.out, HS2.out.trans ⟨H2.out.chgRow C3.out, fun j hj => Or.inl hj⟩, ?_, set_get (x := x) (by simp), ?_, fun j hj => ⟨?_, ?_⟩, ?_, ?_, rfl, fun hF => by first | exact hF | (show A.F.dropLast = []; rw [hF]; rfl)⟩⟩
    · rw [List.length_set, List.length_append, HL.out]; simp [Ar.more]
    · rw [List.getElem?_eq_none (by rw [HL.out]; exact Nat.le_refl _)]; simp
    · rw [set_ne (by have := HLT.out j hj; omega), List.getElem?_append_left (HLT.out j hj)]
    · show (A.T ++ [true])[j]? = some true
      rw [List.getElem?_append_left (List.getElem?_eq_some_iff.1 hj).1]; exact hj
    · show (A.T ++ [true])[xs.length]? = some true
      rw [HL.out]; simp
    · have e2 := HK.out
      show (A.T ++ [true]).length - A.F.length = A.T.length - A.F.length + 1
      rw [e2]; simp

end Go.Proofs.YtcppgpjodfeigaaDoor

namespace Go.Proofs.YtcppgpjodfeigaaDoor
set_option linter.unusedVariables false
set_option linter.unusedSimpArgs false
open Go.RowKit

theorem Ar.Ok.live_len {a : Ar} (h : a.Ok) : a.T.length ≤ 268435456 := Nat.le_trans h.le h.max
theorem Head.arOk {w : World} {p : Nat} {C : Nat → Prop} {A : Ar} {xs : List Nd} {root vis : Int} (h : Head w p C A xs root vis) : A.Ok := by
  obtain ⟨ap, SA, _, hA, _, _⟩ := h.arena
  exact hA.ok

/-- A new node. -/
theorem tNode_any {w : World} {p : Nat} {C : Nat → Prop} {A : Ar} {xs : List Nd} {root vis : Int} (h : Head w p C A xs root vis) (hlen : xs.length = A.T.length) (hlive : A.live < A.M) (x y : Nd)
    (hfix : ∀ (w1 : World) (C1 : Nat → Prop) (A1 : Ar) (xs1 : List Nd) (k : Nat), Head w1 p C1 A1 xs1 root vis → HStep w w1 C C1 → xs1[k]? = some x → (∀ j : Nat, A.T[j]? = some true → xs1[j]? = xs[j]?) →
      Calls Tryd.prog 102 #[.pointer (some ⟨p, 0, none⟩), .int .i64 k] w1 fun e w' => e = .returned (.tuple #[]) ∧ Head w' p C1 A1 (xs1.set k y) root vis ∧ Chg (RowB w1 p) w1 w') :
    Calls Tryd.prog 98 #[.pointer (some ⟨p, 0, none⟩), .agg x.cells.toArray] w fun e w' => NodePost w w' p C A xs root vis y e := by
  cases hF : A.F.getLast? with
  | some k => exact tNode_pop h hlen hlive x y hF (fun w1 C1 xs1 a b c d => hfix w1 C1 _ xs1 k a b c d)
  | none => exact tNode_more h hlen hlive x y (List.getLast?_eq_none_iff.1 hF) h.arOk.live_len (fun w1 C1 xs1 a b c d => hfix w1 C1 _ xs1 xs.length a b c d)

/-- A new leaf. -/
theorem tLeaf_any {w : World} {p : Nat} {C : Nat → Prop} {A : Ar} {xs : List Nd} {root vis : Int} (h : Head w p C A xs root vis) (hlen : xs.length = A.T.length) (hlive : A.live < A.M) {q : Nat} {l : List Bool} (hq : IsBlock w q l) :
    Calls Tryd.prog 68 #[.pointer (some ⟨p, 0, none⟩), .pointer (some ⟨q, 0, none⟩)] w fun e w' => NodePost w w' p C A xs root vis (TT.leaf 0 q l).nd e := by
  have HN := Lib.hid (tNode_any h hlen hlive ⟨-1, -1, 0, 0, 0, 0, 0, some q⟩ (TT.leaf 0 q l).nd (fun w1 C1 A1 xs1 k h1 s1 hk _ => by
    have hq1 : IsBlock w1 q l := hq.chg s1.chg (h.notBlk hq.type)
    exact tFix_leaf h1 hk rfl hq1))
  clear h hlen hlive hq
  go_enter Tryd.func68, Tryd.ntmps68
  go_wp2_with fail
  refine HN.out.mono ?_
  rintro e w' hP
  obtain ⟨k, C', A', xs', rfl, rest⟩ := hP.ex
  have HR := Lib.hid rest
  clear rest hP
  go_wp2_with fail
  go_ret
  exact ⟨⟨k, C', A', xs', rfl, HR.out⟩⟩

/-- A new node above two. -/
theorem tPair_any {w : World} {p : Nat} {C : Nat → Prop} {A : Ar} {xs : List Nd} {root vis : Int} (h : Head w p C A xs root vis) (hlen : xs.length = A.T.length) (hlive : A.live < A.M) {a b : TT} (ha : Sub w xs a) (hb : Sub w xs b)
    (ta : ∀ j ∈ a.nums, A.T[j]? = some true) (tb : ∀ j ∈ b.nums, A.T[j]? = some true) (s1 : Small a.st) (s2 : Small b.st) :
    Calls Tryd.prog 93 #[.pointer (some ⟨p, 0, none⟩), .int .i64 a.num, .int .i64 b.num] w fun e w' => NodePost w w' p C A xs root vis (TT.pair 0 a b).nd e := by
  have HN := Lib.hid (tNode_any h hlen hlive ⟨a.num, b.num, 0, 0, 0, 0, 0, none⟩ (TT.pair 0 a b).nd (fun w1 C1 A1 xs1 k h1 g1 hk hkeep =>
    tFix_tt (k := k) h1 hk rfl rfl rfl (ha.chgC h g1.chg (fun j hj => hkeep j (ta j hj))) (hb.chgC h g1.chg (fun j hj => hkeep j (tb j hj))) s1 s2))
  obtain ⟨na, hna⟩ : ∃ na, a.num = na := ⟨_, rfl⟩
  obtain ⟨nb, hnb⟩ : ∃ nb, b.num = nb := ⟨_, rfl⟩
  have HP : Hid ((⟨a.num, b.num, 0, 0, 0, 0, 0, none⟩ : Nd) = ⟨na, nb, 0, 0, 0, 0, 0, none⟩) := by rw [hna, hnb]; rfl
  rw [HP.out] at HN
  rw [hna, hnb]
  clear h hlen hlive ha hb ta tb s1 s2 hna hnb HP
  go_enter Tryd.func93, Tryd.ntmps93
  go_wp2_with fail
  refine HN.out.mono ?_
  rintro e w' hP
  obtain ⟨k, C', A', xs', rfl, rest⟩ := hP.ex
  have HR := Lib.hid rest
  clear rest hP
  go_wp2_with fail
  go_ret
  exact ⟨⟨k, C', A', xs', rfl, HR.out⟩⟩

end Go.Proofs.YtcppgpjodfeigaaDoor

namespace Go.Proofs.YtcppgpjodfeigaaDoor
set_option linter.unusedVariables false
set_option linter.unusedSimpArgs false
open Go.RowKit

/-- A tree's numbers are taken, each once; so its blocks. -/
structure Own (A : Ar) (T : TT) : Prop where
  nn : T.nums.Nodup
  bn : T.bl.Nodup
  tk : ∀ j ∈ T.nums, A.T[j]? = some true
theorem Own.l {A : Ar} {k : Nat} {a b : TT} (h : Own A (.pair k a b)) : Own A a := by
  obtain ⟨_, _, h3, _, _⟩ := TT.dis h.nn
  have := h.bn
  simp only [TT.bl, List.nodup_append] at this
  exact ⟨h3, this.1, fun j hj => h.tk j (TT.mem_l hj)⟩
theorem Own.r {A : Ar} {k : Nat} {a b : TT} (h : Own A (.pair k a b)) : Own A b := by
  obtain ⟨_, _, _, h4, _⟩ := TT.dis h.nn
  have := h.bn
  simp only [TT.bl, List.nodup_append] at this
  exact ⟨h4, this.2.1, fun j hj => h.tk j (TT.mem_r hj)⟩

/-- What a change of a subtree leaves: it is another one; all that is neither its own nor new is as it was. -/
structure SubPost (w w' : World) (p : Nat) (C : Nat → Prop) (A : Ar) (xs : List Nd) (root vis : Int) (T T' : TT) (C' : Nat → Prop) (A' : Ar) (xs' : List Nd) (v' : Int) : Prop where
  head : Head w' p C' A' xs' root v'
  sub : Sub w' xs' T'
  own : Own A' T'
  len : xs'.length = A'.T.length
  newC : ∀ j, C' j → C j ∨ w.heap.size ≤ j
  newB : ∀ q ∈ T'.bl, q ∈ T.bl ∨ w.heap.size ≤ q
  keep : ∀ j : Nat, A.T[j]? = some true → j ∉ T.nums → xs'[j]? = xs[j]? ∧ A'.T[j]? = some true ∧ j ∉ T'.nums
  live : A'.live + T.st.size = A.live + T'.st.size
  max : A'.M = A.M
  vis : vis ≤ v' ∧ v' ≤ vis + 7 * T.st.high + 2
  chg : Chg (fun j => C j ∨ j ∈ T.bl) w w'
/-- What insert leaves. -/
def InsPost (w w' : World) (p : Nat) (C : Nat → Prop) (A : Ar) (xs : List Nd) (root vis : Int) (T : TT) (k : Nat) (b : Bool) (e : Ending) : Prop :=
  ∃ T' C' A' xs' v', e = .returned (.int .i64 T'.num) ∧ SubPost w w' p C A xs root vis T T' C' A' xs' v' ∧ T'.st = insT T.st k b

set_option maxHeartbeats 3200000 in
set_option maxRecDepth 100000 in
theorem tIns_leaf {w : World} {p : Nat} {C : Nat → Prop} {A : Ar} {xs : List Nd} {root vis : Int} (h : Head w p C A xs root vis) (hlen : xs.length = A.T.length) (hv0 : 0 ≤ vis) (hv : vis ≤ 100000000000) {kn q : Nat} {l : List Bool} (hS : Sub w xs (.leaf kn q l))
    (hO : Own A (.leaf kn q l)) (hl : l.length < 128) (k : Nat) (hk : k ≤ l.length) (b : Bool) :
    Calls Tryd.prog 69 #[.pointer (some ⟨p, 0, none⟩), .int .i64 kn, .int .i64 k, .bool b] w fun e w' => InsPost w w' p C A xs root vis (.leaf kn q l) k b e := by
  have hx := hS.root
  change xs[kn]? = some (TT.leaf kn q l).nd at hx
  obtain ⟨g, rc, cur, c1, hgp, _⟩ := h.row (by have := (List.getElem?_eq_some_iff.1 hx).1; omega)
  obtain ⟨_, _, hkx, _⟩ := h.node c1 hx
  obtain ⟨a0, a1, a2, a3, a4, a5, a6, a7⟩ := h.eight c1 hx
  obtain ⟨_, _, cv, fz⟩ := h.cells
  have f3 := fz 3
  have hp := h.lt p h.self
  have hg := World.block_lt_of_cell? w _ a0
  simp only [TT.nd, ptrN, Option.map_some] at a0 a1 a2 a3 a4 a5 a6 a7
  have hq := hS.2
  have hqC : ¬ C q := h.notBlk hq.type
  have HW : Hid (∀ v o, IsBlock ((w.setCell ⟨p, 3, none⟩ v).alloc o) q l) := fun v o => hq.chg ((Chg.refl.setCell ⟨p, 3, none⟩ (Or.inl h.self) v).alloc o) hqC
  have HH3 : Hid (∀ o, Head ((w.setCell ⟨p, 3, none⟩ (.int .i64 (vis + 1))).alloc o) p C A xs root (vis + 1)) := fun o => (h.set3 (vis + 1)).below (below_alloc _ _)
  have HG : Hid (∀ o, Chg C w ((w.setCell ⟨p, 3, none⟩ (.int .i64 (vis + 1))).alloc o)) := fun o => (h.chg3 _ 3).alloc o
  have d1 : ((l.length : Int) == 128) = false := by rw [beq_eq_false_iff_ne]; omega
  have HX := Lib.hid hx
  have HQC := Lib.hid hqC
  have HO := Lib.hid hO
  have HL := Lib.hid hlen
  clear h fz hx hS hq hqC hO hlen
  go_enter Tryd.func69, Tryd.ntmps69
  go_wp2_with fail
  refine (blkLen (HW.out _ _)).mono ?_
  rintro e w2 ⟨rfl, rfl⟩
  go_wp2_with fail
  refine (blkInsert (HW.out _ _) hl k hk b).mono ?_
  rintro e w3 ⟨rfl, hb3, c3⟩
  have h3 := (HH3.out _).chg c3 (fun j hj e => HQC.out (e ▸ hj))
  have g3 : Chg (fun j => C j ∨ j ∈ (TT.leaf kn q l).bl) w w3 := ((HG.out _).mono (fun j hj => Or.inl hj)).trans c3 (fun j e => Or.inl (Or.inr (by simp [TT.bl, e])))
  have HF := Lib.hid (tFix_leaf h3 HX.out rfl hb3)
  have H3 := Lib.hid h3
  have G3 := Lib.hid g3
  have HB3 := Lib.hid hb3
  clear h3 g3 hb3 c3
  go_wp2_with fail
  refine HF.out.mono ?_
  rintro e w4 ⟨rfl, h4, g4⟩
  have H4 := Lib.hid h4
  have G4 := Lib.hid g4
  clear h4 g4
  go_wp2_with fail
  go_ret
  refine ⟨.leaf kn q (inL l k b), C, A, _, _, rfl, ⟨H4.out, ⟨set_get HX.out, ?_⟩, ⟨HO.out.nn, HO.out.bn, HO.out.tk⟩, ?_, fun j hj => Or.inl hj, fun j hj => Or.inl hj, fun j h1 h2 => ⟨?_, h1, h2⟩, rfl, rfl, ?_, ?_⟩, ?_⟩
  · exact HB3.out.chg (H3.out.chgRow G4.out) (H3.out.notBlk HB3.out.type)
  · rw [List.length_set]; exact HL.out
  · exact set_ne (by rintro rfl; exact h2 (by simp [TT.nums]))
  · exact ⟨by omega, by simp only [TT.st, ST.high]; omega⟩
  · exact G3.out.trans (H3.out.chgRow G4.out) (fun j hj => Or.inl (Or.inl hj))
  · simp only [TT.st, insT]; rw [if_neg (by omega)]

end Go.Proofs.YtcppgpjodfeigaaDoor

namespace Go.Proofs.YtcppgpjodfeigaaDoor
set_option linter.unusedVariables false
set_option linter.unusedSimpArgs false
open Go.RowKit

set_option maxHeartbeats 3200000 in
set_option maxRecDepth 100000 in
theorem tIns_split {w : World} {p : Nat} {C : Nat → Prop} {A : Ar} {xs : List Nd} {root vis : Int} (h : Head w p C A xs root vis) (hlen : xs.length = A.T.length) (hv0 : 0 ≤ vis) (hv : vis ≤ 100000000000) {kn q : Nat} {l : List Bool} (hS : Sub w xs (.leaf kn q l))
    (hO : Own A (.leaf kn q l)) (hl : l.length = 128) (hlv : A.live + 2 ≤ A.M) (k : Nat) (hk : k ≤ 128) (b : Bool) :
    Calls Tryd.prog 69 #[.pointer (some ⟨p, 0, none⟩), .int .i64 kn, .int .i64 k, .bool b] w fun e w' => InsPost w w' p C A xs root vis (.leaf kn q l) k b e := by
  have hx := hS.root
  change xs[kn]? = some (TT.leaf kn q l).nd at hx
  obtain ⟨g, rc, cur, c1, hgp, _⟩ := h.row (by have := (List.getElem?_eq_some_iff.1 hx).1; omega)
  obtain ⟨_, _, hkx, _⟩ := h.node c1 hx
  obtain ⟨a0, a1, a2, a3, a4, a5, a6, a7⟩ := h.eight c1 hx
  obtain ⟨_, _, cv, fz⟩ := h.cells
  have f3 := fz 3
  have hp := h.lt p h.self
  have hg := World.block_lt_of_cell? w _ a0
  simp only [TT.nd, ptrN, Option.map_some] at a0 a1 a2 a3 a4 a5 a6 a7
  have hq := hS.2
  have hqC : ¬ C q := h.notBlk hq.type
  have HW : Hid (∀ v o, IsBlock ((w.setCell ⟨p, 3, none⟩ v).alloc o) q l) := fun v o => hq.chg ((Chg.refl.setCell ⟨p, 3, none⟩ (Or.inl h.self) v).alloc o) hqC
  have HH3 : Hid (∀ o, Head ((w.setCell ⟨p, 3, none⟩ (.int .i64 (vis + 1))).alloc o) p C A xs root (vis + 1)) := fun o => (h.set3 (vis + 1)).below (below_alloc _ _)
  have HG : Hid (∀ o, Chg C w ((w.setCell ⟨p, 3, none⟩ (.int .i64 (vis + 1))).alloc o)) := fun o => (h.chg3 _ 3).alloc o
  have d1 : ((l.length : Int) == 128) = true := by rw [beq_iff_eq]; omega
  have HX := Lib.hid hx
  have HQC := Lib.hid hqC
  have HO := Lib.hid hO
  have HL := Lib.hid hlen
  have HLV := Lib.hid hlv
  have HQL := Lib.hid hq.lt
  have hBq : ¬ w.heap.size = q := by have := hq.lt; omega
  clear h fz hx hS hq hqC hO hlen hlv
  go_enter Tryd.func69, Tryd.ntmps69
  go_wp2_with fail
  refine (blkLen (HW.out _ _)).mono ?_
  rintro e w2 ⟨rfl, rfl⟩
  go_wp2_with fail
  refine (blkSplit (HW.out _ _)).mono ?_
  rintro e w3 ⟨q2, rfl, hq2, hhi, hlo, c3⟩
  rw [hl] at hhi hlo
  have x7 : w3.cell? ⟨w.heap.size, 7, none⟩ = some (.pointer (some ⟨q, 0, none⟩)) := c3.cell (p := ⟨w.heap.size, 7, none⟩) (by go_simp) hBq
  have h3 := (HH3.out _).chg c3 (fun j hj e => HQC.out (e ▸ hj))
  have g3 : Chg (fun j => C j ∨ j ∈ (TT.leaf kn q l).bl) w w3 := ((HG.out _).mono (fun j hj => Or.inl hj)).trans c3 (fun j e => Or.inl (Or.inr (by simp [TT.bl, e])))
  have hq2' : w.heap.size ≤ q2 := by simp at hq2; omega
  have HQ2 := Lib.hid hq2'
  have HNE : Hid (q ≠ q2) := by have := HQL.out; show q ≠ q2; omega
  have H3 := Lib.hid h3
  have G3 := Lib.hid g3
  have hl1 : (l.take (128 / 2)).length = 64 := by rw [List.length_take]; omega
  have hl2 : (l.drop (128 / 2)).length = 64 := by rw [List.length_drop]; omega
  obtain ⟨lo, hlo1⟩ : ∃ lo, lo = l.take (128 / 2) := ⟨_, rfl⟩
  obtain ⟨hi, hhi1⟩ : ∃ hi, hi = l.drop (128 / 2) := ⟨_, rfl⟩
  rw [← hlo1] at hlo hl1
  rw [← hhi1] at hhi hl2
  have HTK : Hid (lo = l.take 64 ∧ hi = l.drop 64) := ⟨hlo1, hhi1⟩
  clear hlo1 hhi1
  have HB1 := Lib.hid hlo
  have HB2 := Lib.hid hhi
  obtain ⟨v1, hv1⟩ : ∃ v1, v1 = vis + 1 := ⟨_, rfl⟩
  have HV1 := Lib.hid hv1
  rw [← hv1] at H3
  have hv10 : 0 ≤ v1 ∧ v1 ≤ 200000000000 := by omega
  obtain ⟨hv10, hv11⟩ := hv10
  clear h3 g3 hlo hhi c3 hq2 hq2' HH3 HG HW a0 a1 a2 a3 a4 a5 a6 a7 c1 hv1 d1
  go_wp2_with fail
  refine (blkLen HB1.out).mono ?_
  rintro e w4 ⟨rfl, rfl⟩
  rw [hl1]
  by_cases hkn : 64 < k
  · have d2 : decide ((64 : Int) < (k : Int)) = true := decide_eq_true (by omega)
    have d2' : decide (64 < k) = true := decide_eq_true (by omega)
    obtain ⟨k', hk'⟩ : ∃ k', k = 64 + k' := ⟨k - 64, by omega⟩
    have HKK := Lib.hid hk'
    subst hk'
    go_wp2_with fail
    rw [show (64 + (k' : Int) - 64) = (k' : Int) by omega]
    refine (blkInsert HB2.out (by omega) k' (by omega) b).mono ?_
    rintro e w4 ⟨rfl, hhi, c4'⟩
    have hlo := HB1.out.chg c4' (fun e => HNE.out e)
    have c4 : Chg (fun j => j = q ∨ j = q2) w3 w4 := c4'.mono (fun j e => Or.inr e)
    clear c4'
    have h4 := H3.out.chg c4 (fun j hj e => e.elim (fun e => HQC.out (e ▸ hj)) (fun e => H3.out.notBlk HB2.out.type (e ▸ hj)))
    have HF := Lib.hid (tFix_leaf h4 HX.out rfl hlo)
    have H4 := Lib.hid h4
    have G4 := Lib.hid c4
    have HLO := Lib.hid hlo
    have HHI := Lib.hid hhi
    clear h4 c4 hlo hhi x7
    go_wp2_with fail
    refine HF.out.mono ?_
    rintro e w5 ⟨rfl, h5, g5⟩
    change Head w5 p C A (xs.set kn (TT.leaf kn q lo).nd) root v1 at h5
    have g5C := H4.out.chgRow g5
    have lo5 := HLO.out.chg g5C (H4.out.notBlk HLO.out.type)
    have hi5 := HHI.out.chg g5C (H4.out.notBlk HHI.out.type)
    have xk5 : (xs.set kn (TT.leaf kn q lo).nd)[kn]? = some (TT.leaf kn q lo).nd := set_get HX.out
    have kp5 : ∀ j : Nat, j ≠ kn → (xs.set kn (TT.leaf kn q lo).nd)[j]? = xs[j]? := fun j hj => set_ne hj
    have ln5 : (xs.set kn (TT.leaf kn q lo).nd).length = A.T.length := by rw [List.length_set]; exact HL.out
    generalize xs.set kn (TT.leaf kn q lo).nd = xs5 at *
    obtain ⟨_, _, cv5, fz5⟩ := h5.cells
    have f35 := fz5 3
    have h6 := h5.set3 (v1 + 1)
    have g6 := h5.chg3 (.int .i64 (v1 + 1)) 3
    have lo6 := lo5.chg g6 (h5.notBlk lo5.type)
    have hi6 := hi5.chg g6 (h5.notBlk hi5.type)
    have HLF := Lib.hid (tLeaf_any h6 ln5 (by have := HLV.out; omega) hi6)
    have H6 := Lib.hid h6
    have G6 := Lib.hid (g5C.trans g6 (fun j hj => Or.inl hj))
    have LO6 := Lib.hid lo6
    have HI6 := Lib.hid hi6
    have XK5 := Lib.hid xk5
    have KP5 := Lib.hid kp5
    clear fz5 h5 g5 g5C lo5 hi5 xk5 kp5 ln5 h6 g6 lo6 hi6
    go_wp2_with fail
    refine HLF.out.mono ?_
    rintro e w7 hP
    obtain ⟨k2, C7, A7, xs7, rfl, h7, s7, l7, x7, n7, kp7, t7, lv7, m7, _⟩ := hP.ex
    have tkn := HO.out.tk kn (by simp [TT.nums])
    have sa : Sub w7 xs7 (.leaf kn q lo) := ⟨(kp7 kn tkn).1.trans XK5.out, LO6.out.chg s7.chg (H6.out.notBlk LO6.out.type)⟩
    have sb : Sub w7 xs7 (.leaf k2 q2 (inL hi k' b)) := ⟨x7, HI6.out.chg s7.chg (H6.out.notBlk HI6.out.type)⟩
    have ta : ∀ j ∈ (TT.leaf kn q lo).nums, A7.T[j]? = some true := by
      intro j hj; simp [TT.nums] at hj; subst hj; exact (kp7 _ tkn).2
    have tb : ∀ j ∈ (TT.leaf k2 q2 (inL hi k' b)).nums, A7.T[j]? = some true := by
      intro j hj; simp [TT.nums] at hj; subst hj; exact t7
    have HPA := Lib.hid (tPair_any h7 l7 (by have := HLV.out; omega) sa sb ta tb ⟨by have := LO6.out.1; simp only [TT.st, ST.bits]; omega, by simp [TT.st, ST.high]⟩ ⟨by have := HI6.out.1; simp only [TT.st, ST.bits]; omega, by simp [TT.st, ST.high]⟩)
    have H7 := Lib.hid h7
    have S7 := Lib.hid s7
    have SA := Lib.hid sa
    have SB := Lib.hid sb
    have N7 := Lib.hid n7
    have KP7 := Lib.hid kp7
    have T7 : Hid (A7.T[kn]? = some true ∧ A7.T[k2]? = some true) := ⟨(kp7 _ tkn).2, t7⟩
    have LV7 := Lib.hid lv7
    have M7 := Lib.hid m7
    have TKN := Lib.hid tkn
    clear hP h7 s7 l7 x7 n7 kp7 t7 lv7 m7 tkn sa sb ta tb
    go_wp2_with fail
    refine HPA.out.mono ?_
    rintro e w8 hP
    obtain ⟨k3, C8, A8, xs8, rfl, h8, s8, l8, x8, n8, kp8, t8, lv8, m8, _⟩ := hP.ex
    have H8 := Lib.hid h8
    have S8 := Lib.hid s8
    have L8 := Lib.hid l8
    have X8 := Lib.hid x8
    have N8 := Lib.hid n8
    have KP8 := Lib.hid kp8
    have T8 := Lib.hid t8
    have LV8 := Lib.hid lv8
    have M8 := Lib.hid m8
    clear hP h8 s8 l8 x8 n8 kp8 t8 lv8 m8
    go_wp2_with fail
    go_ret
    have hne : q ≠ q2 := HNE.out
    have e1 : kn ≠ k2 := by rintro rfl; exact N7.out TKN.out
    have e2 : k3 ≠ kn := by rintro rfl; exact N8.out T7.out.1
    have e3 : k3 ≠ k2 := by rintro rfl; exact N8.out T7.out.2
    have gall : Chg (fun j => C j ∨ j ∈ (TT.leaf kn q l).bl) w w7 := ((G3.out.trans G4.out (fun j e => by
      rcases e with e | e
      · exact Or.inl (Or.inr (by simp [TT.bl, e]))
      · subst e; exact Or.inr HQ2.out)).trans G6.out (fun j hj => Or.inl (Or.inl hj))).trans S7.out.chg (fun j hj => Or.inl (Or.inl hj))
    have hs3 := G3.out.size
    have hs4 := G4.out.size
    have hs6 := G6.out.size
    have hs7 := S7.out.chg.size
    refine ⟨.pair k3 (.leaf kn q lo) (.leaf k2 q2 (inL hi k' b)), C8, A8, xs8, _, rfl, ⟨H8.out, ⟨X8.out, ?_, ?_⟩, ⟨?_, ?_, ?_⟩, L8.out, fun j hj => ?_, fun j hj => ?_, fun j h1 h2 => ?_, ?_, ?_, ?_, ?_⟩, ?_⟩
    · exact SA.out.chgC H7.out S8.out.chg (fun j hj => by simp [TT.nums] at hj; subst hj; exact (KP8.out _ T7.out.1).1)
    · exact SB.out.chgC H7.out S8.out.chg (fun j hj => by simp [TT.nums] at hj; subst hj; exact (KP8.out _ T7.out.2).1)
    · simp [TT.nums, e1, e2, e3]
    · simp [TT.bl, hne]
    · intro j hj
      simp [TT.nums] at hj
      rcases hj with rfl | rfl | rfl
      · exact T8.out
      · exact (KP8.out _ T7.out.1).2
      · exact (KP8.out _ T7.out.2).2
    · rcases S8.out.new j hj with h | h
      · rcases S7.out.new j h with h | h
        · exact Or.inl h
        · right; omega
      · right; omega
    · simp [TT.bl] at hj
      rcases hj with rfl | rfl
      · exact Or.inl (by simp [TT.bl])
      · exact Or.inr HQ2.out
    · have hjn : j ≠ kn := by rintro rfl; exact h2 (by simp [TT.nums])
      have k7 := KP7.out j h1
      have k8 := KP8.out j k7.2
      refine ⟨k8.1.trans (k7.1.trans (KP5.out j hjn)), k8.2, ?_⟩
      simp only [TT.nums, List.mem_cons, List.cons_append, List.nil_append, List.not_mem_nil, or_false]
      rintro (rfl | rfl | rfl)
      · exact N8.out k7.2
      · exact hjn rfl
      · exact N7.out h1
    · have := LV7.out; have := LV8.out; simp only [TT.st, ST.size]; omega
    · exact M8.out.trans M7.out
    · have := HV1.out; exact ⟨by omega, by simp only [TT.st, ST.high]; omega⟩
    · exact gall.trans S8.out.chg (fun j hj => (S7.out.new j hj).elim (fun h => Or.inl (Or.inl h)) (fun h => Or.inr (by omega)))
    · simp only [TT.st, insT]; rw [if_pos hl, if_pos (by omega), HTK.out.1, HTK.out.2, Nat.add_sub_cancel_left]
  · have d2 : decide ((64 : Int) < (k : Int)) = false := decide_eq_false (by omega)
    have d2' : decide (64 < k) = false := decide_eq_false (by omega)
    go_wp2_with fail
    refine (blkInsert HB1.out (by omega) k (by omega) b).mono ?_
    rintro e w4 ⟨rfl, hlo, c4'⟩
    have hhi := HB2.out.chg c4' (fun e => HNE.out e.symm)
    have c4 : Chg (fun j => j = q ∨ j = q2) w3 w4 := c4'.mono (fun j e => Or.inl e)
    clear c4'
    have h4 := H3.out.chg c4 (fun j hj e => e.elim (fun e => HQC.out (e ▸ hj)) (fun e => H3.out.notBlk HB2.out.type (e ▸ hj)))
    have HF := Lib.hid (tFix_leaf h4 HX.out rfl hlo)
    have H4 := Lib.hid h4
    have G4 := Lib.hid c4
    have HLO := Lib.hid hlo
    have HHI := Lib.hid hhi
    clear h4 c4 hlo hhi x7
    go_wp2_with fail
    refine HF.out.mono ?_
    rintro e w5 ⟨rfl, h5, g5⟩
    change Head w5 p C A (xs.set kn (TT.leaf kn q (inL lo k b)).nd) root v1 at h5
    have g5C := H4.out.chgRow g5
    have lo5 := HLO.out.chg g5C (H4.out.notBlk HLO.out.type)
    have hi5 := HHI.out.chg g5C (H4.out.notBlk HHI.out.type)
    have xk5 : (xs.set kn (TT.leaf kn q (inL lo k b)).nd)[kn]? = some (TT.leaf kn q (inL lo k b)).nd := set_get HX.out
    have kp5 : ∀ j : Nat, j ≠ kn → (xs.set kn (TT.leaf kn q (inL lo k b)).nd)[j]? = xs[j]? := fun j hj => set_ne hj
    have ln5 : (xs.set kn (TT.leaf kn q (inL lo k b)).nd).length = A.T.length := by rw [List.length_set]; exact HL.out
    generalize xs.set kn (TT.leaf kn q (inL lo k b)).nd = xs5 at *
    obtain ⟨_, _, cv5, fz5⟩ := h5.cells
    have f35 := fz5 3
    have h6 := h5.set3 (v1 + 1)
    have g6 := h5.chg3 (.int .i64 (v1 + 1)) 3
    have lo6 := lo5.chg g6 (h5.notBlk lo5.type)
    have hi6 := hi5.chg g6 (h5.notBlk hi5.type)
    have HLF := Lib.hid (tLeaf_any h6 ln5 (by have := HLV.out; omega) hi6)
    have H6 := Lib.hid h6
    have G6 := Lib.hid (g5C.trans g6 (fun j hj => Or.inl hj))
    have LO6 := Lib.hid lo6
    have HI6 := Lib.hid hi6
    have XK5 := Lib.hid xk5
    have KP5 := Lib.hid kp5
    clear fz5 h5 g5 g5C lo5 hi5 xk5 kp5 ln5 h6 g6 lo6 hi6
    go_wp2_with fail
    refine HLF.out.mono ?_
    rintro e w7 hP
    obtain ⟨k2, C7, A7, xs7, rfl, h7, s7, l7, x7, n7, kp7, t7, lv7, m7, _⟩ := hP.ex
    have tkn := HO.out.tk kn (by simp [TT.nums])
    have sa : Sub w7 xs7 (.leaf kn q (inL lo k b)) := ⟨(kp7 kn tkn).1.trans XK5.out, LO6.out.chg s7.chg (H6.out.notBlk LO6.out.type)⟩
    have sb : Sub w7 xs7 (.leaf k2 q2 hi) := ⟨x7, HI6.out.chg s7.chg (H6.out.notBlk HI6.out.type)⟩
    have ta : ∀ j ∈ (TT.leaf kn q (inL lo k b)).nums, A7.T[j]? = some true := by
      intro j hj; simp [TT.nums] at hj; subst hj; exact (kp7 _ tkn).2
    have tb : ∀ j ∈ (TT.leaf k2 q2 hi).nums, A7.T[j]? = some true := by
      intro j hj; simp [TT.nums] at hj; subst hj; exact t7
    have HPA := Lib.hid (tPair_any h7 l7 (by have := HLV.out; omega) sa sb ta tb ⟨by have := LO6.out.1; simp only [TT.st, ST.bits]; omega, by simp [TT.st, ST.high]⟩ ⟨by have := HI6.out.1; simp only [TT.st, ST.bits]; omega, by simp [TT.st, ST.high]⟩)
    have H7 := Lib.hid h7
    have S7 := Lib.hid s7
    have SA := Lib.hid sa
    have SB := Lib.hid sb
    have N7 := Lib.hid n7
    have KP7 := Lib.hid kp7
    have T7 : Hid (A7.T[kn]? = some true ∧ A7.T[k2]? = some true) := ⟨(kp7 _ tkn).2, t7⟩
    have LV7 := Lib.hid lv7
    have M7 := Lib.hid m7
    have TKN := Lib.hid tkn
    clear hP h7 s7 l7 x7 n7 kp7 t7 lv7 m7 tkn sa sb ta tb
    go_wp2_with fail
    refine HPA.out.mono ?_
    rintro e w8 hP
    obtain ⟨k3, C8, A8, xs8, rfl, h8, s8, l8, x8, n8, kp8, t8, lv8, m8, _⟩ := hP.ex
    have H8 := Lib.hid h8
    have S8 := Lib.hid s8
    have L8 := Lib.hid l8
    have X8 := Lib.hid x8
    have N8 := Lib.hid n8
    have KP8 := Lib.hid kp8
    have T8 := Lib.hid t8
    have LV8 := Lib.hid lv8
    have M8 := Lib.hid m8
    clear hP h8 s8 l8 x8 n8 kp8 t8 lv8 m8
    go_wp2_with fail
    go_ret
    have hne : q ≠ q2 := HNE.out
    have e1 : kn ≠ k2 := by rintro rfl; exact N7.out TKN.out
    have e2 : k3 ≠ kn := by rintro rfl; exact N8.out T7.out.1
    have e3 : k3 ≠ k2 := by rintro rfl; exact N8.out T7.out.2
    have gall : Chg (fun j => C j ∨ j ∈ (TT.leaf kn q l).bl) w w7 := ((G3.out.trans G4.out (fun j e => by
      rcases e with e | e
      · exact Or.inl (Or.inr (by simp [TT.bl, e]))
      · subst e; exact Or.inr HQ2.out)).trans G6.out (fun j hj => Or.inl (Or.inl hj))).trans S7.out.chg (fun j hj => Or.inl (Or.inl hj))
    have hs3 := G3.out.size
    have hs4 := G4.out.size
    have hs6 := G6.out.size
    have hs7 := S7.out.chg.size
    refine ⟨.pair k3 (.leaf kn q (inL lo k b)) (.leaf k2 q2 hi), C8, A8, xs8, _, rfl, ⟨H8.out, ⟨X8.out, ?_, ?_⟩, ⟨?_, ?_, ?_⟩, L8.out, fun j hj => ?_, fun j hj => ?_, fun j h1 h2 => ?_, ?_, ?_, ?_, ?_⟩, ?_⟩
    · exact SA.out.chgC H7.out S8.out.chg (fun j hj => by simp [TT.nums] at hj; subst hj; exact (KP8.out _ T7.out.1).1)
    · exact SB.out.chgC H7.out S8.out.chg (fun j hj => by simp [TT.nums] at hj; subst hj; exact (KP8.out _ T7.out.2).1)
    · simp [TT.nums, e1, e2, e3]
    · simp [TT.bl, hne]
    · intro j hj
      simp [TT.nums] at hj
      rcases hj with rfl | rfl | rfl
      · exact T8.out
      · exact (KP8.out _ T7.out.1).2
      · exact (KP8.out _ T7.out.2).2
    · rcases S8.out.new j hj with h | h
      · rcases S7.out.new j h with h | h
        · exact Or.inl h
        · right; omega
      · right; omega
    · simp [TT.bl] at hj
      rcases hj with rfl | rfl
      · exact Or.inl (by simp [TT.bl])
      · exact Or.inr HQ2.out
    · have hjn : j ≠ kn := by rintro rfl; exact h2 (by simp [TT.nums])
      have k7 := KP7.out j h1
      have k8 := KP8.out j k7.2
      refine ⟨k8.1.trans (k7.1.trans (KP5.out j hjn)), k8.2, ?_⟩
      simp only [TT.nums, List.mem_cons, List.cons_append, List.nil_append, List.not_mem_nil, or_false]
      rintro (rfl | rfl | rfl)
      · exact N8.out k7.2
      · exact hjn rfl
      · exact N7.out h1
    · have := LV7.out; have := LV8.out; simp only [TT.st, ST.size]; omega
    · exact M8.out.trans M7.out
    · have := HV1.out; exact ⟨by omega, by simp only [TT.st, ST.high]; omega⟩
    · exact gall.trans S8.out.chg (fun j hj => (S7.out.new j hj).elim (fun h => Or.inl (Or.inl h)) (fun h => Or.inr (by omega)))
    · simp only [TT.st, insT]; rw [if_pos hl, if_neg (by omega), HTK.out.1, HTK.out.2]

end Go.Proofs.YtcppgpjodfeigaaDoor

namespace Go.Proofs.YtcppgpjodfeigaaDoor
set_option linter.unusedVariables false
set_option linter.unusedSimpArgs false
open Go.RowKit

/-- What a change of a subtree leaves, but for its nodes. -/
structure SubPre (w w' : World) (C : Nat → Prop) (A : Ar) (xs : List Nd) (T T' : TT) (C' : Nat → Prop) (A' : Ar) (xs' : List Nd) : Prop where
  own : Own A' T'
  len : xs'.length = A'.T.length
  newC : ∀ j, C' j → C j ∨ w.heap.size ≤ j
  newB : ∀ q ∈ T'.bl, q ∈ T.bl ∨ w.heap.size ≤ q
  keep : ∀ j : Nat, A.T[j]? = some true → j ∉ T.nums → xs'[j]? = xs[j]? ∧ A'.T[j]? = some true ∧ j ∉ T'.nums
  live : A'.live + T.st.size = A.live + T'.st.size
  max : A'.M = A.M
  chg : Chg (fun j => C j ∨ j ∈ T.bl) w w'

section
variable {w w1 w2 w3 w' : World} {p : Nat} {C C' C3 : Nat → Prop} {A A' A3 : Ar} {xs xs' xs3 : List Nd} {root vis v' : Int} {T T' T1 T2 a c : TT} {kn : Nat}

theorem SubPost.pre (h : SubPost w w' p C A xs root vis T T' C' A' xs' v') : SubPre w w' C A xs T T' C' A' xs' := ⟨h.own, h.len, h.newC, h.newB, h.keep, h.live, h.max, h.chg⟩
theorem SubPost.of (h1 : Head w' p C' A' xs' root v') (h2 : Sub w' xs' T') (h : SubPre w w' C A xs T T' C' A' xs') (h3 : vis ≤ v' ∧ v' ≤ vis + 7 * T.st.high + 2) : SubPost w w' p C A xs root vis T T' C' A' xs' v' :=
  ⟨h1, h2, h.own, h.len, h.newC, h.newB, h.keep, h.live, h.max, h3, h.chg⟩

theorem SubPre.first (h0 : Chg C w w1) (h : SubPre w1 w' C A xs T T' C' A' xs') : SubPre w w' C A xs T T' C' A' xs' :=
  ⟨h.own, h.len, fun j hj => (h.newC j hj).imp id (fun h => Nat.le_trans h0.size h), fun q hq => (h.newB q hq).imp id (fun h => Nat.le_trans h0.size h), h.keep, h.live, h.max,
    (h0.mono (fun j hj => Or.inl hj)).trans h.chg (fun j hj => Or.inl hj)⟩

/-- A step that changes the nodes of the new subtree alone. -/
theorem SubPre.next (h : SubPre w w3 C A xs T T1 C3 A3 xs3) (hc : Chg C3 w3 w') (hk : ∀ j, j ∉ T1.nums → xs'[j]? = xs3[j]?) (hl : xs'.length = xs3.length) (hn : T2.nums.Perm T1.nums) (hb : T2.bl = T1.bl) (hs : T2.st.size = T1.st.size) :
    SubPre w w' C A xs T T2 C3 A3 xs' :=
  ⟨⟨hn.nodup_iff.2 h.own.nn, by rw [hb]; exact h.own.bn, fun j hj => h.own.tk j (hn.mem_iff.1 hj)⟩, hl.trans h.len, h.newC, by rw [hb]; exact h.newB, fun j h1 h2 => by
    obtain ⟨e1, e2, e3⟩ := h.keep j h1 h2
    exact ⟨(hk j e3).trans e1, e2, fun hj => e3 (hn.mem_iff.1 hj)⟩, by rw [hs]; exact h.live, h.max,
    h.chg.trans hc (fun j hj => (h.newC j hj).imp Or.inl id)⟩

/-- The left child has changed. -/
theorem SubPre.left (hO : Own A (.pair kn a c)) (h : SubPre w w3 C A xs a T' C3 A3 xs3) (hH : Head w p C A xs root vis) (hc : Sub w xs c) :
    SubPre w w3 C A xs (.pair kn a c) (.pair kn T' c) C3 A3 xs3 ∧ Sub w3 xs3 c ∧ xs3[kn]? = xs[kn]? := by
  obtain ⟨n1, n2, n3, n4, n5⟩ := TT.dis hO.nn
  have hbn := hO.bn
  simp only [TT.bl, List.nodup_append] at hbn
  obtain ⟨b1, b2, b3⟩ := hbn
  have tk := hO.tk kn TT.mem_k
  obtain ⟨k1, k2, k3⟩ := h.keep kn tk n1
  have kc : ∀ j ∈ c.nums, xs3[j]? = xs[j]? ∧ A3.T[j]? = some true ∧ j ∉ T'.nums := fun j hj => h.keep j (hO.tk j (TT.mem_r hj)) (fun e => n5 j e hj)
  have bc : ∀ q ∈ c.bl, q < w.heap.size := fun q hq => (hc.type hq).lt
  refine ⟨⟨⟨?_, ?_, fun j hj => ?_⟩, h.len, h.newC, fun q hq => ?_, fun j h1 h2 => ?_, ?_, h.max, h.chg.mono (fun j hj => hj.imp id (fun h => by simp [TT.bl, h]))⟩, ?_, k1⟩
  · simp only [TT.nums, List.nodup_cons, List.mem_append, not_or, List.nodup_append]
    exact ⟨⟨k3, n2⟩, h.own.nn, n4, fun x hx y hy e => by subst e; exact (kc x hy).2.2 hx⟩
  · simp only [TT.bl, List.nodup_append]
    refine ⟨h.own.bn, b2, fun x hx y hy e => ?_⟩
    subst e
    rcases h.newB x hx with e | e
    · exact b3 x e x hy rfl
    · have := bc x hy; omega
  · simp only [TT.nums, List.mem_cons, List.mem_append] at hj
    rcases hj with rfl | hj | hj
    · exact k2
    · exact h.own.tk j hj
    · exact (kc j hj).2.1
  · simp only [TT.bl, List.mem_append] at hq ⊢
    rcases hq with hq | hq
    · exact (h.newB q hq).imp Or.inl id
    · exact Or.inl (Or.inr hq)
  · have h2' : j ≠ kn ∧ j ∉ a.nums ∧ j ∉ c.nums := by
      simp only [TT.nums, List.mem_cons, List.mem_append, not_or] at h2; exact h2
    obtain ⟨e1, e2, e3⟩ := h.keep j h1 h2'.2.1
    refine ⟨e1, e2, ?_⟩
    simp only [TT.nums, List.mem_cons, List.mem_append, not_or]
    exact ⟨h2'.1, e3, h2'.2.2⟩
  · have := h.live; simp only [TT.st, ST.size]; omega
  · exact hc.keep (fun j hj => (kc j hj).1) (fun q hq => h.chg.block q (bc q hq) (fun hs => hs.elim (hH.notBlk (hc.type hq)) (fun e => b3 q e q hq rfl)))

/-- The right child has changed. -/
theorem SubPre.right (hO : Own A (.pair kn a c)) (h : SubPre w w3 C A xs c T' C3 A3 xs3) (hH : Head w p C A xs root vis) (ha : Sub w xs a) :
    SubPre w w3 C A xs (.pair kn a c) (.pair kn a T') C3 A3 xs3 ∧ Sub w3 xs3 a ∧ xs3[kn]? = xs[kn]? := by
  obtain ⟨n1, n2, n3, n4, n5⟩ := TT.dis hO.nn
  have hbn := hO.bn
  simp only [TT.bl, List.nodup_append] at hbn
  obtain ⟨b1, b2, b3⟩ := hbn
  have tk := hO.tk kn TT.mem_k
  obtain ⟨k1, k2, k3⟩ := h.keep kn tk n2
  have kc : ∀ j ∈ a.nums, xs3[j]? = xs[j]? ∧ A3.T[j]? = some true ∧ j ∉ T'.nums := fun j hj => h.keep j (hO.tk j (TT.mem_l hj)) (fun e => n5 j hj e)
  have bc : ∀ q ∈ a.bl, q < w.heap.size := fun q hq => (ha.type hq).lt
  refine ⟨⟨⟨?_, ?_, fun j hj => ?_⟩, h.len, h.newC, fun q hq => ?_, fun j h1 h2 => ?_, ?_, h.max, h.chg.mono (fun j hj => hj.imp id (fun h => by simp [TT.bl, h]))⟩, ?_, k1⟩
  · simp only [TT.nums, List.nodup_cons, List.mem_append, not_or, List.nodup_append]
    exact ⟨⟨n1, k3⟩, n3, h.own.nn, fun x hx y hy e => by subst e; exact (kc x hx).2.2 hy⟩
  · simp only [TT.bl, List.nodup_append]
    refine ⟨b1, h.own.bn, fun x hx y hy e => ?_⟩
    subst e
    rcases h.newB x hy with e | e
    · exact b3 x hx x e rfl
    · have := bc x hx; omega
  · simp only [TT.nums, List.mem_cons, List.mem_append] at hj
    rcases hj with rfl | hj | hj
    · exact k2
    · exact (kc j hj).2.1
    · exact h.own.tk j hj
  · simp only [TT.bl, List.mem_append] at hq ⊢
    rcases hq with hq | hq
    · exact Or.inl (Or.inl hq)
    · exact (h.newB q hq).imp Or.inr id
  · have h2' : j ≠ kn ∧ j ∉ a.nums ∧ j ∉ c.nums := by
      simp only [TT.nums, List.mem_cons, List.mem_append, not_or] at h2; exact h2
    obtain ⟨e1, e2, e3⟩ := h.keep j h1 h2'.2.2
    refine ⟨e1, e2, ?_⟩
    simp only [TT.nums, List.mem_cons, List.mem_append, not_or]
    exact ⟨h2'.1, h2'.2.1, e3⟩
  · have := h.live; simp only [TT.st, ST.size]; omega
  · exact ha.keep (fun j hj => (kc j hj).1) (fun q hq => h.chg.block q (bc q hq) (fun hs => hs.elim (hH.notBlk (ha.type hq)) (fun e => b3 q hq q e rfl)))
end

theorem bal_high (l r : ST) : (bal (.pair l r)).high ≤ max l.high r.high + 1 := by
  simp only [bal]
  by_cases hc : r.high + 1 < l.high
  · rw [if_pos hc]
    cases l with
    | leaf x => simp [ST.high] at hc
    | pair a b =>
      simp only [ST.high] at hc
      by_cases hd : a.high < b.high
      · rw [if_pos (show (ST.pair a b).hl < (ST.pair a b).hr from hd)]
        cases b with
        | leaf x => simp [ST.high] at hd
        | pair b1 b2 =>
          simp only [ST.high] at hc hd
          simp only [rotL, rotR, ST.high]; omega
      · rw [if_neg (show ¬ (ST.pair a b).hl < (ST.pair a b).hr from hd)]
        simp only [rotR, ST.high]; omega
  · rw [if_neg hc]
    by_cases hc' : l.high + 1 < r.high
    · rw [if_pos hc']
      cases r with
      | leaf x => simp [ST.high] at hc'
      | pair a b =>
        simp only [ST.high] at hc hc'
        by_cases hd : b.high < a.high
        · rw [if_pos (show (ST.pair a b).hr < (ST.pair a b).hl from hd)]
          cases a with
          | leaf x => simp [ST.high] at hd
          | pair b1 b2 =>
            simp only [ST.high] at hc hc' hd
            simp only [rotL, rotR, ST.high]; omega
        · rw [if_neg (show ¬ (ST.pair a b).hr < (ST.pair a b).hl from hd)]
          simp only [rotL, ST.high]; omega
    · rw [if_neg hc']; exact Nat.le_refl _
theorem insT_high (t : ST) (k : Nat) (b : Bool) : (insT t k b).high ≤ t.high + 1 := by
  induction t generalizing k with
  | leaf l =>
    simp only [insT]
    split
    · split <;> simp [ST.high]
    · simp [ST.high]
  | pair x y ihx ihy =>
    simp only [insT]
    split
    · have := bal_high (insT x k b) y; have := ihx k; simp only [ST.high]; omega
    · have := bal_high x (insT y (k - x.bits.length) b); have := ihy (k - x.bits.length); simp only [ST.high]; omega

end Go.Proofs.YtcppgpjodfeigaaDoor

namespace Go.Proofs.YtcppgpjodfeigaaDoor
set_option linter.unusedVariables false
set_option linter.unusedSimpArgs false
open Go.RowKit

set_option maxHeartbeats 6400000 in
set_option maxRecDepth 100000 in
theorem tIns_any (T : TT) : ∀ (w : World) (p : Nat) (C : Nat → Prop) (A : Ar) (xs : List Nd) (root vis : Int) (k : Nat) (b : Bool), Head w p C A xs root vis → xs.length = A.T.length → 0 ≤ vis → vis + 7 * T.st.high + 10 ≤ 100000000000 → Sub w xs T → Own A T → A.live + 2 ≤ A.M → k ≤ T.st.bits.length →
    T.st.bits.length < 8589934592 → T.st.high < 1000000000 →
    Calls Tryd.prog 69 #[.pointer (some ⟨p, 0, none⟩), .int .i64 T.num, .int .i64 k, .bool b] w fun e w' => InsPost w w' p C A xs root vis T k b e := by
  induction T with
  | leaf kn q l =>
    intro w p C A xs root vis k b h hlen hv0 hv hS hO hlv hk hb1 hh1
    simp only [TT.st, ST.bits] at hk
    have hl := hS.2.1
    by_cases h128 : l.length = 128
    · exact tIns_split h hlen hv0 (by simp only [TT.st, ST.high] at hv; omega) hS hO h128 hlv k (by omega) b
    · exact tIns_leaf h hlen hv0 (by simp only [TT.st, ST.high] at hv; omega) hS hO (by omega) k hk b
  | pair kn a c iha ihc =>
    intro w p C A xs root vis k b h hlen hv0 hv hS hO hlv hk hb1 hh1
    change Calls Tryd.prog _ #[.pointer (some ⟨p, 0, none⟩), .int .i64 (kn : Int), .int .i64 k, .bool b] w _
    have hx := hS.root
    change xs[kn]? = some (TT.pair kn a c).nd at hx
    obtain ⟨g, rc, cur, c1, hgp, _⟩ := h.row (by have := (List.getElem?_eq_some_iff.1 hx).1; omega)
    obtain ⟨_, _, hkx, _⟩ := h.node c1 hx
    obtain ⟨a0, a1, a2, a3, a4, a5, a6, a7⟩ := h.eight c1 hx
    obtain ⟨_, _, cv, fz⟩ := h.cells
    have f3 := fz 3
    have hp := h.lt p h.self
    have hg := World.block_lt_of_cell? w _ a0
    simp only [TT.st, ST.bits, ST.high, List.length_append] at hv hk hb1 hh1
    obtain ⟨na, hna⟩ : ∃ na, a.num = na := ⟨_, rfl⟩
    obtain ⟨nc, hnc⟩ : ∃ nc, c.num = nc := ⟨_, rfl⟩
    obtain ⟨la, hla⟩ : ∃ la, a.st.bits.length = la := ⟨_, rfl⟩
    obtain ⟨ha, hha⟩ : ∃ h, a.st.high = h := ⟨_, rfl⟩
    obtain ⟨hc, hhc⟩ : ∃ h, c.st.high = h := ⟨_, rfl⟩
    rw [hla] at hk hb1
    rw [hha, hhc] at hv hh1
    simp only [TT.nd, ptrN, Option.map_none] at a0 a1 a2 a3 a4 a5 a6 a7
    rw [hla] at a3 a5
    have hna' : Hid (a.num = na) := hna
    change w.cell? ⟨g, kn * 8, none⟩ = some (.int .i64 (a.num : Int)) at a0
    change w.cell? ⟨g, kn * 8 + 1, none⟩ = some (.int .i64 (c.num : Int)) at a1
    rw [hna] at a0
    rw [hnc] at a1
    have HNA := Lib.hid hna
    have HNC := Lib.hid hnc
    have HLA := Lib.hid hla
    have HHA := Lib.hid hha
    have HHC := Lib.hid hhc
    have HH3 : Hid (∀ o, Head ((w.setCell ⟨p, 3, none⟩ (.int .i64 (vis + 1))).alloc o) p C A xs root (vis + 1)) := fun o => (h.set3 (vis + 1)).below (below_alloc _ _)
    have HG : Hid (∀ o, Chg C w ((w.setCell ⟨p, 3, none⟩ (.int .i64 (vis + 1))).alloc o)) := fun o => (h.chg3 _ 3).alloc o
    have HSA : Hid (∀ w', Chg C w w' → Sub w' xs a) := fun w' hc => hS.2.1.chgC h hc (fun _ _ => rfl)
    have HSC : Hid (∀ w', Chg C w w' → Sub w' xs c) := fun w' hc => hS.2.2.chgC h hc (fun _ _ => rfl)
    have HX := Lib.hid hx
    have HO := Lib.hid hO
    have HL := Lib.hid hlen
    have HIA := Lib.hid iha
    have HIC := Lib.hid ihc
    have HLV := Lib.hid hlv
    have hkb : k ≤ 8589934592 := by omega
    clear h fz hx hS hO hlen iha ihc hlv hna hnc hla hha hhc hna'
    by_cases hlt : k ≤ la
    · have d1 : decide (k ≤ la) = true := decide_eq_true hlt
      go_enter Tryd.func69, Tryd.ntmps69
      go_wp2_with fail
      have h2 := HH3.out (.cells #[.int .i64 na, .int .i64 nc, .int .i64 (ST.pair a.st c.st).high, .int .i64 (la + c.st.bits.length), .int .i64 (a.st.bits.count true + c.st.bits.count true), .int .i64 la, .int .i64 (a.st.bits.count true), .pointer none] 88)
      have hih := HIA.out _ p C A xs root (vis + 1) k b h2 HL.out (by omega) (by rw [HHA.out]; omega) (HSA.out _ (HG.out _)) HO.out.l HLV.out (by rw [HLA.out]; omega) (by rw [HLA.out]; omega) (by rw [HHA.out]; omega)
      rw [HNA.out] at hih
      refine hih.mono ?_
      rintro e w3 ⟨T', C3, A3, xs3, v3, rfl, hP, hst⟩
      obtain ⟨q1, q2, q3⟩ := SubPre.left HO.out hP.pre h2 (HSC.out _ (HG.out _))
      have hx3 := q3.trans HX.out
      have hg2 := HG.out (.cells #[.int .i64 na, .int .i64 nc, .int .i64 (ST.pair a.st c.st).high, .int .i64 (la + c.st.bits.length), .int .i64 (a.st.bits.count true + c.st.bits.count true), .int .i64 la, .int .i64 (a.st.bits.count true), .pointer none] 88)
      have hpre := SubPre.first hg2 q1
      have h3 := hP.head
      have s3 := hP.sub
      have hv3 := hP.vis
      rw [HHA.out] at hv3
      obtain ⟨g3, rc3, cur3, r3, hgp3, _⟩ := h3.row (by have := (List.getElem?_eq_some_iff.1 hx3).1; omega)
      obtain ⟨_, fz3, hkx3, _⟩ := h3.node r3 hx3
      obtain ⟨e0, e1, _⟩ := h3.eight r3 hx3
      have z3 := fz3 (kn * 8)
      have hp3 := h3.lt p h3.self
      obtain ⟨h4, g4, _⟩ := h3.put r3 hx3 (i := 0) (v := .int .i64 T'.num) (x' := ⟨T'.num, c.num, (TT.pair kn a c).nd.height, (TT.pair kn a c).nd.n, (TT.pair kn a c).nd.ones, (TT.pair kn a c).nd.ln, (TT.pair kn a c).nd.lones, none⟩) (by omega) rfl
      have g4C : Chg C3 w3 _ := g4.mono (fun j e => by subst e; exact h3.rowC ⟨_, _, r3⟩)
      have hdis := TT.dis hpre.own.nn
      have st4 := s3.chgC h3 g4C (set_out (y := ⟨T'.num, c.num, (TT.pair kn a c).nd.height, (TT.pair kn a c).nd.n, (TT.pair kn a c).nd.ones, (TT.pair kn a c).nd.ln, (TT.pair kn a c).nd.lones, none⟩) hdis.1)
      have sc4 := q2.chgC h3 g4C (set_out (y := ⟨T'.num, c.num, (TT.pair kn a c).nd.height, (TT.pair kn a c).nd.n, (TT.pair kn a c).nd.ones, (TT.pair kn a c).nd.ln, (TT.pair kn a c).nd.lones, none⟩) hdis.2.1)
      have hTh : T'.st.high ≤ ha + 1 := by rw [hst, ← HHA.out]; exact insT_high _ _ _
      have hTb : T'.st.bits.length = la + 1 := by rw [hst, insT_bits (by rw [HLA.out]; omega), inL_len (by rw [HLA.out]; omega), HLA.out]
      have hsmall : Small (.pair T'.st c.st) := by
        refine ⟨?_, ?_⟩
        · simp only [ST.bits, List.length_append, hTb]; omega
        · simp only [ST.high]; rw [HHC.out]; omega
      have HB := Lib.hid (tBal_any h4 (by omega) (by omega) (k := kn) (x := ⟨T'.num, c.num, (TT.pair kn a c).nd.height, (TT.pair kn a c).nd.n, (TT.pair kn a c).nd.ones, (TT.pair kn a c).nd.ln, (TT.pair kn a c).nd.lones, none⟩) (a := T') (c := c) (set_get hx3) rfl rfl rfl st4 sc4 hpre.own.nn hsmall)
      have H4 := Lib.hid h4
      have G4 := Lib.hid g4C
      have HP := Lib.hid hpre
      have HST := Lib.hid hst
      have HTH := Lib.hid hTh
      have HV3 := Lib.hid hv3
      clear h2 hih hP hst q1 q2 q3 hx3 hg2 hpre h3 s3 fz3 h4 g4 g4C hdis st4 sc4 hTh hTb hsmall hv3
      obtain ⟨nt, hnt⟩ : ∃ n, T'.num = n := ⟨_, rfl⟩
      rw [hnt]
      rw [hnt] at HB G4 H4
      go_wp2_with fail
      refine HB.out.mono ?_
      rintro e w5 hB
      obtain ⟨T2, xs5, v5, rfl, h5, s5, hst5, hn5, hb5, kp5, ln5, hv5⟩ := hB.ex
      have H5 := Lib.hid h5
      have S5 := Lib.hid s5
      have HST5 := Lib.hid hst5
      have HN5 := Lib.hid hn5
      have HB5 := Lib.hid hb5
      have KP5 := Lib.hid kp5
      have LN5 := Lib.hid ln5
      have HV5 := Lib.hid hv5
      have C5 := Lib.hid hB.chg
      clear hB h5 s5 hst5 hn5 hb5 kp5 ln5 hv5
      go_wp2_with fail
      go_ret
      have hx5 := HP.out.next (T2 := T2) (xs' := xs5) (G4.out.trans C5.out (fun j hj => Or.inl hj)) (fun j hj => by rw [KP5.out j hj]; exact set_ne (by rintro rfl; exact hj TT.mem_k)) (by rw [LN5.out]; simp) HN5.out HB5.out (by rw [HST5.out, bal_size]; rfl)
      refine ⟨T2, C3, A3, xs5, v5, rfl, SubPost.of H5.out S5.out hx5 ?_, ?_⟩
      · have := HV3.out; have := HV5.out
        simp only [TT.st, ST.high]
        rw [HHA.out, HHC.out]
        exact ⟨by omega, by omega⟩
      · rw [HST5.out, HST.out]
        simp only [TT.st, insT]
        rw [if_pos (by rw [HLA.out]; exact hlt)]
    · have d1 : decide (k ≤ la) = false := decide_eq_false hlt
      go_enter Tryd.func69, Tryd.ntmps69
      go_wp2_with fail
      rw [show (k : Int) - (la : Int) = ((k - la : Nat) : Int) by omega]
      have h2 := HH3.out (.cells #[.int .i64 na, .int .i64 nc, .int .i64 (ST.pair a.st c.st).high, .int .i64 (la + c.st.bits.length), .int .i64 (a.st.bits.count true + c.st.bits.count true), .int .i64 la, .int .i64 (a.st.bits.count true), .pointer none] 88)
      have hih := HIC.out _ p C A xs root (vis + 1) (k - la) b h2 HL.out (by omega) (by rw [HHC.out]; omega) (HSC.out _ (HG.out _)) HO.out.r HLV.out (by omega) (by omega) (by rw [HHC.out]; omega)
      rw [HNC.out] at hih
      refine hih.mono ?_
      rintro e w3 ⟨T', C3, A3, xs3, v3, rfl, hP, hst⟩
      obtain ⟨q1, q2, q3⟩ := SubPre.right HO.out hP.pre h2 (HSA.out _ (HG.out _))
      have hx3 := q3.trans HX.out
      have hg2 := HG.out (.cells #[.int .i64 na, .int .i64 nc, .int .i64 (ST.pair a.st c.st).high, .int .i64 (la + c.st.bits.length), .int .i64 (a.st.bits.count true + c.st.bits.count true), .int .i64 la, .int .i64 (a.st.bits.count true), .pointer none] 88)
      have hpre := SubPre.first hg2 q1
      have h3 := hP.head
      have s3 := hP.sub
      have hv3 := hP.vis
      rw [HHC.out] at hv3
      obtain ⟨g3, rc3, cur3, r3, hgp3, _⟩ := h3.row (by have := (List.getElem?_eq_some_iff.1 hx3).1; omega)
      obtain ⟨_, fz3, hkx3, _⟩ := h3.node r3 hx3
      obtain ⟨e0, e1, _⟩ := h3.eight r3 hx3
      have z3 := fz3 (kn * 8 + 1)
      have hp3 := h3.lt p h3.self
      obtain ⟨h4, g4, _⟩ := h3.put r3 hx3 (i := 1) (v := .int .i64 T'.num) (x' := ⟨a.num, T'.num, (TT.pair kn a c).nd.height, (TT.pair kn a c).nd.n, (TT.pair kn a c).nd.ones, (TT.pair kn a c).nd.ln, (TT.pair kn a c).nd.lones, none⟩) (by omega) rfl
      have g4C : Chg C3 w3 _ := g4.mono (fun j e => by subst e; exact h3.rowC ⟨_, _, r3⟩)
      have hdis := TT.dis hpre.own.nn
      have st4 := s3.chgC h3 g4C (set_out (y := ⟨a.num, T'.num, (TT.pair kn a c).nd.height, (TT.pair kn a c).nd.n, (TT.pair kn a c).nd.ones, (TT.pair kn a c).nd.ln, (TT.pair kn a c).nd.lones, none⟩) hdis.2.1)
      have sc4 := q2.chgC h3 g4C (set_out (y := ⟨a.num, T'.num, (TT.pair kn a c).nd.height, (TT.pair kn a c).nd.n, (TT.pair kn a c).nd.ones, (TT.pair kn a c).nd.ln, (TT.pair kn a c).nd.lones, none⟩) hdis.1)
      have hTh : T'.st.high ≤ hc + 1 := by rw [hst, ← HHC.out]; exact insT_high _ _ _
      have hTb : T'.st.bits.length = c.st.bits.length + 1 := by rw [hst, insT_bits (by omega), inL_len (by omega)]
      have hsmall : Small (.pair a.st T'.st) := by
        refine ⟨?_, ?_⟩
        · simp only [ST.bits, List.length_append, hTb]; rw [HLA.out]; omega
        · simp only [ST.high]; rw [HHA.out]; omega
      have HB := Lib.hid (tBal_any h4 (by omega) (by omega) (k := kn) (x := ⟨a.num, T'.num, (TT.pair kn a c).nd.height, (TT.pair kn a c).nd.n, (TT.pair kn a c).nd.ones, (TT.pair kn a c).nd.ln, (TT.pair kn a c).nd.lones, none⟩) (a := a) (c := T') (set_get hx3) rfl rfl rfl sc4 st4 hpre.own.nn hsmall)
      have H4 := Lib.hid h4
      have G4 := Lib.hid g4C
      have HP := Lib.hid hpre
      have HST := Lib.hid hst
      have HTH := Lib.hid hTh
      have HV3 := Lib.hid hv3
      clear h2 hih hP hst q1 q2 q3 hx3 hg2 hpre h3 s3 fz3 h4 g4 g4C hdis st4 sc4 hTh hTb hsmall hv3
      obtain ⟨nt, hnt⟩ : ∃ n, T'.num = n := ⟨_, rfl⟩
      rw [hnt]
      rw [hnt] at HB G4 H4
      go_wp2_with fail
      refine HB.out.mono ?_
      rintro e w5 hB
      obtain ⟨T2, xs5, v5, rfl, h5, s5, hst5, hn5, hb5, kp5, ln5, hv5⟩ := hB.ex
      have H5 := Lib.hid h5
      have S5 := Lib.hid s5
      have HST5 := Lib.hid hst5
      have HN5 := Lib.hid hn5
      have HB5 := Lib.hid hb5
      have KP5 := Lib.hid kp5
      have LN5 := Lib.hid ln5
      have HV5 := Lib.hid hv5
      have C5 := Lib.hid hB.chg
      clear hB h5 s5 hst5 hn5 hb5 kp5 ln5 hv5
      go_wp2_with fail
      go_ret
      have hx5 := HP.out.next (T2 := T2) (xs' := xs5) (G4.out.trans C5.out (fun j hj => Or.inl hj)) (fun j hj => by rw [KP5.out j hj]; exact set_ne (by rintro rfl; exact hj TT.mem_k)) (by rw [LN5.out]; simp) HN5.out HB5.out (by rw [HST5.out, bal_size]; rfl)
      refine ⟨T2, C3, A3, xs5, v5, rfl, SubPost.of H5.out S5.out hx5 ?_, ?_⟩
      · have := HV3.out; have := HV5.out
        simp only [TT.st, ST.high]
        rw [HHA.out, HHC.out]
        exact ⟨by omega, by omega⟩
      · rw [HST5.out, HST.out]
        simp only [TT.st, insT]
        rw [if_neg (by rw [HLA.out]; exact hlt), HLA.out]
end Go.Proofs.YtcppgpjodfeigaaDoor
