/- Lemmas and contracts under the claims of this seat: Contract of package tree: fix, of a node with children. Contracts of package tree: a node counted anew, high, turnRight, turnLeft. Contract of package tree: balance. Contracts of package tree: node, leaf, pair. Contracts of package tree: leaf, pair. Contract of package tree: insert, at a leaf that has room. Contract of package tree: insert, at a leaf that is full. Trees of bits in memory: changes of subtrees put together. Contract of package tree: insert. Contracts of package tree that go down: Rank. Contracts of package tree that go down: Select. Trees of bits as a law sees them; Insert. Plain lemmas, of no program: a tree built of so many leaves, the bits dealt out evenly. Contract of package tree: build. Contract of package tree: build, in full. Contract of package tree: New, of no bits. Contract of package tree: New, of some bits. Contracts of package tree: few, level. Contract of package tree: level, where the bits are too many for one leaf. Contract of package tree: mend; nodes given back. Contract of package tree: mend, both children leaves. Contract of package tree: mend, the left child a leaf with too few bits. Contract of package tree: mend, the right child a leaf with too few bits. Contract of package tree: mend. Contract of package tree: drop. Contract of package tree: Delete. Contracts of package tree: all, All. Contracts of package tree: All, Live, Made, Visits, Shape. Contracts of package tree, of trees as a law sees them. -/
import Derived.Test.YtacoeohmdngnkaaGreatDoorZl2
import Derived.Deep.DeepCutAuto
import Derived.Deep.CutBlock
import Derived.Deep.CutRange
import Derived.Test.YtacoeohmdngnkaaGreatDoorZl1
import Derived.IntWalk

namespace Go.Proofs.YtacoeohmdngnkaaGreatDoor
set_option linter.unusedVariables false
set_option linter.unusedSimpArgs false
open Go.RowKit

theorem below_alloc2_drew (w : World) (A B : Obj) : Below w.heap.size w ((w.alloc A).alloc B).drew :=
  let h := ((Below.refl w.heap.size w).alloc (Nat.le_refl _) A).alloc (by simp) B
  ⟨h.os, h.tape, h.output, h.size, h.block⟩
theorem Head.drew {w : World} {p : Nat} {C : Nat → Prop} {A : Ar} {xs : List Nd} {root vis : Int} (h : Head w p C A xs root vis) : Head w.drew p C A xs root vis := h.drewN 1
theorem below_alloc1_drew (w : World) (A : Obj) : Below w.heap.size w (w.alloc A).drew :=
  let h := (Below.refl w.heap.size w).alloc (Nat.le_refl _) A
  ⟨h.os, h.tape, h.output, h.size, h.block⟩
theorem below_drew1 (w : World) : Below w.heap.size w w.drew := ⟨rfl, rfl, rfl, Nat.le_refl _, fun _ _ => rfl⟩
/-- Five cells of a node are written. -/
theorem Head.puts {w : World} {p : Nat} {C : Nat → Prop} {A : Ar} {xs : List Nd} {root vis : Int} (h : Head w p C A xs root vis) {g n rc : Nat} (hg : w.cell? ⟨p, 1, none⟩ = some (.slice (some ⟨g, 0, none⟩) n rc)) {k : Nat} {x : Nd} {i j : Int} (hx : xs[k]? = some x) (hb : x.b = none ∧ x.left = i ∧ x.right = j) (ht m o lm lo : Int) :
    Head (((((w.setCell ⟨g, k * 8 + 2, none⟩ (.int .i64 ht)).setCell ⟨g, k * 8 + 3, none⟩ (.int .i64 m)).setCell ⟨g, k * 8 + 4, none⟩ (.int .i64 o)).setCell ⟨g, k * 8 + 5, none⟩ (.int .i64 lm)).setCell ⟨g, k * 8 + 6, none⟩ (.int .i64 lo)) p C A (xs.set k ⟨i, j, ht, m, o, lm, lo, none⟩) root vis ∧
    Chg (fun b => b = g) w (((((w.setCell ⟨g, k * 8 + 2, none⟩ (.int .i64 ht)).setCell ⟨g, k * 8 + 3, none⟩ (.int .i64 m)).setCell ⟨g, k * 8 + 4, none⟩ (.int .i64 o)).setCell ⟨g, k * 8 + 5, none⟩ (.int .i64 lm)).setCell ⟨g, k * 8 + 6, none⟩ (.int .i64 lo)) := by
  obtain ⟨_, _, hk, _⟩ := h.node hg hx
  have key : ∀ y : Nd, (xs.set k y)[k]? = some y := fun y => by rw [List.getElem?_set, if_pos rfl, if_pos hk]
  obtain ⟨hb, rfl, rfl⟩ := hb
  obtain ⟨h1, c1, g1⟩ := h.put hg hx (i := 2) (v := .int .i64 ht) (x' := ⟨x.left, x.right, ht, x.n, x.ones, x.ln, x.lones, none⟩) (by omega) (by cases x; cases hb; rfl)
  obtain ⟨h2, c2, g2⟩ := h1.put g1 (key _) (i := 3) (v := .int .i64 m) (x' := ⟨x.left, x.right, ht, m, x.ones, x.ln, x.lones, none⟩) (by omega) rfl
  rw [List.set_set] at h2
  obtain ⟨h3, c3, g3⟩ := h2.put g2 (key _) (i := 4) (v := .int .i64 o) (x' := ⟨x.left, x.right, ht, m, o, x.ln, x.lones, none⟩) (by omega) rfl
  rw [List.set_set] at h3
  obtain ⟨h4, c4, g4⟩ := h3.put g3 (key _) (i := 5) (v := .int .i64 lm) (x' := ⟨x.left, x.right, ht, m, o, lm, x.lones, none⟩) (by omega) rfl
  rw [List.set_set] at h4
  obtain ⟨h5, c5, _⟩ := h4.put g4 (key _) (i := 6) (v := .int .i64 lo) (x' := ⟨x.left, x.right, ht, m, o, lm, lo, none⟩) (by omega) rfl
  rw [List.set_set] at h5
  exact ⟨h5, (((c1.trans c2 (fun _ h => Or.inl h)).trans c3 (fun _ h => Or.inl h)).trans c4 (fun _ h => Or.inl h)).trans c5 (fun _ h => Or.inl h)⟩

set_option maxHeartbeats 3200000 in
set_option maxRecDepth 100000 in
theorem tFix_pair {w : World} {p : Nat} {C : Nat → Prop} {A : Ar} {xs : List Nd} {root vis : Int} (h : Head w p C A xs root vis) {k i j : Nat} {x a b : Nd} (hx : xs[k]? = some x) (hb : x.b = none) (hl : x.left = i) (hr : x.right = j)
    (ha : xs[i]? = some a) (hbn : xs[j]? = some b) (s1 : 0 ≤ a.height ∧ a.height ≤ 1000000000) (s2 : 0 ≤ b.height ∧ b.height ≤ 1000000000) (s3 : 0 ≤ a.n ∧ a.n ≤ 8589934592) (s4 : 0 ≤ b.n ∧ b.n ≤ 8589934592) (s5 : 0 ≤ a.ones ∧ a.ones ≤ 8589934592) (s6 : 0 ≤ b.ones ∧ b.ones ≤ 8589934592) :
    Calls Tryz.prog 114 #[.pointer (some ⟨p, 0, none⟩), .int .i64 k] w fun e w' => e = .returned (.tuple #[]) ∧
      Head w' p C A (xs.set k ⟨i, j, max a.height b.height + 1, a.n + b.n, a.ones + b.ones, a.n, a.ones, none⟩) root vis ∧ Chg (RowB w p) w w' := by
  obtain ⟨g, rc, cur, c1, hgp, _⟩ := h.row (by have := (List.getElem?_eq_some_iff.1 hx).1; omega)
  obtain ⟨_, fz, hkx, _⟩ := h.node c1 hx
  obtain ⟨_, _, hix, _⟩ := h.node c1 ha
  obtain ⟨_, _, hjx, _⟩ := h.node c1 hbn
  obtain ⟨a0, a1, a2, a3, a4, a5, a6, a7⟩ := h.eight c1 hx
  obtain ⟨b0, b1, b2, b3, b4, b5, b6, b7⟩ := h.eight c1 ha
  obtain ⟨d0, d1, d2, d3, d4, d5, d6, d7⟩ := h.eight c1 hbn
  have hg := World.block_lt_of_cell? w _ a0
  have hp := h.lt p h.self
  rw [hl] at a0
  rw [hr] at a1
  rw [hb] at a7
  simp only [ptrN, Option.map_none] at a7
  have f0 := fz (k * 8 + 0)
  have f2 := fz (k * 8 + 2)
  have f3 := fz (k * 8 + 3)
  have f4 := fz (k * 8 + 4)
  have f5 := fz (k * 8 + 5)
  have f6 := fz (k * 8 + 6)
  have H := Lib.hid h
  have HRB : Hid (RowB w p g) := ⟨_, _, c1⟩
  have HX := Lib.hid hx
  have HXB : Hid (x.b = none ∧ x.left = i ∧ x.right = j) := ⟨hb, hl, hr⟩
  obtain ⟨pa, hpa⟩ : ∃ pa, ptrN a.b = .pointer pa := ⟨_, rfl⟩
  obtain ⟨pb, hpb⟩ : ∃ pb, ptrN b.b = .pointer pb := ⟨_, rfl⟩
  rw [hpa] at b7
  rw [hpb] at d7
  clear hpa hpb
  clear h fz hb hx ha hbn hl hr
  go_enter Tryz.func114, Tryz.ntmps114
  go_wp2_with fail
  go_upto_region 4 with fail
  go_cut [5, 6] (fun va vb wx => ∃ qa qb : Nat, va = .pointer (some ⟨qa, 0, none⟩) ∧ vb = .pointer (some ⟨qb, 0, none⟩) ∧ w.heap.size ≤ qa ∧ w.heap.size ≤ qb ∧ Below w.heap.size w wx ∧
    wx.heap[qa]? = some (.cells #[.int .i64 a.left, .int .i64 a.right, .int .i64 a.height, .int .i64 a.n, .int .i64 a.ones, .int .i64 a.ln, .int .i64 a.lones, .pointer pa] 103 (0, 0)) ∧
    wx.heap[qb]? = some (.cells #[.int .i64 b.left, .int .i64 b.right, .int .i64 b.height, .int .i64 b.n, .int .i64 b.ones, .int .i64 b.ln, .int .i64 b.lones, .pointer pb] 103 (0, 0)))
  case first =>
    -- REGION three
    refine reg_start (fun w' => Below w.heap.size w w') (by kernel_rfl) (below_drew1 _) (fun hHeld => ?_)
    refine reg_take (i := 0) (v := ?vt0) rfl (by kernel_rfl) rfl hHeld ?yt0 ?rt0
    case yt0 => (intro w' hSw; go_simp; all_goals with_reducible rfl)
    try simp only [Act.put, List.setIfInBounds_toArray, List.set_cons_zero, List.set_cons_succ]
    refine reg_take (i := 1) (v := ?vt1) rfl (by kernel_rfl) rfl hHeld ?yt1 ?rt1
    case yt1 => (intro w' hSw; go_simp; all_goals with_reducible rfl)
    try simp only [Act.put, List.setIfInBounds_toArray, List.set_cons_zero, List.set_cons_succ]
    refine reg_take (i := 2) (v := ?vt2) rfl (by kernel_rfl) rfl hHeld ?yt2 ?rt2
    case yt2 => (intro w' hSw; go_simp; all_goals with_reducible rfl)
    try simp only [Act.put, List.setIfInBounds_toArray, List.set_cons_zero, List.set_cons_succ]
    refine reg_take (i := 3) (v := ?vt3) rfl (by kernel_rfl) rfl hHeld ?yt3 ?rt3
    case yt3 => (intro w' hSw; have q1 := (hSw.cell (p := ⟨p, 1, none⟩) hp).trans c1; go_simp; all_goals with_reducible rfl)
    try simp only [Act.put, List.setIfInBounds_toArray, List.set_cons_zero, List.set_cons_succ]
    refine reg_take (i := 4) (v := ?vt4) rfl (by kernel_rfl) rfl hHeld ?yt4 ?rt4
    case yt4 => (intro w' hSw; go_simp; all_goals with_reducible rfl)
    try simp only [Act.put, List.setIfInBounds_toArray, List.set_cons_zero, List.set_cons_succ]
    refine reg_take (i := 5) (v := ?vt5) rfl (by kernel_rfl) rfl hHeld ?yt5 ?rt5
    case yt5 => (intro w' hSw; go_simp; all_goals with_reducible rfl)
    try simp only [Act.put, List.setIfInBounds_toArray, List.set_cons_zero, List.set_cons_succ]
    refine reg_take (i := 6) (v := ?vt6) rfl (by kernel_rfl) rfl hHeld ?yt6 ?rt6
    case yt6 => (intro w' hSw; go_simp; all_goals with_reducible rfl)
    try simp only [Act.put, List.setIfInBounds_toArray, List.set_cons_zero, List.set_cons_succ]
    refine reg_take (i := 7) (v := ?vt7) rfl (by kernel_rfl) rfl hHeld ?yt7 ?rt7
    case yt7 => (intro w' hSw; have q2 := (hSw.cell (p := ⟨g, k * 8, none⟩) hg).trans a0; go_simp; all_goals with_reducible rfl)
    try simp only [Act.put, List.setIfInBounds_toArray, List.set_cons_zero, List.set_cons_succ]
    refine reg_take (i := 8) (v := ?vt8) rfl (by kernel_rfl) rfl hHeld ?yt8 ?rt8
    case yt8 => (intro w' hSw; go_simp; all_goals with_reducible rfl)
    try simp only [Act.put, List.setIfInBounds_toArray, List.set_cons_zero, List.set_cons_succ]
    refine reg_take (i := 9) (v := ?vt9) rfl (by kernel_rfl) rfl hHeld ?yt9 ?rt9
    case yt9 => (intro w' hSw; have r0 := (hSw.cell (p := ⟨g, i * 8, none⟩) hg).trans b0; have r1 := (hSw.cell (p := ⟨g, i * 8 + 1, none⟩) hg).trans b1; have r2 := (hSw.cell (p := ⟨g, i * 8 + 2, none⟩) hg).trans b2; have r3 := (hSw.cell (p := ⟨g, i * 8 + 3, none⟩) hg).trans b3; have r4 := (hSw.cell (p := ⟨g, i * 8 + 4, none⟩) hg).trans b4; have r5 := (hSw.cell (p := ⟨g, i * 8 + 5, none⟩) hg).trans b5; have r6 := (hSw.cell (p := ⟨g, i * 8 + 6, none⟩) hg).trans b6; have r7 := (hSw.cell (p := ⟨g, i * 8 + 7, none⟩) hg).trans b7; go_simp; all_goals with_reducible rfl)
    try simp only [Act.put, List.setIfInBounds_toArray, List.set_cons_zero, List.set_cons_succ]
    refine reg_take (i := 10) (v := ?vt10) rfl (by kernel_rfl) rfl hHeld ?yt10 ?rt10
    case yt10 => (intro w' hSw; go_simp; all_goals with_reducible rfl)
    try simp only [Act.put, List.setIfInBounds_toArray, List.set_cons_zero, List.set_cons_succ]
    refine reg_take (i := 11) (v := ?vt11) rfl (by kernel_rfl) rfl hHeld ?yt11 ?rt11
    case yt11 => (intro w' hSw; go_simp; all_goals with_reducible rfl)
    try simp only [Act.put, List.setIfInBounds_toArray, List.set_cons_zero, List.set_cons_succ]
    refine reg_take (i := 12) (v := ?vt12) rfl (by kernel_rfl) rfl hHeld ?yt12 ?rt12
    case yt12 => (intro w' hSw; go_simp; all_goals with_reducible rfl)
    try simp only [Act.put, List.setIfInBounds_toArray, List.set_cons_zero, List.set_cons_succ]
    refine reg_take (i := 13) (v := ?vt13) rfl (by kernel_rfl) rfl hHeld ?yt13 ?rt13
    case yt13 => (intro w' hSw; have q1 := (hSw.cell (p := ⟨p, 1, none⟩) hp).trans c1; go_simp; all_goals with_reducible rfl)
    try simp only [Act.put, List.setIfInBounds_toArray, List.set_cons_zero, List.set_cons_succ]
    refine reg_take (i := 14) (v := ?vt14) rfl (by kernel_rfl) rfl hHeld ?yt14 ?rt14
    case yt14 => (intro w' hSw; go_simp; all_goals with_reducible rfl)
    try simp only [Act.put, List.setIfInBounds_toArray, List.set_cons_zero, List.set_cons_succ]
    refine reg_take (i := 15) (v := ?vt15) rfl (by kernel_rfl) rfl hHeld ?yt15 ?rt15
    case yt15 => (intro w' hSw; go_simp; all_goals with_reducible rfl)
    try simp only [Act.put, List.setIfInBounds_toArray, List.set_cons_zero, List.set_cons_succ]
    refine reg_take (i := 16) (v := ?vt16) rfl (by kernel_rfl) rfl hHeld ?yt16 ?rt16
    case yt16 => (intro w' hSw; go_simp; all_goals with_reducible rfl)
    try simp only [Act.put, List.setIfInBounds_toArray, List.set_cons_zero, List.set_cons_succ]
    refine reg_take (i := 17) (v := ?vt17) rfl (by kernel_rfl) rfl hHeld ?yt17 ?rt17
    case yt17 => (intro w' hSw; have q3 := (hSw.cell (p := ⟨g, k * 8 + 1, none⟩) hg).trans a1; go_simp; all_goals with_reducible rfl)
    try simp only [Act.put, List.setIfInBounds_toArray, List.set_cons_zero, List.set_cons_succ]
    refine reg_take (i := 18) (v := ?vt18) rfl (by kernel_rfl) rfl hHeld ?yt18 ?rt18
    case yt18 => (intro w' hSw; go_simp; all_goals with_reducible rfl)
    try simp only [Act.put, List.setIfInBounds_toArray, List.set_cons_zero, List.set_cons_succ]
    refine reg_take (i := 19) (v := ?vt19) rfl (by kernel_rfl) rfl hHeld ?yt19 ?rt19
    case yt19 => (intro w' hSw; have r0 := (hSw.cell (p := ⟨g, j * 8, none⟩) hg).trans d0; have r1 := (hSw.cell (p := ⟨g, j * 8 + 1, none⟩) hg).trans d1; have r2 := (hSw.cell (p := ⟨g, j * 8 + 2, none⟩) hg).trans d2; have r3 := (hSw.cell (p := ⟨g, j * 8 + 3, none⟩) hg).trans d3; have r4 := (hSw.cell (p := ⟨g, j * 8 + 4, none⟩) hg).trans d4; have r5 := (hSw.cell (p := ⟨g, j * 8 + 5, none⟩) hg).trans d5; have r6 := (hSw.cell (p := ⟨g, j * 8 + 6, none⟩) hg).trans d6; have r7 := (hSw.cell (p := ⟨g, j * 8 + 7, none⟩) hg).trans d7; go_simp; all_goals with_reducible rfl)
    try simp only [Act.put, List.setIfInBounds_toArray, List.set_cons_zero, List.set_cons_succ]
    refine wpAnyH_ready (rs := [20, 21]) (by kernel_rfl) (by simp) (all_cons rfl rfl (fun K hK => ?_) (all_cons rfl rfl (fun K hK => ?_) AllReadyH.nil))
    · go_simp
      refine hK.out _ _ (below_alloc1_drew _ _) (fun hNew => ?_)
      clear hK K hHeld
      have hHeld := hNew
      clear hNew
      try simp only [Act.put, List.setIfInBounds_toArray, List.set_cons_zero, List.set_cons_succ]
      refine reg_loud (i := 21) rfl (by kernel_rfl) rfl (fun K hK => ?_)
      go_simp
      refine hK.out _ _ (below_alloc2_drew _ _ _) (fun hNew => ?_)
      clear hK K hHeld
      have hHeld := hNew
      clear hNew
      try simp only [Act.put, List.setIfInBounds_toArray, List.set_cons_zero, List.set_cons_succ]
      refine reg_loud (i := 22) rfl (by kernel_rfl) rfl (fun K hK => ?_)
      go_simp
      refine hK.out _ _ (below_alloc2_drew _ _ _) (fun hNew => ?_)
      clear hK K hHeld
      have hHeld := hNew
      clear hNew
      try simp only [Act.put, List.setIfInBounds_toArray, List.set_cons_zero, List.set_cons_succ]
      refine reg_loud (i := 23) rfl (by kernel_rfl) rfl (fun K hK => ?_)
      go_simp
      refine hK.out _ _ (below_alloc2_drew _ _ _) (fun hNew => ?_)
      clear hK K hHeld
      have hHeld := hNew
      clear hNew
      try simp only [Act.put, List.setIfInBounds_toArray, List.set_cons_zero, List.set_cons_succ]
      refine reg_done (by kernel_rfl) ?_ _
      go_wp2_with fail
      go_meet
      case rel => exact ⟨_, _, rfl, rfl, Nat.le_refl _, Nat.le_succ _, hHeld, heap_alloc2_old _ _ _, heap_alloc2_new _ _ _⟩
    · go_simp
      refine hK.out _ _ (below_alloc1_drew _ _) (fun hNew => ?_)
      clear hK K hHeld
      have hHeld := hNew
      clear hNew
      try simp only [Act.put, List.setIfInBounds_toArray, List.set_cons_zero, List.set_cons_succ]
      refine reg_loud (i := 20) rfl (by kernel_rfl) rfl (fun K hK => ?_)
      go_simp
      refine hK.out _ _ (below_alloc2_drew _ _ _) (fun hNew => ?_)
      clear hK K hHeld
      have hHeld := hNew
      clear hNew
      try simp only [Act.put, List.setIfInBounds_toArray, List.set_cons_zero, List.set_cons_succ]
      refine reg_loud (i := 22) rfl (by kernel_rfl) rfl (fun K hK => ?_)
      go_simp
      refine hK.out _ _ (below_alloc2_drew _ _ _) (fun hNew => ?_)
      clear hK K hHeld
      have hHeld := hNew
      clear hNew
      try simp only [Act.put, List.setIfInBounds_toArray, List.set_cons_zero, List.set_cons_succ]
      refine reg_loud (i := 23) rfl (by kernel_rfl) rfl (fun K hK => ?_)
      go_simp
      refine hK.out _ _ (below_alloc2_drew _ _ _) (fun hNew => ?_)
      clear hK K hHeld
      have hHeld := hNew
      clear hNew
      try simp only [Act.put, List.setIfInBounds_toArray, List.set_cons_zero, List.set_cons_succ]
      refine reg_done (by kernel_rfl) ?_ _
      go_wp2_with fail
      go_meet
      case rel => exact ⟨_, _, rfl, rfl, Nat.le_succ _, Nat.le_refl _, hHeld, heap_alloc2_new _ _ _, heap_alloc2_old _ _ _⟩
    -- END OF REGION three
  case rest =>
    obtain ⟨qa, qb, rfl, rfl, l1, l2, hb, hqa, hqb⟩ := hcut
    have Hc := H.out.below hb
    obtain ⟨P1, P2⟩ := Hc.puts ((hb.cell (p := ⟨p, 1, none⟩) hp).trans c1) HX.out HXB.out (max a.height b.height + 1) (a.n + b.n) (a.ones + b.ones) a.n a.ones
    have HP1 := Lib.hid P1
    have HP2 : Hid (Chg (RowB w p) wc _) := P2.mono (fun b e => by subst e; exact HRB.out)
    have HC := Lib.hid hb
    have ea2 : wc.cell? ⟨qa, 2, none⟩ = some (.int .i64 a.height) := by rw [cell_of_row wc qa 2 _ _ _ hqa]; rfl
    have ea3 : wc.cell? ⟨qa, 3, none⟩ = some (.int .i64 a.n) := by rw [cell_of_row wc qa 3 _ _ _ hqa]; rfl
    have ea4 : wc.cell? ⟨qa, 4, none⟩ = some (.int .i64 a.ones) := by rw [cell_of_row wc qa 4 _ _ _ hqa]; rfl
    have eb2 : wc.cell? ⟨qb, 2, none⟩ = some (.int .i64 b.height) := by rw [cell_of_row wc qb 2 _ _ _ hqb]; rfl
    have eb3 : wc.cell? ⟨qb, 3, none⟩ = some (.int .i64 b.n) := by rw [cell_of_row wc qb 3 _ _ _ hqb]; rfl
    have eb4 : wc.cell? ⟨qb, 4, none⟩ = some (.int .i64 b.ones) := by rw [cell_of_row wc qb 4 _ _ _ hqb]; rfl
    have e2 := (hb.cell (p := ⟨g, k * 8 + 2, none⟩) hg).trans a2
    have e3 := (hb.cell (p := ⟨g, k * 8 + 3, none⟩) hg).trans a3
    have e4 := (hb.cell (p := ⟨g, k * 8 + 4, none⟩) hg).trans a4
    have e5 := (hb.cell (p := ⟨g, k * 8 + 5, none⟩) hg).trans a5
    have e6 := (hb.cell (p := ⟨g, k * 8 + 6, none⟩) hg).trans a6
    have k2 := (hb.frozen (p := ⟨g, k * 8 + 2, none⟩) hg).trans f2
    have k3 := (hb.frozen (p := ⟨g, k * 8 + 3, none⟩) hg).trans f3
    have k4 := (hb.frozen (p := ⟨g, k * 8 + 4, none⟩) hg).trans f4
    have k5 := (hb.frozen (p := ⟨g, k * 8 + 5, none⟩) hg).trans f5
    have k6 := (hb.frozen (p := ⟨g, k * 8 + 6, none⟩) hg).trans f6
    have hg' : g < w.heap.size := hg
    have n1 : ¬ qa = g := by omega
    have n2 : ¬ qb = g := by omega
    have n3 : ¬ g = qa := by omega
    have n4 : ¬ g = qb := by omega
    clear P1 P2 hb hqa hqb Hc a0 a1 a2 a3 a4 a5 a6 a7 b0 b1 b2 b3 b4 b5 b6 b7 d0 d1 d2 d3 d4 d5 d6 d7 f0 f2 f3 f4 f5 f6 c1
    have HWN : Hid (IntKind.i64.wrap (a.n + b.n) = a.n + b.n) := IntWalk.i64_in _ (by omega)
    have HWO : Hid (IntKind.i64.wrap (a.ones + b.ones) = a.ones + b.ones) := IntWalk.i64_in _ (by omega)
    obtain ⟨hm, hhm⟩ : ∃ hm, hm = max a.height b.height := ⟨_, rfl⟩
    rw [← hhm] at HP1 HP2
    have HHM := Lib.hid hhm
    clear hhm
    go_upto_region 4 with fail
    go_cut [5] (fun va wx => va = .pointer (some ⟨qa, 0, none⟩) ∧ wx = wc.setCell ⟨g, k * 8 + 2, none⟩ (.int .i64 (hm + 1)))
    case first =>
      by_cases hlt : a.height < b.height
      · have e0 := HHM.out
        rw [Int.max_eq_right (by omega)] at e0
        subst e0
        go_wp2_with fail
        go_meet
        case rel => exact ⟨rfl, rfl⟩
      · have e0 := HHM.out
        rw [Int.max_eq_left (by omega)] at e0
        subst e0
        go_wp2_with fail
        go_meet
        case rel => exact ⟨rfl, rfl⟩
    case rest =>
      obtain ⟨rfl, rfl⟩ := hcut
      go_wp2_with fail
      -- REGION five
      refine reg_start (fun w' => w'.cell? ⟨qa, 3, none⟩ = some (.int .i64 a.n) ∧ w'.cell? ⟨qa, 4, none⟩ = some (.int .i64 a.ones) ∧ w'.cell? ⟨qb, 3, none⟩ = some (.int .i64 b.n) ∧ w'.cell? ⟨qb, 4, none⟩ = some (.int .i64 b.ones)) (by kernel_rfl) ?hif (fun hHeld => ?_)
      case hif => (refine ⟨?_, ?_, ?_, ?_⟩ <;> go_simp)
      refine rt 0 hHeld ?_
      refine rt 1 hHeld ?_
      refine rt 2 hHeld ?_
      refine rt 3 hHeld ?_
      refine rt 4 hHeld ?_
      refine rt 5 hHeld ?_
      refine rt 6 hHeld ?_
      refine rt 7 hHeld ?_
      refine rt 8 hHeld ?_
      refine rt 9 hHeld ?_
      refine rt 10 hHeld ?_
      refine rt 11 hHeld ?_
      refine rt 12 hHeld ?_
      refine rt 13 hHeld ?_
      refine reg_loud (i := 14) rfl (by kernel_rfl) rfl (fun K hK => ?_)
      go_simp
      refine hK.out _ _ ?kpf14 (fun hNew => ?_)
      case kpf14 => (refine ⟨?_, ?_, ?_, ?_⟩ <;> go_simp)
      clear hK K hHeld
      have hHeld := hNew
      clear hNew
      try simp only [Act.put, List.setIfInBounds_toArray, List.set_cons_zero, List.set_cons_succ]
      refine rt 15 hHeld ?_
      refine rt 16 hHeld ?_
      refine reg_loud (i := 17) rfl (by kernel_rfl) rfl (fun K hK => ?_)
      go_simp
      refine hK.out _ _ ?kpf17 (fun hNew => ?_)
      case kpf17 => (refine ⟨?_, ?_, ?_, ?_⟩ <;> go_simp)
      clear hK K hHeld
      have hHeld := hNew
      clear hNew
      try simp only [Act.put, List.setIfInBounds_toArray, List.set_cons_zero, List.set_cons_succ]
      refine reg_done (by kernel_rfl) ?_ _
      -- END OF REGION five
      go_wp2_with fail
      -- REGION six
      refine reg_start (fun w' => w'.cell? ⟨qa, 3, none⟩ = some (.int .i64 a.n) ∧ w'.cell? ⟨qa, 4, none⟩ = some (.int .i64 a.ones) ∧ w'.cell? ⟨qb, 3, none⟩ = some (.int .i64 b.n) ∧ w'.cell? ⟨qb, 4, none⟩ = some (.int .i64 b.ones)) (by kernel_rfl) ?his (fun hHeld => ?_)
      case his => (refine ⟨?_, ?_, ?_, ?_⟩ <;> go_simp)
      refine rt 0 hHeld ?_
      refine rt 1 hHeld ?_
      refine rt 2 hHeld ?_
      refine rt 3 hHeld ?_
      refine rt 4 hHeld ?_
      refine rt 5 hHeld ?_
      refine rt 6 hHeld ?_
      refine rt 7 hHeld ?_
      refine reg_loud (i := 8) rfl (by kernel_rfl) rfl (fun K hK => ?_)
      go_simp
      refine hK.out _ _ ?kps8 (fun hNew => ?_)
      case kps8 => (refine ⟨?_, ?_, ?_, ?_⟩ <;> go_simp)
      clear hK K hHeld
      have hHeld := hNew
      clear hNew
      try simp only [Act.put, List.setIfInBounds_toArray, List.set_cons_zero, List.set_cons_succ]
      refine rt 9 hHeld ?_
      refine rt 10 hHeld ?_
      refine reg_loud (i := 11) rfl (by kernel_rfl) rfl (fun K hK => ?_)
      go_simp
      refine hK.out _ _ ?kps11 (fun hNew => ?_)
      case kps11 => (refine ⟨?_, ?_, ?_, ?_⟩ <;> go_simp)
      clear hK K hHeld
      have hHeld := hNew
      clear hNew
      try simp only [Act.put, List.setIfInBounds_toArray, List.set_cons_zero, List.set_cons_succ]
      refine reg_done (by kernel_rfl) ?_ _
      -- END OF REGION six
      go_wp2_with fail
      go_end0
      rw [← HHM.out]
      rw [HWN.out, HWO.out]
      exact ⟨rfl, HP1.out.drew.drew, ((Chg.of_below HC.out).trans HP2.out (fun _ h => Or.inl h)).drew.drew⟩

end Go.Proofs.YtacoeohmdngnkaaGreatDoor

namespace Go.Proofs.YtacoeohmdngnkaaGreatDoor
set_option linter.unusedVariables false
set_option linter.unusedSimpArgs false
open Go.RowKit

theorem set_get {α : Type} {xs : List α} {k : Nat} {x y : α} (h : xs[k]? = some x) : (xs.set k y)[k]? = some y := by
  rw [List.getElem?_set, if_pos rfl, if_pos (List.getElem?_eq_some_iff.1 h).1]
theorem set_ne {α : Type} {xs : List α} {k j : Nat} {y : α} (h : j ≠ k) : (xs.set k y)[j]? = xs[j]? := by
  rw [List.getElem?_set, if_neg (fun e => h e.symm)]

theorem set_out {xs : List Nd} {k : Nat} {y : Nd} {T : TT} (hk : k ∉ T.nums) : ∀ j ∈ T.nums, (xs.set k y)[j]? = xs[j]? := fun j hj => set_ne (by rintro rfl; exact hk hj)
theorem Sub.set {w : World} {xs : List Nd} {T : TT} (h : Sub w xs T) {k : Nat} (hk : k ∉ T.nums) (y : Nd) : Sub w (xs.set k y) T := h.keep (set_out hk) (fun _ _ => rfl)

/-- How many bits there are in all, and how high it is. -/
def Small (t : ST) : Prop := t.bits.length ≤ 8589934592 ∧ t.high ≤ 1000000000
theorem Small.l {a b : ST} (h : Small (.pair a b)) : Small a := by
  obtain ⟨h1, h2⟩ := h
  simp only [ST.bits, ST.high, List.length_append] at h1 h2
  exact ⟨by omega, by omega⟩
theorem Small.r {a b : ST} (h : Small (.pair a b)) : Small b := by
  obtain ⟨h1, h2⟩ := h
  simp only [ST.bits, ST.high, List.length_append] at h1 h2
  exact ⟨by omega, by omega⟩

/-- A node whose children are known is counted anew. -/
theorem tFix_tt {w : World} {p : Nat} {C : Nat → Prop} {A : Ar} {xs : List Nd} {root vis : Int} (h : Head w p C A xs root vis) {k : Nat} {x : Nd} {a b : TT} (hx : xs[k]? = some x) (hb : x.b = none) (hl : x.left = a.num) (hr : x.right = b.num)
    (ha : Sub w xs a) (hbn : Sub w xs b) (s1 : Small a.st) (s2 : Small b.st) :
    Calls Tryz.prog 114 #[.pointer (some ⟨p, 0, none⟩), .int .i64 k] w fun e w' => e = .returned (.tuple #[]) ∧ Head w' p C A (xs.set k (TT.pair k a b).nd) root vis ∧ Chg (RowB w p) w w' := by
  have c1 := count_le a.st.bits true
  have c2 := count_le b.st.bits true
  obtain ⟨l1, g1⟩ := s1
  obtain ⟨l2, g2⟩ := s2
  refine (tFix_pair h hx hb hl hr ha.root hbn.root ?_ ?_ ?_ ?_ ?_ ?_).mono ?_
  · rw [a.nd_high]; omega
  · rw [b.nd_high]; omega
  · rw [a.nd_n]; omega
  · rw [b.nd_n]; omega
  · rw [a.nd_ones]; omega
  · rw [b.nd_ones]; omega
  · rintro e w' ⟨rfl, h1, h2⟩
    refine ⟨rfl, ?_, h2⟩
    rw [a.nd_high, b.nd_high, a.nd_n, b.nd_n, a.nd_ones, b.nd_ones] at h1
    have e : (TT.pair k a b).nd = ⟨a.num, b.num, max (a.st.high : Int) b.st.high + 1, a.st.bits.length + b.st.bits.length, a.st.bits.count true + b.st.bits.count true, a.st.bits.length, a.st.bits.count true, none⟩ := by
      simp only [TT.nd, ST.high]
      congr 1
      omega
    rw [e]; exact h1

end Go.Proofs.YtacoeohmdngnkaaGreatDoor

namespace Go.Proofs.YtacoeohmdngnkaaGreatDoor
set_option linter.unusedVariables false
set_option linter.unusedSimpArgs false
open Go.RowKit

theorem TT.dis {k : Nat} {a b : TT} (h : (TT.pair k a b).nums.Nodup) : k ∉ a.nums ∧ k ∉ b.nums ∧ a.nums.Nodup ∧ b.nums.Nodup ∧ (∀ j, j ∈ a.nums → j ∉ b.nums) := by
  simp only [TT.nums, List.nodup_cons, List.mem_append, not_or, List.nodup_append] at h
  obtain ⟨⟨h1, h2⟩, h3, h4, h5⟩ := h
  exact ⟨h1, h2, h3, h4, fun j hj hk => h5 j hj j hk rfl⟩
theorem TT.mem_l {k j : Nat} {a b : TT} (h : j ∈ a.nums) : j ∈ (TT.pair k a b).nums := by simp [TT.nums, h]
theorem TT.mem_r {k j : Nat} {a b : TT} (h : j ∈ b.nums) : j ∈ (TT.pair k a b).nums := by simp [TT.nums, h]
theorem TT.mem_k {k : Nat} {a b : TT} : k ∈ (TT.pair k a b).nums := by simp [TT.nums]

end Go.Proofs.YtacoeohmdngnkaaGreatDoor

namespace Go.Proofs.YtacoeohmdngnkaaGreatDoor
set_option linter.unusedVariables false
set_option linter.unusedSimpArgs false
open Go.RowKit

theorem Tryz.infoNode : (Tryz.prog.info? 103).map (fun i => (i.zero, i.size, i.bytes)) = some (some (.agg #[.int .i64 0, .int .i64 0, .int .i64 0, .int .i64 0, .int .i64 0, .int .i64 0, .int .i64 0, .pointer none]), 8, 64) := by kernel_rfl

/-- 's = append(s, x)' of one element of eight cells, one operation. -/
theorem wp_push8 {P : Program} {w : World} {o : Oper} {a : Act} {K : Act → World → Prop} {Q : Exit → Act → World → Prop} {e' : TypeId} {us : List Value} (s x : Operand) (t : TypeId)
    (ho : o.op = .call { callee := .builtin .append, args := #[s, x], argTypes := #[t, t] })
    (base : Nat) (e : TypeId) {z : Value} {bytes : Nat} (hinfo : (P.info? e).map (fun i => (i.zero, i.size, i.bytes)) = some (some z, 8, bytes)) (ht : P.underlying t = some (.slice e)) (hz1 : z.cells.size = 8)
    (v : Value) (n : Nat) (xs : List Value) (hs : a.eval s = v) (hown : w.ownsRow base e 8 v n xs)
    (hx : a.eval x = .slice (some ⟨w.heap.size, 0, none⟩) 1 1) (hu : us.length = 8) (h1 : ∀ u ∈ us, u.oneCell' = true)
    (h63 : n + 1 ≤ maxLen) (hbytes : (n + 1) * bytes ≤ 140737488355328) (hbase : base ≤ w.heap.size)
    (h : ∀ g cap w', w'.ownsRow base e 8 (.slice (some ⟨g, 0, none⟩) (n + 1) cap) (n + 1) (xs ++ us) → w.grownBy w' v.ownBlock → (v.ownBlock = some g ∨ w.heap.size ≤ g) → g < w'.heap.size →
      K (a.put o.dst (.slice (some ⟨g, 0, none⟩) (n + 1) cap)) w') : Oper.wp P o a (w.alloc (.cells us.toArray e')) K Q := by
  obtain ⟨i, hi, hz, hsz, hby⟩ := info_parts hinfo
  refine wp_append_lies (w.alloc (.cells us.toArray e')) s x t ho base e i z 8 bytes ht hi hz hsz hby hz1 (by omega) v n xs hs (hown.alloc _) ⟨w.heap.size, 0, none⟩ 1 1 us hx (by omega) ?_ h1 (by omega) h63 hbytes ?_ _ rfl ?_
  · intro j u hj
    rw [Addr.add_lit, Nat.zero_add, cell_of_row _ _ j _ _ _ (heap_alloc_new w _), List.getElem?_toArray, hj]
  · simp; omega
  · intro g cap w' h1 h2 h3 h4
    exact h g cap w' h1 ⟨h2.os, h2.tape, h2.output, by have := h2.size; simp at this; omega, fun k hk hne => by
      rw [h2.block k (by simp; omega) hne]; exact Below.heap_alloc w _ k hk⟩ (h3.imp id (fun h => by simp at h; omega)) h4

section
variable {w w' : World} {p : Nat} {C : Nat → Prop} {A : Ar} {xs : List Nd} {root vis : Int}
theorem HStep.of_below {C : Nat → Prop} (h : Below w.heap.size w w') : HStep w w' C C := ⟨Chg.of_below h, fun k hk => Or.inl hk⟩
theorem Head.see1 (h : Head w p C A xs root vis) : ∃ ra rc, w.cell? ⟨p, 1, none⟩ = some (.slice ra xs.length rc) ∧ w.ownsRow 0 103 8 (.slice ra xs.length rc) xs.length (cellsN xs) := by
  obtain ⟨ap, SA, ra, rc, hp, ha, ho, hC⟩ := h.ex
  exact ⟨ra, rc, by rw [cell_of_row w p 1 _ _ _ hp]; rfl, ho⟩
/-- The row of nodes has grown by one. -/
theorem Head.grow (h : Head w p C A xs root vis) {ra : Option Addr} {rc : Nat} (h1 : w.cell? ⟨p, 1, none⟩ = some (.slice ra xs.length rc)) {g cap : Nat} {x : Nd}
    (hown : w'.ownsRow 0 103 8 (.slice (some ⟨g, 0, none⟩) (xs.length + 1) cap) (xs.length + 1) (cellsN xs ++ x.cells)) (hg : w.grownBy w' (Value.slice ra xs.length rc).ownBlock) (hor : (Value.slice ra xs.length rc).ownBlock = some g ∨ w.heap.size ≤ g) :
    ∃ C', Head (w'.setCell ⟨p, 1, none⟩ (.slice (some ⟨g, 0, none⟩) (xs.length + 1) cap)) p C' A (xs ++ [x]) root vis ∧ HStep w (w'.setCell ⟨p, 1, none⟩ (.slice (some ⟨g, 0, none⟩) (xs.length + 1) cap)) C C' := by
  obtain ⟨ap, SA, ra', rc', hp, ha, ho, hC⟩ := h.ex
  have e0 : ra' = ra ∧ rc' = rc := by
    rw [cell_of_row w p 1 _ _ _ hp] at h1
    have h1 : some (Value.slice ra' xs.length rc') = some (.slice ra xs.length rc) := h1
    injection h1 with h1
    injection h1 with e1 _ e3
    exact ⟨e1, e3⟩
  obtain ⟨rfl, rfl⟩ := e0
  have hT : TypeAt w p 100 := ⟨_, hp⟩
  have hob : ∀ k, (Value.slice ra' xs.length rc').ownBlock = some k ↔ ra' = some ⟨k, 0, none⟩ := fun k => ownBlock_addr (own_addr ho)
  have hne : ∀ k T, TypeAt w k T → T ≠ 103 → (Value.slice ra' xs.length rc').ownBlock ≠ some k := by
    intro k T hk hT e
    rw [(hob k).1 e] at ho
    exact (own_type ho).ne hk (fun e => hT e.symm) rfl
  have hc1 : Chg (fun k => ra' = some ⟨k, 0, none⟩) w w' := Chg.refl.grown hg (fun k hk => Or.inl ((hob k).1 hk))
  have hp' := hc1.heap hp (fun e => hne p _ hT (by decide) ((hob p).2 e))
  have ha' : IsArena w' ap SA A := ha.chg hc1 (fun k hk e => by
    rcases ha.types hk with t | t | t <;> exact hne k _ t (by decide) ((hob k).2 e))
  have hgp : g ≠ p := by
    rcases hor with e | e
    · rintro rfl; exact hne _ _ hT (by decide) e
    · have := hT.lt; omega
  have hgT : TypeAt w' g 103 := own_type hown
  have hc2 : Chg (fun k => k = p) w' (w'.setCell ⟨p, 1, none⟩ (.slice (some ⟨g, 0, none⟩) (xs.length + 1) cap)) := Chg.refl.setCell (S := fun k => k = p) ⟨p, 1, none⟩ (Or.inl rfl) _
  refine ⟨fun k => k = p ∨ SA k ∨ (some (⟨g, 0, none⟩ : Addr)) = some ⟨k, 0, none⟩, ⟨ap, SA, some ⟨g, 0, none⟩, cap, ?_, ha'.chg hc2 (fun k hk e => ?_), ?_, fun k => Iff.rfl⟩, ?_, fun k hk => ?_⟩
  · have := heap_setCell_same w' p 1 _ _ (.slice (some ⟨g, 0, none⟩) (xs.length + 1) cap) hp'
    rw [List.length_append]; exact this
  · subst e
    rcases ha.types hk with t | t | t <;> exact t.ne hT (by decide) rfl
  · rw [List.length_append, cellsN_app, show cellsN [x] = x.cells by simp [cellsN]]
    exact hc2.own hown (fun k hk e => by
      simp [Value.ownBlock] at hk
      omega)
  · refine (hc1.mono (fun k e => (hC k).2 (Or.inr (Or.inr e)))).trans hc2 (fun k e => Or.inl (by subst e; exact (hC _).2 (Or.inl rfl)))
  · rcases hk with rfl | hk | hk
    · exact Or.inl ((hC _).2 (Or.inl rfl))
    · exact Or.inl ((hC _).2 (Or.inr (Or.inl hk)))
    · injection hk with hk
      injection hk with hk _ _
      subst hk
      rcases hor with e | e
      · exact Or.inl ((hC _).2 (Or.inr (Or.inr ((hob _).1 e))))
      · exact Or.inr e
end

theorem Nd.one (x : Nd) : ∀ u ∈ x.cells, u.oneCell' = true := by
  intro u hu
  simp only [Nd.cells, List.mem_cons, List.not_mem_nil, or_false] at hu
  rcases hu with rfl | rfl | rfl | rfl | rfl | rfl | rfl | rfl <;> first | rfl | (unfold ptrN; rfl)

/-- A whole node is written. -/
theorem Head.puts8 {w : World} {p : Nat} {C : Nat → Prop} {A : Ar} {xs : List Nd} {root vis : Int} (h : Head w p C A xs root vis) {g n rc : Nat} (hg : w.cell? ⟨p, 1, none⟩ = some (.slice (some ⟨g, 0, none⟩) n rc)) {k : Nat} {xk : Nd} (hx : xs[k]? = some xk) (x : Nd) {pb : Option Addr} (hpb : ptrN x.b = .pointer pb) :
    Head ((((((((w.setCell ⟨g, k * 8, none⟩ (.int .i64 x.left)).setCell ⟨g, k * 8 + 1, none⟩ (.int .i64 x.right)).setCell ⟨g, k * 8 + 2, none⟩ (.int .i64 x.height)).setCell ⟨g, k * 8 + 3, none⟩ (.int .i64 x.n)).setCell ⟨g, k * 8 + 4, none⟩ (.int .i64 x.ones)).setCell ⟨g, k * 8 + 5, none⟩ (.int .i64 x.ln)).setCell ⟨g, k * 8 + 6, none⟩ (.int .i64 x.lones)).setCell ⟨g, k * 8 + 7, none⟩ (.pointer pb)) p C A (xs.set k x) root vis ∧ Chg (fun b => b = g) w ((((((((w.setCell ⟨g, k * 8, none⟩ (.int .i64 x.left)).setCell ⟨g, k * 8 + 1, none⟩ (.int .i64 x.right)).setCell ⟨g, k * 8 + 2, none⟩ (.int .i64 x.height)).setCell ⟨g, k * 8 + 3, none⟩ (.int .i64 x.n)).setCell ⟨g, k * 8 + 4, none⟩ (.int .i64 x.ones)).setCell ⟨g, k * 8 + 5, none⟩ (.int .i64 x.ln)).setCell ⟨g, k * 8 + 6, none⟩ (.int .i64 x.lones)).setCell ⟨g, k * 8 + 7, none⟩ (.pointer pb)) := by
  rw [← hpb]
  obtain ⟨_, _, hk, _⟩ := h.node hg hx
  have key : ∀ y : Nd, (xs.set k y)[k]? = some y := fun y => by rw [List.getElem?_set, if_pos rfl, if_pos hk]
  obtain ⟨h1, c1, g1⟩ := h.put hg hx (i := 0) (v := .int .i64 x.left) (x' := ⟨x.left, xk.right, xk.height, xk.n, xk.ones, xk.ln, xk.lones, xk.b⟩) (by omega) rfl
  obtain ⟨h2, c2, g2⟩ := h1.put g1 (key _) (i := 1) (v := .int .i64 x.right) (x' := ⟨x.left, x.right, xk.height, xk.n, xk.ones, xk.ln, xk.lones, xk.b⟩) (by omega) rfl
  rw [List.set_set] at h2
  obtain ⟨h3, c3, g3⟩ := h2.put g2 (key _) (i := 2) (v := .int .i64 x.height) (x' := ⟨x.left, x.right, x.height, xk.n, xk.ones, xk.ln, xk.lones, xk.b⟩) (by omega) rfl
  rw [List.set_set] at h3
  obtain ⟨h4, c4, g4⟩ := h3.put g3 (key _) (i := 3) (v := .int .i64 x.n) (x' := ⟨x.left, x.right, x.height, x.n, xk.ones, xk.ln, xk.lones, xk.b⟩) (by omega) rfl
  rw [List.set_set] at h4
  obtain ⟨h5, c5, g5⟩ := h4.put g4 (key _) (i := 4) (v := .int .i64 x.ones) (x' := ⟨x.left, x.right, x.height, x.n, x.ones, xk.ln, xk.lones, xk.b⟩) (by omega) rfl
  rw [List.set_set] at h5
  obtain ⟨h6, c6, g6⟩ := h5.put g5 (key _) (i := 5) (v := .int .i64 x.ln) (x' := ⟨x.left, x.right, x.height, x.n, x.ones, x.ln, xk.lones, xk.b⟩) (by omega) rfl
  rw [List.set_set] at h6
  obtain ⟨h7, c7, g7⟩ := h6.put g6 (key _) (i := 6) (v := .int .i64 x.lones) (x' := ⟨x.left, x.right, x.height, x.n, x.ones, x.ln, x.lones, xk.b⟩) (by omega) rfl
  rw [List.set_set] at h7
  obtain ⟨h8, c8, g8⟩ := h7.put g7 (key _) (i := 7) (v := ptrN x.b) (x' := x) (by omega) rfl
  rw [List.set_set] at h8
  exact ⟨h8, ((((((c1.trans c2 (fun _ h => Or.inl h)).trans c3 (fun _ h => Or.inl h)).trans c4 (fun _ h => Or.inl h)).trans c5 (fun _ h => Or.inl h)).trans c6 (fun _ h => Or.inl h)).trans c7 (fun _ h => Or.inl h)).trans c8 (fun _ h => Or.inl h)⟩

/-- What a new node leaves. -/
structure NodePost (w w' : World) (p : Nat) (C : Nat → Prop) (A : Ar) (xs : List Nd) (root vis : Int) (y : Nd) (e : Ending) : Prop where
  ex : ∃ (k : Nat) (C' : Nat → Prop) (A' : Ar) (xs' : List Nd), e = .returned (.int .i64 k) ∧ Head w' p C' A' xs' root vis ∧ HStep w w' C C' ∧ xs'.length = A'.T.length ∧ xs'[k]? = some y ∧ A.T[k]? ≠ some true ∧
    (∀ j : Nat, A.T[j]? = some true → xs'[j]? = xs[j]? ∧ A'.T[j]? = some true) ∧ A'.T[k]? = some true ∧ A'.live = A.live + 1 ∧ A'.M = A.M ∧ (A.F = [] → A'.F = [])

def boxN (x : Nd) : Obj := .cells x.cells.toArray 103

set_option maxHeartbeats 3200000 in
set_option maxRecDepth 100000 in
theorem tNode_pop {w : World} {p : Nat} {C : Nat → Prop} {A : Ar} {xs : List Nd} {root vis : Int} (h : Head w p C A xs root vis) (hlen : xs.length = A.T.length) (hlive : A.live < A.M) (x y : Nd) {k : Nat} (hk : A.F.getLast? = some k)
    (hfix : ∀ (w1 : World) (C1 : Nat → Prop) (xs1 : List Nd), Head w1 p C1 (A.pop k) xs1 root vis → HStep w w1 C C1 → xs1[k]? = some x → (∀ j : Nat, A.T[j]? = some true → xs1[j]? = xs[j]?) →
      Calls Tryz.prog 114 #[.pointer (some ⟨p, 0, none⟩), .int .i64 k] w1 fun e w' => e = .returned (.tuple #[]) ∧ Head w' p C1 (A.pop k) (xs1.set k y) root vis ∧ Chg (RowB w1 p) w1 w') :
    Calls Tryz.prog 106 #[.pointer (some ⟨p, 0, none⟩), .agg x.cells.toArray] w fun e w' => NodePost w w' p C A xs root vis y e := by
  have h0 := h.below (below_alloc w (boxN x))
  obtain ⟨ap, SA, p0, hA, hsub, hstep⟩ := h0.arena
  have hok := hA.ok
  have hkT := hok.last_lt hk
  have hkF : A.T[k]? = some false := (hok.iff k).2 (List.mem_of_getLast? hk)
  have hTk := Lib.hid (arTake_pop hA (by omega) hk)
  have HST := Lib.hid hstep
  have hbox : (w.alloc (boxN x)).heap[w.heap.size]? = some (boxN x) := heap_alloc_new w _
  have hnb : ¬ SA w.heap.size := fun hs => by have := h.lt _ (hsub _ hs); omega
  have HBX : Hid (∀ w1 A', ArStep (w.alloc (boxN x)) w1 ap SA A' → w1.heap[w.heap.size]? = some (boxN x)) := fun w1 A' ⟨_, _, hc, _⟩ => hc.heap hbox hnb
  have HS0 : Hid (HStep w (w.alloc (boxN x)) C C) := HStep.of_below (below_alloc w _)
  have HF := Lib.hid hfix
  have HL := Lib.hid hlen
  have HKF := Lib.hid hkF
  have HOK := Lib.hid hok
  have hxk : k < xs.length := by omega
  have HLV := Lib.hid hlive
  have HK := Lib.hid hk
  have HLT : Hid (∀ j, C j → j < w.heap.size) := h.lt
  clear h h0 hA hsub hstep hbox hnb hfix hlen hkT hkF hok hlive hk
  unfold boxN at *
  go_enter Tryz.func106, Tryz.ntmps106
  go_wp2_with fail
  refine hTk.out.mono ?_
  rintro e w1 ⟨rfl, hst⟩
  obtain ⟨C1, h1, s1⟩ := HST.out _ _ hst
  have bx := HBX.out _ _ hst
  clear hst hTk HST HBX p0
  obtain ⟨g, rc, cur, r1, hgp, hCg, _⟩ := h1.row (by omega)
  obtain ⟨xk, hxk2⟩ : ∃ xk, xs[k]? = some xk := ⟨_, List.getElem?_eq_getElem hxk⟩
  obtain ⟨e0, e1, e2, e3, e4, e5, e6, e7⟩ := h1.eight r1 hxk2
  obtain ⟨_, fz, _⟩ := h1.node r1 hxk2
  have hs01 := HS0.out.trans s1
  have hgB : g ≠ w.heap.size := by
    rcases s1.new g hCg with e | e
    · have := HLT.out g e; omega
    · simp at e; omega
  obtain ⟨pb, hpb⟩ : ∃ pb, ptrN x.b = .pointer pb := ⟨_, rfl⟩
  obtain ⟨pk, hpk⟩ : ∃ pb, ptrN xk.b = .pointer pb := ⟨_, rfl⟩
  have b0 : w1.cell? ⟨w.heap.size, 0, none⟩ = some (.int .i64 x.left) := by rw [cell_of_row w1 _ 0 _ _ _ bx]; rfl
  have b1 : w1.cell? ⟨w.heap.size, 1, none⟩ = some (.int .i64 x.right) := by rw [cell_of_row w1 _ 1 _ _ _ bx]; rfl
  have b2 : w1.cell? ⟨w.heap.size, 2, none⟩ = some (.int .i64 x.height) := by rw [cell_of_row w1 _ 2 _ _ _ bx]; rfl
  have b3 : w1.cell? ⟨w.heap.size, 3, none⟩ = some (.int .i64 x.n) := by rw [cell_of_row w1 _ 3 _ _ _ bx]; rfl
  have b4 : w1.cell? ⟨w.heap.size, 4, none⟩ = some (.int .i64 x.ones) := by rw [cell_of_row w1 _ 4 _ _ _ bx]; rfl
  have b5 : w1.cell? ⟨w.heap.size, 5, none⟩ = some (.int .i64 x.ln) := by rw [cell_of_row w1 _ 5 _ _ _ bx]; rfl
  have b6 : w1.cell? ⟨w.heap.size, 6, none⟩ = some (.int .i64 x.lones) := by rw [cell_of_row w1 _ 6 _ _ _ bx]; rfl
  have b7 : w1.cell? ⟨w.heap.size, 7, none⟩ = some (.pointer pb) := by rw [cell_of_row w1 _ 7 _ _ _ bx, ← hpb]; rfl
  rw [hpk] at e7
  have z0 := fz (k * 8)
  have z1 := fz (k * 8 + 1)
  have z2 := fz (k * 8 + 2)
  have z3 := fz (k * 8 + 3)
  have z4 := fz (k * 8 + 4)
  have z5 := fz (k * 8 + 5)
  have z6 := fz (k * 8 + 6)
  have z7 := fz (k * 8 + 7)
  have H1 := Lib.hid h1
  have S01 := Lib.hid hs01
  have HX2 := Lib.hid hxk2
  have HPB := Lib.hid hpb
  have dk : ((k : Int) == (xs.length : Int)) = false := by rw [beq_eq_false_iff_ne]; omega
  clear h1 s1 bx hxk2 fz hs01 hpb hpk HS0 HLT hCg
  generalize w.heap.size = B0 at *
  obtain ⟨W2, hW2⟩ : ∃ W2, W2 = ((((((((w1.setCell ⟨g, k * 8, none⟩ (.int .i64 x.left)).setCell ⟨g, k * 8 + 1, none⟩ (.int .i64 x.right)).setCell ⟨g, k * 8 + 2, none⟩ (.int .i64 x.height)).setCell ⟨g, k * 8 + 3, none⟩ (.int .i64 x.n)).setCell ⟨g, k * 8 + 4, none⟩ (.int .i64 x.ones)).setCell ⟨g, k * 8 + 5, none⟩ (.int .i64 x.ln)).setCell ⟨g, k * 8 + 6, none⟩ (.int .i64 x.lones)).setCell ⟨g, k * 8 + 7, none⟩ (.pointer pb)).drew := ⟨_, rfl⟩
  have hp8 := H1.out.puts8 r1 HX2.out x HPB.out
  have h2 : Head W2 p C1 (A.pop k) (xs.set k x) root vis := by rw [hW2]; exact hp8.1.drew
  have c2 : Chg C1 w1 W2 := by rw [hW2]; exact (hp8.2.mono (fun b e => by subst e; exact H1.out.rowC ⟨_, _, r1⟩)).drew
  have hs2 := S01.out.trans ⟨c2, fun j hj => Or.inl hj⟩
  have hTk : ∀ j : Nat, A.T[j]? = some true → j ≠ k := by
    rintro j hj rfl
    have := HKF.out
    rw [hj] at this
    cases this
  have HFF := Lib.hid (HF.out W2 C1 (xs.set k x) h2 hs2 (set_get HX2.out) (fun j hj => set_ne (hTk j hj)))
  have HW2 := Lib.hid hW2
  have H2 := Lib.hid h2
  have HS2 := Lib.hid hs2
  have HTK := Lib.hid hTk
  clear hW2 hp8 h2 c2 hs2 hTk HF
  go_wp2_with fail
  -- REGION store
  refine reg_start (fun w' => w'.cell? ⟨p, 1, none⟩ = some (.slice (some ⟨g, 0, none⟩) xs.length rc) ∧ w'.cell? ⟨B0, 0, none⟩ = some (.int .i64 x.left) ∧ w'.cell? ⟨B0, 1, none⟩ = some (.int .i64 x.right) ∧ w'.cell? ⟨B0, 2, none⟩ = some (.int .i64 x.height) ∧ w'.cell? ⟨B0, 3, none⟩ = some (.int .i64 x.n) ∧ w'.cell? ⟨B0, 4, none⟩ = some (.int .i64 x.ones) ∧ w'.cell? ⟨B0, 5, none⟩ = some (.int .i64 x.ln) ∧ w'.cell? ⟨B0, 6, none⟩ = some (.int .i64 x.lones) ∧ w'.cell? ⟨B0, 7, none⟩ = some (.pointer pb)) (by kernel_rfl) ?hiq (fun hHeld => ?_)
  case hiq => (refine ⟨?_, ?_, ?_, ?_, ?_, ?_, ?_, ?_, ?_⟩ <;> go_simp)
  refine rt 0 hHeld ?_
  refine rt 1 hHeld ?_
  refine rt 2 hHeld ?_
  refine rt 3 hHeld ?_
  refine rt 4 hHeld ?_
  refine rt 5 hHeld ?_
  refine rt 6 hHeld ?_
  refine reg_loud (i := 7) rfl (by kernel_rfl) rfl (fun K hK => ?_)
  go_simp
  refine hK.out _ _ ?kpq7 (fun hNew => ?_)
  case kpq7 => (refine ⟨?_, ?_, ?_, ?_, ?_, ?_, ?_, ?_, ?_⟩ <;> go_simp)
  clear hK K hHeld
  have hHeld := hNew
  clear hNew
  try simp only [Act.put, List.setIfInBounds_toArray, List.set_cons_zero, List.set_cons_succ]
  refine reg_done (by kernel_rfl) ?_ _
  -- END OF REGION store
  go_wp2_with fail
  rw [← HW2.out]
  refine HFF.out.mono ?_
  rintro e w3 ⟨rfl, h3, c3⟩
  have H3 := Lib.hid h3
  have C3 := Lib.hid c3
  clear h3 c3 hHeld
  go_wp2_with fail
  go_ret
  refine ⟨⟨k, C1, A.pop k, _, rfl, H3.out, HS2.out.trans ⟨H2.out.chgRow C3.out, fun j hj => Or.inl hj⟩, ?_, set_get (set_get HX2.out), ?_, fun j hj => ⟨?_, ?_⟩, ?_, ?_, rfl, fun hF => by first | exact hF | (show A.F.dropLast = []; rw [hF]; rfl)⟩⟩
  · rw [List.length_set, List.length_set, HL.out]; simp [Ar.pop]
  · rw [HKF.out]; simp
  · rw [set_ne (HTK.out j hj), set_ne (HTK.out j hj)]
  · show (A.T.set k true)[j]? = some true
    rw [set_ne (HTK.out j hj)]; exact hj
  · exact set_get HKF.out
  · have e1 := HOK.out.fle
    have e2 : 0 < A.F.length := List.length_pos_iff.2 (by intro e; have := HK.out; rw [e] at this; cases this)
    show (A.T.set k true).length - A.F.dropLast.length = A.T.length - A.F.length + 1
    rw [List.length_set, List.length_dropLast]; omega

set_option maxHeartbeats 3200000 in
set_option maxRecDepth 100000 in
theorem tNode_more {w : World} {p : Nat} {C : Nat → Prop} {A : Ar} {xs : List Nd} {root vis : Int} (h : Head w p C A xs root vis) (hlen : xs.length = A.T.length) (hlive : A.live < A.M) (x y : Nd) (hk : A.F = []) (hlm : A.T.length ≤ 268435456)
    (hfix : ∀ (w1 : World) (C1 : Nat → Prop) (xs1 : List Nd), Head w1 p C1 (A.more) xs1 root vis → HStep w w1 C C1 → xs1[xs.length]? = some x → (∀ j : Nat, A.T[j]? = some true → xs1[j]? = xs[j]?) →
      Calls Tryz.prog 114 #[.pointer (some ⟨p, 0, none⟩), .int .i64 xs.length] w1 fun e w' => e = .returned (.tuple #[]) ∧ Head w' p C1 (A.more) (xs1.set xs.length y) root vis ∧ Chg (RowB w1 p) w1 w') :
    Calls Tryz.prog 106 #[.pointer (some ⟨p, 0, none⟩), .agg x.cells.toArray] w fun e w' => NodePost w w' p C A xs root vis y e := by
  have h0 := h.below (below_alloc w (boxN x))
  obtain ⟨ap, SA, p0, hA, hsub, hstep⟩ := h0.arena
  have hok := hA.ok
  have hTk0 := arTake_more hA (by omega) hk
  rw [← hlen] at hTk0
  have hTk := Lib.hid hTk0
  have HST := Lib.hid hstep
  have hbox : (w.alloc (boxN x)).heap[w.heap.size]? = some (boxN x) := heap_alloc_new w _
  have hnb : ¬ SA w.heap.size := fun hs => by have := h.lt _ (hsub _ hs); omega
  have HBX : Hid (∀ w1 A', ArStep (w.alloc (boxN x)) w1 ap SA A' → w1.heap[w.heap.size]? = some (boxN x)) := fun w1 A' ⟨_, _, hc, _⟩ => hc.heap hbox hnb
  have HS0 : Hid (HStep w (w.alloc (boxN x)) C C) := HStep.of_below (below_alloc w _)
  have HF := Lib.hid hfix
  have HL := Lib.hid hlen
  have HOK := Lib.hid hok
  have HLV := Lib.hid hlive
  have HK := Lib.hid hk
  have HLT : Hid (∀ j, C j → j < w.heap.size) := h.lt
  rw [← hlen] at hlm
  clear h h0 hA hsub hstep hbox hnb hfix hlen hok hlive hk hTk0
  unfold boxN at *
  go_enter Tryz.func106, Tryz.ntmps106
  go_wp2_with fail
  refine hTk.out.mono ?_
  rintro e w1 ⟨rfl, hst⟩
  obtain ⟨C1, h1, s1⟩ := HST.out _ _ hst
  have bx := HBX.out _ _ hst
  clear hst hTk HST HBX p0
  obtain ⟨ra, rc, r1, hown⟩ := h1.see1
  have hs01 := HS0.out.trans s1
  have hB1 : w.heap.size < w1.heap.size := (Array.getElem?_eq_some_iff.1 bx).1
  have hp := h1.lt p h1.self
  have fz := (h1.cells).2.2.2 1
  obtain ⟨pb, hpb⟩ : ∃ pb, ptrN x.b = .pointer pb := ⟨_, rfl⟩
  have b0 : w1.cell? ⟨w.heap.size, 0, none⟩ = some (.int .i64 x.left) := by rw [cell_of_row w1 _ 0 _ _ _ bx]; rfl
  have b1 : w1.cell? ⟨w.heap.size, 1, none⟩ = some (.int .i64 x.right) := by rw [cell_of_row w1 _ 1 _ _ _ bx]; rfl
  have b2 : w1.cell? ⟨w.heap.size, 2, none⟩ = some (.int .i64 x.height) := by rw [cell_of_row w1 _ 2 _ _ _ bx]; rfl
  have b3 : w1.cell? ⟨w.heap.size, 3, none⟩ = some (.int .i64 x.n) := by rw [cell_of_row w1 _ 3 _ _ _ bx]; rfl
  have b4 : w1.cell? ⟨w.heap.size, 4, none⟩ = some (.int .i64 x.ones) := by rw [cell_of_row w1 _ 4 _ _ _ bx]; rfl
  have b5 : w1.cell? ⟨w.heap.size, 5, none⟩ = some (.int .i64 x.ln) := by rw [cell_of_row w1 _ 5 _ _ _ bx]; rfl
  have b6 : w1.cell? ⟨w.heap.size, 6, none⟩ = some (.int .i64 x.lones) := by rw [cell_of_row w1 _ 6 _ _ _ bx]; rfl
  have b7 : w1.cell? ⟨w.heap.size, 7, none⟩ = some (.pointer pb) := by rw [cell_of_row w1 _ 7 _ _ _ bx, ← hpb]; rfl
  have H1 := Lib.hid h1
  have S01 := Lib.hid hs01
  have HPB := Lib.hid hpb
  have HO : Hid (w1.drew.ownsRow 0 103 8 (.slice ra xs.length rc) xs.length (cellsN xs)) := hown
  have HONE : Hid (∀ u ∈ [Value.int .i64 x.left, .int .i64 x.right, .int .i64 x.height, .int .i64 x.n, .int .i64 x.ones, .int .i64 x.ln, .int .i64 x.lones, .pointer pb], u.oneCell' = true) := by
    have h := x.one
    simp only [Nd.cells, hpb] at h
    exact h
  have HNP : Hid (some p ≠ (Value.slice ra xs.length rc).ownBlock ∧ some w.heap.size ≠ (Value.slice ra xs.length rc).ownBlock) := by
    refine ⟨fun e => ?_, fun e => ?_⟩
    · exact h1.rowNe ⟨_, _, by rw [r1, (ownBlock_addr (own_addr hown)).1 e.symm]⟩
    · have := h1.rowC ⟨_, _, by rw [r1, (ownBlock_addr (own_addr hown)).1 e.symm]⟩
      rcases s1.new _ this with e | e
      · have := HLT.out _ e; omega
      · simp at e; omega
  have hpB : ¬ p = w.heap.size := by
    rcases s1.new p h1.self with e | e
    · have := HLT.out p e; omega
    · simp at e; omega
  clear h1 s1 bx hs01 hpb HS0 HLT hown
  generalize w.heap.size = B0 at *
  go_upto_region 3 with fail
  go_cut [5] (fun v wx => v = .int .i64 xs.length ∧ ∃ C2, Head wx p C2 A.more (xs ++ [x]) root vis ∧ HStep w1 wx C1 C2)
  case first =>
    -- REGION app
    refine reg_start (fun w' => w'.cell? ⟨B0, 0, none⟩ = some (.int .i64 x.left) ∧ w'.cell? ⟨B0, 1, none⟩ = some (.int .i64 x.right) ∧ w'.cell? ⟨B0, 2, none⟩ = some (.int .i64 x.height) ∧ w'.cell? ⟨B0, 3, none⟩ = some (.int .i64 x.n) ∧ w'.cell? ⟨B0, 4, none⟩ = some (.int .i64 x.ones) ∧ w'.cell? ⟨B0, 5, none⟩ = some (.int .i64 x.ln) ∧ w'.cell? ⟨B0, 6, none⟩ = some (.int .i64 x.lones) ∧ w'.cell? ⟨B0, 7, none⟩ = some (.pointer pb)) (by kernel_rfl) ?hia (fun hHeld => ?_)
    case hia => (refine ⟨?_, ?_, ?_, ?_, ?_, ?_, ?_, ?_⟩ <;> go_simp)
    refine rt 0 hHeld ?_
    refine rt 1 hHeld ?_
    refine rt 2 hHeld ?_
    refine rt 3 hHeld ?_
    refine rt 5 hHeld ?_
    refine wpAnyH_ready (rs := [4, 6]) (by kernel_rfl) (by simp) (all_cons rfl rfl (fun K hK => ?_) (all_cons rfl rfl (fun K hK => ?_) AllReadyH.nil))
    · go_simp
      refine hK.out _ _ ?k1p (fun hNew => ?_)
      case k1p => (refine ⟨?_, ?_, ?_, ?_, ?_, ?_, ?_, ?_⟩ <;> go_simp)
      clear hK K hHeld
      have hHeld := hNew
      clear hNew
      try simp only [Act.put, List.setIfInBounds_toArray, List.set_cons_zero, List.set_cons_succ]
      refine reg_loud (i := 6) rfl (by kernel_rfl) rfl (fun K hK => ?_)
      go_simp
      refine hK.out _ _ ?k2p (fun hNew => ?_)
      case k2p => (refine ⟨?_, ?_, ?_, ?_, ?_, ?_, ?_, ?_⟩ <;> go_simp)
      clear hK K hHeld
      have hHeld := hNew
      clear hNew
      try simp only [Act.put, List.setIfInBounds_toArray, List.set_cons_zero, List.set_cons_succ]
      refine reg_loud (i := 7) rfl (by kernel_rfl) rfl (fun K hK => ?_)
      refine wp_push8 (w := w1.drew) _ _ 98 rfl 0 103 Tryz.infoNode Tryz.underlying98 rfl _ _ _ rfl HO.out rfl rfl HONE.out (by unfold maxLen; omega) (by omega) (Nat.zero_le _) ?_
      intro g cap w2 hown2 hgrow hor hgl
      have u1 : w2.cell? ⟨p, 1, none⟩ = some (.slice ra xs.length rc) := hgrow.cell (w := w1.drew) r1 HNP.out.1
      have u2 : w2.frozen? ⟨p, 1, none⟩ = false := (World.frozen?_of_block (hgrow.block p hp HNP.out.1)).trans fz
      have v0 := hgrow.cell (w := w1.drew) b0 HNP.out.2
      have v1 := hgrow.cell (w := w1.drew) b1 HNP.out.2
      have v2 := hgrow.cell (w := w1.drew) b2 HNP.out.2
      have v3 := hgrow.cell (w := w1.drew) b3 HNP.out.2
      have v4 := hgrow.cell (w := w1.drew) b4 HNP.out.2
      have v5 := hgrow.cell (w := w1.drew) b5 HNP.out.2
      have v6 := hgrow.cell (w := w1.drew) b6 HNP.out.2
      have v7 := hgrow.cell (w := w1.drew) b7 HNP.out.2
      have hgr : ∃ C2, Head (w2.setCell ⟨p, 1, none⟩ (.slice (some ⟨g, 0, none⟩) (xs.length + 1) cap)) p C2 A.more (xs ++ [x]) root vis ∧ HStep w1 (w2.setCell ⟨p, 1, none⟩ (.slice (some ⟨g, 0, none⟩) (xs.length + 1) cap)) C1 C2 := by
        obtain ⟨C2, q1, q2⟩ := H1.out.drew.grow (x := x) (w' := w2) (g := g) (cap := cap) r1 (by rw [show x.cells = [Value.int .i64 x.left, .int .i64 x.right, .int .i64 x.height, .int .i64 x.n, .int .i64 x.ones, .int .i64 x.ln, .int .i64 x.lones, .pointer pb] by simp only [Nd.cells, HPB.out]]; exact hown2) hgrow hor
        exact ⟨C2, q1, ⟨(Chg.refl.drew).trans q2.chg (fun b hb => Or.inl hb), q2.new⟩⟩
      have HGR := Lib.hid hgr
      clear hgr hown2 hgrow hor hgl
      refine hK.out _ _ ?k3p (fun hNew => ?_)
      case k3p => exact ⟨v0, v1, v2, v3, v4, v5, v6, v7⟩
      clear hK K hHeld
      have hHeld := hNew
      clear hNew
      try simp only [Act.put, List.setIfInBounds_toArray, List.set_cons_zero, List.set_cons_succ]
      refine rt 8 hHeld ?_
      refine rt 9 hHeld ?_
      refine reg_loud (i := 10) rfl (by kernel_rfl) rfl (fun K hK => ?_)
      go_simp
      refine hK.out _ _ ?k4p (fun hNew => ?_)
      case k4p => (refine ⟨?_, ?_, ?_, ?_, ?_, ?_, ?_, ?_⟩ <;> go_simp)
      clear hK K hHeld
      have hHeld := hNew
      clear hNew
      try simp only [Act.put, List.setIfInBounds_toArray, List.set_cons_zero, List.set_cons_succ]
      refine reg_done (by kernel_rfl) ?_ _
      go_wp2_with fail
      go_meet
      case rel => exact ⟨rfl, HGR.out⟩
    · go_simp
      refine hK.out _ _ ?k1q (fun hNew => ?_)
      case k1q => (refine ⟨?_, ?_, ?_, ?_, ?_, ?_, ?_, ?_⟩ <;> go_simp)
      clear hK K hHeld
      have hHeld := hNew
      clear hNew
      try simp only [Act.put, List.setIfInBounds_toArray, List.set_cons_zero, List.set_cons_succ]
      refine reg_loud (i := 4) rfl (by kernel_rfl) rfl (fun K hK => ?_)
      go_simp
      refine hK.out _ _ ?k2q (fun hNew => ?_)
      case k2q => (refine ⟨?_, ?_, ?_, ?_, ?_, ?_, ?_, ?_⟩ <;> go_simp)
      clear hK K hHeld
      have hHeld := hNew
      clear hNew
      try simp only [Act.put, List.setIfInBounds_toArray, List.set_cons_zero, List.set_cons_succ]
      refine reg_loud (i := 7) rfl (by kernel_rfl) rfl (fun K hK => ?_)
      refine wp_push8 (w := w1.drew) _ _ 98 rfl 0 103 Tryz.infoNode Tryz.underlying98 rfl _ _ _ rfl HO.out rfl rfl HONE.out (by unfold maxLen; omega) (by omega) (Nat.zero_le _) ?_
      intro g cap w2 hown2 hgrow hor hgl
      have u1 : w2.cell? ⟨p, 1, none⟩ = some (.slice ra xs.length rc) := hgrow.cell (w := w1.drew) r1 HNP.out.1
      have u2 : w2.frozen? ⟨p, 1, none⟩ = false := (World.frozen?_of_block (hgrow.block p hp HNP.out.1)).trans fz
      have v0 := hgrow.cell (w := w1.drew) b0 HNP.out.2
      have v1 := hgrow.cell (w := w1.drew) b1 HNP.out.2
      have v2 := hgrow.cell (w := w1.drew) b2 HNP.out.2
      have v3 := hgrow.cell (w := w1.drew) b3 HNP.out.2
      have v4 := hgrow.cell (w := w1.drew) b4 HNP.out.2
      have v5 := hgrow.cell (w := w1.drew) b5 HNP.out.2
      have v6 := hgrow.cell (w := w1.drew) b6 HNP.out.2
      have v7 := hgrow.cell (w := w1.drew) b7 HNP.out.2
      have hgr : ∃ C2, Head (w2.setCell ⟨p, 1, none⟩ (.slice (some ⟨g, 0, none⟩) (xs.length + 1) cap)) p C2 A.more (xs ++ [x]) root vis ∧ HStep w1 (w2.setCell ⟨p, 1, none⟩ (.slice (some ⟨g, 0, none⟩) (xs.length + 1) cap)) C1 C2 := by
        obtain ⟨C2, q1, q2⟩ := H1.out.drew.grow (x := x) (w' := w2) (g := g) (cap := cap) r1 (by rw [show x.cells = [Value.int .i64 x.left, .int .i64 x.right, .int .i64 x.height, .int .i64 x.n, .int .i64 x.ones, .int .i64 x.ln, .int .i64 x.lones, .pointer pb] by simp only [Nd.cells, HPB.out]]; exact hown2) hgrow hor
        exact ⟨C2, q1, ⟨(Chg.refl.drew).trans q2.chg (fun b hb => Or.inl hb), q2.new⟩⟩
      have HGR := Lib.hid hgr
      clear hgr hown2 hgrow hor hgl
      refine hK.out _ _ ?k3q (fun hNew => ?_)
      case k3q => exact ⟨v0, v1, v2, v3, v4, v5, v6, v7⟩
      clear hK K hHeld
      have hHeld := hNew
      clear hNew
      try simp only [Act.put, List.setIfInBounds_toArray, List.set_cons_zero, List.set_cons_succ]
      refine rt 8 hHeld ?_
      refine rt 9 hHeld ?_
      refine reg_loud (i := 10) rfl (by kernel_rfl) rfl (fun K hK => ?_)
      go_simp
      refine hK.out _ _ ?k4q (fun hNew => ?_)
      case k4q => (refine ⟨?_, ?_, ?_, ?_, ?_, ?_, ?_, ?_⟩ <;> go_simp)
      clear hK K hHeld
      have hHeld := hNew
      clear hNew
      try simp only [Act.put, List.setIfInBounds_toArray, List.set_cons_zero, List.set_cons_succ]
      refine reg_done (by kernel_rfl) ?_ _
      go_wp2_with fail
      go_meet
      case rel => exact ⟨rfl, HGR.out⟩
    -- END OF REGION app
  case rest =>
    obtain ⟨rfl, C2, h2, s2⟩ := hcut
    have hs2 := S01.out.trans s2
    have hlt : ∀ j : Nat, A.T[j]? = some true → j < xs.length := fun j hj => by rw [HL.out]; exact (List.getElem?_eq_some_iff.1 hj).1
    have HLT := Lib.hid hlt
    have HFF := Lib.hid (HF.out wc C2 (xs ++ [x]) h2 hs2 (by simp) (fun j hj => List.getElem?_append_left (hlt j hj)))
    have H2 := Lib.hid h2
    have HS2 := Lib.hid hs2
    clear h2 s2 hs2 HF hlt b0 b1 b2 b3 b4 b5 b6 b7 hB1 hpB r1 hp fz
    go_wp2_with fail
    refine HFF.out.mono ?_
    rintro e w3 ⟨rfl, h3, c3⟩
    have H3 := Lib.hid h3
    have C3 := Lib.hid c3
    clear h3 c3
    go_wp2_with fail
    go_ret
    refine ⟨⟨xs.length, C2, A.more, _, rfl, H3.out, HS2.out.trans ⟨H2.out.chgRow C3.out, fun j hj => Or.inl hj⟩, ?_, set_get (x := x) (by simp), ?_, fun j hj => ⟨?_, ?_⟩, ?_, ?_, rfl, fun hF => by first | exact hF | (show A.F.dropLast = []; rw [hF]; rfl)⟩⟩
    · rw [List.length_set, List.length_append, HL.out]; simp [Ar.more]
    · rw [List.getElem?_eq_none (by rw [HL.out]; exact Nat.le_refl _)]; simp
    · rw [set_ne (by have := HLT.out j hj; omega), List.getElem?_append_left (HLT.out j hj)]
    · show (A.T ++ [true])[j]? = some true
      rw [List.getElem?_append_left (List.getElem?_eq_some_iff.1 hj).1]; exact hj
    · show (A.T ++ [true])[xs.length]? = some true
      rw [HL.out]; simp
    · have e2 := HK.out
      show (A.T ++ [true]).length - A.F.length = A.T.length - A.F.length + 1
      rw [e2]; simp

end Go.Proofs.YtacoeohmdngnkaaGreatDoor

namespace Go.Proofs.YtacoeohmdngnkaaGreatDoor
set_option linter.unusedVariables false
set_option linter.unusedSimpArgs false
open Go.RowKit

theorem Ar.Ok.live_len {a : Ar} (h : a.Ok) : a.T.length ≤ 268435456 := Nat.le_trans h.le h.max
theorem Head.arOk {w : World} {p : Nat} {C : Nat → Prop} {A : Ar} {xs : List Nd} {root vis : Int} (h : Head w p C A xs root vis) : A.Ok := by
  obtain ⟨ap, SA, _, hA, _, _⟩ := h.arena
  exact hA.ok

/-- A new node. -/
theorem tNode_any {w : World} {p : Nat} {C : Nat → Prop} {A : Ar} {xs : List Nd} {root vis : Int} (h : Head w p C A xs root vis) (hlen : xs.length = A.T.length) (hlive : A.live < A.M) (x y : Nd)
    (hfix : ∀ (w1 : World) (C1 : Nat → Prop) (A1 : Ar) (xs1 : List Nd) (k : Nat), Head w1 p C1 A1 xs1 root vis → HStep w w1 C C1 → xs1[k]? = some x → (∀ j : Nat, A.T[j]? = some true → xs1[j]? = xs[j]?) →
      Calls Tryz.prog 114 #[.pointer (some ⟨p, 0, none⟩), .int .i64 k] w1 fun e w' => e = .returned (.tuple #[]) ∧ Head w' p C1 A1 (xs1.set k y) root vis ∧ Chg (RowB w1 p) w1 w') :
    Calls Tryz.prog 106 #[.pointer (some ⟨p, 0, none⟩), .agg x.cells.toArray] w fun e w' => NodePost w w' p C A xs root vis y e := by
  cases hF : A.F.getLast? with
  | some k => exact tNode_pop h hlen hlive x y hF (fun w1 C1 xs1 a b c d => hfix w1 C1 _ xs1 k a b c d)
  | none => exact tNode_more h hlen hlive x y (List.getLast?_eq_none_iff.1 hF) h.arOk.live_len (fun w1 C1 xs1 a b c d => hfix w1 C1 _ xs1 xs.length a b c d)

/-- A new leaf. -/
theorem tLeaf_any {w : World} {p : Nat} {C : Nat → Prop} {A : Ar} {xs : List Nd} {root vis : Int} (h : Head w p C A xs root vis) (hlen : xs.length = A.T.length) (hlive : A.live < A.M) {q : Nat} {l : List Bool} (hq : IsBlock w q l) :
    Calls Tryz.prog 91 #[.pointer (some ⟨p, 0, none⟩), .pointer (some ⟨q, 0, none⟩)] w fun e w' => NodePost w w' p C A xs root vis (TT.leaf 0 q l).nd e := by
  have HN := Lib.hid (tNode_any h hlen hlive ⟨-1, -1, 0, 0, 0, 0, 0, some q⟩ (TT.leaf 0 q l).nd (fun w1 C1 A1 xs1 k h1 s1 hk _ => by
    have hq1 : IsBlock w1 q l := hq.chg s1.chg (h.notBlk hq.type)
    exact tFix_leaf h1 hk rfl hq1))
  clear h hlen hlive hq
  go_enter Tryz.func91, Tryz.ntmps91
  go_wp2_with fail
  refine HN.out.mono ?_
  rintro e w' hP
  obtain ⟨k, C', A', xs', rfl, rest⟩ := hP.ex
  have HR := Lib.hid rest
  clear rest hP
  go_wp2_with fail
  go_ret
  exact ⟨⟨k, C', A', xs', rfl, HR.out⟩⟩

/-- A new node above two. -/
theorem tPair_any {w : World} {p : Nat} {C : Nat → Prop} {A : Ar} {xs : List Nd} {root vis : Int} (h : Head w p C A xs root vis) (hlen : xs.length = A.T.length) (hlive : A.live < A.M) {a b : TT} (ha : Sub w xs a) (hb : Sub w xs b)
    (ta : ∀ j ∈ a.nums, A.T[j]? = some true) (tb : ∀ j ∈ b.nums, A.T[j]? = some true) (s1 : Small a.st) (s2 : Small b.st) :
    Calls Tryz.prog 92 #[.pointer (some ⟨p, 0, none⟩), .int .i64 a.num, .int .i64 b.num] w fun e w' => NodePost w w' p C A xs root vis (TT.pair 0 a b).nd e := by
  have HN := Lib.hid (tNode_any h hlen hlive ⟨a.num, b.num, 0, 0, 0, 0, 0, none⟩ (TT.pair 0 a b).nd (fun w1 C1 A1 xs1 k h1 g1 hk hkeep =>
    tFix_tt (k := k) h1 hk rfl rfl rfl (ha.chgC h g1.chg (fun j hj => hkeep j (ta j hj))) (hb.chgC h g1.chg (fun j hj => hkeep j (tb j hj))) s1 s2))
  obtain ⟨na, hna⟩ : ∃ na, a.num = na := ⟨_, rfl⟩
  obtain ⟨nb, hnb⟩ : ∃ nb, b.num = nb := ⟨_, rfl⟩
  have HP : Hid ((⟨a.num, b.num, 0, 0, 0, 0, 0, none⟩ : Nd) = ⟨na, nb, 0, 0, 0, 0, 0, none⟩) := by rw [hna, hnb]; rfl
  rw [HP.out] at HN
  rw [hna, hnb]
  clear h hlen hlive ha hb ta tb s1 s2 hna hnb HP
  go_enter Tryz.func92, Tryz.ntmps92
  go_wp2_with fail
  refine HN.out.mono ?_
  rintro e w' hP
  obtain ⟨k, C', A', xs', rfl, rest⟩ := hP.ex
  have HR := Lib.hid rest
  clear rest hP
  go_wp2_with fail
  go_ret
  exact ⟨⟨k, C', A', xs', rfl, HR.out⟩⟩

end Go.Proofs.YtacoeohmdngnkaaGreatDoor

namespace Go.Proofs.YtacoeohmdngnkaaGreatDoor
set_option linter.unusedVariables false
set_option linter.unusedSimpArgs false
open Go.RowKit

/-- A tree's numbers are taken, each once; so its blocks. -/
structure Own (A : Ar) (T : TT) : Prop where
  nn : T.nums.Nodup
  bn : T.bl.Nodup
  tk : ∀ j ∈ T.nums, A.T[j]? = some true
theorem Own.l {A : Ar} {k : Nat} {a b : TT} (h : Own A (.pair k a b)) : Own A a := by
  obtain ⟨_, _, h3, _, _⟩ := TT.dis h.nn
  have := h.bn
  simp only [TT.bl, List.nodup_append] at this
  exact ⟨h3, this.1, fun j hj => h.tk j (TT.mem_l hj)⟩
theorem Own.r {A : Ar} {k : Nat} {a b : TT} (h : Own A (.pair k a b)) : Own A b := by
  obtain ⟨_, _, _, h4, _⟩ := TT.dis h.nn
  have := h.bn
  simp only [TT.bl, List.nodup_append] at this
  exact ⟨h4, this.2.1, fun j hj => h.tk j (TT.mem_r hj)⟩

/-- What a change of a subtree leaves: it is another one; all that is neither its own nor new is as it was. -/
structure SubPost (w w' : World) (p : Nat) (C : Nat → Prop) (A : Ar) (xs : List Nd) (root vis : Int) (T T' : TT) (C' : Nat → Prop) (A' : Ar) (xs' : List Nd) (v' : Int) : Prop where
  head : Head w' p C' A' xs' root v'
  sub : Sub w' xs' T'
  own : Own A' T'
  len : xs'.length = A'.T.length
  newC : ∀ j, C' j → C j ∨ w.heap.size ≤ j
  newB : ∀ q ∈ T'.bl, q ∈ T.bl ∨ w.heap.size ≤ q
  keep : ∀ j : Nat, A.T[j]? = some true → j ∉ T.nums → xs'[j]? = xs[j]? ∧ A'.T[j]? = some true ∧ j ∉ T'.nums
  live : A'.live + T.st.size = A.live + T'.st.size
  max : A'.M = A.M
  vis : vis ≤ v' ∧ v' ≤ vis + 7 * T.st.high + 2
  chg : Chg (fun j => C j ∨ j ∈ T.bl) w w'
end Go.Proofs.YtacoeohmdngnkaaGreatDoor

namespace Go.Proofs.YtacoeohmdngnkaaGreatDoor
set_option linter.unusedVariables false
set_option linter.unusedSimpArgs false
open Go.RowKit

end Go.Proofs.YtacoeohmdngnkaaGreatDoor

namespace Go.Proofs.YtacoeohmdngnkaaGreatDoor
set_option linter.unusedVariables false
set_option linter.unusedSimpArgs false
open Go.RowKit

/-- What a change of a subtree leaves, but for its nodes. -/
structure SubPre (w w' : World) (C : Nat → Prop) (A : Ar) (xs : List Nd) (T T' : TT) (C' : Nat → Prop) (A' : Ar) (xs' : List Nd) : Prop where
  own : Own A' T'
  len : xs'.length = A'.T.length
  newC : ∀ j, C' j → C j ∨ w.heap.size ≤ j
  newB : ∀ q ∈ T'.bl, q ∈ T.bl ∨ w.heap.size ≤ q
  keep : ∀ j : Nat, A.T[j]? = some true → j ∉ T.nums → xs'[j]? = xs[j]? ∧ A'.T[j]? = some true ∧ j ∉ T'.nums
  live : A'.live + T.st.size = A.live + T'.st.size
  max : A'.M = A.M
  chg : Chg (fun j => C j ∨ j ∈ T.bl) w w'

section
variable {w w1 w2 w3 w' : World} {p : Nat} {C C' C3 : Nat → Prop} {A A' A3 : Ar} {xs xs' xs3 : List Nd} {root vis v' : Int} {T T' T1 T2 a c : TT} {kn : Nat}

theorem SubPost.pre (h : SubPost w w' p C A xs root vis T T' C' A' xs' v') : SubPre w w' C A xs T T' C' A' xs' := ⟨h.own, h.len, h.newC, h.newB, h.keep, h.live, h.max, h.chg⟩
theorem SubPost.of (h1 : Head w' p C' A' xs' root v') (h2 : Sub w' xs' T') (h : SubPre w w' C A xs T T' C' A' xs') (h3 : vis ≤ v' ∧ v' ≤ vis + 7 * T.st.high + 2) : SubPost w w' p C A xs root vis T T' C' A' xs' v' :=
  ⟨h1, h2, h.own, h.len, h.newC, h.newB, h.keep, h.live, h.max, h3, h.chg⟩

theorem SubPre.first (h0 : Chg C w w1) (h : SubPre w1 w' C A xs T T' C' A' xs') : SubPre w w' C A xs T T' C' A' xs' :=
  ⟨h.own, h.len, fun j hj => (h.newC j hj).imp id (fun h => Nat.le_trans h0.size h), fun q hq => (h.newB q hq).imp id (fun h => Nat.le_trans h0.size h), h.keep, h.live, h.max,
    (h0.mono (fun j hj => Or.inl hj)).trans h.chg (fun j hj => Or.inl hj)⟩

/-- A step that changes the nodes of the new subtree alone. -/
theorem SubPre.next (h : SubPre w w3 C A xs T T1 C3 A3 xs3) (hc : Chg C3 w3 w') (hk : ∀ j, j ∉ T1.nums → xs'[j]? = xs3[j]?) (hl : xs'.length = xs3.length) (hn : T2.nums.Perm T1.nums) (hb : T2.bl = T1.bl) (hs : T2.st.size = T1.st.size) :
    SubPre w w' C A xs T T2 C3 A3 xs' :=
  ⟨⟨hn.nodup_iff.2 h.own.nn, by rw [hb]; exact h.own.bn, fun j hj => h.own.tk j (hn.mem_iff.1 hj)⟩, hl.trans h.len, h.newC, by rw [hb]; exact h.newB, fun j h1 h2 => by
    obtain ⟨e1, e2, e3⟩ := h.keep j h1 h2
    exact ⟨(hk j e3).trans e1, e2, fun hj => e3 (hn.mem_iff.1 hj)⟩, by rw [hs]; exact h.live, h.max,
    h.chg.trans hc (fun j hj => (h.newC j hj).imp Or.inl id)⟩

/-- The left child has changed. -/
theorem SubPre.left (hO : Own A (.pair kn a c)) (h : SubPre w w3 C A xs a T' C3 A3 xs3) (hH : Head w p C A xs root vis) (hc : Sub w xs c) :
    SubPre w w3 C A xs (.pair kn a c) (.pair kn T' c) C3 A3 xs3 ∧ Sub w3 xs3 c ∧ xs3[kn]? = xs[kn]? := by
  obtain ⟨n1, n2, n3, n4, n5⟩ := TT.dis hO.nn
  have hbn := hO.bn
  simp only [TT.bl, List.nodup_append] at hbn
  obtain ⟨b1, b2, b3⟩ := hbn
  have tk := hO.tk kn TT.mem_k
  obtain ⟨k1, k2, k3⟩ := h.keep kn tk n1
  have kc : ∀ j ∈ c.nums, xs3[j]? = xs[j]? ∧ A3.T[j]? = some true ∧ j ∉ T'.nums := fun j hj => h.keep j (hO.tk j (TT.mem_r hj)) (fun e => n5 j e hj)
  have bc : ∀ q ∈ c.bl, q < w.heap.size := fun q hq => (hc.type hq).lt
  refine ⟨⟨⟨?_, ?_, fun j hj => ?_⟩, h.len, h.newC, fun q hq => ?_, fun j h1 h2 => ?_, ?_, h.max, h.chg.mono (fun j hj => hj.imp id (fun h => by simp [TT.bl, h]))⟩, ?_, k1⟩
  · simp only [TT.nums, List.nodup_cons, List.mem_append, not_or, List.nodup_append]
    exact ⟨⟨k3, n2⟩, h.own.nn, n4, fun x hx y hy e => by subst e; exact (kc x hy).2.2 hx⟩
  · simp only [TT.bl, List.nodup_append]
    refine ⟨h.own.bn, b2, fun x hx y hy e => ?_⟩
    subst e
    rcases h.newB x hx with e | e
    · exact b3 x e x hy rfl
    · have := bc x hy; omega
  · simp only [TT.nums, List.mem_cons, List.mem_append] at hj
    rcases hj with rfl | hj | hj
    · exact k2
    · exact h.own.tk j hj
    · exact (kc j hj).2.1
  · simp only [TT.bl, List.mem_append] at hq ⊢
    rcases hq with hq | hq
    · exact (h.newB q hq).imp Or.inl id
    · exact Or.inl (Or.inr hq)
  · have h2' : j ≠ kn ∧ j ∉ a.nums ∧ j ∉ c.nums := by
      simp only [TT.nums, List.mem_cons, List.mem_append, not_or] at h2; exact h2
    obtain ⟨e1, e2, e3⟩ := h.keep j h1 h2'.2.1
    refine ⟨e1, e2, ?_⟩
    simp only [TT.nums, List.mem_cons, List.mem_append, not_or]
    exact ⟨h2'.1, e3, h2'.2.2⟩
  · have := h.live; simp only [TT.st, ST.size]; omega
  · exact hc.keep (fun j hj => (kc j hj).1) (fun q hq => h.chg.block q (bc q hq) (fun hs => hs.elim (hH.notBlk (hc.type hq)) (fun e => b3 q e q hq rfl)))

/-- The right child has changed. -/
theorem SubPre.right (hO : Own A (.pair kn a c)) (h : SubPre w w3 C A xs c T' C3 A3 xs3) (hH : Head w p C A xs root vis) (ha : Sub w xs a) :
    SubPre w w3 C A xs (.pair kn a c) (.pair kn a T') C3 A3 xs3 ∧ Sub w3 xs3 a ∧ xs3[kn]? = xs[kn]? := by
  obtain ⟨n1, n2, n3, n4, n5⟩ := TT.dis hO.nn
  have hbn := hO.bn
  simp only [TT.bl, List.nodup_append] at hbn
  obtain ⟨b1, b2, b3⟩ := hbn
  have tk := hO.tk kn TT.mem_k
  obtain ⟨k1, k2, k3⟩ := h.keep kn tk n2
  have kc : ∀ j ∈ a.nums, xs3[j]? = xs[j]? ∧ A3.T[j]? = some true ∧ j ∉ T'.nums := fun j hj => h.keep j (hO.tk j (TT.mem_l hj)) (fun e => n5 j hj e)
  have bc : ∀ q ∈ a.bl, q < w.heap.size := fun q hq => (ha.type hq).lt
  refine ⟨⟨⟨?_, ?_, fun j hj => ?_⟩, h.len, h.newC, fun q hq => ?_, fun j h1 h2 => ?_, ?_, h.max, h.chg.mono (fun j hj => hj.imp id (fun h => by simp [TT.bl, h]))⟩, ?_, k1⟩
  · simp only [TT.nums, List.nodup_cons, List.mem_append, not_or, List.nodup_append]
    exact ⟨⟨n1, k3⟩, n3, h.own.nn, fun x hx y hy e => by subst e; exact (kc x hx).2.2 hy⟩
  · simp only [TT.bl, List.nodup_append]
    refine ⟨b1, h.own.bn, fun x hx y hy e => ?_⟩
    subst e
    rcases h.newB x hy with e | e
    · exact b3 x hx x e rfl
    · have := bc x hx; omega
  · simp only [TT.nums, List.mem_cons, List.mem_append] at hj
    rcases hj with rfl | hj | hj
    · exact k2
    · exact (kc j hj).2.1
    · exact h.own.tk j hj
  · simp only [TT.bl, List.mem_append] at hq ⊢
    rcases hq with hq | hq
    · exact Or.inl (Or.inl hq)
    · exact (h.newB q hq).imp Or.inr id
  · have h2' : j ≠ kn ∧ j ∉ a.nums ∧ j ∉ c.nums := by
      simp only [TT.nums, List.mem_cons, List.mem_append, not_or] at h2; exact h2
    obtain ⟨e1, e2, e3⟩ := h.keep j h1 h2'.2.2
    refine ⟨e1, e2, ?_⟩
    simp only [TT.nums, List.mem_cons, List.mem_append, not_or]
    exact ⟨h2'.1, h2'.2.1, e3⟩
  · have := h.live; simp only [TT.st, ST.size]; omega
  · exact ha.keep (fun j hj => (kc j hj).1) (fun q hq => h.chg.block q (bc q hq) (fun hs => hs.elim (hH.notBlk (ha.type hq)) (fun e => b3 q hq q e rfl)))
end

end Go.Proofs.YtacoeohmdngnkaaGreatDoor

namespace Go.Proofs.YtacoeohmdngnkaaGreatDoor
set_option linter.unusedVariables false
set_option linter.unusedSimpArgs false
open Go.RowKit

end Go.Proofs.YtacoeohmdngnkaaGreatDoor

namespace Go.Proofs.YtacoeohmdngnkaaGreatDoor
set_option linter.unusedVariables false
set_option linter.unusedSimpArgs false
open Go.RowKit

/-- Rank at 0. -/
theorem tRank_zero {w : World} {p : Nat} {C : Nat → Prop} {A : Ar} {xs : List Nd} {vis : Int} {o : Option TT} (h : Head w p C A xs (onum o) vis) (hS : OSub w xs o) (k : Int) (x : Bool) (hk : k ≤ 0 ∨ (obits o).length = 0) :
    Calls Tryz.prog 73 #[.pointer (some ⟨p, 0, none⟩), .int .i64 k, .bool x] w fun e w' => e = .returned (.int .i64 0) ∧ Look w w' p C A xs (onum o) 0 := by
  have f3 := h.cells.2.2.2 3
  have c3 := h.cells.2.2.1
  have h0 := h.set3 0
  have hc0 := h.chg3 (.int .i64 0) 3
  have hl := tLen_any h0 (hS.chgC h hc0)
  have HL := Lib.hid hl
  have H0 := Lib.hid h0
  have HC := Lib.hid hc0
  clear h hS h0 hc0 hl
  have hk' : (k < 0) ∨ (k = 0) ∨ (0 < k ∧ (obits o).length = 0) := by omega
  generalize (obits o).length = n at *
  clear hk
  rcases hk' with hk | rfl | ⟨hk, rfl⟩
  all_goals
    go_enter Tryz.func73, Tryz.ntmps73
    go_wp2_with fail
    refine HL.out.mono ?_
    rintro e w' ⟨rfl, m, rfl⟩
    go_wp2_with fail
    go_ret
    exact ⟨rfl, ⟨0, Nat.le_refl _, H0.out.drewN _⟩, HC.out.drewN _⟩

set_option maxHeartbeats 3200000 in
/-- Rank, where there are some. -/
theorem tRank_core {w : World} {p : Nat} {C : Nat → Prop} {A : Ar} {xs : List Nd} {vis : Int} {T0 : TT} (h : Head w p C A xs T0.num vis) (hS : Sub w xs T0) (hm : T0.Sm) (k0 : Int) (K : Nat) (x : Bool)
    (hk : (0 < k0 ∧ k0 ≤ T0.st.bits.length ∧ k0 = K) ∨ ((T0.st.bits.length : Int) < k0 ∧ K = T0.st.bits.length)) (hK : 0 < K) :
    Calls Tryz.prog 73 #[.pointer (some ⟨p, 0, none⟩), .int .i64 k0, .bool x] w fun e w' => e = .returned (.int .i64 (rankL T0.st.bits K x)) ∧ Look w w' p C A xs T0.num (T0.st.high + 1) := by
  have f3 := h.cells.2.2.2 3
  have c3 := h.cells.2.2.1
  have h0 := h.set3 0
  have hc0 := h.chg3 (.int .i64 0) 3
  have hS0 := hS.chgC h hc0 (fun _ _ => rfl)
  have hl := tLen_some h0 hS0
  have c2 := h0.cells.2.1
  have HL := Lib.hid hl
  have H0 := Lib.hid h0
  have HC := Lib.hid hc0
  have HS0 := Lib.hid hS0
  have hhm := hm.high
  have hlm := hm.len
  have hKn : K ≤ T0.st.bits.length := by omega
  have HM := Lib.hid hm
  have HKN := Lib.hid hKn
  have HR : Hid (rankL T0.st.bits K x ≤ 8589934592) := by have := rankL_le T0.st.bits K x; show _ ≤ _; omega
  have d0 : ((K : Int) == 0) = false := by rw [beq_eq_false_iff_ne]; omega
  clear h hS h0 hc0 hl hS0 hm hKn
  obtain ⟨W0, hW0⟩ : ∃ W0, W0 = w.setCell ⟨p, 3, none⟩ (.int .i64 0) := ⟨_, rfl⟩
  rw [← hW0] at HL H0 HC HS0 c2
  have HW0 := Lib.hid hW0
  clear hW0
  obtain ⟨n0, hn0⟩ : ∃ n0, n0 = T0.st.bits.length := ⟨_, rfl⟩
  rw [← hn0] at hk HL hlm HKN
  have HN0 := Lib.hid hn0
  clear hn0
  rcases hk with ⟨hk1, hk2, rfl⟩ | ⟨hk, rfl⟩
  all_goals
    go_enter Tryz.func73, Tryz.ntmps73
    go_wp2_with fail
    rw [← HW0.out]
    refine HL.out.mono ?_
    rintro e w' ⟨rfl, m, rfl⟩
    go_wp2_with fail
    go_loopg [7, 8, 1] (T0.st.high + 1) (fun n a s b wr => ∃ (T : TT) (kn k s0 v : Nat), T.num = kn ∧ a = .int .i64 kn ∧ s = .int .i64 s0 ∧ b = .int .i64 k ∧ 0 < k ∧ k ≤ T.st.bits.length ∧ Sub wr xs T ∧ Head wr p C A xs T0.num v ∧ Chg C w wr ∧
      s0 + rankL T.st.bits k x = rankL T0.st.bits K x ∧ v + T.st.high ≤ T0.st.high ∧ T.st.high < n ∧ T.st.bits.length ≤ 8589934592)
    case atStart => exact ⟨T0, _, _, 0, 0, rfl, rfl, rfl, rfl, by first | exact hK | omega, by rw [← HN0.out]; have := HKN.out; omega, HS0.out.keep (fun _ _ => rfl) (fun _ _ => rfl), H0.out.drewN _, HC.out.drewN _, by simp, by omega, by omega, HM.out.len⟩
    case round =>
      obtain ⟨T, kn, k, s0, v, hkn, rfl, rfl, rfl, hk0, hk, hS, hH, hC, hb, hv, hT, hlen⟩ := hrel
      have hvw := hS.view hkn
      have hx : ∃ x, xs[kn]? = some x := ⟨_, by rw [← hkn]; exact hS.root⟩
      obtain ⟨g, rc, cur, c1, hgp, _⟩ := hH.row (by obtain ⟨x, hx⟩ := hx; have := (List.getElem?_eq_some_iff.1 hx).1; omega)
      obtain ⟨_, _, cv, fz⟩ := hH.cells
      have f3 := fz 3
      have hp := hH.lt p hH.self
      have HH3 : Hid (∀ v : Int, Head (wr.setCell ⟨p, 3, none⟩ (.int .i64 v)) p C A xs T0.num v) := fun v => hH.set3 v
      have HCC := Lib.hid hC
      have hs0 : s0 ≤ 8589934592 := by have := HR.out; omega
      have HB := Lib.hid hb
      have HCp := Lib.hid hH.self
      have HNC : Hid (∀ q l, IsBlock wr q l → ¬ C q) := fun q l h => hH.notBlk h.type
      clear hC hb hx fz HS0 HC H0 HW0 HL c2 hgp hK
      rcases hvw with ⟨q, l, hst, hblk, hx⟩ | ⟨Ta, Tb, hst, hSa, hSb, hx⟩
      · obtain ⟨_, _, hkx, _⟩ := hH.node c1 hx
        obtain ⟨a0, a1, a2, a3, a4, a5, a6, a7⟩ := hH.eight c1 hx
        have hg := World.block_lt_of_cell? wr _ a0
        simp only [ptrN, Option.map_some] at a0 a1 a2 a3 a4 a5 a6 a7
        rw [hst] at hk hv hT hlen
        have hbb := HB.out
        rw [hst] at hbb
        simp only [ST.bits] at hbb
        have HBB := Lib.hid hbb
        have HW : Hid (∀ v o, IsBlock ((wr.setCell ⟨p, 3, none⟩ v).alloc o) q l) := fun v o => hblk.chg ((Chg.refl.setCell ⟨p, 3, none⟩ (Or.inl HCp.out) v).alloc o) (HNC.out q l hblk)
        have HLK := Lib.hid (likeN_rank (x := x) hk)
        simp only [ST.high, ST.bits] at hk hv hT hlen
        have HRR := Lib.hid (rankL_le l k true)
        clear hH hS hkn hx hst hblk hbb
        go_wp2_with fail
        refine (blkRank (HW.out _ _) k).mono ?_
        rintro e w2 ⟨rfl, hb2⟩
        rw [Int.toNat_natCast]
        have HB2 := Lib.hid hb2
        clear hb2
        generalize hr : rankL l k true = r at *
        have HLK2 := Lib.hid (show likeN k r x = rankL l k x by rw [← hr]; exact HLK.out)
        have HRR2 := HRR.out
        have hlk3 := HLK2.out
        generalize hR2 : rankL l k x = R2 at *
        have HLK3 := Lib.hid hlk3
        have hR3 : R2 ≤ k := by rw [← hR2]; exact (rankL_le l k x).1
        clear hr hR2 hlk3 HLK
        go_wp2_with fail
        refine (tLike_any k r x w2 (by omega) (by omega) (by omega)).mono ?_
        rintro e w' ⟨rfl, rfl⟩
        rw [HLK3.out]
        go_wp2_with fail
        go_ret
        refine ⟨ret_int ?_, ⟨v + 1, by omega, ?_⟩, ?_⟩
        · have := HBB.out; omega
        · exact_mod_cast ((HH3.out (v + 1)).below (below_alloc _ _)).below HB2.out
        · exact ((HCC.out.setCell _ (Or.inl HCp.out) _).alloc _).trans (Chg.of_below (S := C) HB2.out) (fun _ h => Or.inl h)
      · obtain ⟨_, _, hkx, _⟩ := hH.node c1 hx
        obtain ⟨a0, a1, a2, a3, a4, a5, a6, a7⟩ := hH.eight c1 hx
        have hg := World.block_lt_of_cell? wr _ a0
        simp only [ptrN, Option.map_none] at a0 a1 a2 a3 a4 a5 a6 a7
        rw [hst] at hk hv hT hlen
        simp only [ST.bits, ST.high, List.length_append] at hk hv hT hlen
        have HSa : Hid (∀ W, Chg C wr W → Sub W xs Ta) := fun W hc => hSa.chgC hH hc (fun _ _ => rfl)
        have HSb : Hid (∀ W, Chg C wr W → Sub W xs Tb) := fun W hc => hSb.chgC hH hc (fun _ _ => rfl)
        have hb := HB.out
        rw [hst] at hb
        simp only [ST.bits] at hb
        have HB2 := Lib.hid hb
        have HLN := Lib.hid (likeN_count Ta.st.bits x)
        have hca := count_le Ta.st.bits true
        have hca2 := count_le Ta.st.bits x
        obtain ⟨na, hna⟩ : ∃ na, Ta.num = na := ⟨_, rfl⟩
        obtain ⟨nb, hnb⟩ : ∃ nb, Tb.num = nb := ⟨_, rfl⟩
        obtain ⟨la, hla⟩ : ∃ la, Ta.st.bits.length = la := ⟨_, rfl⟩
        obtain ⟨ca, hca'⟩ : ∃ ca, Ta.st.bits.count true = ca := ⟨_, rfl⟩
        obtain ⟨cx, hcx⟩ : ∃ cx, Ta.st.bits.count x = cx := ⟨_, rfl⟩
        rw [hla] at hk hlen hca hca2
        rw [hca'] at hca
        rw [hcx] at hca2
        simp only [hna, hnb, hla, hca'] at a0 a1 a2 a3 a4 a5 a6
        have HLN2 := Lib.hid (show likeN la ca x = cx by rw [← hla, ← hca', ← hcx]; exact HLN.out)
        have HNA := Lib.hid hna
        have HNB := Lib.hid hnb
        have HLA := Lib.hid hla
        have HCX := Lib.hid hcx
        by_cases hlt : k ≤ la
        · have d1 : decide (k ≤ la) = true := decide_eq_true hlt
          clear hH hS hkn hx hst hSa hSb hb hna hnb hla hca' hcx HB HLN
          go_wp2_with fail
          go_roundg (max Ta.st.high Tb.st.high + 1)
          case measure => omega
          case rel =>
            refine ⟨Ta, na, k, s0, v + 1, HNA.out, rfl, rfl, rfl, hk0, by rw [HLA.out]; exact hlt, HSa.out _ ((Chg.refl.setCell ⟨p, 3, none⟩ (Or.inl HCp.out) _).alloc _), ?_, HCC.out.trans ((Chg.refl.setCell ⟨p, 3, none⟩ (Or.inl HCp.out) _).alloc _) (fun _ h => Or.inl h), ?_, by omega, by omega, by have := HLA.out; omega⟩
            · exact_mod_cast (HH3.out (v + 1)).below (below_alloc _ _)
            · rw [← HB2.out, rankL_app_l (by rw [HLA.out]; exact hlt)]
        · have d1 : decide (k ≤ la) = false := decide_eq_false hlt
          clear hH hS hkn hx hst hSa hSb hb hna hnb hla hca' hcx HB HLN
          go_wp2_with fail
          refine (tLike_any la ca x _ (by omega) (by omega) (by omega)).mono ?_
          rintro e w' ⟨rfl, rfl⟩
          rw [HLN2.out]
          go_wp2_with fail
          go_quiet (fail)
          go_wp2_with fail
          go_roundg (max Ta.st.high Tb.st.high + 1)
          case measure => omega
          case rel =>
            refine ⟨Tb, nb, k - la, s0 + cx, v + 1, HNB.out, rfl, ?_, ?_, by omega, by omega, HSb.out _ (((Chg.refl.setCell ⟨p, 3, none⟩ (Or.inl HCp.out) _).alloc _).drewN _), ?_, HCC.out.trans (((Chg.refl.setCell ⟨p, 3, none⟩ (Or.inl HCp.out) _).alloc _).drewN _) (fun _ h => Or.inl h), ?_, by omega, by omega, by omega⟩
            · congr 1
            · congr 1; omega
            · exact_mod_cast ((HH3.out (v + 1)).below (below_alloc _ _)).drewN _
            · rw [← HB2.out, rankL_app_r (by rw [HLA.out]; omega), HLA.out, HCX.out]; omega

def ohigh : Option TT → Nat
  | none => 0
  | some T => T.st.high + 1
def OSm : Option TT → Prop
  | none => True
  | some T => T.Sm
theorem Look.mono {w w' : World} {p : Nat} {C : Nat → Prop} {A : Ar} {xs : List Nd} {root : Int} {m m' : Nat} (h : Look w w' p C A xs root m) (hm : m ≤ m') : Look w w' p C A xs root m' := by
  obtain ⟨v, hv, hH⟩ := h.head
  exact ⟨⟨v, by omega, hH⟩, h.chg⟩
/-- Rank, whatever is asked. -/
theorem tRank_any {w : World} {p : Nat} {C : Nat → Prop} {A : Ar} {xs : List Nd} {vis : Int} {o : Option TT} (h : Head w p C A xs (onum o) vis) (hS : OSub w xs o) (hm : OSm o) (k : Int) (x : Bool) :
    Calls Tryz.prog 73 #[.pointer (some ⟨p, 0, none⟩), .int .i64 k, .bool x] w fun e w' => e = .returned (.int .i64 (rankL (obits o) k.toNat x)) ∧ Look w w' p C A xs (onum o) (ohigh o) := by
  by_cases hz : k ≤ 0 ∨ (obits o).length = 0
  · have e0 : rankL (obits o) k.toNat x = 0 := by
      have := rankL_le (obits o) k.toNat x
      rcases hz with hz | hz <;> omega
    rw [e0]
    refine (tRank_zero h hS k x hz).mono ?_
    rintro e w' ⟨rfl, hL⟩
    exact ⟨rfl, hL.mono (Nat.zero_le _)⟩
  · cases o with
    | none => exact absurd (Or.inr rfl) hz
    | some T =>
      have hz' : 0 < k ∧ T.st.bits.length ≠ 0 := ⟨by omega, fun e => hz (Or.inr e)⟩
      by_cases hk : k ≤ T.st.bits.length
      · exact tRank_core h hS hm k k.toNat x (Or.inl ⟨hz'.1, hk, by omega⟩) (by omega)
      · have e1 : rankL (obits (some T)) k.toNat x = rankL T.st.bits T.st.bits.length x := by
          show rankL T.st.bits k.toNat x = _
          rw [rankL_over x (by omega), rankL_over x (Nat.le_refl _)]
        rw [e1]
        exact tRank_core h hS hm k T.st.bits.length x (Or.inr ⟨by omega, rfl⟩) (by omega)

end Go.Proofs.YtacoeohmdngnkaaGreatDoor

namespace Go.Proofs.YtacoeohmdngnkaaGreatDoor
set_option linter.unusedVariables false
set_option linter.unusedSimpArgs false
open Go.RowKit

theorem BitTab.chg {S : Nat → Prop} {w w' : World} (h : BitTab w) (hc : Chg S w w') (hn : ¬ S 0) : BitTab w' := fun j hj => hc.cell (h j hj) hn

theorem tSelect_neg {w : World} {p : Nat} {C : Nat → Prop} {A : Ar} {xs : List Nd} {root vis : Int} (h : Head w p C A xs root vis) (j : Int) (x : Bool) (hj : j < 0) :
    Calls Tryz.prog 64 #[.pointer (some ⟨p, 0, none⟩), .int .i64 j, .bool x] w fun e w' => e = .returned (.int .i64 (-1)) ∧ Look w w' p C A xs root 0 := by
  have f3 := h.cells.2.2.2 3
  have c3 := h.cells.2.2.1
  have H0 := Lib.hid (h.set3 0)
  have HC := Lib.hid (h.chg3 (.int .i64 0) 3)
  clear h
  go_enter Tryz.func64, Tryz.ntmps64
  go_wp2_with fail
  go_ret
  exact ⟨rfl, ⟨0, Nat.le_refl _, H0.out⟩, HC.out⟩

set_option maxHeartbeats 3200000 in
theorem tSelect_many {w : World} {p : Nat} {C : Nat → Prop} {A : Ar} {xs : List Nd} {vis : Int} {o : Option TT} (h : Head w p C A xs (onum o) vis) (hS : OSub w xs o) (hm : OSm o) (j : Int) (x : Bool) (hj0 : 0 ≤ j) (hj : ((obits o).count x : Int) ≤ j) :
    Calls Tryz.prog 64 #[.pointer (some ⟨p, 0, none⟩), .int .i64 j, .bool x] w fun e w' => e = .returned (.int .i64 (-1)) ∧ Look w w' p C A xs (onum o) 0 := by
  have f3 := h.cells.2.2.2 3
  have c3 := h.cells.2.2.1
  have h0 := h.set3 0
  have hc0 := h.chg3 (.int .i64 0) 3
  have hS0 := hS.chgC h hc0
  have HL := Lib.hid (tLen_any h0 hS0)
  have HO : Hid (∀ n, Calls Tryz.prog 80 #[.pointer (some ⟨p, 0, none⟩)] ((w.setCell ⟨p, 3, none⟩ (.int .i64 0)).drewN n) fun e w' => e = .returned (.int .i64 ((obits o).count true)) ∧ ∃ m, w' = ((w.setCell ⟨p, 3, none⟩ (.int .i64 0)).drewN n).drewN m) := by
    intro n
    refine tOnes_any (h0.drewN n) ?_
    cases o with
    | none => trivial
    | some T => exact Sub.keep hS0 (fun _ _ => rfl) (fun _ _ => rfl)
  have H0 := Lib.hid h0
  have HC := Lib.hid hc0
  have hlen : (obits o).length ≤ 8589934592 := by
    cases o with
    | none => simp [obits]
    | some T => exact hm.len
  have HK := Lib.hid (likeN_count (obits o) x)
  have hct := count_le (obits o) true
  have d0 : decide (j < 0) = false := by simp; omega
  have d1 : decide (((obits o).count x : Int) ≤ j) = true := by simpa using hj
  clear h hS h0 hc0 hS0 hm hj
  generalize (obits o).length = n at *
  generalize (obits o).count x = cx at *
  generalize (obits o).count true = ct at *
  go_enter Tryz.func64, Tryz.ntmps64
  go_wp2_with fail
  refine HL.out.mono ?_
  rintro e w' ⟨rfl, m, rfl⟩
  go_wp2_with fail
  refine (HO.out m).mono ?_
  rintro e w' ⟨rfl, m2, rfl⟩
  go_wp2_with fail
  refine (tLike_any n ct x _ (by omega) (by omega) (by omega)).mono ?_
  rintro e w' ⟨rfl, rfl⟩
  rw [HK.out]
  go_wp2_with fail
  go_ret
  exact ⟨rfl, ⟨0, Nat.le_refl _, H0.out.drewN _⟩, HC.out.drewN _⟩

set_option maxHeartbeats 3200000 in
/-- Select, where there is one. -/
theorem tSelect_core {w : World} {p : Nat} {C : Nat → Prop} {A : Ar} {xs : List Nd} {vis : Int} {T0 : TT} (h : Head w p C A xs T0.num vis) (hS : Sub w xs T0) (hm : T0.Sm) (hTab : BitTab w) (hN : ¬ C 0) (J : Nat) (x : Bool)
    (hJ : J < T0.st.bits.count x) :
    Calls Tryz.prog 64 #[.pointer (some ⟨p, 0, none⟩), .int .i64 J, .bool x] w fun e w' => e = .returned (.int .i64 (selL T0.st.bits J x)) ∧ Look w w' p C A xs T0.num (T0.st.high + 1) := by
  have f3 := h.cells.2.2.2 3
  have c3 := h.cells.2.2.1
  have h0 := h.set3 0
  have hc0 := h.chg3 (.int .i64 0) 3
  have hS0 := hS.chgC h hc0 (fun _ _ => rfl)
  have c2 := h0.cells.2.1
  have HT0 := Lib.hid hTab
  have HNT := Lib.hid hN
  have HL := Lib.hid (tLen_some h0 hS0)
  have HO : Hid (∀ n, Calls Tryz.prog 80 #[.pointer (some ⟨p, 0, none⟩)] ((w.setCell ⟨p, 3, none⟩ (.int .i64 0)).drewN n) fun e w' => e = .returned (.int .i64 (T0.st.bits.count true)) ∧ ∃ m, w' = ((w.setCell ⟨p, 3, none⟩ (.int .i64 0)).drewN n).drewN m) := by
    intro n
    exact tOnes_some (h0.drewN n) (hS0.keep (fun _ _ => rfl) (fun _ _ => rfl))
  have H0 := Lib.hid h0
  have HC := Lib.hid hc0
  have HS0 := Lib.hid hS0
  have hhm := hm.high
  have hlm := hm.len
  have HM := Lib.hid hm
  have HK := Lib.hid (likeN_count T0.st.bits x)
  have hct := count_le T0.st.bits true
  have hcx := count_le T0.st.bits x
  have HJ := Lib.hid hJ
  have hJ2 : J ≤ 8589934592 := by omega
  have HR : Hid (selL T0.st.bits J x ≤ 8589934592 ∧ 0 ≤ selL T0.st.bits J x) := by
    obtain ⟨k, h1, h2, h3⟩ := sel_ex x T0.st.bits J hJ
    rw [selL_hit h1 h2 (by rw [h3])]
    exact ⟨by omega, by omega⟩
  have d0 : decide ((J : Int) < 0) = false := by simp
  have d1 : decide (T0.st.bits.count x ≤ J) = false := decide_eq_false (by omega)
  clear h hS h0 hc0 hS0 hm hTab hN hJ
  obtain ⟨W0, hW0⟩ : ∃ W0, W0 = w.setCell ⟨p, 3, none⟩ (.int .i64 0) := ⟨_, rfl⟩
  rw [← hW0] at HL H0 HC HS0 c2 HO
  have HW0 := Lib.hid hW0
  clear hW0
  obtain ⟨n0, hn0⟩ : ∃ n0, n0 = T0.st.bits.length := ⟨_, rfl⟩
  obtain ⟨cx, hcx0⟩ : ∃ cx, cx = T0.st.bits.count x := ⟨_, rfl⟩
  obtain ⟨ct, hct0⟩ : ∃ ct, ct = T0.st.bits.count true := ⟨_, rfl⟩
  rw [← hn0] at HL hlm hct hcx HK
  rw [← hcx0] at hcx HK d1 HJ
  rw [← hct0] at hct HK HO
  have HCX0 := Lib.hid hcx0
  clear hn0 hcx0 hct0
  go_enter Tryz.func64, Tryz.ntmps64
  go_wp2_with fail
  rw [← HW0.out]
  refine HL.out.mono ?_
  rintro e w' ⟨rfl, m, rfl⟩
  go_wp2_with fail
  refine (HO.out m).mono ?_
  rintro e w' ⟨rfl, m2, rfl⟩
  go_wp2_with fail
  refine (tLike_any n0 ct x _ (by omega) (by omega) (by omega)).mono ?_
  rintro e w' ⟨rfl, rfl⟩
  rw [HK.out]
  go_wp2_with fail
  go_loopg [7, 8, 1] (T0.st.high + 1) (fun n a s b wr => ∃ (T : TT) (kn j s0 v : Nat), T.num = kn ∧ a = .int .i64 kn ∧ s = .int .i64 s0 ∧ b = .int .i64 j ∧ j < T.st.bits.count x ∧ Sub wr xs T ∧ Head wr p C A xs T0.num v ∧ Chg C w wr ∧
    s0 + selL T.st.bits j x = selL T0.st.bits J x ∧ v + T.st.high ≤ T0.st.high ∧ T.st.high < n ∧ T.st.bits.length ≤ 8589934592 ∧ s0 + T.st.bits.length ≤ 8589934592)
  case atStart => exact ⟨T0, _, _, 0, 0, rfl, rfl, rfl, rfl, by rw [← HCX0.out]; exact HJ.out, HS0.out.keep (fun _ _ => rfl) (fun _ _ => rfl), H0.out.drewN _, HC.out.drewN _, by simp, by omega, by omega, HM.out.len, by have := HM.out.len; omega⟩
  case round =>
    obtain ⟨T, kn, k, s0, v, hkn, rfl, rfl, rfl, hk, hS, hH, hC, hb, hv, hT, hlen, hsl⟩ := hrel
    have hvw := hS.view hkn
    have hx : ∃ x, xs[kn]? = some x := ⟨_, by rw [← hkn]; exact hS.root⟩
    obtain ⟨g, rc, cur, c1, hgp, _⟩ := hH.row (by obtain ⟨x, hx⟩ := hx; have := (List.getElem?_eq_some_iff.1 hx).1; omega)
    obtain ⟨_, _, cv, fz⟩ := hH.cells
    have f3 := fz 3
    have hp := hH.lt p hH.self
    have HH3 : Hid (∀ v : Int, Head (wr.setCell ⟨p, 3, none⟩ (.int .i64 v)) p C A xs T0.num v) := fun v => hH.set3 v
    have HTB := Lib.hid (HT0.out.chg hC HNT.out)
    have HCC := Lib.hid hC
    have hkl : k ≤ T.st.bits.length := by have := count_le T.st.bits x; omega
    have hkl2 : k ≤ 8589934592 := by omega
    have HB := Lib.hid hb
    have HCp := Lib.hid hH.self
    have HNC : Hid (∀ q l, IsBlock wr q l → ¬ C q) := fun q l h => hH.notBlk h.type
    clear hC hb hx fz HS0 HC H0 HW0 HL HO c2 hgp hkl
    rcases hvw with ⟨q, l, hst, hblk, hx⟩ | ⟨Ta, Tb, hst, hSa, hSb, hx⟩
    · obtain ⟨_, _, hkx, _⟩ := hH.node c1 hx
      obtain ⟨a0, a1, a2, a3, a4, a5, a6, a7⟩ := hH.eight c1 hx
      have hg := World.block_lt_of_cell? wr _ a0
      simp only [ptrN, Option.map_some] at a0 a1 a2 a3 a4 a5 a6 a7
      rw [hst] at hk hv hT hlen hsl
      have hbb := HB.out
      rw [hst] at hbb
      simp only [ST.bits] at hbb
      have HBB := Lib.hid hbb
      have HW : Hid (∀ v o, IsBlock ((wr.setCell ⟨p, 3, none⟩ v).alloc o) q l) := fun v o => hblk.chg ((Chg.refl.setCell ⟨p, 3, none⟩ (Or.inl HCp.out) v).alloc o) (HNC.out q l hblk)
      have HWT : Hid (∀ v o, BitTab ((wr.setCell ⟨p, 3, none⟩ v).alloc o)) := fun v o => HTB.out.chg ((Chg.refl.setCell ⟨p, 3, none⟩ (Or.inl HCp.out) v).alloc o) HNT.out
      simp only [ST.high, ST.bits] at hk hv hT hlen hsl
      have hR3 : 0 ≤ selL l k x ∧ selL l k x ≤ l.length := by
        obtain ⟨i, h1, h2, h3⟩ := sel_ex x l k hk
        rw [selL_hit h1 h2 (by rw [h3])]
        exact ⟨by omega, by omega⟩
      obtain ⟨hR3, hR4⟩ := hR3
      have hct1 := count_le l true
      clear hH hS hkn hx hst hblk hbb
      have hl0 := tLike_any 0 0 x
      have hl1 : likeN 0 0 x = 0 := by cases x <;> rfl
      rw [hl1] at hl0
      have HL0 := Lib.hid (fun w => hl0 w (by omega) (by omega) (by omega))
      clear hl0 hl1
      go_wp2_with fail
      refine (HL0.out _).mono ?_
      rintro e w2 ⟨rfl, rfl⟩
      go_wp2_with fail
      refine (blkSelect (HW.out _ _) (HWT.out _ _) k x (by omega)).mono ?_
      rintro e w2 ⟨rfl, hb2⟩
      have HB2 := Lib.hid hb2
      clear hb2
      generalize selL l k x = R2 at *
      go_wp2_with fail
      go_ret
      refine ⟨ret_int HBB.out, ⟨v + 1, by omega, ?_⟩, ?_⟩
      · exact_mod_cast ((HH3.out (v + 1)).below (below_alloc _ _)).below HB2.out
      · exact ((HCC.out.setCell _ (Or.inl HCp.out) _).alloc _).trans (Chg.of_below (S := C) HB2.out) (fun _ h => Or.inl h)
    · obtain ⟨_, _, hkx, _⟩ := hH.node c1 hx
      obtain ⟨a0, a1, a2, a3, a4, a5, a6, a7⟩ := hH.eight c1 hx
      have hg := World.block_lt_of_cell? wr _ a0
      simp only [ptrN, Option.map_none] at a0 a1 a2 a3 a4 a5 a6 a7
      rw [hst] at hk hv hT hlen hsl
      simp only [ST.bits, ST.high, List.length_append, List.count_append] at hk hv hT hlen hsl
      have HSa : Hid (∀ W, Chg C wr W → Sub W xs Ta) := fun W hc => hSa.chgC hH hc (fun _ _ => rfl)
      have HSb : Hid (∀ W, Chg C wr W → Sub W xs Tb) := fun W hc => hSb.chgC hH hc (fun _ _ => rfl)
      have hb := HB.out
      rw [hst] at hb
      simp only [ST.bits] at hb
      have HB2 := Lib.hid hb
      have HLN := Lib.hid (likeN_count Ta.st.bits x)
      have hca := count_le Ta.st.bits true
      have hca2 := count_le Ta.st.bits x
      obtain ⟨na, hna⟩ : ∃ na, Ta.num = na := ⟨_, rfl⟩
      obtain ⟨nb, hnb⟩ : ∃ nb, Tb.num = nb := ⟨_, rfl⟩
      obtain ⟨la, hla⟩ : ∃ la, Ta.st.bits.length = la := ⟨_, rfl⟩
      obtain ⟨ca, hca'⟩ : ∃ ca, Ta.st.bits.count true = ca := ⟨_, rfl⟩
      obtain ⟨cx2, hcx2⟩ : ∃ cx, Ta.st.bits.count x = cx := ⟨_, rfl⟩
      rw [hla] at hlen hca hca2 hsl
      rw [hca'] at hca
      rw [hcx2] at hca2 hk
      simp only [hna, hnb, hla, hca'] at a0 a1 a2 a3 a4 a5 a6
      have HLN2 := Lib.hid (show likeN la ca x = cx2 by rw [← hla, ← hca', ← hcx2]; exact HLN.out)
      have HNA := Lib.hid hna
      have HNB := Lib.hid hnb
      have HLA := Lib.hid hla
      have HCX := Lib.hid hcx2
      by_cases hlt : k < cx2
      · have d1 : decide (k < cx2) = true := decide_eq_true hlt
        clear hH hS hkn hx hst hSa hSb hb hna hnb hla hca' hcx2 HB HLN
        go_wp2_with fail
        refine (tLike_any la ca x _ (by omega) (by omega) (by omega)).mono ?_
        rintro e w' ⟨rfl, rfl⟩
        rw [HLN2.out]
        go_wp2_with fail
        go_roundg (max Ta.st.high Tb.st.high + 1)
        case measure => omega
        case rel =>
          refine ⟨Ta, na, k, s0, v + 1, HNA.out, rfl, rfl, rfl, by rw [HCX.out]; exact hlt, HSa.out _ ((Chg.refl.setCell ⟨p, 3, none⟩ (Or.inl HCp.out) _).alloc _), ?_, HCC.out.trans ((Chg.refl.setCell ⟨p, 3, none⟩ (Or.inl HCp.out) _).alloc _) (fun _ h => Or.inl h), ?_, by omega, by omega, by have := HLA.out; omega, by have := HLA.out; omega⟩
          · exact_mod_cast (HH3.out (v + 1)).below (below_alloc _ _)
          · rw [← HB2.out, selL_app_l (by rw [HCX.out]; exact hlt)]
      · have d1 : decide (k < cx2) = false := decide_eq_false hlt
        clear hH hS hkn hx hst hSa hSb hb hna hnb hla hca' hcx2 HB HLN
        go_wp2_with fail
        refine (tLike_any la ca x _ (by omega) (by omega) (by omega)).mono ?_
        rintro e w' ⟨rfl, rfl⟩
        rw [HLN2.out]
        go_wp2_with fail
        go_roundg (max Ta.st.high Tb.st.high + 1)
        case measure => omega
        case rel =>
          refine ⟨Tb, nb, k - cx2, s0 + la, v + 1, HNB.out, rfl, ?_, ?_, by omega, HSb.out _ ((Chg.refl.setCell ⟨p, 3, none⟩ (Or.inl HCp.out) _).alloc _), ?_, HCC.out.trans ((Chg.refl.setCell ⟨p, 3, none⟩ (Or.inl HCp.out) _).alloc _) (fun _ h => Or.inl h), ?_, by omega, by omega, by omega, by omega⟩
          · congr 1
          · congr 1; omega
          · exact_mod_cast (HH3.out (v + 1)).below (below_alloc _ _)
          · rw [← HB2.out, selL_app_r (by rw [HCX.out]; omega) (by rw [List.count_append, HCX.out]; exact hk), HLA.out, HCX.out]; omega

/-- Select, whatever is asked. -/
theorem tSelect_any {w : World} {p : Nat} {C : Nat → Prop} {A : Ar} {xs : List Nd} {vis : Int} {o : Option TT} (h : Head w p C A xs (onum o) vis) (hS : OSub w xs o) (hm : OSm o) (hTab : BitTab w) (hN : ¬ C 0) (j : Int) (x : Bool) :
    Calls Tryz.prog 64 #[.pointer (some ⟨p, 0, none⟩), .int .i64 j, .bool x] w fun e w' => e = .returned (.int .i64 (selL (obits o) j x)) ∧ Look w w' p C A xs (onum o) (ohigh o) := by
  by_cases h0 : j < 0
  · rw [selL_neg h0]
    refine (tSelect_neg h j x h0).mono ?_
    rintro e w' ⟨rfl, hL⟩
    exact ⟨rfl, hL.mono (Nat.zero_le _)⟩
  · by_cases h1 : ((obits o).count x : Int) ≤ j
    · rw [selL_many h1]
      refine (tSelect_many h hS hm j x (by omega) h1).mono ?_
      rintro e w' ⟨rfl, hL⟩
      exact ⟨rfl, hL.mono (Nat.zero_le _)⟩
    · obtain ⟨J, rfl⟩ := Int.eq_ofNat_of_zero_le (show 0 ≤ j by omega)
      cases o with
      | none => exact absurd (show ((obits none).count x : Int) ≤ J by simp [obits]) h1
      | some T => exact tSelect_core h hS hm hTab hN J x (by simp only [obits] at h1; omega)

end Go.Proofs.YtacoeohmdngnkaaGreatDoor

namespace Go.Proofs.YtacoeohmdngnkaaGreatDoor
set_option linter.unusedVariables false
set_option linter.unusedSimpArgs false
open Go.RowKit

def obl : Option TT → List Nat
  | none => []
  | some T => T.bl
def osz : Option TT → Nat
  | none => 0
  | some T => T.st.size
def ost : Option TT → Option ST
  | none => none
  | some T => some T.st
def OOwn (A : Ar) : Option TT → Prop
  | none => True
  | some T => Own A T
/-- The bits of a tree that may have no node. -/
def sbits : Option ST → List Bool
  | none => []
  | some t => t.bits
def shigh : Option ST → Nat
  | none => 0
  | some t => t.high
def Good : Option ST → Prop
  | none => True
  | some t => t.Avl ∧ t.Root
theorem obits_st (O : Option TT) : obits O = sbits (ost O) := by cases O <;> rfl

/-- Block p holds the head of a tree of bits, of blocks S; of how many nodes numbers were made, how many the last call looked at. -/
structure TreeIs (S : Nat → Prop) (w : World) (p : Nat) (o : Option ST) (made : Nat) (vis : Int) : Prop where
  ex : ∃ (C : Nat → Prop) (A : Ar) (xs : List Nd) (O : Option TT), Head w p C A xs (onum O) vis ∧ OSub w xs O ∧ OOwn A O ∧ xs.length = A.T.length ∧ A.live = osz O ∧ A.M = 268435456 ∧ ost O = o ∧ made = A.T.length ∧ (∀ k, S k ↔ C k ∨ k ∈ obl O)
  good : Good o
  len : (sbits o).length ≤ 2147483648

section
variable {S : Nat → Prop} {w w' : World} {p made : Nat} {o : Option ST} {vis : Int}
theorem TreeIs.lt (h : TreeIs S w p o made vis) : ∀ k, S k → k < w.heap.size := by
  obtain ⟨C, A, xs, O, h1, h2, _, _, _, _, _, _, h9⟩ := h.ex
  intro k hk
  rcases (h9 k).1 hk with hk | hk
  · exact h1.lt k hk
  · cases O with
    | none => simp [obl] at hk
    | some T => exact (Sub.type h2 hk).lt
theorem TreeIs.self (h : TreeIs S w p o made vis) : S p := by
  obtain ⟨C, A, xs, O, h1, h2, _, _, _, _, _, _, h9⟩ := h.ex
  exact (h9 p).2 (Or.inl h1.self)
theorem TreeIs.chg {S' : Nat → Prop} (h : TreeIs S w p o made vis) (hc : Chg S' w w') (hd : ∀ k, S k → ¬ S' k) : TreeIs S w' p o made vis := by
  obtain ⟨C, A, xs, O, h1, h2, h3, h4, h5, h6, h7, h8, h9⟩ := h.ex
  refine ⟨⟨C, A, xs, O, h1.chg hc (fun k hk => hd k ((h9 k).2 (Or.inl hk))), ?_, h3, h4, h5, h6, h7, h8, h9⟩, h.good, h.len⟩
  cases O with
  | none => trivial
  | some T => exact Sub.same h2 hc (fun q hq => hd q ((h9 q).2 (Or.inr hq)))
theorem TreeIs.below (h : TreeIs S w p o made vis) (hb : Below w.heap.size w w') : TreeIs S w' p o made vis := h.chg (S' := fun _ => False) (Chg.of_below hb) (fun _ _ h => h)
/-- All sums are small. -/
theorem good_small {t : ST} (hr : t.Root) (hl : t.bits.length ≤ 2147483648) : t.size ≤ 134217729 ∧ t.high < 134217730 := by
  have h1 := hr.len
  have h2 := t.size_leaves
  have h3 := t.high_size
  have h4 := t.leaves_pos
  omega
end

end Go.Proofs.YtacoeohmdngnkaaGreatDoor

namespace Go.Proofs.YtacoeohmdngnkaaGreatDoor
set_option linter.unusedVariables false
set_option linter.unusedSimpArgs false

/-- The bits of the leaves from one on, below another one, of so many. -/
def segL (L : List Bool) (m f t : Nat) : List Bool := (L.take (L.length * t / m)).drop (L.length * f / m)

theorem seg_le {n m f t : Nat} (h : f ≤ t) : n * f / m ≤ n * t / m := Nat.div_le_div_right (Nat.mul_le_mul_left n h)
theorem seg_top {n m t : Nat} (h : t ≤ m) (hm : 0 < m) : n * t / m ≤ n :=
  Nat.div_le_of_le_mul (by rw [Nat.mul_comm m n]; exact Nat.mul_le_mul_left n h)
theorem segL_len {L : List Bool} {m f t : Nat} (h1 : f ≤ t) (h2 : t ≤ m) (hm : 0 < m) : (segL L m f t).length = L.length * t / m - L.length * f / m := by
  have := seg_top (n := L.length) h2 hm
  simp only [segL, List.length_drop, List.length_take]; omega
theorem segL_cat {L : List Bool} {m f k t : Nat} (h1 : f ≤ k) (h2 : k ≤ t) (h3 : t ≤ m) (hm : 0 < m) : segL L m f k ++ segL L m k t = segL L m f t := by
  have a1 := seg_le (n := L.length) (m := m) h1
  have a2 := seg_le (n := L.length) (m := m) h2
  have a3 := seg_top (n := L.length) h3 hm
  unfold segL
  generalize L.length * f / m = x at *
  generalize L.length * k / m = y at *
  generalize L.length * t / m = z at *
  have e1 : L.take z = L.take y ++ (L.take z).drop y := by
    have := (List.take_append_drop y (L.take z)).symm
    rwa [List.take_take, Nat.min_eq_left a2] at this
  conv => rhs; rw [e1]
  rw [List.drop_append_of_le_length (by rw [List.length_take]; omega)]
theorem segL_all {L : List Bool} {m : Nat} (hm : 0 < m) : segL L m 0 m = L := by
  simp only [segL, Nat.mul_zero, Nat.zero_div, List.drop_zero, Nat.mul_div_cancel _ hm, List.take_length]

/-- How many a leaf has. -/
theorem seg_step_le {n m f : Nat} (hn : n ≤ 128 * m) (hm : 0 < m) : n * (f + 1) / m ≤ n * f / m + 128 := by
  have h : n * (f + 1) ≤ n * f + 128 * m := by rw [Nat.mul_add, Nat.mul_one]; omega
  calc n * (f + 1) / m ≤ (n * f + 128 * m) / m := Nat.div_le_div_right h
    _ = n * f / m + 128 := Nat.add_mul_div_right _ _ hm
theorem seg_step_ge {n m f : Nat} (hn : 64 * m ≤ n) (hm : 0 < m) : n * f / m + 64 ≤ n * (f + 1) / m := by
  have h : n * f + 64 * m ≤ n * (f + 1) := by rw [Nat.mul_add, Nat.mul_one]; omega
  calc n * f / m + 64 = (n * f + 64 * m) / m := (Nat.add_mul_div_right _ _ hm).symm
    _ ≤ n * (f + 1) / m := Nat.div_le_div_right h

/-- What build makes. -/
structure Bld (L : List Bool) (m f t : Nat) (T : ST) : Prop where
  bits : T.bits = segL L m f t
  avl : T.Avl
  leaves : T.leaves = t - f
  up : t - f ≤ 2 ^ T.high
  low : (T.high = 0 ∧ t - f = 1) ∨ (∃ h, T.high = h + 1 ∧ 2 ^ h < t - f)
  le : T.Le
  fill : 2 ≤ m → T.Fill

theorem bld_leaf {L : List Bool} {m f t : Nat} (hm : m = (L.length + 127) / 128) (h : t - f = 1) (ht : t ≤ m) : Bld L m f t (.leaf (segL L m f t)) := by
  have e : t = f + 1 := by omega
  subst e
  have hp : 0 < m := by omega
  have hl := segL_len (L := L) (m := m) (f := f) (t := f + 1) (by omega) ht hp
  have h1 := seg_step_le (n := L.length) (m := m) (f := f) (by omega) hp
  refine ⟨rfl, trivial, by simp [ST.leaves], by simp [ST.high], Or.inl ⟨rfl, h⟩, ?_, ?_⟩
  · change _ ≤ 128
    rw [hl]; omega
  · intro h2
    have h3 := seg_step_ge (n := L.length) (m := m) (f := f) (by omega) hp
    change 32 ≤ _ ∧ _ ≤ 128
    rw [hl]; omega

theorem bld_pair {L : List Bool} {m f t : Nat} {a b : ST} (hp : 0 < m) (h : 2 ≤ t - f) (ht : t ≤ m) (ha : Bld L m f ((f + t) / 2) a) (hb : Bld L m ((f + t) / 2) t b) : Bld L m f t (.pair a b) := by
  obtain ⟨k, hk⟩ : ∃ k, k = (f + t) / 2 := ⟨_, rfl⟩
  rw [← hk] at ha hb
  have hka : k - f = (t - f) / 2 := by omega
  have hkb : t - k = (t - f + 1) / 2 := by omega
  have k1 : f ≤ k := by omega
  have k2 : k ≤ t := by omega
  have k3 : k - f + (t - k) = t - f := by omega
  obtain ⟨d, hd⟩ : ∃ d, d = t - f := ⟨_, rfl⟩
  rw [← hd] at hka hkb h
  have ua := ha.up; have ub := hb.up; have la := ha.low; have lb := hb.low
  rw [hka] at ua la
  rw [hkb] at ub lb
  -- the sides' heights
  have low_lt : ∀ {x h : Nat}, ((h = 0 ∧ x = 1) ∨ ∃ g, h = g + 1 ∧ 2 ^ g < x) → ∀ g, x ≤ 2 ^ g → h ≤ g := by
    rintro x h (⟨rfl, _⟩ | ⟨q, rfl, hq⟩) g hg
    · omega
    · have : 2 ^ q < 2 ^ g := Nat.lt_of_lt_of_le hq hg
      have := (Nat.pow_lt_pow_iff_right (a := 2) (by omega)).1 this
      omega
  have hab : a.high ≤ b.high := low_lt la _ (by omega)
  have hba : b.high ≤ a.high + 1 := low_lt lb _ (by rw [Nat.pow_succ]; omega)
  have hh : (ST.pair a b).high = b.high + 1 := by simp only [ST.high]; omega
  refine ⟨?_, ⟨ha.avl, hb.avl, by omega, hba⟩, ?_, ?_, Or.inr ⟨b.high, hh, ?_⟩, ⟨ha.le, hb.le⟩, fun h2 => ⟨ha.fill h2, hb.fill h2⟩⟩
  · change a.bits ++ b.bits = _
    rw [ha.bits, hb.bits]
    exact segL_cat k1 k2 ht hp
  · change a.leaves + b.leaves = _
    rw [ha.leaves, hb.leaves]; exact k3
  · rw [hh, Nat.pow_succ]; omega
  · rcases lb with ⟨h0, h1⟩ | ⟨g, hg, h1⟩
    · rw [h0]; simp; omega
    · rw [hg, Nat.pow_succ]; omega

/-- The whole tree. -/
theorem bld_root {L : List Bool} {m : Nat} {T : ST} (hm : m = (L.length + 127) / 128) (h0 : 0 < m) (h : Bld L m 0 m T) : T.bits = L ∧ T.Avl ∧ T.Root := by
  have hb : T.bits = L := by rw [h.bits, segL_all h0]
  refine ⟨hb, h.avl, ?_⟩
  rcases Nat.lt_or_ge m 2 with h1 | h1
  · cases T with
    | leaf l =>
      have hl := h.le
      refine ⟨?_, hl⟩
      have : l.length = L.length := congrArg List.length hb
      omega
    | pair a b =>
      exfalso
      have h2 := h.leaves
      have := a.leaves_pos; have := b.leaves_pos
      simp only [ST.leaves] at h2; omega
  · exact (h.fill h1).root

end Go.Proofs.YtacoeohmdngnkaaGreatDoor

namespace Go.Proofs.YtacoeohmdngnkaaGreatDoor
set_option linter.unusedVariables false
set_option linter.unusedSimpArgs false
open Go.RowKit

theorem run_sliceMid {P : Program} {w : World} {t e : TypeId} {a : Option Addr} {len cap j k : Nat} (ht : P.underlying t = some (.slice e)) (hinfo : (P.info? e).map (fun i => i.size) = some 1) (hj : j ≤ k) (hk : k ≤ cap) :
    (Instr.slice t (.slice a len cap) (some (.int .i64 (j : Int))) (some (.int .i64 (k : Int))) none).run P w = .ok (.slice (offA a j cap) (k - j) (cap - j)) w := by
  obtain ⟨i, hi, hs⟩ := Option.map_eq_some_iff.1 hinfo
  have hk' : (k : Int) ≤ (cap : Int) := by omega
  have hj' : (j : Int) ≤ (k : Int) := by omega
  simp [Instr.slice, run_underlying ht, Instr.sliceBounds, Instr.sliceBound, asIntOf, hk', hj', sizeOf, typeInfo, hi, hs, go_sem, offA, hj, hk]

/-- What build leaves: a new tree; all taken before is as it was. -/
structure BldStep (w w' : World) (p : Nat) (C : Nat → Prop) (A : Ar) (xs : List Nd) (root vis : Int) (T' : TT) (C' : Nat → Prop) (A' : Ar) (xs' : List Nd) : Prop where
  head : Head w' p C' A' xs' root vis
  sub : Sub w' xs' T'
  own : Own A' T'
  len : xs'.length = A'.T.length
  newC : ∀ j, C' j → C j ∨ w.heap.size ≤ j
  newB : ∀ q ∈ T'.bl, w.heap.size ≤ q
  keep : ∀ j : Nat, A.T[j]? = some true → xs'[j]? = xs[j]? ∧ A'.T[j]? = some true ∧ j ∉ T'.nums
  live : A'.live = A.live + T'.st.size
  max : A'.M = A.M
  fr : A.F = [] → A'.F = []
  chg : Chg C w w'
def BldPost (w w' : World) (p : Nat) (C : Nat → Prop) (A : Ar) (xs : List Nd) (root vis : Int) (L : List Bool) (m f t : Nat) (e : Ending) : Prop :=
  ∃ T' C' A' xs', e = .returned (.int .i64 T'.num) ∧ BldStep w w' p C A xs root vis T' C' A' xs' ∧ Bld L m f t T'.st

set_option maxHeartbeats 3200000 in
set_option maxRecDepth 100000 in
theorem tBuild_leaf {w : World} {p : Nat} {C : Nat → Prop} {A : Ar} {xs : List Nd} {root vis : Int} (h : Head w p C A xs root vis) (hlen : xs.length = A.T.length) {a : Option Addr} {c : Nat} {L : List Bool} (hr : ReadsV w a (L.map Value.bool))
    (hc : L.length ≤ c) (hL : L.length ≤ 2147483648) {m f t : Nat} (hm : m = (L.length + 127) / 128) (hft : t - f = 1) (ht : t ≤ m) (hlive : A.live < A.M) :
    Calls Tryz.prog 83 #[.pointer (some ⟨p, 0, none⟩), .slice a L.length c, .int .i64 f, .int .i64 t, .int .i64 m] w fun e w' => BldPost w w' p C A xs root vis L m f t e := by
  have hp0 : 0 < m := by omega
  have hB := bld_leaf (L := L) hm hft ht
  have hsl := segL_len (L := L) (m := m) (f := f) (t := t) (by omega) ht hp0
  have hx2 := seg_le (n := L.length) (m := m) (f := f) (t := t) (by omega)
  have hx3 := seg_top (n := L.length) ht hp0
  obtain ⟨x, hx⟩ : ∃ x, x = L.length * f / m := ⟨_, rfl⟩
  obtain ⟨y, hy⟩ : ∃ y, y = L.length * t / m := ⟨_, rfl⟩
  obtain ⟨sg, hsg⟩ : ∃ sg, sg = segL L m f t := ⟨_, rfl⟩
  have hb1 : L.length * f ≤ 2147483648 * 16777217 := Nat.mul_le_mul hL (by omega)
  have hb2 : L.length * t ≤ 2147483648 * 16777217 := Nat.mul_le_mul hL (by omega)
  have hsr : ReadsV w (offA a x c) (sg.map Value.bool) := by
    rw [hsg]; unfold segL; rw [← hx, ← hy, List.map_drop, List.map_take]
    exact (hr.take y).drop (by rw [List.length_take, List.length_map]; omega)
  rw [← hx, ← hy] at hx2 hsl
  rw [← hy] at hx3
  rw [← hsg] at hsl hB
  have hsl128 : sg.length ≤ 128 := hB.le
  have d0 : ((t : Int) - (f : Int) == 1) = true := by rw [beq_iff_eq]; omega
  have d1 : IntKind.i64.wrap ((t : Int) - (f : Int)) = (t : Int) - (f : Int) := IntWalk.i64_in _ (by omega)
  obtain ⟨zf, hzf⟩ : ∃ zf, zf = L.length * f := ⟨_, rfl⟩
  obtain ⟨zt, hzt⟩ : ∃ zt, zt = L.length * t := ⟨_, rfl⟩
  have d2 : IntKind.i64.wrap ((L.length : Int) * (f : Int)) = (zf : Int) := by rw [← Int.natCast_mul, ← hzf]; exact IntWalk.i64_in _ (by omega)
  have d3 : IntKind.i64.wrap ((L.length : Int) * (t : Int)) = (zt : Int) := by rw [← Int.natCast_mul, ← hzt]; exact IntWalk.i64_in _ (by omega)
  have d4 : IntKind.i64.wrap ((zf : Int) / (m : Int)) = (x : Int) := by
    rw [← Int.natCast_ediv, hzf, ← hx]; exact IntWalk.i64_in _ (by omega)
  have d5 : IntKind.i64.wrap ((zt : Int) / (m : Int)) = (y : Int) := by
    rw [← Int.natCast_ediv, hzt, ← hy]; exact IntWalk.i64_in _ (by omega)
  have d6 : ¬ m = 0 := by omega
  have hS2 : ∀ (w : World), (Instr.slice 91 (.slice a L.length c) (some (.int .i64 (x : Int))) (some (.int .i64 (y : Int))) none).run Tryz.prog w = .ok (.slice (offA a x c) (y - x) (c - x)) w := fun w =>
    run_sliceMid (e := 4) (by kernel_rfl) (by kernel_rfl) hx2 (by omega)
  have HN : Hid (∀ n, Calls Tryz.prog 90 #[.slice (offA a x c) (y - x) (c - x)] (w.drewN n) fun e w' => e = .returned (.tuple #[.pointer (some ⟨w.heap.size, 0, none⟩), .int .i64 0]) ∧ IsBlock w' w.heap.size sg ∧ Below w.heap.size w w') := fun n => by
    have := blkNew (w.drewN n) (offA a x c) (c - x) sg hsr hsl128
    rw [hsl] at this
    refine this.mono ?_
    rintro e w' ⟨rfl, h1, h2⟩
    exact ⟨rfl, h1, ⟨h2.os, h2.tape, h2.output, h2.size, h2.block⟩⟩
  have HH := Lib.hid h
  have HL := Lib.hid hlen
  have HLV := Lib.hid hlive
  have HB := Lib.hid hB
  clear h hlen hlive hB hr hsr hsl hsl128 hb1 hb2 hx hy hzf hzt hsg hm
  generalize L.length = n0 at *
  go_enter Tryz.func83, Tryz.ntmps83
  go_wp2_with fail
  -- REGION leaf
  refine reg_start (fun _ => True) (by kernel_rfl) (trivial) (fun hHeld => ?_)
  refine rt 0 hHeld ?_
  refine rt 1 hHeld ?_
  refine rt 2 hHeld ?_
  refine rt 3 hHeld ?_
  refine rt 4 hHeld ?_
  refine rt 5 hHeld ?_
  refine rt 6 hHeld ?_
  refine rt 7 hHeld ?_
  refine rt 8 hHeld ?_
  refine rt 9 hHeld ?_
  refine rt 10 hHeld ?_
  refine rt 11 hHeld ?_
  refine rt 12 hHeld ?_
  refine rt 13 hHeld ?_
  refine reg_loud (i := 14) rfl (by kernel_rfl) rfl (fun K hK => ?_)
  go_simp
  ((refine (HN.out _).mono ?_))
  rintro e w2 ⟨rfl, hq, hb2⟩
  refine hK.out _ _ (trivial) (fun hNew => ?_)
  clear hK K hHeld
  have hHeld := hNew
  clear hNew
  try simp only [Act.put, List.setIfInBounds_toArray, List.set_cons_zero, List.set_cons_succ]
  refine rt 15 hHeld ?_
  refine rt 16 hHeld ?_
  refine rt 17 hHeld ?_
  refine rt 18 hHeld ?_
  refine rt 19 hHeld ?_
  refine reg_done (by kernel_rfl) ?_ _
  -- END OF REGION leaf
  clear hHeld
  have HQ := Lib.hid hq
  have h2 := HH.out.below hb2
  have HC2 := Lib.hid (Chg.of_below (S := C) hb2)
  have HLF := Lib.hid (tLeaf_any h2 HL.out HLV.out hq)
  have HHK := Lib.hid h2
  clear hq hb2 h2
  go_wp2_with fail
  refine HLF.out.mono ?_
  rintro e w3 ⟨k, C', A', xs', rfl, h3, s3, l3, hk3, t3, keep3, t3', live3, max3, fr3⟩
  have hq3 : IsBlock w3 w.heap.size sg := HQ.out.chg s3.chg (HHK.out.notBlk HQ.out.type)
  have HP : Hid (BldPost w w3 p C A xs root vis L m f t (.returned (.int .i64 (k : Int)))) := by
    refine ⟨.leaf k w.heap.size sg, C', A', xs', rfl, ⟨h3, ⟨hk3, hq3⟩, ⟨by simp [TT.nums], by simp [TT.bl], fun j hj => ?_⟩, l3, fun j hj => ?_, fun q hq => ?_, fun j hj => ?_, ?_, max3, fr3, ?_⟩, HB.out⟩
    · simp [TT.nums] at hj; subst hj; exact t3'
    · rcases s3.new j hj with h | h
      · exact Or.inl h
      · right; have := HC2.out.size; omega
    · simp [TT.bl] at hq; omega
    · refine ⟨(keep3 j hj).1, (keep3 j hj).2, ?_⟩
      simp only [TT.nums, List.mem_cons, List.not_mem_nil, or_false]
      rintro rfl; exact t3 hj
    · rw [live3]; simp [TT.st, ST.size]
    · exact HC2.out.trans s3.chg (fun j hj => Or.inl hj)
  clear h3 s3 l3 hk3 t3 keep3 t3' live3 max3 fr3 hq3 HB HLF HHK HC2 HQ
  go_wp2_with fail
  go_ret
  exact HP.out

end Go.Proofs.YtacoeohmdngnkaaGreatDoor

namespace Go.Proofs.YtacoeohmdngnkaaGreatDoor
set_option linter.unusedVariables false
set_option linter.unusedSimpArgs false
open Go.RowKit

section
variable {w w2 w3 w4 : World} {p : Nat} {C C2 C3 : Nat → Prop} {A A2 A3 : Ar} {xs x2 x3 : List Nd} {root vis : Int} {Ta Tb : TT}
theorem BldStep.subA (Sa : BldStep w w2 p C A xs root vis Ta C2 A2 x2) (Sb : BldStep w2 w3 p C2 A2 x2 root vis Tb C3 A3 x3) : Sub w3 x3 Ta :=
  Sa.sub.chgC Sa.head Sb.chg (fun j hj => (Sb.keep j (Sa.own.tk j hj)).1)
theorem BldStep.joined (Sa : BldStep w w2 p C A xs root vis Ta C2 A2 x2) (Sb : BldStep w2 w3 p C2 A2 x2 root vis Tb C3 A3 x3) {e : Ending} (hn : NodePost w3 w4 p C3 A3 x3 root vis (TT.pair 0 Ta Tb).nd e)
    {L : List Bool} {m f t : Nat} (hB : Bld L m f t (.pair Ta.st Tb.st)) : BldPost w w4 p C A xs root vis L m f t e := by
  obtain ⟨k, C', A', xs', rfl, h4, s4, l4, hk4, t4, keep4, t4', live4, max4, fr4⟩ := hn.ex
  have s1 := Sa.chg.size
  have s2 := Sb.chg.size
  have kA : ∀ j ∈ Ta.nums, A3.T[j]? = some true := fun j hj => (Sb.keep j (Sa.own.tk j hj)).2.1
  have kB : ∀ j ∈ Tb.nums, A3.T[j]? = some true := Sb.own.tk
  have dAB : ∀ j ∈ Ta.nums, j ∉ Tb.nums := fun j hj => (Sb.keep j (Sa.own.tk j hj)).2.2
  have subA := (Sa.subA Sb).chgC Sb.head s4.chg (fun j hj => (keep4 j (kA j hj)).1)
  have subB := Sb.sub.chgC Sb.head s4.chg (fun j hj => (keep4 j (kB j hj)).1)
  refine ⟨.pair k Ta Tb, C', A', xs', rfl, ⟨h4, ⟨hk4, subA, subB⟩, ⟨?_, ?_, ?_⟩, l4, ?_, ?_, ?_, ?_, ?_, fun h => fr4 (Sb.fr (Sa.fr h)), ?_⟩, hB⟩
  · simp only [TT.nums, List.nodup_cons, List.mem_append, not_or, List.nodup_append]
    exact ⟨⟨fun h => t4 (kA k h), fun h => t4 (kB k h)⟩, Sa.own.nn, Sb.own.nn, fun j hj i hi e => dAB j hj (e ▸ hi)⟩
  · simp only [TT.bl, List.nodup_append]
    refine ⟨Sa.own.bn, Sb.own.bn, fun j hj i hi e => ?_⟩
    have h1 := (Sa.sub.type hj).lt
    have h2 := Sb.newB i hi
    omega
  · intro j hj
    simp only [TT.nums, List.mem_cons, List.mem_append] at hj
    rcases hj with rfl | hj | hj
    · exact t4'
    · exact (keep4 j (kA j hj)).2
    · exact (keep4 j (kB j hj)).2
  · intro j hj
    rcases s4.new j hj with h | h
    · rcases Sb.newC j h with h | h
      · exact Sa.newC j h
      · right; omega
    · right; omega
  · intro q hq
    simp only [TT.bl, List.mem_append] at hq
    rcases hq with hq | hq
    · exact Sa.newB q hq
    · have := Sb.newB q hq; omega
  · intro j hj
    have k1 := Sa.keep j hj
    have k2 := Sb.keep j k1.2.1
    have k3 := keep4 j k2.2.1
    refine ⟨k3.1.trans (k2.1.trans k1.1), k3.2, ?_⟩
    simp only [TT.nums, List.mem_cons, List.mem_append]
    rintro (rfl | hj | hj)
    · exact t4 k2.2.1
    · exact k1.2.2 hj
    · exact k2.2.2 hj
  · have := Sa.live; have := Sb.live; simp only [TT.st, ST.size]; omega
  · rw [max4, Sb.max, Sa.max]
  · refine (Sa.chg.trans Sb.chg (fun j hj => Sa.newC j hj)).trans s4.chg (fun j hj => ?_)
    rcases Sb.newC j hj with h | h
    · exact Sa.newC j h
    · right; omega
end

set_option maxHeartbeats 3200000 in
set_option maxRecDepth 100000 in
theorem tBuild_any {p : Nat} {root vis : Int} {a : Option Addr} {c : Nat} {L : List Bool} {m : Nat} (hc : L.length ≤ c) (hL : L.length ≤ 2147483648) (hm : m = (L.length + 127) / 128) (n : Nat) :
    ∀ (w : World) (C : Nat → Prop) (A : Ar) (xs : List Nd) (f t : Nat), Head w p C A xs root vis → xs.length = A.T.length → ReadsV w a (L.map Value.bool) → (∀ ad, a = some ad → ¬ C ad.block ∧ ad.block < w.heap.size) →
      t - f = n → 1 ≤ n → t ≤ m → A.live + 2 * n ≤ A.M + 1 →
      Calls Tryz.prog 83 #[.pointer (some ⟨p, 0, none⟩), .slice a L.length c, .int .i64 f, .int .i64 t, .int .i64 m] w fun e w' => BldPost w w' p C A xs root vis L m f t e := by
  induction n using Nat.strongRecOn with
  | ind n ih =>
    intro w C A xs f t h hlen hr had hn hn1 ht hlive
    by_cases h1 : n = 1
    · exact tBuild_leaf h hlen hr hc hL hm (by omega) ht (by omega)
    · obtain ⟨k, hk⟩ : ∃ k, k = (f + t) / 2 := ⟨_, rfl⟩
      have hp0 : 0 < m := by omega
      have IHA := Lib.hid (ih (k - f) (by omega) w C A xs f k h hlen hr had rfl (by omega) (by omega) (by omega))
      have HIB : Hid (∀ w2 Ta C2 A2 x2, BldStep w w2 p C A xs root vis Ta C2 A2 x2 → Bld L m f k Ta.st → Calls Tryz.prog 83 #[.pointer (some ⟨p, 0, none⟩), .slice a L.length c, .int .i64 k, .int .i64 t, .int .i64 m] w2 fun e w' => BldPost w2 w' p C2 A2 x2 root vis L m k t e) := by
        intro w2 Ta C2 A2 x2 Sa Ba
        have hs := Sa.chg.size
        refine ih (t - k) (by omega) w2 C2 A2 x2 k t Sa.head Sa.len (hr.chg Sa.chg (fun ad h => (had ad h).1)) (fun ad h => ⟨fun hc2 => ?_, ?_⟩) rfl (by omega) ht ?_
        · rcases Sa.newC _ hc2 with h2 | h2
          · exact (had ad h).1 h2
          · have := (had ad h).2; omega
        · have := (had ad h).2; omega
        · have e1 := Ba.leaves; have e2 := Ta.st.size_leaves; have e3 := Sa.live; have e4 := Sa.max; omega
      have small : ∀ {f' t' : Nat} {T : ST}, Bld L m f' t' T → f' ≤ t' → t' ≤ m → Small T := by
        intro f' t' T hB h1 h2
        have e0 := segL_len (L := L) h1 h2 hp0
        have e1 := seg_top (n := L.length) h2 hp0
        have e2 := T.high_size; have e3 := T.size_leaves; have e4 := hB.leaves
        refine ⟨?_, by omega⟩
        rw [hB.bits, e0]; exact Nat.le_trans (Nat.sub_le _ _) (Nat.le_trans e1 (by omega))
      have HP : Hid (∀ w2 Ta C2 A2 x2 w3 Tb C3 A3 x3, BldStep w w2 p C A xs root vis Ta C2 A2 x2 → Bld L m f k Ta.st → BldStep w2 w3 p C2 A2 x2 root vis Tb C3 A3 x3 → Bld L m k t Tb.st →
          Calls Tryz.prog 92 #[.pointer (some ⟨p, 0, none⟩), .int .i64 Ta.num, .int .i64 Tb.num] w3 fun e w' => BldPost w w' p C A xs root vis L m f t e) := by
        intro w2 Ta C2 A2 x2 w3 Tb C3 A3 x3 Sa Ba Sb Bb
        have e1 := Ba.leaves; have e2 := Ta.st.size_leaves; have e3 := Sa.live; have e4 := Sa.max
        have g1 := Bb.leaves; have g2 := Tb.st.size_leaves; have g3 := Sb.live; have g4 := Sb.max
        refine (tPair_any Sb.head Sb.len (by omega) (Sa.subA Sb) Sb.sub (fun j hj => (Sb.keep j (Sa.own.tk j hj)).2.1) Sb.own.tk (small Ba (by omega) (by omega)) (small Bb (by omega) (by omega))).mono ?_
        intro e w' hN
        exact Sa.joined Sb hN (bld_pair hp0 (by omega) ht (hk ▸ Ba) (hk ▸ Bb))
      have hbt : t ≤ 16777217 := by omega
      have hft : f ≤ t := by omega
      have d0 : ((t : Int) - (f : Int) == 1) = false := by rw [beq_eq_false_iff_ne]; omega
      have d1 : IntKind.i64.wrap ((t : Int) - (f : Int)) = (t : Int) - (f : Int) := IntWalk.i64_in _ (by omega)
      obtain ⟨ft, hfteq⟩ : ∃ ft, ft = f + t := ⟨_, rfl⟩
      have hw0 : (f : Int) + (t : Int) = (ft : Int) := by omega
      have hw1 : IntKind.i64.wrap (ft : Int) = (ft : Int) := IntWalk.i64_in _ (by omega)
      have hw3 : (ft : Int) / 2 = (k : Int) := by omega
      have hw4 : IntKind.i64.wrap (k : Int) = (k : Int) := IntWalk.i64_in _ (by omega)
      have hw5 : IntKind.i64.wrap ((ft : Int).tdiv 2) = (k : Int) := by rw [Int.tdiv_eq_ediv_of_nonneg (by omega), hw3, hw4]
      have hw6 : IntKind.i64.wrap ((ft : Int) / 2) = (k : Int) := by rw [hw3, hw4]
      clear h hlen hr had hlive ih small hm hL hc hk hfteq
      generalize L.length = n0 at *
      go_enter Tryz.func83, Tryz.ntmps83
      go_wp2_with fail
      refine IHA.out.mono ?_
      rintro e w2 ⟨Ta, C2, A2, x2, rfl, Sa, Ba⟩
      have HSa := Lib.hid Sa
      have HBa := Lib.hid Ba
      have IHB := Lib.hid (HIB.out w2 Ta C2 A2 x2 Sa Ba)
      clear Sa Ba HIB IHA
      go_wp2_with fail
      refine IHB.out.mono ?_
      rintro e w3 ⟨Tb, C3, A3, x3, rfl, Sb, Bb⟩
      have HPP := Lib.hid (HP.out w2 Ta C2 A2 x2 w3 Tb C3 A3 x3 HSa.out HBa.out Sb Bb)
      clear Sb Bb HP IHB HSa HBa
      go_wp2_with fail
      refine HPP.out.mono ?_
      rintro e w4 hh
      have HF := Lib.hid hh
      obtain ⟨T', C', A', xs', rfl, _, _⟩ := hh
      go_wp2_with fail
      go_ret
      exact HF.out

end Go.Proofs.YtacoeohmdngnkaaGreatDoor

namespace Go.Proofs.YtacoeohmdngnkaaGreatDoor
set_option linter.unusedVariables false
set_option linter.unusedSimpArgs false
open Go.RowKit

def boxT (ap : Nat) : Obj := .cells #[.pointer (some ⟨ap, 0, none⟩), .slice none 0 0, .int .i64 (-1), .int .i64 0] 100
theorem head_new {w w1 : World} (hA : IsArena w1 w.heap.size (fun k => k = w.heap.size) (Ar.new 268435456)) (hc : Chg (fun _ => False) w w1) :
    Head (w1.alloc (boxT w.heap.size)) w1.heap.size (fun k => k = w1.heap.size ∨ k = w.heap.size) (Ar.new 268435456) [] (-1) 0 := by
  refine ⟨w.heap.size, fun k => k = w.heap.size, none, 0, ?_, hA.chg (Chg.refl.alloc (S := fun _ => False) (boxT w.heap.size)) (fun _ _ h => h), World.ownsRow_nil _ _ _ _, fun k => ?_⟩
  · change (w1.heap.push (boxT w.heap.size))[w1.heap.size]? = _
    rw [Array.getElem?_push_size]; rfl
  · simp

theorem tNew_nil (w : World) (a : Option Addr) (c : Nat) : Calls Tryz.prog 65 #[.slice a 0 c] w fun e w' => ∃ p q, e = .returned (.pointer (some ⟨p, 0, none⟩)) ∧ w.heap.size ≤ p ∧ w.heap.size ≤ q ∧ Head w' p (fun k => k = p ∨ k = q) (Ar.new 268435456) [] (-1) 0 ∧ Chg (fun _ => False) w w' := by
  have HA : Hid (Calls Tryz.prog 82 #[.int .i64 268435456] w fun e w' => e = .returned (.pointer (some ⟨w.heap.size, 0, none⟩)) ∧ IsArena w' w.heap.size (fun k => k = w.heap.size) (Ar.new 268435456) ∧ Chg (fun _ => False) w w') := arNew_good 268435456 w (by omega)
  go_enter Tryz.func65, Tryz.ntmps65
  go_wp2_with fail
  refine HA.out.mono ?_
  rintro e w1 ⟨rfl, hA, hc⟩
  have HP := Lib.hid (head_new hA hc)
  have HC := Lib.hid hc
  have hs := Lib.hid hc.size
  clear hA hc
  go_wp2_with fail
  go_ret
  exact ⟨w1.heap.size, w.heap.size, rfl, hs.out, Nat.le_refl _, HP.out, HC.out.alloc _⟩

end Go.Proofs.YtacoeohmdngnkaaGreatDoor

namespace Go.Proofs.YtacoeohmdngnkaaGreatDoor
set_option linter.unusedVariables false
set_option linter.unusedSimpArgs false
open Go.RowKit

set_option maxHeartbeats 3200000 in
set_option maxRecDepth 100000 in
theorem tNew_some (w : World) {a : Option Addr} {c : Nat} {L : List Bool} (hr : ReadsV w a (L.map Value.bool)) (hc : L.length ≤ c) (hL : L.length ≤ 2147483648) (h0 : 0 < L.length) (had : ∀ ad, a = some ad → ad.block < w.heap.size) :
    Calls Tryz.prog 65 #[.slice a L.length c] w fun e w' => ∃ p st S, e = .returned (.pointer (some ⟨p, 0, none⟩)) ∧ TreeIs S w' p (some st) st.size 0 ∧ (∀ k, S k → w.heap.size ≤ k) ∧ st.bits = L ∧ Chg (fun _ => False) w w' := by
  have HA : Hid (Calls Tryz.prog 82 #[.int .i64 268435456] w fun e w' => e = .returned (.pointer (some ⟨w.heap.size, 0, none⟩)) ∧ IsArena w' w.heap.size (fun k => k = w.heap.size) (Ar.new 268435456) ∧ Chg (fun _ => False) w w') := arNew_good 268435456 w (by omega)
  obtain ⟨m, hm⟩ : ∃ m, m = (L.length + 127) / 128 := ⟨_, rfl⟩
  have hm1 : 0 < m := by omega
  obtain ⟨z, hz⟩ : ∃ z, z = L.length + 127 := ⟨_, rfl⟩
  have q1 : (L.length : Int) + 128 - 1 = (z : Int) := by omega
  have q3 : (z : Int) / 128 = (m : Int) := by omega
  have q4 : IntKind.i64.wrap (m : Int) = (m : Int) := IntWalk.i64_in _ (by omega)
  have q5 : IntKind.i64.wrap ((z : Int) / 128) = (m : Int) := by rw [q3, q4]
  have q6 : decide ((0 : Int) < (m : Int)) = true := by simp; omega
  have HR := Lib.hid hr
  have HAD := Lib.hid had
  have HT : Hid (∀ w1, IsArena w1 w.heap.size (fun k => k = w.heap.size) (Ar.new 268435456) → Chg (fun _ => False) w w1 → Calls Tryz.prog 83 #[.pointer (some ⟨w1.heap.size, 0, none⟩), .slice a L.length c, .int .i64 0, .int .i64 m, .int .i64 m] (w1.alloc (boxT w.heap.size)) fun e w' =>
      ∃ (T' : TT) (w0 : World), e = .returned (.int .i64 T'.num) ∧ w' = w0 ∧ w0.cell? ⟨w1.heap.size, 2, none⟩ = some (.int .i64 (-1)) ∧ w0.frozen? ⟨w1.heap.size, 2, none⟩ = false ∧ Hid (∃ st S, TreeIs S (w0.setCell ⟨w1.heap.size, 2, none⟩ (.int .i64 T'.num)) w1.heap.size (some st) st.size 0 ∧ (∀ k, S k → w.heap.size ≤ k) ∧ st.bits = L ∧ Chg (fun _ => False) w (w0.setCell ⟨w1.heap.size, 2, none⟩ (.int .i64 T'.num)))) := by
    intro w1 hA hc1
    have hH := head_new hA hc1
    have hs1 := hc1.size
    have g1 : Chg (fun _ => False) w (w1.alloc (boxT w.heap.size)) := hc1.alloc _
    have hs2 := g1.size
    refine (tBuild_any hc hL hm m _ _ _ _ 0 m hH rfl (hr.chg g1 (fun _ _ h => h)) (fun ad h => ⟨?_, ?_⟩) (by omega) hm1 (Nat.le_refl _) (by simp [Ar.new, Ar.live]; omega)).mono ?_
    · have := had ad h; rintro (e | e) <;> omega
    · have := had ad h; omega
    rintro e w' ⟨T', C', A', xs', rfl, S, B⟩
    obtain ⟨b1, b2, b3⟩ := bld_root hm hm1 B
    have hC' : ∀ j, C' j → w.heap.size ≤ j := fun j hj => by
      rcases S.newC j hj with (h | h) | h <;> omega
    obtain ⟨_, y2, _, yf⟩ := S.head.cells
    refine ⟨T', w', rfl, rfl, y2, yf 2, T'.st, fun k => C' k ∨ k ∈ T'.bl, ⟨⟨C', A', xs', some T', S.head.set2 _, ?_, S.own, S.len, ?_, ?_, rfl, ?_, fun k => Iff.rfl⟩, ⟨b2, b3⟩, ?_⟩, ?_, b1, ?_⟩
    · exact S.sub.chgC S.head (S.head.chg3 _ 2) (fun _ _ => rfl)
    · have := S.live; simp [Ar.new, Ar.live] at this; simpa [osz, Ar.live] using this
    · exact S.max
    · have h1 := S.live; have h2 := S.fr rfl; simp [Ar.new, Ar.live, h2] at h1; exact h1.symm
    · change T'.st.bits.length ≤ _; rw [b1]; exact hL
    · rintro k (hk | hk)
      · exact hC' k hk
      · have := S.newB k hk; omega
    · exact ((g1.trans S.chg (fun j hj => Or.inr (by rcases hj with h | h <;> omega))).trans (S.head.chg3 _ 2) (fun j hj => Or.inr (hC' j hj)))
  have q7 : IntKind.i64.wrap ((L.length : Int) + 128) = (L.length : Int) + 128 := IntWalk.i64_in _ (by omega)
  have q8 : IntKind.i64.wrap (z : Int) = (z : Int) := IntWalk.i64_in _ (by omega)
  have q9 : (L.length : Int) + 127 = (z : Int) := by omega
  clear hr had hz hm hc
  generalize L.length = n0 at *
  go_enter Tryz.func65, Tryz.ntmps65
  go_wp2_with fail
  refine HA.out.mono ?_
  rintro e w1 ⟨rfl, hA, hc⟩
  have HB := Lib.hid (HT.out w1 hA hc)
  have hs := Lib.hid hc.size
  clear hA hc HT HA
  go_wp2_with fail
  refine HB.out.mono ?_
  rintro e w2 ⟨T', w0, rfl, rfl, y2, yf, HP⟩
  go_wp2_with fail
  go_ret
  obtain ⟨st, S, h1, h2, h3, h4⟩ := HP.out
  exact ⟨w1.heap.size, st, S, rfl, h1, h2, h3, h4⟩

end Go.Proofs.YtacoeohmdngnkaaGreatDoor

namespace Go.Proofs.YtacoeohmdngnkaaGreatDoor
set_option linter.unusedVariables false
set_option linter.unusedSimpArgs false
open Go.RowKit

end Go.Proofs.YtacoeohmdngnkaaGreatDoor

namespace Go.Proofs.YtacoeohmdngnkaaGreatDoor
set_option linter.unusedVariables false
set_option linter.unusedSimpArgs false
open Go.RowKit

end Go.Proofs.YtacoeohmdngnkaaGreatDoor

namespace Go.Proofs.YtacoeohmdngnkaaGreatDoor
set_option linter.unusedVariables false
set_option linter.unusedSimpArgs false
open Go.RowKit

/-- An arena behind two nodes less. -/
def Ar.fr (a : Ar) (x y : Nat) : Ar := ⟨(a.T.set x false).set y false, a.F ++ [x, y], a.M⟩
section
variable {w : World} {p : Nat} {C : Nat → Prop} {A : Ar} {xs : List Nd} {root vis : Int}
end

theorem SubPre.refl {w w' : World} {C : Nat → Prop} {A : Ar} {xs : List Nd} {T : TT} (hO : Own A T) (hl : xs.length = A.T.length) (hc : Chg C w w') : SubPre w w' C A xs T T C A xs :=
  ⟨hO, hl, fun j hj => Or.inl hj, fun j hj => Or.inl hj, fun j h1 h2 => ⟨rfl, h1, h2⟩, rfl, rfl, hc.mono (fun j hj => Or.inl hj)⟩

end Go.Proofs.YtacoeohmdngnkaaGreatDoor

namespace Go.Proofs.YtacoeohmdngnkaaGreatDoor
set_option linter.unusedVariables false
set_option linter.unusedSimpArgs false
open Go.RowKit

end Go.Proofs.YtacoeohmdngnkaaGreatDoor

namespace Go.Proofs.YtacoeohmdngnkaaGreatDoor
set_option linter.unusedVariables false
set_option linter.unusedSimpArgs false
open Go.RowKit

end Go.Proofs.YtacoeohmdngnkaaGreatDoor

namespace Go.Proofs.YtacoeohmdngnkaaGreatDoor
set_option linter.unusedVariables false
set_option linter.unusedSimpArgs false
open Go.RowKit

end Go.Proofs.YtacoeohmdngnkaaGreatDoor

namespace Go.Proofs.YtacoeohmdngnkaaGreatDoor
set_option linter.unusedVariables false
set_option linter.unusedSimpArgs false
open Go.RowKit

/-- Two changes of a subtree, one behind the other. -/
theorem SubPre.cat {w w1 w2 : World} {C C1 C2 : Nat → Prop} {A A1 A2 : Ar} {xs xs1 xs2 : List Nd} {T T1 T2 : TT} (h : SubPre w w1 C A xs T T1 C1 A1 xs1) (g : SubPre w1 w2 C1 A1 xs1 T1 T2 C2 A2 xs2) : SubPre w w2 C A xs T T2 C2 A2 xs2 := by
  have hs := h.chg.size
  refine ⟨g.own, g.len, fun j hj => ?_, fun q hq => ?_, fun j h1 h2 => ?_, by have := h.live; have := g.live; omega, g.max.trans h.max, h.chg.trans g.chg (fun j hj => ?_)⟩
  · rcases g.newC j hj with e | e
    · exact h.newC j e
    · exact Or.inr (by omega)
  · rcases g.newB q hq with e | e
    · exact h.newB q e
    · exact Or.inr (by omega)
  · obtain ⟨e1, e2, e3⟩ := h.keep j h1 h2
    obtain ⟨f1, f2, f3⟩ := g.keep j e2 e3
    exact ⟨f1.trans e1, f2, f3⟩
  · rcases hj with e | e
    · exact (h.newC j e).imp Or.inl id
    · exact (h.newB j e).imp Or.inr id

end Go.Proofs.YtacoeohmdngnkaaGreatDoor

namespace Go.Proofs.YtacoeohmdngnkaaGreatDoor
set_option linter.unusedVariables false
set_option linter.unusedSimpArgs false
open Go.RowKit

end Go.Proofs.YtacoeohmdngnkaaGreatDoor

namespace Go.Proofs.YtacoeohmdngnkaaGreatDoor
set_option linter.unusedVariables false
set_option linter.unusedSimpArgs false
open Go.RowKit

end Go.Proofs.YtacoeohmdngnkaaGreatDoor

namespace Go.Proofs.YtacoeohmdngnkaaGreatDoor
set_option linter.unusedVariables false
set_option linter.unusedSimpArgs false
open Go.RowKit

end Go.Proofs.YtacoeohmdngnkaaGreatDoor

namespace Go.Proofs.YtacoeohmdngnkaaGreatDoor
set_option linter.unusedVariables false
set_option linter.unusedSimpArgs false
open Go.RowKit

theorem tVisits_any {w : World} {p : Nat} {C : Nat → Prop} {A : Ar} {xs : List Nd} {root vis : Int} (h : Head w p C A xs root vis) :
    Calls Tryz.prog 75 #[.pointer (some ⟨p, 0, none⟩)] w fun e w' => e = .returned (.int .i64 vis) ∧ w = w' := by
  have c3 := h.cells.2.2.1
  clear h
  go_enter Tryz.func75, Tryz.ntmps75
  go_wp2_with fail
  go_ret
  exact ⟨rfl, rfl⟩

end Go.Proofs.YtacoeohmdngnkaaGreatDoor

namespace Go.Proofs.YtacoeohmdngnkaaGreatDoor
set_option linter.unusedVariables false
set_option linter.unusedSimpArgs false
open Go.RowKit

/-- A look at a tree: it is as it was, but for how many nodes were looked at. -/
def TLook (S : Nat → Prop) (w w' : World) (p : Nat) (o : Option ST) (made m : Nat) : Prop := (∃ v : Nat, v ≤ m ∧ TreeIs S w' p o made v) ∧ Chg S w w'

section
variable {S : Nat → Prop} {w w' : World} {p made : Nat} {o : Option ST} {vis : Int}
theorem treeIs_sm {O : Option TT} (hg : Good (ost O)) (hl : (sbits (ost O)).length ≤ 2147483648) : OSm O := by
  cases O with
  | none => trivial
  | some T =>
    have h := good_small hg.2 hl
    refine ⟨?_, by omega⟩
    have : T.st.bits.length ≤ 2147483648 := hl
    omega
theorem ohigh_st (O : Option TT) : ohigh O ≤ shigh (ost O) + 1 := by cases O <;> simp [ohigh, shigh, ost]
/-- What a contract's proof needs of a tree. -/
theorem TreeIs.open (h : TreeIs S w p o made vis) : ∃ (C : Nat → Prop) (A : Ar) (xs : List Nd) (O : Option TT), Head w p C A xs (onum O) vis ∧ OSub w xs O ∧ OSm O ∧ obits O = sbits o ∧ ohigh O ≤ shigh o + 1 ∧ (∀ k, C k → S k) ∧ A.live = osz O ∧ made = A.T.length ∧ ost O = o ∧
    (∀ w' v, Head w' p C A xs (onum O) v → Chg C w w' → TreeIs S w' p o made v ∧ Chg S w w') := by
  obtain ⟨C, A, xs, O, h1, h2, h3, h4, h5, h6, rfl, h8, h9⟩ := h.ex
  have hCS : ∀ k, C k → S k := fun k hk => (h9 k).2 (Or.inl hk)
  exact ⟨C, A, xs, O, h1, h2, treeIs_sm h.good h.len, obits_st O, ohigh_st O, hCS, h5, h8, rfl, fun w' v hH hc =>
    ⟨⟨⟨C, A, xs, O, hH, h2.chgC h1 hc, h3, h4, h5, h6, rfl, h8, h9⟩, h.good, h.len⟩, hc.mono hCS⟩⟩
theorem TreeIs.drewN (h : TreeIs S w p o made vis) (n : Nat) : TreeIs S (w.drewN n) p o made vis := h.below ⟨rfl, rfl, rfl, Nat.le_refl _, fun _ _ => rfl⟩

theorem tVisits_is (h : TreeIs S w p o made vis) : Calls Tryz.prog 75 #[.pointer (some ⟨p, 0, none⟩)] w fun e w' => e = .returned (.int .i64 vis) ∧ w = w' := by
  obtain ⟨C, A, xs, O, h1, _⟩ := h.open
  exact tVisits_any h1
theorem TLook.of {C : Nat → Prop} {A : Ar} {xs : List Nd} {root : Int} {m m' : Nat} (hh : ∀ w' v, Head w' p C A xs root v → Chg C w w' → TreeIs S w' p o made v ∧ Chg S w w') (hL : Look w w' p C A xs root m) (hm : m ≤ m') : TLook S w w' p o made m' := by
  obtain ⟨⟨v, hv, hH⟩, hc⟩ := hL
  exact ⟨⟨v, by omega, (hh w' v hH hc).1⟩, (hh w' v hH hc).2⟩
theorem tGet_is (h : TreeIs S w p o made vis) (k : Nat) (hk : k < (sbits o).length) :
    Calls Tryz.prog 61 #[.pointer (some ⟨p, 0, none⟩), .int .i64 k] w fun e w' => e = .returned (.tuple #[.bool (bitAt (sbits o) k), .int .i64 0]) ∧ TLook S w w' p o made (shigh o + 1) := by
  obtain ⟨C, A, xs, O, h1, h2, hs, e, _, _, _, _, rfl, hh⟩ := h.open
  cases O with
  | none => simp [ost, sbits] at hk
  | some T =>
    refine (tGet_some h1 h2 hs k hk).mono ?_
    rintro e w' ⟨rfl, hL⟩
    exact ⟨rfl, TLook.of hh hL (Nat.le_refl _)⟩
theorem tRank_is (h : TreeIs S w p o made vis) (k : Int) (x : Bool) :
    Calls Tryz.prog 73 #[.pointer (some ⟨p, 0, none⟩), .int .i64 k, .bool x] w fun e w' => e = .returned (.int .i64 (rankL (sbits o) k.toNat x)) ∧ TLook S w w' p o made (shigh o + 1) := by
  obtain ⟨C, A, xs, O, h1, h2, hs, e, hi, _, _, _, _, hh⟩ := h.open
  rw [← e]
  refine (tRank_any h1 h2 hs k x).mono ?_
  rintro e w' ⟨rfl, hL⟩
  exact ⟨rfl, TLook.of hh hL hi⟩
theorem tSelect_is (h : TreeIs S w p o made vis) (hTab : BitTab w) (hN : ¬ S 0) (j : Int) (x : Bool) :
    Calls Tryz.prog 64 #[.pointer (some ⟨p, 0, none⟩), .int .i64 j, .bool x] w fun e w' => e = .returned (.int .i64 (selL (sbits o) j x)) ∧ TLook S w w' p o made (shigh o + 1) := by
  obtain ⟨C, A, xs, O, h1, h2, hs, e, hi, hCS, _, _, _, hh⟩ := h.open
  rw [← e]
  refine (tSelect_any h1 h2 hs hTab (fun hc => hN (hCS _ hc)) j x).mono ?_
  rintro e w' ⟨rfl, hL⟩
  exact ⟨rfl, TLook.of hh hL hi⟩
end

section
variable {S : Nat → Prop} {w w' : World} {p made : Nat} {o : Option ST} {vis : Int}
/-- New. -/
theorem tNew_is (w : World) {a : Option Addr} {c : Nat} (L : List Bool) (hr : ReadsV w a (L.map Value.bool)) (hc : L.length ≤ c) (hL : L.length ≤ 2147483648) :
    Calls Tryz.prog 65 #[.slice a L.length c] w fun e w' => ∃ p S o, e = .returned (.pointer (some ⟨p, 0, none⟩)) ∧ TreeIs S w' p o (match o with | none => 0 | some t => t.size) 0 ∧ (∀ k, S k → w.heap.size ≤ k) ∧ sbits o = L ∧ Chg (fun _ => False) w w' := by
  by_cases h0 : L.length = 0
  · obtain rfl := List.eq_nil_of_length_eq_zero h0
    refine (tNew_nil w a c).mono ?_
    rintro e w' ⟨p, q, rfl, hp, hq, hH, hcg⟩
    refine ⟨p, fun k => k = p ∨ k = q, none, rfl, ⟨⟨_, _, [], none, hH, trivial, trivial, rfl, rfl, rfl, rfl, rfl, fun k => by simp [obl]⟩, trivial, by simp [sbits]⟩, fun k hk => by rcases hk with rfl | rfl <;> assumption, rfl, hcg⟩
  · have had : ∀ ad, a = some ad → ad.block < w.heap.size := by
      intro ad h
      obtain ⟨b, off, h2, h3, _⟩ := hr 0 (by rw [List.length_map]; omega)
      rw [h] at h2; injection h2 with h2; rw [h2]; exact h3
    refine (tNew_some w hr hc hL (by omega) had).mono ?_
    rintro e w' ⟨p, st, S, rfl, h1, h2, h3, h4⟩
    exact ⟨p, S, some st, rfl, h1, h2, h3, h4⟩
end

end Go.Proofs.YtacoeohmdngnkaaGreatDoor
