/- Lemmas and contracts under the claims of this seat: Contract of package tree: mend, the right child a leaf with too few bits. Contract of package tree: mend. Contract of package tree: drop. Contract of package tree: Delete. Contracts of package tree: all, All. Contracts of package tree: All, Live, Made, Visits, Shape. Contracts of package tree, of trees as a law sees them. Trees of the call's own beside other rows. Waves of symbols in memory: the head, the rows of shelves, the trees. A wave that is being built; of no walk. -/
import Derived.Test.YtcppgpjodfeigaaDoorZw5
import Derived.IntWalk
import Derived.Test.YtcppgpjodfeigaaDoorZw1

namespace Go.Proofs.YtcppgpjodfeigaaDoor
set_option linter.unusedVariables false
set_option linter.unusedSimpArgs false
open Go.RowKit

set_option maxHeartbeats 6400000 in
set_option maxRecDepth 100000 in
theorem tMend_rjoin {w : World} {p : Nat} {C : Nat → Prop} {A : Ar} {xs : List Nd} {root vis : Int} (h : Head w p C A xs root vis) (hlen : xs.length = A.T.length) (hv0 : 0 ≤ vis) (hv : vis ≤ 100000000000) {k l m qm j qb : Nat} {lm lb : List Bool} {c : TT} (hS : SubW w xs (.pair k (.pair l c (.leaf m qm lm)) (.leaf j qb lb))) (hO : Own A (.pair k (.pair l c (.leaf m qm lm)) (.leaf j qb lb)))
    (hf : (TT.leaf j qb lb).st.few = true) (hsm : Small (TT.pair l c (.leaf m qm lm)).st) (hle : lm.length + lb.length ≤ 128) :
    Calls Tryd.prog 106 #[.pointer (some ⟨p, 0, none⟩), .int .i64 k] w fun e w' => MendPost w w' p C A xs root vis (.pair k (.pair l c (.leaf m qm lm)) (.leaf j qb lb)) e := by
  obtain ⟨x, hx, hxl, hxr, hxb, hl, hr⟩ := hS
  obtain ⟨g, rc, cur, c1, hgp, hCg, _⟩ := h.row (by have := (List.getElem?_eq_some_iff.1 hx).1; omega)
  obtain ⟨_, _, hkx, _⟩ := h.node c1 hx
  obtain ⟨a0, a1, _⟩ := h.eight c1 hx
  rw [hxl] at a0
  rw [hxr] at a1
  change w.cell? ⟨g, k * 8, none⟩ = some (.int .i64 (l : Int)) at a0
  change w.cell? ⟨g, k * 8 + 1, none⟩ = some (.int .i64 (j : Int)) at a1
  obtain ⟨_, _, cv, fz⟩ := h.cells
  have f3 := fz 3
  have HF1 : Hid (∀ n, Calls Tryd.prog 120 #[.pointer (some ⟨p, 0, none⟩), .int .i64 l] (w.drewN n) fun e w' => e = .returned (.bool (TT.pair l c (TT.leaf m qm lm)).st.few) ∧ w.drewN n = w') := fun n =>
    tFew_any (T := TT.pair l c (TT.leaf m qm lm)) (h.drewN n) (hl.keep (w' := w.drewN n) (fun _ _ => rfl) (fun _ _ => rfl))
  have HF2 : Hid (∀ n, Calls Tryd.prog 120 #[.pointer (some ⟨p, 0, none⟩), .int .i64 j] (w.drewN n) fun e w' => e = .returned (.bool (TT.leaf j qb lb).st.few) ∧ w.drewN n = w') := fun n =>
    tFew_any (T := TT.leaf j qb lb) (h.drewN n) (hr.keep (w' := w.drewN n) (fun _ _ => rfl) (fun _ _ => rfl))
  have h1 : ∀ n, Head ((w.drewN n).setCell ⟨p, 3, none⟩ (.int .i64 (vis + 2))) p C A xs root (vis + 2) := fun n => (h.drewN n).set3 _
  have g1 : ∀ n, Chg C w ((w.drewN n).setCell ⟨p, 3, none⟩ (.int .i64 (vis + 2))) := fun n => (Chg.refl.drewN n).setCell _ (Or.inl h.self) _
  have HL1 : Hid (∀ n, Sub ((w.drewN n).setCell ⟨p, 3, none⟩ (.int .i64 (vis + 2))) xs (TT.pair l c (TT.leaf m qm lm))) := fun n => hl.chgC h (g1 n) (fun _ _ => rfl)
  have HR1 : Hid (∀ n, Sub ((w.drewN n).setCell ⟨p, 3, none⟩ (.int .i64 (vis + 2))) xs (TT.leaf j qb lb)) := fun n => hr.chgC h (g1 n) (fun _ _ => rfl)
  have HC1 : Hid (∀ n, ((w.drewN n).setCell ⟨p, 3, none⟩ (.int .i64 (vis + 2))).cell? ⟨p, 1, none⟩ = some (.slice (some ⟨g, 0, none⟩) xs.length rc)) := fun n => by
    have := c1
    go_simp
  have H1 := Lib.hid h1
  have G1 := Lib.hid g1
  have HO := Lib.hid hO
  have HLN := Lib.hid hlen
  have HX : Hid (xs[k]? = some x ∧ x.left = l ∧ x.right = j ∧ x.b = none) := ⟨hx, hxl, hxr, hxb⟩
  obtain ⟨_, _, hlx, _⟩ := h.node c1 hl.root
  obtain ⟨_, _, hjx, _⟩ := h.node c1 hr.root
  obtain ⟨d0, d1, _, _, _, _, _, d7⟩ := h.eight c1 hl.root
  obtain ⟨_, _, _, _, _, _, _, b7⟩ := h.eight c1 hr.root
  change w.cell? ⟨g, j * 8 + 7, none⟩ = some (.pointer (some ⟨qb, 0, none⟩)) at b7
  change w.cell? ⟨g, l * 8, none⟩ = some (.int .i64 (c.num : Int)) at d0
  change w.cell? ⟨g, l * 8 + 1, none⟩ = some (.int .i64 (m : Int)) at d1
  change w.cell? ⟨g, l * 8 + 7, none⟩ = some (.pointer none) at d7
  change l < xs.length at hlx
  change j < xs.length at hjx
  have hD : k ≠ l ∧ k ≠ m ∧ k ≠ j ∧ k ∉ c.nums ∧ l ≠ m ∧ l ≠ j ∧ l ∉ c.nums ∧ m ≠ j ∧ m ∉ c.nums ∧ j ∉ c.nums ∧ c.nums.Nodup := by
    obtain ⟨e1, e2, e3, _, e5⟩ := TT.dis hO.nn
    obtain ⟨f1, f2, f3, _, f5⟩ := TT.dis e3
    have g1 : m ∉ c.nums := fun h => f5 m h (by simp [TT.nums])
    have g2 : j ∉ (TT.pair l c (.leaf m qm lm)).nums := fun h => e5 j h (by simp [TT.nums])
    simp only [TT.nums, List.mem_cons, List.mem_append, List.not_mem_nil, or_false, not_or] at e1 e2 f2 g2
    exact ⟨e1.1, e1.2.2, e2, e1.2.1, f2, fun e => g2.1 e.symm, f1, fun e => g2.2.2 e.symm, g1, g2.2.1, f3⟩
  have hB : qm ≠ qb ∧ qm ∉ c.bl ∧ qb ∉ c.bl ∧ c.bl.Nodup := by
    have := hO.bn
    simp only [TT.bl, List.nodup_append, List.mem_append, List.mem_cons, List.not_mem_nil, or_false] at this
    obtain ⟨⟨z1, _, z2⟩, _, z3⟩ := this
    exact ⟨fun e => z3 qm (Or.inr rfl) qb rfl e, fun e => z2 qm e qm rfl rfl, fun e => z3 qb (Or.inl e) qb rfl rfl, z1⟩
  have HD := Lib.hid hD
  have HBB := Lib.hid hB
  have hmd : mendT (TT.pair k (.pair l c (.leaf m qm lm)) (.leaf j qb lb)).st = (if lm.length + lb.length ≤ 128 then .pair c.st (.leaf (lm ++ lb)) else .pair (.pair c.st (.leaf ((lm ++ lb).take ((lm.length + lb.length) / 2)))) (.leaf ((lm ++ lb).drop ((lm.length + lb.length) / 2)))) := by
    simp only [TT.st, mendT]
    rw [if_neg (by rintro ⟨e1, e2⟩; simp only [TT.st] at hf; rw [hf] at e2; cases e2)]
  have HMD := Lib.hid hmd
  have hpw := h.lt p h.self
  have hgw := h.lt g hCg
  have HXJ : Hid (xs[j]? = some (TT.leaf j qb lb).nd) := hr.root
  have HXL : Hid (xs[l]? = some (TT.pair l c (.leaf m qm lm)).nd) := hl.1
  have HXM : Hid (xs[m]? = some (TT.leaf m qm lm).nd) := hl.2.2.1
  have HFA : Hid (∀ n, Calls Tryd.prog 120 #[.pointer (some ⟨p, 0, none⟩), .int .i64 l] ((w.drewN n).setCell ⟨p, 3, none⟩ (.int .i64 (vis + 2))) fun e w' => e = .returned (.bool false) ∧ (w.drewN n).setCell ⟨p, 3, none⟩ (.int .i64 (vis + 2)) = w') := fun n =>
    tFew_any (T := TT.pair l c (.leaf m qm lm)) (h1 n) (HL1.out n)
  have HSM := Lib.hid hsm
  have HLF : Hid ((TT.pair l c (.leaf m qm lm)).st.few = false) := rfl
  have HRF := Lib.hid hf
  have HLV : Hid (∀ n, Calls Tryd.prog 121 #[.pointer (some ⟨p, 0, none⟩), .int .i64 m, .int .i64 j] ((w.drewN n).setCell ⟨p, 3, none⟩ (.int .i64 (vis + 2))) fun e w' => e = .returned (.bool false) ∧ Head w' p C A (xs.set m (TT.leaf m qm (lm ++ lb)).nd) root (vis + 2) ∧ IsBlock w' qm (lm ++ lb) ∧ Chg (fun b => C b ∨ b = qm ∨ b = qb) ((w.drewN n).setCell ⟨p, 3, none⟩ (.int .i64 (vis + 2))) w') :=
    fun n => tLev_join (h1 n) (HL1.out n).2.2 (HR1.out n) hB.1 hle
  clear h hlen hO hx hxl hxr hxb hl hr fz h1 g1 hD hmd hCg hB hf hsm
  go_enter Tryd.func106, Tryd.ntmps106
  go_wp2_with fail
  go_quiet (fail)
  obtain ⟨n1, rfl⟩ : ∃ n1, n1 = nq := ⟨_, rfl⟩
  go_wp2_with fail
  refine (HF1.out n1).mono ?_
  rintro e w' ⟨rfl, rfl⟩
  rw [HLF.out]
  go_wp2_with fail
  refine (HF2.out n1).mono ?_
  rintro e w' ⟨rfl, rfl⟩
  rw [HRF.out]
  go_wp2_with fail
  refine (HFA.out n1).mono ?_
  rintro e w' ⟨rfl, rfl⟩
  go_wp2_with fail
  refine (HLV.out n1).mono ?_
  rintro e w2 ⟨rfl, h2, q2, g2⟩
  obtain ⟨t1, t2, t3, t4, t5, t6, t7, t8, t9, t10, t11⟩ := HD.out
  have g12 : Chg (fun b => C b ∨ b ∈ (TT.pair k (.pair l c (.leaf m qm lm)) (.leaf j qb lb)).bl) w w2 := ((G1.out n1).mono (fun b hb => Or.inl hb)).trans g2 (fun b hb => Or.inl (hb.imp id (fun h => by rcases h with rfl | rfl <;> simp [TT.bl])))
  have xl2 : (xs.set m (TT.leaf m qm (lm ++ lb)).nd)[l]? = some (TT.pair l c (.leaf m qm lm)).nd := by rw [set_ne t5]; exact HXL.out
  have xk2 : (xs.set m (TT.leaf m qm (lm ++ lb)).nd)[k]? = some x := by rw [set_ne t2]; exact HX.out.1
  have xj2 : (xs.set m (TT.leaf m qm (lm ++ lb)).nd)[j]? = some (TT.leaf j qb lb).nd := by rw [set_ne t8.symm]; exact HXJ.out
  have xm2 : (xs.set m (TT.leaf m qm (lm ++ lb)).nd)[m]? = some (TT.leaf m qm (lm ++ lb)).nd := set_get HXM.out
  have kp2 : ∀ b : Nat, b ≠ m → (xs.set m (TT.leaf m qm (lm ++ lb)).nd)[b]? = xs[b]? := fun b hb => set_ne hb
  have ln2 : (xs.set m (TT.leaf m qm (lm ++ lb)).nd).length = A.T.length := by rw [List.length_set]; exact HLN.out
  have sc2 : Sub w2 (xs.set m (TT.leaf m qm (lm ++ lb)).nd) c := (HL1.out n1).2.1.chg g2 (fun b hb e => by
    rcases e with e | rfl | rfl
    · exact (H1.out n1).notBlk ((HL1.out n1).2.1.type hb) e
    · exact HBB.out.2.1 hb
    · exact HBB.out.2.2.1 hb) (set_out t9)
  generalize xs.set m (TT.leaf m qm (lm ++ lb)).nd = xs2 at *
  obtain ⟨g3, rc3, cur3, r3, hgp3, _⟩ := h2.row (by have := (List.getElem?_eq_some_iff.1 xk2).1; omega)
  obtain ⟨_, fz3, hkx3, _⟩ := h2.node r3 xk2
  obtain ⟨_, _, hlx3, _⟩ := h2.node r3 xl2
  obtain ⟨e0, _⟩ := h2.eight r3 xk2
  obtain ⟨l0, _⟩ := h2.eight r3 xl2
  change w2.cell? ⟨g3, l * 8, none⟩ = some (.int .i64 (c.num : Int)) at l0
  have z0 := fz3 (k * 8)
  obtain ⟨nc, hnc⟩ : ∃ n, c.num = n := ⟨_, rfl⟩
  rw [hnc] at l0
  have hne : ¬ (l * 8 = k * 8) := by omega
  have hne' : ¬ l = k := fun e => t1 e.symm
  obtain ⟨h3, c3, r4⟩ := h2.put r3 xk2 (i := 0) (v := .int .i64 nc) (x' := ⟨nc, x.right, x.height, x.n, x.ones, x.ln, x.lones, x.b⟩) (by omega) rfl
  have c3C : Chg C w2 _ := (c3.mono (fun b e => by subst e; exact h2.rowC ⟨_, _, r3⟩)).drew
  obtain ⟨W3, hW3⟩ : ∃ W3, W3 = (w2.setCell ⟨g3, k * 8, none⟩ (.int .i64 nc)).drew := ⟨_, rfl⟩
  have c3C : Chg C w2 W3 := by rw [hW3]; exact c3C
  have h3' : Head W3 p C A (xs2.set k ⟨nc, x.right, x.height, x.n, x.ones, x.ln, x.lones, x.b⟩) root (vis + 2) := by rw [hW3]; exact h3.drew
  have xm3 : (xs2.set k ⟨nc, x.right, x.height, x.n, x.ones, x.ln, x.lones, x.b⟩)[m]? = some (TT.leaf m qm (lm ++ lb)).nd := by rw [set_ne t2.symm]; exact xm2
  have xj3 : (xs2.set k ⟨nc, x.right, x.height, x.n, x.ones, x.ln, x.lones, x.b⟩)[j]? = some (TT.leaf j qb lb).nd := by rw [set_ne t3.symm]; exact xj2
  have xk3 : (xs2.set k ⟨nc, x.right, x.height, x.n, x.ones, x.ln, x.lones, x.b⟩)[k]? = some ⟨nc, x.right, x.height, x.n, x.ones, x.ln, x.lones, x.b⟩ := set_get xk2
  have kp3 : ∀ b : Nat, b ≠ m → b ≠ k → (xs2.set k ⟨nc, x.right, x.height, x.n, x.ones, x.ln, x.lones, x.b⟩)[b]? = xs[b]? := fun b hb hc => by rw [set_ne hc]; exact kp2 b hb
  have ln3 : (xs2.set k ⟨nc, x.right, x.height, x.n, x.ones, x.ln, x.lones, x.b⟩).length = A.T.length := by rw [List.length_set]; exact ln2
  have sc3 : Sub W3 (xs2.set k ⟨nc, x.right, x.height, x.n, x.ones, x.ln, x.lones, x.b⟩) c := sc2.chgC h2 c3C (set_out t4)
  have qm3 := q2.chg c3C (h2.notBlk q2.type)
  have HR4 : Hid (xs2.length = (xs2.set k ⟨nc, x.right, x.height, x.n, x.ones, x.ln, x.lones, x.b⟩).length) := by rw [List.length_set]; rfl
  generalize xs2.set k ⟨nc, x.right, x.height, x.n, x.ones, x.ln, x.lones, x.b⟩ = xs3 at *
  obtain ⟨g4, rc4, cur4, r5, hgp4, _⟩ := h3'.row (by have := (List.getElem?_eq_some_iff.1 xj3).1; omega)
  obtain ⟨_, fz4, hjx4, _⟩ := h3'.node r5 xj3
  obtain ⟨_, _, hmx4, _⟩ := h3'.node r5 xm3
  obtain ⟨o0, o1, o2, o3, o4, o5, o6, o7⟩ := h3'.eight r5 xj3
  obtain ⟨p0, p1, p2, p3, p4, p5, p6, p7⟩ := h3'.eight r5 xm3
  have y0 := fz4 (j * 8)
  have y1 := fz4 (j * 8 + 1)
  have y2 := fz4 (j * 8 + 2)
  have y3 := fz4 (j * 8 + 3)
  have y4 := fz4 (j * 8 + 4)
  have y5 := fz4 (j * 8 + 5)
  have y6 := fz4 (j * 8 + 6)
  have y7 := fz4 (j * 8 + 7)
  change W3.cell? ⟨g4, m * 8 + 7, none⟩ = some (.pointer (some ⟨qm, 0, none⟩)) at p7
  change W3.cell? ⟨g4, m * 8, none⟩ = some (.int .i64 (-1)) at p0
  change W3.cell? ⟨g4, m * 8 + 1, none⟩ = some (.int .i64 (-1)) at p1
  change W3.cell? ⟨g4, m * 8 + 2, none⟩ = some (.int .i64 0) at p2
  change W3.cell? ⟨g4, m * 8 + 3, none⟩ = some (.int .i64 ((lm ++ lb).length : Int)) at p3
  change W3.cell? ⟨g4, m * 8 + 4, none⟩ = some (.int .i64 ((lm ++ lb).count true : Int)) at p4
  change W3.cell? ⟨g4, m * 8 + 5, none⟩ = some (.int .i64 0) at p5
  change W3.cell? ⟨g4, m * 8 + 6, none⟩ = some (.int .i64 0) at p6
  change W3.cell? ⟨g4, j * 8 + 7, none⟩ = some (.pointer (some ⟨qb, 0, none⟩)) at o7
  have hp8 := h3'.puts8 r5 xj3 (TT.leaf j qm (lm ++ lb)).nd (pb := some ⟨qm, 0, none⟩) rfl
  obtain ⟨nl, hnl⟩ : ∃ n : Int, ((lm ++ lb).length : Int) = n := ⟨_, rfl⟩
  obtain ⟨no, hno⟩ : ∃ n : Int, ((lm ++ lb).count true : Int) = n := ⟨_, rfl⟩
  rw [hnl] at p3
  rw [hno] at p4
  obtain ⟨W5, hW5⟩ : ∃ W5, W5 = ((((((((W3.setCell ⟨g4, j * 8, none⟩ (.int .i64 (-1))).setCell ⟨g4, j * 8 + 1, none⟩ (.int .i64 (-1))).setCell ⟨g4, j * 8 + 2, none⟩ (.int .i64 0)).setCell ⟨g4, j * 8 + 3, none⟩ (.int .i64 nl)).setCell ⟨g4, j * 8 + 4, none⟩ (.int .i64 no)).setCell ⟨g4, j * 8 + 5, none⟩ (.int .i64 0)).setCell ⟨g4, j * 8 + 6, none⟩ (.int .i64 0)).setCell ⟨g4, j * 8 + 7, none⟩ (.pointer (some ⟨qm, 0, none⟩))).drew := ⟨_, rfl⟩
  have hW5' : Hid (W5 = ((((((((W3.setCell ⟨g4, j * 8, none⟩ (.int .i64 (TT.leaf j qm (lm ++ lb)).nd.left)).setCell ⟨g4, j * 8 + 1, none⟩ (.int .i64 (TT.leaf j qm (lm ++ lb)).nd.right)).setCell ⟨g4, j * 8 + 2, none⟩ (.int .i64 (TT.leaf j qm (lm ++ lb)).nd.height)).setCell ⟨g4, j * 8 + 3, none⟩ (.int .i64 (TT.leaf j qm (lm ++ lb)).nd.n)).setCell ⟨g4, j * 8 + 4, none⟩ (.int .i64 (TT.leaf j qm (lm ++ lb)).nd.ones)).setCell ⟨g4, j * 8 + 5, none⟩ (.int .i64 (TT.leaf j qm (lm ++ lb)).nd.ln)).setCell ⟨g4, j * 8 + 6, none⟩ (.int .i64 (TT.leaf j qm (lm ++ lb)).nd.lones)).setCell ⟨g4, j * 8 + 7, none⟩ (.pointer (some ⟨qm, 0, none⟩))).drew) := by
    show W5 = _
    rw [hW5, ← hnl, ← hno]; rfl
  have h5 : Head W5 p C A (xs3.set j (TT.leaf j qm (lm ++ lb)).nd) root (vis + 2) := by rw [hW5'.out]; exact hp8.1.drew
  have c5 : Chg C W3 W5 := by rw [hW5'.out]; exact (hp8.2.mono (fun b e => by subst e; exact h3'.rowC ⟨_, _, r5⟩)).drew
  have tk := HO.out.tk
  obtain ⟨ap, ap0, hfr⟩ := tFree2 h5 (tk m (by simp [TT.nums])) (tk l (by simp [TT.nums])) t5.symm
  have hm8 : ¬ m = j := t8
  have HFR := Lib.hid hfr
  have H2 := Lib.hid h2
  have H3 := Lib.hid h3'
  have H5 := Lib.hid h5
  have G12 := Lib.hid g12
  have C3 := Lib.hid c3C
  have C5 := Lib.hid c5
  have HW3 := Lib.hid hW3
  have HW5 := Lib.hid hW5
  have QM3 := Lib.hid qm3
  have XX : Hid (xs3[k]? = some ⟨nc, x.right, x.height, x.n, x.ones, x.ln, x.lones, x.b⟩ ∧ xs3[j]? = some (TT.leaf j qb lb).nd ∧ (∀ b : Nat, b ≠ m → b ≠ k → xs3[b]? = xs[b]?) ∧ xs3.length = A.T.length ∧ Sub W3 xs3 c) := ⟨xk3, xj3, kp3, ln3, sc3⟩
  have HNC := Lib.hid hnc
  clear h2 h3 h3' q2 g12 g2 c3 c3C tk t1 t2 t3 t4 t5 t6 t7 t9 t10 t11 t8 hfr xl2 xk2 xj2 xm2 kp2 ln2 sc2 fz3 r4 hnc hW3 hW5 h5 c5 qm3 xm3 xj3 xk3 kp3 ln3 sc3 hp8 hnl hno fz4 c1 a0 a1 d0 d1 d7 b7 cv
  go_wp2_with fail
  -- REGION rj
  refine reg_start (fun w' => w'.cell? ⟨p, 1, none⟩ = some (.slice (some ⟨g3, 0, none⟩) xs2.length rc3) ∧ w'.cell? ⟨g3, l * 8, none⟩ = some (.int .i64 nc)) (by kernel_rfl) ?hirj (fun hHeld => ?_)
  case hirj => (refine ⟨?_, ?_⟩ <;> go_simp)
  refine reg_take (i := 0) (v := ?vrj0) rfl (by kernel_rfl) rfl hHeld ?yrj0 ?rrj0
  case yrj0 => (intro w hSw; (try dsimp only at hSw); go_simp; all_goals with_reducible rfl)
  try simp only [Act.put, List.setIfInBounds_toArray, List.set_cons_zero, List.set_cons_succ]
  refine reg_take (i := 1) (v := ?vrj1) rfl (by kernel_rfl) rfl hHeld ?yrj1 ?rrj1
  case yrj1 => (intro w hSw; (try dsimp only at hSw); go_simp; all_goals with_reducible rfl)
  try simp only [Act.put, List.setIfInBounds_toArray, List.set_cons_zero, List.set_cons_succ]
  refine reg_take (i := 2) (v := ?vrj2) rfl (by kernel_rfl) rfl hHeld ?yrj2 ?rrj2
  case yrj2 => (intro w hSw; (try dsimp only at hSw); go_simp; all_goals with_reducible rfl)
  try simp only [Act.put, List.setIfInBounds_toArray, List.set_cons_zero, List.set_cons_succ]
  refine reg_take (i := 3) (v := ?vrj3) rfl (by kernel_rfl) rfl hHeld ?yrj3 ?rrj3
  case yrj3 => (intro w hSw; (try dsimp only at hSw); go_simp; all_goals with_reducible rfl)
  try simp only [Act.put, List.setIfInBounds_toArray, List.set_cons_zero, List.set_cons_succ]
  refine reg_take (i := 4) (v := ?vrj4) rfl (by kernel_rfl) rfl hHeld ?yrj4 ?rrj4
  case yrj4 => (intro w hSw; (try dsimp only at hSw); go_simp; all_goals with_reducible rfl)
  try simp only [Act.put, List.setIfInBounds_toArray, List.set_cons_zero, List.set_cons_succ]
  refine reg_take (i := 5) (v := ?vrj5) rfl (by kernel_rfl) rfl hHeld ?yrj5 ?rrj5
  case yrj5 => (intro w hSw; (try dsimp only at hSw); go_simp; all_goals with_reducible rfl)
  try simp only [Act.put, List.setIfInBounds_toArray, List.set_cons_zero, List.set_cons_succ]
  refine reg_take (i := 6) (v := ?vrj6) rfl (by kernel_rfl) rfl hHeld ?yrj6 ?rrj6
  case yrj6 => (intro w hSw; (try dsimp only at hSw); go_simp; all_goals with_reducible rfl)
  try simp only [Act.put, List.setIfInBounds_toArray, List.set_cons_zero, List.set_cons_succ]
  refine reg_take (i := 7) (v := ?vrj7) rfl (by kernel_rfl) rfl hHeld ?yrj7 ?rrj7
  case yrj7 => (intro w hSw; (try dsimp only at hSw); go_simp; all_goals with_reducible rfl)
  try simp only [Act.put, List.setIfInBounds_toArray, List.set_cons_zero, List.set_cons_succ]
  refine reg_take (i := 8) (v := ?vrj8) rfl (by kernel_rfl) rfl hHeld ?yrj8 ?rrj8
  case yrj8 => (intro w hSw; (try dsimp only at hSw); go_simp; all_goals with_reducible rfl)
  try simp only [Act.put, List.setIfInBounds_toArray, List.set_cons_zero, List.set_cons_succ]
  refine reg_take (i := 9) (v := ?vrj9) rfl (by kernel_rfl) rfl hHeld ?yrj9 ?rrj9
  case yrj9 => (intro w hSw; (try dsimp only at hSw); go_simp; all_goals with_reducible rfl)
  try simp only [Act.put, List.setIfInBounds_toArray, List.set_cons_zero, List.set_cons_succ]
  refine reg_take (i := 10) (v := ?vrj10) rfl (by kernel_rfl) rfl hHeld ?yrj10 ?rrj10
  case yrj10 => (intro w hSw; (try dsimp only at hSw); go_simp; all_goals with_reducible rfl)
  try simp only [Act.put, List.setIfInBounds_toArray, List.set_cons_zero, List.set_cons_succ]
  refine reg_take (i := 11) (v := ?vrj11) rfl (by kernel_rfl) rfl hHeld ?yrj11 ?rrj11
  case yrj11 => (intro w hSw; (try dsimp only at hSw); go_simp; all_goals with_reducible rfl)
  try simp only [Act.put, List.setIfInBounds_toArray, List.set_cons_zero, List.set_cons_succ]
  refine reg_take (i := 12) (v := ?vrj12) rfl (by kernel_rfl) rfl hHeld ?yrj12 ?rrj12
  case yrj12 => (intro w hSw; (try dsimp only at hSw); go_simp; all_goals with_reducible rfl)
  try simp only [Act.put, List.setIfInBounds_toArray, List.set_cons_zero, List.set_cons_succ]
  refine reg_take (i := 13) (v := ?vrj13) rfl (by kernel_rfl) rfl hHeld ?yrj13 ?rrj13
  case yrj13 => (intro w hSw; (try dsimp only at hSw); go_simp; all_goals with_reducible rfl)
  try simp only [Act.put, List.setIfInBounds_toArray, List.set_cons_zero, List.set_cons_succ]
  refine reg_take (i := 14) (v := ?vrj14) rfl (by kernel_rfl) rfl hHeld ?yrj14 ?rrj14
  case yrj14 => (intro w hSw; (try dsimp only at hSw); go_simp; all_goals with_reducible rfl)
  try simp only [Act.put, List.setIfInBounds_toArray, List.set_cons_zero, List.set_cons_succ]
  refine reg_loud (i := 15) rfl (by kernel_rfl) rfl (fun K hK => ?_)
  go_simp
  refine hK.out _ _ ?kprj15 (fun hNew => ?_)
  case kprj15 => (refine ⟨?_, ?_⟩ <;> go_simp)
  clear hK K hHeld
  have hHeld := hNew
  clear hNew
  try simp only [Act.put, List.setIfInBounds_toArray, List.set_cons_zero, List.set_cons_succ]
  refine reg_done (by kernel_rfl) ?_ _
  -- END OF REGION rj
  clear hHeld
  rw [← HW3.out]
  go_wp2_with fail
  -- REGION rc
  refine reg_start (fun w' => w'.cell? ⟨p, 1, none⟩ = some (.slice (some ⟨g4, 0, none⟩) xs3.length rc4) ∧ w'.cell? ⟨g4, m * 8, none⟩ = some (.int .i64 (-1)) ∧ w'.cell? ⟨g4, m * 8 + 1, none⟩ = some (.int .i64 (-1)) ∧ w'.cell? ⟨g4, m * 8 + 2, none⟩ = some (.int .i64 0) ∧ w'.cell? ⟨g4, m * 8 + 3, none⟩ = some (.int .i64 nl) ∧ w'.cell? ⟨g4, m * 8 + 4, none⟩ = some (.int .i64 no) ∧ w'.cell? ⟨g4, m * 8 + 5, none⟩ = some (.int .i64 0) ∧ w'.cell? ⟨g4, m * 8 + 6, none⟩ = some (.int .i64 0) ∧ w'.cell? ⟨g4, m * 8 + 7, none⟩ = some (.pointer (some ⟨qm, 0, none⟩))) (by kernel_rfl) ?hirc (fun hHeld => ?_)
  case hirc => (refine ⟨?_, ?_, ?_, ?_, ?_, ?_, ?_, ?_, ?_⟩ <;> go_simp)
  refine reg_take (i := 0) (v := ?vrc0) rfl (by kernel_rfl) rfl hHeld ?yrc0 ?rrc0
  case yrc0 => (intro w hSw; (try dsimp only at hSw); go_simp; all_goals with_reducible rfl)
  try simp only [Act.put, List.setIfInBounds_toArray, List.set_cons_zero, List.set_cons_succ]
  refine reg_take (i := 1) (v := ?vrc1) rfl (by kernel_rfl) rfl hHeld ?yrc1 ?rrc1
  case yrc1 => (intro w hSw; (try dsimp only at hSw); go_simp; all_goals with_reducible rfl)
  try simp only [Act.put, List.setIfInBounds_toArray, List.set_cons_zero, List.set_cons_succ]
  refine reg_take (i := 2) (v := ?vrc2) rfl (by kernel_rfl) rfl hHeld ?yrc2 ?rrc2
  case yrc2 => (intro w hSw; (try dsimp only at hSw); go_simp; all_goals with_reducible rfl)
  try simp only [Act.put, List.setIfInBounds_toArray, List.set_cons_zero, List.set_cons_succ]
  refine reg_take (i := 3) (v := ?vrc3) rfl (by kernel_rfl) rfl hHeld ?yrc3 ?rrc3
  case yrc3 => (intro w hSw; (try dsimp only at hSw); go_simp; all_goals with_reducible rfl)
  try simp only [Act.put, List.setIfInBounds_toArray, List.set_cons_zero, List.set_cons_succ]
  refine reg_take (i := 4) (v := ?vrc4) rfl (by kernel_rfl) rfl hHeld ?yrc4 ?rrc4
  case yrc4 => (intro w hSw; (try dsimp only at hSw); go_simp; all_goals with_reducible rfl)
  try simp only [Act.put, List.setIfInBounds_toArray, List.set_cons_zero, List.set_cons_succ]
  refine reg_take (i := 5) (v := ?vrc5) rfl (by kernel_rfl) rfl hHeld ?yrc5 ?rrc5
  case yrc5 => (intro w hSw; (try dsimp only at hSw); go_simp; all_goals with_reducible rfl)
  try simp only [Act.put, List.setIfInBounds_toArray, List.set_cons_zero, List.set_cons_succ]
  refine reg_take (i := 6) (v := ?vrc6) rfl (by kernel_rfl) rfl hHeld ?yrc6 ?rrc6
  case yrc6 => (intro w hSw; (try dsimp only at hSw); go_simp; all_goals with_reducible rfl)
  try simp only [Act.put, List.setIfInBounds_toArray, List.set_cons_zero, List.set_cons_succ]
  refine reg_take (i := 7) (v := ?vrc7) rfl (by kernel_rfl) rfl hHeld ?yrc7 ?rrc7
  case yrc7 => (intro w hSw; (try dsimp only at hSw); go_simp; all_goals with_reducible rfl)
  try simp only [Act.put, List.setIfInBounds_toArray, List.set_cons_zero, List.set_cons_succ]
  refine reg_take (i := 8) (v := ?vrc8) rfl (by kernel_rfl) rfl hHeld ?yrc8 ?rrc8
  case yrc8 => (intro w hSw; (try dsimp only at hSw); go_simp; all_goals with_reducible rfl)
  try simp only [Act.put, List.setIfInBounds_toArray, List.set_cons_zero, List.set_cons_succ]
  refine reg_take (i := 9) (v := ?vrc9) rfl (by kernel_rfl) rfl hHeld ?yrc9 ?rrc9
  case yrc9 => (intro w hSw; (try dsimp only at hSw); go_simp; all_goals with_reducible rfl)
  try simp only [Act.put, List.setIfInBounds_toArray, List.set_cons_zero, List.set_cons_succ]
  refine reg_take (i := 10) (v := ?vrc10) rfl (by kernel_rfl) rfl hHeld ?yrc10 ?rrc10
  case yrc10 => (intro w hSw; (try dsimp only at hSw); go_simp; all_goals with_reducible rfl)
  try simp only [Act.put, List.setIfInBounds_toArray, List.set_cons_zero, List.set_cons_succ]
  refine reg_take (i := 11) (v := ?vrc11) rfl (by kernel_rfl) rfl hHeld ?yrc11 ?rrc11
  case yrc11 => (intro w hSw; (try dsimp only at hSw); go_simp; all_goals with_reducible rfl)
  try simp only [Act.put, List.setIfInBounds_toArray, List.set_cons_zero, List.set_cons_succ]
  refine reg_take (i := 12) (v := ?vrc12) rfl (by kernel_rfl) rfl hHeld ?yrc12 ?rrc12
  case yrc12 => (intro w hSw; (try dsimp only at hSw); go_simp; all_goals with_reducible rfl)
  try simp only [Act.put, List.setIfInBounds_toArray, List.set_cons_zero, List.set_cons_succ]
  refine reg_loud (i := 13) rfl (by kernel_rfl) rfl (fun K hK => ?_)
  go_simp
  refine hK.out _ _ ?kprc13 (fun hNew => ?_)
  case kprc13 => (refine ⟨?_, ?_, ?_, ?_, ?_, ?_, ?_, ?_, ?_⟩ <;> go_simp)
  clear hK K hHeld
  have hHeld := hNew
  clear hNew
  try simp only [Act.put, List.setIfInBounds_toArray, List.set_cons_zero, List.set_cons_succ]
  refine reg_done (by kernel_rfl) ?_ _
  -- END OF REGION rc
  clear hHeld
  rw [← HW5.out]
  go_wp2_with fail
  refine HFR.out.mono ?_
  rintro e w4 ⟨rfl, C4, h4, s4⟩
  have H4 := Lib.hid h4
  have S4 := Lib.hid s4
  clear h4 s4
  go_wp2_with fail
  go_ret
  obtain ⟨t1, t2, t3, t4, t5, t6, t7, t8, t9, t10, t11⟩ := HD.out
  obtain ⟨y1, y2, y3, y4, y5⟩ := XX.out
  have tk := HO.out.tk
  have g13 := (G12.out.trans C3.out (fun b hb => Or.inl (Or.inl hb))).trans C5.out (fun b hb => Or.inl (Or.inl hb))
  have hsz := g13.size
  have q5 := QM3.out.chg C5.out (H3.out.notBlk QM3.out.type)
  refine ⟨.pair k c (.leaf j qm (lm ++ lb)), C4, A.fr m l, _, _, rfl, H4.out, ⟨⟨?_, ?_, fun b hb => ?_⟩, ?_, fun b hb => (S4.out.new b hb).imp id (fun h => by omega), fun b hb => ?_, fun b e1 e2 => ?_, ?_, rfl, g13.trans S4.out.chg (fun b hb => Or.inl (Or.inl hb))⟩, ?_, by omega, by omega, ⟨_, (set_ne t3).trans y1, by rw [HNC.out], HX.out.2.2.1, HX.out.2.2.2, ?_, ⟨?_, ?_⟩⟩, by simp [Ar.fr]⟩
  · simp only [TT.nums, List.nodup_cons, List.mem_append, not_or, List.nodup_append, List.mem_cons, List.not_mem_nil, or_false, not_false_eq_true, List.nodup_nil, and_self, and_true, true_and]
    exact ⟨⟨t4, t3⟩, t11, fun a ha b hb e => by subst hb; subst e; exact t10 ha⟩
  · simp only [TT.bl, List.nodup_append, List.nodup_cons, List.mem_cons, List.not_mem_nil, or_false, not_false_eq_true, List.nodup_nil, and_self, and_true, true_and]
    exact ⟨HBB.out.2.2.2, fun a ha b hb e => by subst hb; subst e; exact HBB.out.2.1 ha⟩
  · have hb' : b ≠ m ∧ b ≠ l ∧ b ∈ (TT.pair k (.pair l c (.leaf m qm lm)) (.leaf j qb lb)).nums := by
      simp only [TT.nums, List.mem_cons, List.mem_append, List.not_mem_nil, or_false] at hb ⊢
      rcases hb with rfl | hb | rfl
      · exact ⟨t2, t1, Or.inl rfl⟩
      · exact ⟨fun e => t9 (e ▸ hb), fun e => t7 (e ▸ hb), Or.inr (Or.inl (Or.inr (Or.inl hb)))⟩
      · exact ⟨t8.symm, t6.symm, Or.inr (Or.inr rfl)⟩
    rw [Ar.fr_T hb'.1 hb'.2.1]; exact tk _ hb'.2.2
  · rw [List.length_set, y4]; simp [Ar.fr]
  · simp only [TT.bl, List.mem_append, List.mem_cons, List.not_mem_nil, or_false] at hb ⊢
    rcases hb with hb | hb
    · exact Or.inl (Or.inl (Or.inl hb))
    · exact Or.inl (Or.inl (Or.inr hb))
  · simp only [TT.nums, List.mem_cons, List.mem_append, List.not_mem_nil, or_false, not_or] at e2
    refine ⟨by rw [set_ne e2.2.2, y3 b e2.2.1.2.2 e2.1], by rw [Ar.fr_T e2.2.1.2.2 e2.2.1.1]; exact e1, by simp only [TT.nums, List.mem_cons, List.mem_append, List.not_mem_nil, or_false, not_or]; exact ⟨e2.1, e2.2.1.2.1, e2.2.2⟩⟩
  · have := Ar.fr_live (H3.out.arOk) (tk m (by simp [TT.nums])) (tk l (by simp [TT.nums])) t5.symm
    simp only [TT.st, ST.size]; omega
  · rw [HMD.out, if_pos hle]; rfl
  · exact (y5.chgC H3.out C5.out (set_out t10)).chgC H5.out S4.out.chg (fun _ _ => rfl)
  · exact set_get y2
  · exact q5.chg S4.out.chg (H5.out.notBlk q5.type)

set_option maxHeartbeats 6400000 in
set_option maxRecDepth 100000 in
theorem tMend_rsplit {w : World} {p : Nat} {C : Nat → Prop} {A : Ar} {xs : List Nd} {root vis : Int} (h : Head w p C A xs root vis) (hlen : xs.length = A.T.length) (hv0 : 0 ≤ vis) (hv : vis ≤ 100000000000) {k l m qm j qb : Nat} {lm lb : List Bool} {c : TT} (hS : SubW w xs (.pair k (.pair l c (.leaf m qm lm)) (.leaf j qb lb))) (hO : Own A (.pair k (.pair l c (.leaf m qm lm)) (.leaf j qb lb)))
    (hf : (TT.leaf j qb lb).st.few = true) (hsm : Small (TT.pair l c (.leaf m qm lm)).st) (hle : ¬ lm.length + lb.length ≤ 128) :
    Calls Tryd.prog 106 #[.pointer (some ⟨p, 0, none⟩), .int .i64 k] w fun e w' => MendPost w w' p C A xs root vis (.pair k (.pair l c (.leaf m qm lm)) (.leaf j qb lb)) e := by
  obtain ⟨x, hx, hxl, hxr, hxb, hl, hr⟩ := hS
  obtain ⟨g, rc, cur, c1, hgp, hCg, _⟩ := h.row (by have := (List.getElem?_eq_some_iff.1 hx).1; omega)
  obtain ⟨_, _, hkx, _⟩ := h.node c1 hx
  obtain ⟨a0, a1, _⟩ := h.eight c1 hx
  rw [hxl] at a0
  rw [hxr] at a1
  change w.cell? ⟨g, k * 8, none⟩ = some (.int .i64 (l : Int)) at a0
  change w.cell? ⟨g, k * 8 + 1, none⟩ = some (.int .i64 (j : Int)) at a1
  obtain ⟨_, _, cv, fz⟩ := h.cells
  have f3 := fz 3
  have HF1 : Hid (∀ n, Calls Tryd.prog 120 #[.pointer (some ⟨p, 0, none⟩), .int .i64 l] (w.drewN n) fun e w' => e = .returned (.bool (TT.pair l c (TT.leaf m qm lm)).st.few) ∧ w.drewN n = w') := fun n =>
    tFew_any (T := TT.pair l c (TT.leaf m qm lm)) (h.drewN n) (hl.keep (w' := w.drewN n) (fun _ _ => rfl) (fun _ _ => rfl))
  have HF2 : Hid (∀ n, Calls Tryd.prog 120 #[.pointer (some ⟨p, 0, none⟩), .int .i64 j] (w.drewN n) fun e w' => e = .returned (.bool (TT.leaf j qb lb).st.few) ∧ w.drewN n = w') := fun n =>
    tFew_any (T := TT.leaf j qb lb) (h.drewN n) (hr.keep (w' := w.drewN n) (fun _ _ => rfl) (fun _ _ => rfl))
  have h1 : ∀ n, Head ((w.drewN n).setCell ⟨p, 3, none⟩ (.int .i64 (vis + 2))) p C A xs root (vis + 2) := fun n => (h.drewN n).set3 _
  have g1 : ∀ n, Chg C w ((w.drewN n).setCell ⟨p, 3, none⟩ (.int .i64 (vis + 2))) := fun n => (Chg.refl.drewN n).setCell _ (Or.inl h.self) _
  have HL1 : Hid (∀ n, Sub ((w.drewN n).setCell ⟨p, 3, none⟩ (.int .i64 (vis + 2))) xs (TT.pair l c (TT.leaf m qm lm))) := fun n => hl.chgC h (g1 n) (fun _ _ => rfl)
  have HR1 : Hid (∀ n, Sub ((w.drewN n).setCell ⟨p, 3, none⟩ (.int .i64 (vis + 2))) xs (TT.leaf j qb lb)) := fun n => hr.chgC h (g1 n) (fun _ _ => rfl)
  have HC1 : Hid (∀ n, ((w.drewN n).setCell ⟨p, 3, none⟩ (.int .i64 (vis + 2))).cell? ⟨p, 1, none⟩ = some (.slice (some ⟨g, 0, none⟩) xs.length rc)) := fun n => by
    have := c1
    go_simp
  have H1 := Lib.hid h1
  have G1 := Lib.hid g1
  have HO := Lib.hid hO
  have HLN := Lib.hid hlen
  have HX : Hid (xs[k]? = some x ∧ x.left = l ∧ x.right = j ∧ x.b = none) := ⟨hx, hxl, hxr, hxb⟩
  obtain ⟨_, _, hlx, _⟩ := h.node c1 hl.root
  obtain ⟨_, _, hjx, _⟩ := h.node c1 hr.root
  obtain ⟨d0, d1, _, _, _, _, _, d7⟩ := h.eight c1 hl.root
  obtain ⟨_, _, _, _, _, _, _, b7⟩ := h.eight c1 hr.root
  change w.cell? ⟨g, j * 8 + 7, none⟩ = some (.pointer (some ⟨qb, 0, none⟩)) at b7
  change w.cell? ⟨g, l * 8, none⟩ = some (.int .i64 (c.num : Int)) at d0
  change w.cell? ⟨g, l * 8 + 1, none⟩ = some (.int .i64 (m : Int)) at d1
  change w.cell? ⟨g, l * 8 + 7, none⟩ = some (.pointer none) at d7
  change l < xs.length at hlx
  change j < xs.length at hjx
  have hD : k ≠ l ∧ k ≠ m ∧ k ≠ j ∧ k ∉ c.nums ∧ l ≠ m ∧ l ≠ j ∧ l ∉ c.nums ∧ m ≠ j ∧ m ∉ c.nums ∧ j ∉ c.nums ∧ c.nums.Nodup := by
    obtain ⟨e1, e2, e3, _, e5⟩ := TT.dis hO.nn
    obtain ⟨f1, f2, f3, _, f5⟩ := TT.dis e3
    have g1 : m ∉ c.nums := fun h => f5 m h (by simp [TT.nums])
    have g2 : j ∉ (TT.pair l c (.leaf m qm lm)).nums := fun h => e5 j h (by simp [TT.nums])
    simp only [TT.nums, List.mem_cons, List.mem_append, List.not_mem_nil, or_false, not_or] at e1 e2 f2 g2
    exact ⟨e1.1, e1.2.2, e2, e1.2.1, f2, fun e => g2.1 e.symm, f1, fun e => g2.2.2 e.symm, g1, g2.2.1, f3⟩
  have hB : qm ≠ qb ∧ qm ∉ c.bl ∧ qb ∉ c.bl ∧ c.bl.Nodup := by
    have := hO.bn
    simp only [TT.bl, List.nodup_append, List.mem_append, List.mem_cons, List.not_mem_nil, or_false] at this
    obtain ⟨⟨z1, _, z2⟩, _, z3⟩ := this
    exact ⟨fun e => z3 qm (Or.inr rfl) qb rfl e, fun e => z2 qm e qm rfl rfl, fun e => z3 qb (Or.inl e) qb rfl rfl, z1⟩
  have HD := Lib.hid hD
  have HBB := Lib.hid hB
  have hmd : mendT (TT.pair k (.pair l c (.leaf m qm lm)) (.leaf j qb lb)).st = (if lm.length + lb.length ≤ 128 then .pair c.st (.leaf (lm ++ lb)) else .pair (.pair c.st (.leaf ((lm ++ lb).take ((lm.length + lb.length) / 2)))) (.leaf ((lm ++ lb).drop ((lm.length + lb.length) / 2)))) := by
    simp only [TT.st, mendT]
    rw [if_neg (by rintro ⟨e1, e2⟩; simp only [TT.st] at hf; rw [hf] at e2; cases e2)]
  have HMD := Lib.hid hmd
  have hpw := h.lt p h.self
  have hgw := h.lt g hCg
  have HXJ : Hid (xs[j]? = some (TT.leaf j qb lb).nd) := hr.root
  have HXL : Hid (xs[l]? = some (TT.pair l c (.leaf m qm lm)).nd) := hl.1
  have HXM : Hid (xs[m]? = some (TT.leaf m qm lm).nd) := hl.2.2.1
  have HFA : Hid (∀ n, Calls Tryd.prog 120 #[.pointer (some ⟨p, 0, none⟩), .int .i64 l] ((w.drewN n).setCell ⟨p, 3, none⟩ (.int .i64 (vis + 2))) fun e w' => e = .returned (.bool false) ∧ (w.drewN n).setCell ⟨p, 3, none⟩ (.int .i64 (vis + 2)) = w') := fun n =>
    tFew_any (T := TT.pair l c (.leaf m qm lm)) (h1 n) (HL1.out n)
  have HSM := Lib.hid hsm
  have HLF : Hid ((TT.pair l c (.leaf m qm lm)).st.few = false) := rfl
  have HRF := Lib.hid hf
  have HLV : Hid (∀ n, Calls Tryd.prog 121 #[.pointer (some ⟨p, 0, none⟩), .int .i64 m, .int .i64 j] ((w.drewN n).setCell ⟨p, 3, none⟩ (.int .i64 (vis + 2))) _) :=
    fun n => tLev_split (h1 n) (HL1.out n).2.2 (HR1.out n) hD.2.2.2.2.2.2.2.1 hB.1 (by omega)
  clear h hlen hO hx hxl hxr hxb hl hr fz h1 g1 hD hmd hCg hB hf hsm
  go_enter Tryd.func106, Tryd.ntmps106
  go_wp2_with fail
  go_quiet (fail)
  obtain ⟨n1, rfl⟩ : ∃ n1, n1 = nq := ⟨_, rfl⟩
  go_wp2_with fail
  refine (HF1.out n1).mono ?_
  rintro e w' ⟨rfl, rfl⟩
  rw [HLF.out]
  go_wp2_with fail
  refine (HF2.out n1).mono ?_
  rintro e w' ⟨rfl, rfl⟩
  rw [HRF.out]
  go_wp2_with fail
  refine (HFA.out n1).mono ?_
  rintro e w' ⟨rfl, rfl⟩
  go_wp2_with fail
  refine (HLV.out n1).mono ?_
  rintro e w2 ⟨rfl, q1, q2, u1, u2, u3, h2, b1, b2, g2⟩
  obtain ⟨t1, t2, t3, t4, t5, t6, t7, t8, t9, t10, t11⟩ := HD.out
  have hll : ((lm ++ lb).take ((lm.length + lb.length) / 2)).length + ((lm ++ lb).drop ((lm.length + lb.length) / 2)).length = lm.length + lb.length := by simp; omega
  have hsl : lm.length ≤ 128 ∧ lb.length ≤ 128 := ⟨(HL1.out n1).2.2.2.1, (HR1.out n1).2.1⟩
  have hmd := HMD.out
  rw [if_neg hle] at hmd
  have HMD2 := Lib.hid hmd
  generalize (lm ++ lb).take ((lm.length + lb.length) / 2) = lo at *
  generalize (lm ++ lb).drop ((lm.length + lb.length) / 2) = hi at *
  have U : Hid (w.heap.size ≤ q1 ∧ w.heap.size ≤ q2 ∧ q1 ≠ q2) := ⟨Nat.le_trans (G1.out n1).size u1, Nat.le_trans (G1.out n1).size u2, u3⟩
  have g12 : Chg C w w2 := (G1.out n1).trans g2 (fun b hb => Or.inl hb)
  have xl2 : ((xs.set m (TT.leaf m q1 lo).nd).set j (TT.leaf j q2 hi).nd)[l]? = some (TT.pair l c (.leaf m qm lm)).nd := by rw [set_ne t6, set_ne t5]; exact HXL.out
  have xk2 : ((xs.set m (TT.leaf m q1 lo).nd).set j (TT.leaf j q2 hi).nd)[k]? = some x := by rw [set_ne t3, set_ne t2]; exact HX.out.1
  have xm2 : ((xs.set m (TT.leaf m q1 lo).nd).set j (TT.leaf j q2 hi).nd)[m]? = some (TT.leaf m q1 lo).nd := by rw [set_ne t8]; exact set_get HXM.out
  have xj2 : ((xs.set m (TT.leaf m q1 lo).nd).set j (TT.leaf j q2 hi).nd)[j]? = some (TT.leaf j q2 hi).nd := set_get (x := (TT.leaf j qb lb).nd) (by rw [set_ne t8.symm]; exact HXJ.out)
  have kp2 : ∀ b : Nat, b ≠ m → b ≠ j → ((xs.set m (TT.leaf m q1 lo).nd).set j (TT.leaf j q2 hi).nd)[b]? = xs[b]? := fun b hb hc => by rw [set_ne hc, set_ne hb]
  have ln2 : ((xs.set m (TT.leaf m q1 lo).nd).set j (TT.leaf j q2 hi).nd).length = A.T.length := by rw [List.length_set, List.length_set]; exact HLN.out
  have sc2 : Sub w2 ((xs.set m (TT.leaf m q1 lo).nd).set j (TT.leaf j q2 hi).nd) c := (HL1.out n1).2.1.chgC (H1.out n1) g2 (fun b hb => kp2 b (by rintro rfl; exact t9 hb) (by rintro rfl; exact t10 hb))
  generalize (xs.set m (TT.leaf m q1 lo).nd).set j (TT.leaf j q2 hi).nd = xs2 at *
  have hs2 := HSM.out.l
  have HF := Lib.hid (tFix_tt (a := c) (b := .leaf m q1 lo) h2 xl2 rfl rfl rfl sc2 ⟨xm2, b1⟩ hs2 ⟨by simp only [TT.st, ST.bits]; omega, by simp [TT.st, ST.high]⟩)
  have H2 := Lib.hid h2
  have B1 := Lib.hid b1
  have B2 := Lib.hid b2
  have G12 := Lib.hid g12
  have XX : Hid (xs2[k]? = some x ∧ xs2[m]? = some (TT.leaf m q1 lo).nd ∧ xs2[j]? = some (TT.leaf j q2 hi).nd ∧ xs2[l]? = some (TT.pair l c (.leaf m qm lm)).nd ∧ (∀ b : Nat, b ≠ m → b ≠ j → xs2[b]? = xs[b]?) ∧ xs2.length = A.T.length ∧ Sub w2 xs2 c) := ⟨xk2, xm2, xj2, xl2, kp2, ln2, sc2⟩
  clear h2 b1 b2 g2 g12 u1 u2 u3 t1 t2 t3 t4 t5 t6 t7 t8 t9 t10 t11 xl2 xk2 xm2 xj2 kp2 ln2 sc2 hmd hll hs2 hsl
  go_wp2_with fail
  refine HF.out.mono ?_
  rintro e w3 ⟨rfl, h3, g3⟩
  have H3 := Lib.hid h3
  have G3 := Lib.hid (H2.out.chgRow g3)
  clear h3 g3
  go_wp2_with fail
  go_ret
  obtain ⟨t1, t2, t3, t4, t5, t6, t7, t8, t9, t10, t11⟩ := HD.out
  obtain ⟨u1, u2, u3⟩ := U.out
  obtain ⟨y1, y2, y2', y2'', y3, y4, y5⟩ := XX.out
  have tk := HO.out.tk
  have cb : ∀ b ∈ c.bl, b < w.heap.size := fun b hb => by
    have := ((HL1.out n1).2.1.type hb).lt
    simpa [World.setCell] using this
  refine ⟨.pair k (.pair l c (.leaf m q1 lo)) (.leaf j q2 hi), C, A, _, _, rfl, H3.out, ⟨⟨HO.out.nn, ?_, fun b hb => tk b (by simpa [TT.nums] using hb)⟩, ?_, fun b hb => Or.inl hb, fun b hb => ?_, fun b e1 e2 => ?_, ?_, rfl, (G12.out.trans G3.out (fun b hb => Or.inl hb)).mono (fun b hb => Or.inl hb)⟩, ?_, by omega, by omega, ⟨x, ?_, HX.out.2.1, HX.out.2.2.1, HX.out.2.2.2, ⟨?_, ?_, ⟨?_, ?_⟩⟩, ⟨?_, ?_⟩⟩, rfl⟩
  · simp only [TT.bl, List.nodup_append, List.nodup_cons, List.mem_append, List.mem_cons, List.not_mem_nil, or_false, not_false_eq_true, List.nodup_nil, and_self, and_true, true_and]
    refine ⟨⟨HBB.out.2.2.2, fun a ha b hb e => by subst hb; subst e; have := cb _ ha; omega⟩, fun a ha b hb e => ?_⟩
    subst hb; subst e
    rcases ha with ha | ha
    · have := cb _ ha; omega
    · exact u3 ha.symm
  · rw [List.length_set, y4]
  · simp only [TT.bl, List.mem_append, List.mem_cons, List.not_mem_nil, or_false] at hb ⊢
    rcases hb with (hb | rfl) | rfl
    · exact Or.inl (Or.inl (Or.inl hb))
    · exact Or.inr u1
    · exact Or.inr u2
  · have e2' := e2
    simp only [TT.nums, List.mem_cons, List.mem_append, List.not_mem_nil, or_false, not_or] at e2
    refine ⟨by rw [set_ne e2.2.1.1, y3 b e2.2.1.2.2 e2.2.2], e1, by simpa [TT.nums] using e2'⟩
  · simp only [TT.st, ST.size]
  · exact HMD2.out.symm
  · rw [set_ne t1]; exact y1
  · exact set_get y2''
  · exact y5.chgC H2.out G3.out (set_out t7)
  · rw [set_ne t5.symm]; exact y2
  · exact B1.out.chg G3.out (H2.out.notBlk B1.out.type)
  · rw [set_ne t6.symm]; exact y2'
  · exact B2.out.chg G3.out (H2.out.notBlk B2.out.type)

end Go.Proofs.YtcppgpjodfeigaaDoor

namespace Go.Proofs.YtcppgpjodfeigaaDoor
set_option linter.unusedVariables false
set_option linter.unusedSimpArgs false
open Go.RowKit

theorem TT.leaf_of_few {T : TT} (h : T.st.few = true) : ∃ k q l, T = .leaf k q l := by
  cases T with
  | leaf k q l => exact ⟨k, q, l, rfl⟩
  | pair k a b => simp [TT.st, ST.few] at h
theorem TT.leaf_of_high {T : TT} (h : T.st.high = 0) : ∃ k q l, T = .leaf k q l := by
  cases T with
  | leaf k q l => exact ⟨k, q, l, rfl⟩
  | pair k a b => simp [TT.st, ST.high] at h

theorem tMend_any {w : World} {p : Nat} {C : Nat → Prop} {A : Ar} {xs : List Nd} {root vis : Int} (h : Head w p C A xs root vis) (hlen : xs.length = A.T.length) (hv0 : 0 ≤ vis) (hv : vis ≤ 100000000000) {k : Nat} {l r : TT} (hS : SubW w xs (.pair k l r)) (hO : Own A (.pair k l r))
    (hl : l.st.few = true → r.st.high ≤ 1) (hr : r.st.few = true → l.st.high ≤ 1) (s1 : Small l.st) (s2 : Small r.st) :
    Calls Tryd.prog 106 #[.pointer (some ⟨p, 0, none⟩), .int .i64 k] w fun e w' => MendPost w w' p C A xs root vis (.pair k l r) e := by
  cases hlf : l.st.few with
  | true =>
    obtain ⟨i, qa, la, rfl⟩ := TT.leaf_of_few hlf
    cases r with
    | leaf j qb lb =>
      by_cases hle : la.length + lb.length ≤ 128
      · exact tMend_join h hlen hv0 hv hS hO (Or.inl hlf) hle
      · exact tMend_split h hlen hv0 hv hS hO (Or.inl hlf) hle
    | pair r' r1 c =>
      have hh := hl hlf
      obtain ⟨m, qm, lm, rfl⟩ := TT.leaf_of_high (T := r1) (by simp only [TT.st, ST.high] at hh; omega)
      by_cases hle : la.length + lm.length ≤ 128
      · exact tMend_ljoin h hlen hv0 hv hS hO hlf s2 hle
      · exact tMend_lsplit h hlen hv0 hv hS hO hlf s2 hle
  | false =>
    cases hrf : r.st.few with
    | false => exact tMend_no h hlen hS hO ⟨hlf, hrf⟩
    | true =>
      obtain ⟨j, qb, lb, rfl⟩ := TT.leaf_of_few hrf
      cases l with
      | leaf i qa la =>
        by_cases hle : la.length + lb.length ≤ 128
        · exact tMend_join h hlen hv0 hv hS hO (Or.inr ⟨hlf, hrf⟩) hle
        · exact tMend_split h hlen hv0 hv hS hO (Or.inr ⟨hlf, hrf⟩) hle
      | pair l' c r1 =>
        have hh := hr hrf
        obtain ⟨m, qm, lm, rfl⟩ := TT.leaf_of_high (T := r1) (by simp only [TT.st, ST.high] at hh; omega)
        by_cases hle : lm.length + lb.length ≤ 128
        · exact tMend_rjoin h hlen hv0 hv hS hO hrf s1 hle
        · exact tMend_rsplit h hlen hv0 hv hS hO hrf s1 hle

/-- Only a leaf can have too few bits behind one less. -/
theorem few_del {x : ST} {k : Nat} (hf : x.Fill) (hk : k < x.bits.length) (h : (delT x k).few = true) : x.high = 0 := by
  cases x with
  | leaf l => rfl
  | pair c d =>
    exfalso
    cases hd : delT (.pair c d) k with
    | leaf z =>
      have hb := delT_bits hk
      rw [hd] at h hb
      simp only [ST.bits] at hb
      have hl := hf.len
      have hll : z.length = (ST.pair c d).bits.length - 1 := by rw [hb]; exact outL_len hk
      simp only [ST.leaves, ST.bits] at hl hll
      have := c.leaves_pos; have := d.leaves_pos
      simp only [ST.few, decide_eq_true_eq] at h
      omega
    | pair e f => rw [hd] at h; simp [ST.few] at h

/-- Two changes of a subtree, one behind the other. -/
theorem SubPre.cat {w w1 w2 : World} {C C1 C2 : Nat → Prop} {A A1 A2 : Ar} {xs xs1 xs2 : List Nd} {T T1 T2 : TT} (h : SubPre w w1 C A xs T T1 C1 A1 xs1) (g : SubPre w1 w2 C1 A1 xs1 T1 T2 C2 A2 xs2) : SubPre w w2 C A xs T T2 C2 A2 xs2 := by
  have hs := h.chg.size
  refine ⟨g.own, g.len, fun j hj => ?_, fun q hq => ?_, fun j h1 h2 => ?_, by have := h.live; have := g.live; omega, g.max.trans h.max, h.chg.trans g.chg (fun j hj => ?_)⟩
  · rcases g.newC j hj with e | e
    · exact h.newC j e
    · exact Or.inr (by omega)
  · rcases g.newB q hq with e | e
    · exact h.newB q e
    · exact Or.inr (by omega)
  · obtain ⟨e1, e2, e3⟩ := h.keep j h1 h2
    obtain ⟨f1, f2, f3⟩ := g.keep j e2 e3
    exact ⟨f1.trans e1, f2, f3⟩
  · rcases hj with e | e
    · exact (h.newC j e).imp Or.inl id
    · exact (h.newB j e).imp Or.inr id

/-- What drop leaves. -/
def DropPost (w w' : World) (p : Nat) (C : Nat → Prop) (A : Ar) (xs : List Nd) (root vis : Int) (T : TT) (k : Nat) (e : Ending) : Prop :=
  ∃ T' C' A' xs' v', e = .returned (.tuple #[.int .i64 T'.num, .bool (bitAt T.st.bits k)]) ∧ SubPost w w' p C A xs root vis T T' C' A' xs' v' ∧ T'.st = delT T.st k ∧ A'.T.length = A.T.length

set_option maxHeartbeats 3200000 in
set_option maxRecDepth 100000 in
theorem tDrop_leaf {w : World} {p : Nat} {C : Nat → Prop} {A : Ar} {xs : List Nd} {root vis : Int} (h : Head w p C A xs root vis) (hlen : xs.length = A.T.length) (hv0 : 0 ≤ vis) (hv : vis ≤ 100000000000) {kn q : Nat} {l : List Bool} (hS : Sub w xs (.leaf kn q l))
    (hO : Own A (.leaf kn q l)) (k : Nat) (hk : k < l.length) :
    Calls Tryd.prog 74 #[.pointer (some ⟨p, 0, none⟩), .int .i64 kn, .int .i64 k] w fun e w' => DropPost w w' p C A xs root vis (.leaf kn q l) k e := by
  have hx := hS.root
  change xs[kn]? = some (TT.leaf kn q l).nd at hx
  obtain ⟨g, rc, cur, c1, hgp, _⟩ := h.row (by have := (List.getElem?_eq_some_iff.1 hx).1; omega)
  obtain ⟨_, _, hkx, _⟩ := h.node c1 hx
  obtain ⟨a0, a1, a2, a3, a4, a5, a6, a7⟩ := h.eight c1 hx
  obtain ⟨_, _, cv, fz⟩ := h.cells
  have f3 := fz 3
  have hp := h.lt p h.self
  have hg := World.block_lt_of_cell? w _ a0
  simp only [TT.nd, ptrN, Option.map_some] at a0 a1 a2 a3 a4 a5 a6 a7
  have hq := hS.2
  have hqC : ¬ C q := h.notBlk hq.type
  have HW : Hid (∀ v o, IsBlock ((w.setCell ⟨p, 3, none⟩ v).alloc o) q l) := fun v o => hq.chg ((Chg.refl.setCell ⟨p, 3, none⟩ (Or.inl h.self) v).alloc o) hqC
  have HH3 : Hid (∀ o, Head ((w.setCell ⟨p, 3, none⟩ (.int .i64 (vis + 1))).alloc o) p C A xs root (vis + 1)) := fun o => (h.set3 (vis + 1)).below (below_alloc _ _)
  have HG : Hid (∀ o, Chg C w ((w.setCell ⟨p, 3, none⟩ (.int .i64 (vis + 1))).alloc o)) := fun o => (h.chg3 _ 3).alloc o
  have HX := Lib.hid hx
  have HQC := Lib.hid hqC
  have HO := Lib.hid hO
  have HL := Lib.hid hlen
  clear h fz hx hS hq hqC hO hlen
  go_enter Tryd.func74, Tryd.ntmps74
  go_wp2_with fail
  refine (blkDelete (HW.out _ _) k hk).mono ?_
  rintro e w3 ⟨rfl, hb3, c3⟩
  have h3 := (HH3.out _).chg c3 (fun j hj e => HQC.out (e ▸ hj))
  have g3 : Chg (fun j => C j ∨ j ∈ (TT.leaf kn q l).bl) w w3 := ((HG.out _).mono (fun j hj => Or.inl hj)).trans c3 (fun j e => Or.inl (Or.inr (by simp [TT.bl, e])))
  have HF := Lib.hid (tFix_leaf h3 HX.out rfl hb3)
  have H3 := Lib.hid h3
  have G3 := Lib.hid g3
  have HB3 := Lib.hid hb3
  clear h3 g3 hb3 c3
  go_wp2_with fail
  refine HF.out.mono ?_
  rintro e w4 ⟨rfl, h4, g4⟩
  have H4 := Lib.hid h4
  have G4 := Lib.hid g4
  clear h4 g4
  go_wp2_with fail
  go_ret2
  refine ⟨.leaf kn q (outL l k), C, A, _, _, rfl, ⟨H4.out, ⟨set_get HX.out, ?_⟩, ⟨HO.out.nn, HO.out.bn, HO.out.tk⟩, ?_, fun j hj => Or.inl hj, fun j hj => Or.inl hj, fun j h1 h2 => ⟨?_, h1, h2⟩, rfl, rfl, ?_, ?_⟩, rfl, rfl⟩
  · exact HB3.out.chg (H3.out.chgRow G4.out) (H3.out.notBlk HB3.out.type)
  · rw [List.length_set]; exact HL.out
  · exact set_ne (by rintro rfl; exact h2 (by simp [TT.nums]))
  · exact ⟨by omega, by simp only [TT.st, ST.high]; omega⟩
  · exact G3.out.trans (H3.out.chgRow G4.out) (fun j hj => Or.inl (Or.inl hj))

end Go.Proofs.YtcppgpjodfeigaaDoor

namespace Go.Proofs.YtcppgpjodfeigaaDoor
set_option linter.unusedVariables false
set_option linter.unusedSimpArgs false
open Go.RowKit

set_option maxHeartbeats 6400000 in
set_option maxRecDepth 100000 in
theorem tDrop_any (T : TT) : ∀ (w : World) (p : Nat) (C : Nat → Prop) (A : Ar) (xs : List Nd) (root vis : Int) (k : Nat), Head w p C A xs root vis → xs.length = A.T.length → 0 ≤ vis → vis + 7 * T.st.high + 20 ≤ 100000000000 → Sub w xs T → Own A T → k < T.st.bits.length →
    T.st.bits.length ≤ 8589934592 → T.st.high ≤ 1000000000 → T.st.Avl → (∀ t, T.st = t → (t.isLeaf = true ∨ t.Fill)) →
    Calls Tryd.prog 74 #[.pointer (some ⟨p, 0, none⟩), .int .i64 T.num, .int .i64 k] w fun e w' => DropPost w w' p C A xs root vis T k e := by
  induction T with
  | leaf kn q l =>
    intro w p C A xs root vis k h hlen hv0 hv hS hO hk hb1 hh1 hav hfl
    simp only [TT.st, ST.bits] at hk
    exact tDrop_leaf h hlen hv0 (by simp only [TT.st, ST.high] at hv; omega) hS hO k hk
  | pair kn a c iha ihc =>
    intro w p C A xs root vis k h hlen hv0 hv hS hO hk hb1 hh1 hav hfl
    have hfill : (TT.pair kn a c).st.Fill := by
      rcases hfl _ rfl with e | e
      · cases e
      · exact e
    obtain ⟨av1, av2, av3, av4⟩ := hav
    obtain ⟨fa, fc⟩ := hfill
    change Calls Tryd.prog _ #[.pointer (some ⟨p, 0, none⟩), .int .i64 (kn : Int), .int .i64 k] w _
    have hx := hS.root
    change xs[kn]? = some (TT.pair kn a c).nd at hx
    obtain ⟨g, rc, cur, c1, hgp, _⟩ := h.row (by have := (List.getElem?_eq_some_iff.1 hx).1; omega)
    obtain ⟨_, _, hkx, _⟩ := h.node c1 hx
    obtain ⟨a0, a1, a2, a3, a4, a5, a6, a7⟩ := h.eight c1 hx
    obtain ⟨_, _, cv, fz⟩ := h.cells
    have f3 := fz 3
    have hp := h.lt p h.self
    have hg := World.block_lt_of_cell? w _ a0
    simp only [TT.st, ST.bits, ST.high, List.length_append] at hv hk hb1 hh1
    obtain ⟨na, hna⟩ : ∃ na, a.num = na := ⟨_, rfl⟩
    obtain ⟨nc, hnc⟩ : ∃ nc, c.num = nc := ⟨_, rfl⟩
    obtain ⟨la, hla⟩ : ∃ la, a.st.bits.length = la := ⟨_, rfl⟩
    obtain ⟨ha, hha⟩ : ∃ h, a.st.high = h := ⟨_, rfl⟩
    obtain ⟨hc, hhc⟩ : ∃ h, c.st.high = h := ⟨_, rfl⟩
    rw [hla] at hk hb1
    rw [hha, hhc] at hv hh1 av3 av4
    simp only [TT.nd, ptrN, Option.map_none] at a0 a1 a2 a3 a4 a5 a6 a7
    rw [hla] at a3 a5
    change w.cell? ⟨g, kn * 8, none⟩ = some (.int .i64 (a.num : Int)) at a0
    change w.cell? ⟨g, kn * 8 + 1, none⟩ = some (.int .i64 (c.num : Int)) at a1
    rw [hna] at a0
    rw [hnc] at a1
    have HNA := Lib.hid hna
    have HNC := Lib.hid hnc
    have HLA := Lib.hid hla
    have HHA := Lib.hid hha
    have HHC := Lib.hid hhc
    have HH3 : Hid (∀ o, Head ((w.setCell ⟨p, 3, none⟩ (.int .i64 (vis + 1))).alloc o) p C A xs root (vis + 1)) := fun o => (h.set3 (vis + 1)).below (below_alloc _ _)
    have HG : Hid (∀ o, Chg C w ((w.setCell ⟨p, 3, none⟩ (.int .i64 (vis + 1))).alloc o)) := fun o => (h.chg3 _ 3).alloc o
    have HSA : Hid (∀ w', Chg C w w' → Sub w' xs a) := fun w' hc => hS.2.1.chgC h hc (fun _ _ => rfl)
    have HSC : Hid (∀ w', Chg C w w' → Sub w' xs c) := fun w' hc => hS.2.2.chgC h hc (fun _ _ => rfl)
    have HX := Lib.hid hx
    have HO := Lib.hid hO
    have HL := Lib.hid hlen
    have HIA := Lib.hid iha
    have HIC := Lib.hid ihc
    have HAV : Hid (a.st.Avl ∧ c.st.Avl ∧ a.st.Fill ∧ c.st.Fill) := ⟨av1, av2, fa, fc⟩
    have hkb : k ≤ 8589934592 := by omega
    clear h fz hx hS hO hlen iha ihc hna hnc hla hha hhc av1 av2 fa fc hfl
    by_cases hlt : k < la
    · have d1 : decide (k < la) = true := decide_eq_true hlt
      go_enter Tryd.func74, Tryd.ntmps74
      go_wp2_with fail
      have h2 := HH3.out (.cells #[.int .i64 na, .int .i64 nc, .int .i64 (ST.pair a.st c.st).high, .int .i64 (la + c.st.bits.length), .int .i64 (a.st.bits.count true + c.st.bits.count true), .int .i64 la, .int .i64 (a.st.bits.count true), .pointer none] 88)
      have hih := HIA.out _ p C A xs root (vis + 1) k h2 HL.out (by omega) (by rw [HHA.out]; omega) (HSA.out _ (HG.out _)) HO.out.l (by rw [HLA.out]; exact hlt) (by rw [HLA.out]; omega) (by rw [HHA.out]; omega) HAV.out.1 (fun t ht => Or.inr (by rw [← ht]; exact HAV.out.2.2.1))
      rw [HNA.out] at hih
      refine hih.mono ?_
      rintro e w3 ⟨T', C3, A3, xs3, v3, rfl, hP, hst, hmade⟩
      obtain ⟨q1, q2, q3⟩ := SubPre.left HO.out hP.pre h2 (HSC.out _ (HG.out _))
      have hx3 := q3.trans HX.out
      have hpre := SubPre.first (HG.out (.cells #[.int .i64 na, .int .i64 nc, .int .i64 (ST.pair a.st c.st).high, .int .i64 (la + c.st.bits.length), .int .i64 (a.st.bits.count true + c.st.bits.count true), .int .i64 la, .int .i64 (a.st.bits.count true), .pointer none] 88)) q1
      have h3 := hP.head
      have s3 := hP.sub
      have hv3 := hP.vis
      rw [HHA.out] at hv3
      have hdo := delT_ok HAV.out.1 HAV.out.2.2.1 (k := k) (by rw [HLA.out]; exact hlt)
      have hfw := few_del (k := k) HAV.out.2.2.1 (by rw [HLA.out]; exact hlt)
      rw [← hst, HHA.out] at hdo
      rw [← hst, HHA.out] at hfw
      obtain ⟨w1, w2, w4, w5⟩ := hdo
      have hTb : T'.st.bits.length + 1 = la := by rw [hst, delT_bits (by rw [HLA.out]; exact hlt), outL_len (by rw [HLA.out]; exact hlt)]; rw [HLA.out]; omega
      have hbit : bitAt (TT.pair kn a c).st.bits k = bitAt a.st.bits k := by simp only [TT.st, ST.bits]; exact bitAt_app_l (by rw [HLA.out]; exact hlt)
      obtain ⟨g3, rc3, cur3, r3, hgp3, _⟩ := h3.row (by have := (List.getElem?_eq_some_iff.1 hx3).1; omega)
      obtain ⟨_, fz3, hkx3, _⟩ := h3.node r3 hx3
      obtain ⟨e0, e1, _⟩ := h3.eight r3 hx3
      have z3 := fz3 (kn * 8)
      obtain ⟨h4, g4, _⟩ := h3.put r3 hx3 (i := 0) (v := .int .i64 T'.num) (x' := ⟨T'.num, c.num, (TT.pair kn a c).nd.height, (TT.pair kn a c).nd.n, (TT.pair kn a c).nd.ones, (TT.pair kn a c).nd.ln, (TT.pair kn a c).nd.lones, none⟩) (by omega) rfl
      have g4C : Chg C3 w3 _ := g4.mono (fun j e => by subst e; exact h3.rowC ⟨_, _, r3⟩)
      have hdis := TT.dis hpre.own.nn
      have st4 := s3.chgC h3 g4C (set_out (y := ⟨T'.num, c.num, (TT.pair kn a c).nd.height, (TT.pair kn a c).nd.n, (TT.pair kn a c).nd.ones, (TT.pair kn a c).nd.ln, (TT.pair kn a c).nd.lones, none⟩) hdis.1)
      have sc4 := q2.chgC h3 g4C (set_out (y := ⟨T'.num, c.num, (TT.pair kn a c).nd.height, (TT.pair kn a c).nd.n, (TT.pair kn a c).nd.ones, (TT.pair kn a c).nd.ln, (TT.pair kn a c).nd.lones, none⟩) hdis.2.1)
      have hp4 := hpre.next (T2 := .pair kn T' c) (xs' := xs3.set kn ⟨T'.num, c.num, (TT.pair kn a c).nd.height, (TT.pair kn a c).nd.n, (TT.pair kn a c).nd.ones, (TT.pair kn a c).nd.ln, (TT.pair kn a c).nd.lones, none⟩) g4C (fun j hj => set_ne (by rintro rfl; exact hj TT.mem_k)) (by simp) (List.Perm.refl _) rfl rfl
      have sm1 : Small T'.st := ⟨by omega, by omega⟩
      have sm2 : Small c.st := ⟨by omega, by rw [HHC.out]; omega⟩
      have HB := Lib.hid (tMend_any h4 hp4.len (by omega) (by omega) (k := kn) (l := T') (r := c) ⟨_, set_get hx3, rfl, rfl, rfl, st4, sc4⟩ hp4.own (fun hf => by rw [HHC.out]; have := hfw hf; omega) (fun hf => by rw [HAV.out.2.2.2.not_few] at hf; cases hf) sm1 sm2)
      have H4 := Lib.hid h4
      have HP4 := Lib.hid hp4
      have HST := Lib.hid hst
      have HV3 := Lib.hid hv3
      have HW : Hid (T'.st.Avl ∧ T'.st.Less ∧ T'.st.high ≤ ha ∧ ha ≤ T'.st.high + 1 ∧ (T'.st.few = true → ha = 0)) := ⟨w1, w2, w4, w5, hfw⟩
      have HTB := Lib.hid hTb
      have HBIT := Lib.hid hbit
      have HMADE := Lib.hid hmade
      clear h2 hih hP hst q1 q2 q3 hx3 hpre h3 s3 fz3 h4 g4 g4C hdis st4 sc4 hTb hv3 w1 w2 w4 w5 hfw sm1 sm2 hp4 hbit hmade
      obtain ⟨nt, hnt⟩ : ∃ n, T'.num = n := ⟨_, rfl⟩
      rw [hnt]
      rw [hnt] at HB H4 HP4
      go_wp2_with fail
      refine HB.out.mono ?_
      rintro e w5 ⟨T1, C5, A5, xs5, v5, rfl, h5, p5, hst5, v51, v52, s5, made5⟩
      have hmk := mend_ok (l := T'.st) (r := c.st) HW.out.1 HAV.out.2.1 HW.out.2.1 HAV.out.2.2.2.less (by have := HW.out; have := HHC.out; omega) (by have := HW.out; have := HHC.out; omega) (fun hf => by
        rcases hf with hf | hf
        · have h1 := ST.few_high hf; have h2 := HW.out.2.2.2.2 hf; have := HHC.out; omega
        · rw [HAV.out.2.2.2.not_few] at hf; cases hf)
      have hp5 : SubPre w w5 C A xs (.pair kn a c) T1 C5 A5 xs5 := HP4.out.cat p5
      obtain ⟨n1, hn1⟩ : ∃ n, T1.num = n := ⟨_, rfl⟩
      rw [hn1]
      cases T1 with
      | leaf k1 q1 l1 =>
        obtain rfl : k1 = n1 := hn1
        obtain ⟨g5, rc5, cur5, r5, _⟩ := h5.row (by have := (List.getElem?_eq_some_iff.1 s5.1).1; omega)
        obtain ⟨_, _, _, _, _, _, _, y7⟩ := h5.eight r5 s5.1
        obtain ⟨_, _, hk5, _⟩ := h5.node r5 s5.1
        change w5.cell? ⟨g5, k1 * 8 + 7, none⟩ = some (.pointer (some ⟨q1, 0, none⟩)) at y7
        change k1 < xs5.length at hk5
        have H5 := Lib.hid h5
        have P5 := Lib.hid hp5
        have HST5 := Lib.hid hst5
        have S5 := Lib.hid s5
        have HM5 := Lib.hid made5
        clear h5 hp5 p5 hst5 s5 hmk made5
        go_wp2_with fail
        go_ret2
        refine ⟨.leaf k1 q1 l1, C5, A5, xs5, v5, by rw [HBIT.out]; rfl, SubPost.of H5.out S5.out P5.out ?_, ?_, HM5.out.trans HMADE.out⟩
        · have := HV3.out
          simp only [TT.st, ST.high]
          rw [HHA.out, HHC.out]
          exact ⟨by omega, by omega⟩
        · have h1 := HST5.out
          have h2 := HST.out
          simp only [TT.st, delT] at h1 h2 ⊢
          rw [if_pos (by rw [HLA.out]; exact hlt), ← h2, ← h1]; rfl
      | pair k1 a1 b1 =>
        obtain rfl : k1 = n1 := hn1
        obtain ⟨x5, x51, x52, x53, x54, sa5, sb5⟩ := s5
        obtain ⟨g5, rc5, cur5, r5, _⟩ := h5.row (by have := (List.getElem?_eq_some_iff.1 x51).1; omega)
        obtain ⟨_, _, _, _, _, _, _, y7⟩ := h5.eight r5 x51
        obtain ⟨_, _, hk5, _⟩ := h5.node r5 x51
        rw [x54] at y7
        change w5.cell? ⟨g5, k1 * 8 + 7, none⟩ = some (.pointer none) at y7
        have hsm : Small (.pair a1.st b1.st) := by
          have e : ST.pair a1.st b1.st = mendT (.pair T'.st c.st) := hst5
          have hb5 := mend_bits (.pair T'.st c.st)
          rw [← e] at hb5 hmk
          have hl5 := congrArg List.length hb5
          have hTB := HTB.out
          have hw3 := HW.out.2.2.1
          obtain ⟨_, _, _, _, _, m5, _⟩ := hmk
          have hA := HHA.out
          have hC := HHC.out
          have hL := HLA.out
          simp only [ST.bits, List.length_append] at hl5
          refine ⟨by simp only [ST.bits, List.length_append]; omega, by simp only [ST.high]; omega⟩
        have HB6 := Lib.hid (tBal_any h5 (by have := HV3.out; omega) (by have := HV3.out; omega) (k := k1) (x := x5) (a := a1) (c := b1) x51 x54 x52 x53 sa5 sb5 hp5.own.nn hsm)
        have H5 := Lib.hid h5
        have P5 := Lib.hid hp5
        have HST5 := Lib.hid hst5
        have HM5 := Lib.hid made5
        clear h5 hp5 p5 hst5 sa5 sb5 hmk made5 hsm x51 x52 x53 x54
        go_wp2_with fail
        refine HB6.out.mono ?_
        rintro e w6 hB
        obtain ⟨T2, xs6, v6, rfl, h6, s6, hst6, hn6, hb6, kp6, ln6, hv6⟩ := hB.ex
        have H6 := Lib.hid h6
        have S6 := Lib.hid s6
        have HST6 := Lib.hid hst6
        have HN6 := Lib.hid hn6
        have HB7 := Lib.hid hb6
        have KP6 := Lib.hid kp6
        have LN6 := Lib.hid ln6
        have HV6 := Lib.hid hv6
        have C6 := Lib.hid hB.chg
        clear hB h6 s6 hst6 hn6 hb6 kp6 ln6 hv6
        go_wp2_with fail
        go_ret2
        have hx6 := P5.out.next (T2 := T2) (xs' := xs6) C6.out KP6.out LN6.out HN6.out HB7.out (by rw [HST6.out, bal_size]; rfl)
        refine ⟨T2, C5, A5, xs6, v6, by rw [HBIT.out]; rfl, SubPost.of H6.out S6.out hx6 ?_, ?_, HM5.out.trans HMADE.out⟩
        · have := HV3.out; have := HV6.out
          simp only [TT.st, ST.high]
          rw [HHA.out, HHC.out]
          exact ⟨by omega, by omega⟩
        · have h1 := HST5.out
          have h2 := HST.out
          simp only [TT.st, delT] at h1 h2 ⊢
          rw [if_pos (by rw [HLA.out]; exact hlt), ← h2, HST6.out, ← h1]
    · have d1 : decide (k < la) = false := decide_eq_false hlt
      go_enter Tryd.func74, Tryd.ntmps74
      go_wp2_with fail
      rw [show (k : Int) - (la : Int) = ((k - la : Nat) : Int) by omega]
      have h2 := HH3.out (.cells #[.int .i64 na, .int .i64 nc, .int .i64 (ST.pair a.st c.st).high, .int .i64 (la + c.st.bits.length), .int .i64 (a.st.bits.count true + c.st.bits.count true), .int .i64 la, .int .i64 (a.st.bits.count true), .pointer none] 88)
      have hih := HIC.out _ p C A xs root (vis + 1) (k - la) h2 HL.out (by omega) (by rw [HHC.out]; omega) (HSC.out _ (HG.out _)) HO.out.r (by omega) (by omega) (by rw [HHC.out]; omega) HAV.out.2.1 (fun t ht => Or.inr (by rw [← ht]; exact HAV.out.2.2.2))
      rw [HNC.out] at hih
      refine hih.mono ?_
      rintro e w3 ⟨T', C3, A3, xs3, v3, rfl, hP, hst, hmade⟩
      obtain ⟨q1, q2, q3⟩ := SubPre.right HO.out hP.pre h2 (HSA.out _ (HG.out _))
      have hx3 := q3.trans HX.out
      have hpre := SubPre.first (HG.out (.cells #[.int .i64 na, .int .i64 nc, .int .i64 (ST.pair a.st c.st).high, .int .i64 (la + c.st.bits.length), .int .i64 (a.st.bits.count true + c.st.bits.count true), .int .i64 la, .int .i64 (a.st.bits.count true), .pointer none] 88)) q1
      have h3 := hP.head
      have s3 := hP.sub
      have hv3 := hP.vis
      rw [HHC.out] at hv3
      have hdo := delT_ok HAV.out.2.1 HAV.out.2.2.2 (k := (k - la)) (by omega)
      have hfw := few_del (k := (k - la)) HAV.out.2.2.2 (by omega)
      rw [← hst, HHC.out] at hdo
      rw [← hst, HHC.out] at hfw
      obtain ⟨w1, w2, w4, w5⟩ := hdo
      have hTb : T'.st.bits.length + 1 = c.st.bits.length := by rw [hst, delT_bits (by omega), outL_len (by omega)]; omega
      have hbit : bitAt (TT.pair kn a c).st.bits k = bitAt c.st.bits (k - la) := by simp only [TT.st, ST.bits]; exact by rw [bitAt_app_r (by rw [HLA.out]; omega), HLA.out]
      obtain ⟨g3, rc3, cur3, r3, hgp3, _⟩ := h3.row (by have := (List.getElem?_eq_some_iff.1 hx3).1; omega)
      obtain ⟨_, fz3, hkx3, _⟩ := h3.node r3 hx3
      obtain ⟨e0, e1, _⟩ := h3.eight r3 hx3
      have z3 := fz3 (kn * 8 + 1)
      obtain ⟨h4, g4, _⟩ := h3.put r3 hx3 (i := 1) (v := .int .i64 T'.num) (x' := ⟨a.num, T'.num, (TT.pair kn a c).nd.height, (TT.pair kn a c).nd.n, (TT.pair kn a c).nd.ones, (TT.pair kn a c).nd.ln, (TT.pair kn a c).nd.lones, none⟩) (by omega) rfl
      have g4C : Chg C3 w3 _ := g4.mono (fun j e => by subst e; exact h3.rowC ⟨_, _, r3⟩)
      have hdis := TT.dis hpre.own.nn
      have st4 := s3.chgC h3 g4C (set_out (y := ⟨a.num, T'.num, (TT.pair kn a c).nd.height, (TT.pair kn a c).nd.n, (TT.pair kn a c).nd.ones, (TT.pair kn a c).nd.ln, (TT.pair kn a c).nd.lones, none⟩) hdis.2.1)
      have sc4 := q2.chgC h3 g4C (set_out (y := ⟨a.num, T'.num, (TT.pair kn a c).nd.height, (TT.pair kn a c).nd.n, (TT.pair kn a c).nd.ones, (TT.pair kn a c).nd.ln, (TT.pair kn a c).nd.lones, none⟩) hdis.1)
      have hp4 := hpre.next (T2 := .pair kn a T') (xs' := xs3.set kn ⟨a.num, T'.num, (TT.pair kn a c).nd.height, (TT.pair kn a c).nd.n, (TT.pair kn a c).nd.ones, (TT.pair kn a c).nd.ln, (TT.pair kn a c).nd.lones, none⟩) g4C (fun j hj => set_ne (by rintro rfl; exact hj TT.mem_k)) (by simp) (List.Perm.refl _) rfl rfl
      have sm1 : Small T'.st := ⟨by omega, by omega⟩
      have sm2 : Small a.st := ⟨by rw [HLA.out]; omega, by rw [HHA.out]; omega⟩
      have HB := Lib.hid (tMend_any h4 hp4.len (by omega) (by omega) (k := kn) (l := a) (r := T') ⟨_, set_get hx3, rfl, rfl, rfl, sc4, st4⟩ hp4.own (fun hf => by rw [HAV.out.2.2.1.not_few] at hf; cases hf) (fun hf => by rw [HHA.out]; have := hfw hf; omega) sm2 sm1)
      have H4 := Lib.hid h4
      have HP4 := Lib.hid hp4
      have HST := Lib.hid hst
      have HV3 := Lib.hid hv3
      have HW : Hid (T'.st.Avl ∧ T'.st.Less ∧ T'.st.high ≤ hc ∧ hc ≤ T'.st.high + 1 ∧ (T'.st.few = true → hc = 0)) := ⟨w1, w2, w4, w5, hfw⟩
      have HTB := Lib.hid hTb
      have HBIT := Lib.hid hbit
      have HMADE := Lib.hid hmade
      clear h2 hih hP hst q1 q2 q3 hx3 hpre h3 s3 fz3 h4 g4 g4C hdis st4 sc4 hTb hv3 w1 w2 w4 w5 hfw sm1 sm2 hp4 hbit hmade
      obtain ⟨nt, hnt⟩ : ∃ n, T'.num = n := ⟨_, rfl⟩
      rw [hnt]
      rw [hnt] at HB H4 HP4
      go_wp2_with fail
      refine HB.out.mono ?_
      rintro e w5 ⟨T1, C5, A5, xs5, v5, rfl, h5, p5, hst5, v51, v52, s5, made5⟩
      have hmk := mend_ok (l := a.st) (r := T'.st) HAV.out.1 HW.out.1 HAV.out.2.2.1.less HW.out.2.1 (by have := HW.out; have := HHA.out; omega) (by have := HW.out; have := HHA.out; omega) (fun hf => by
        rcases hf with hf | hf
        · rw [HAV.out.2.2.1.not_few] at hf; cases hf
        · have h1 := ST.few_high hf; have h2 := HW.out.2.2.2.2 hf; have := HHA.out; omega)
      have hp5 : SubPre w w5 C A xs (.pair kn a c) T1 C5 A5 xs5 := HP4.out.cat p5
      obtain ⟨n1, hn1⟩ : ∃ n, T1.num = n := ⟨_, rfl⟩
      rw [hn1]
      cases T1 with
      | leaf k1 q1 l1 =>
        obtain rfl : k1 = n1 := hn1
        obtain ⟨g5, rc5, cur5, r5, _⟩ := h5.row (by have := (List.getElem?_eq_some_iff.1 s5.1).1; omega)
        obtain ⟨_, _, _, _, _, _, _, y7⟩ := h5.eight r5 s5.1
        obtain ⟨_, _, hk5, _⟩ := h5.node r5 s5.1
        change w5.cell? ⟨g5, k1 * 8 + 7, none⟩ = some (.pointer (some ⟨q1, 0, none⟩)) at y7
        change k1 < xs5.length at hk5
        have H5 := Lib.hid h5
        have P5 := Lib.hid hp5
        have HST5 := Lib.hid hst5
        have S5 := Lib.hid s5
        have HM5 := Lib.hid made5
        clear h5 hp5 p5 hst5 s5 hmk made5
        go_wp2_with fail
        go_ret2
        refine ⟨.leaf k1 q1 l1, C5, A5, xs5, v5, by rw [HBIT.out]; rfl, SubPost.of H5.out S5.out P5.out ?_, ?_, HM5.out.trans HMADE.out⟩
        · have := HV3.out
          simp only [TT.st, ST.high]
          rw [HHA.out, HHC.out]
          exact ⟨by omega, by omega⟩
        · have h1 := HST5.out
          have h2 := HST.out
          simp only [TT.st, delT] at h1 h2 ⊢
          rw [if_neg (by rw [HLA.out]; exact hlt), HLA.out, ← h2, ← h1]; rfl
      | pair k1 a1 b1 =>
        obtain rfl : k1 = n1 := hn1
        obtain ⟨x5, x51, x52, x53, x54, sa5, sb5⟩ := s5
        obtain ⟨g5, rc5, cur5, r5, _⟩ := h5.row (by have := (List.getElem?_eq_some_iff.1 x51).1; omega)
        obtain ⟨_, _, _, _, _, _, _, y7⟩ := h5.eight r5 x51
        obtain ⟨_, _, hk5, _⟩ := h5.node r5 x51
        rw [x54] at y7
        change w5.cell? ⟨g5, k1 * 8 + 7, none⟩ = some (.pointer none) at y7
        have hsm : Small (.pair a1.st b1.st) := by
          have e : ST.pair a1.st b1.st = mendT (.pair a.st T'.st) := hst5
          have hb5 := mend_bits (.pair a.st T'.st)
          rw [← e] at hb5 hmk
          have hl5 := congrArg List.length hb5
          have hTB := HTB.out
          have hw3 := HW.out.2.2.1
          obtain ⟨_, _, _, _, _, m5, _⟩ := hmk
          have hA := HHA.out
          have hC := HHC.out
          have hL := HLA.out
          simp only [ST.bits, List.length_append] at hl5
          refine ⟨by simp only [ST.bits, List.length_append]; omega, by simp only [ST.high]; omega⟩
        have HB6 := Lib.hid (tBal_any h5 (by have := HV3.out; omega) (by have := HV3.out; omega) (k := k1) (x := x5) (a := a1) (c := b1) x51 x54 x52 x53 sa5 sb5 hp5.own.nn hsm)
        have H5 := Lib.hid h5
        have P5 := Lib.hid hp5
        have HST5 := Lib.hid hst5
        have HM5 := Lib.hid made5
        clear h5 hp5 p5 hst5 sa5 sb5 hmk made5 hsm x51 x52 x53 x54
        go_wp2_with fail
        refine HB6.out.mono ?_
        rintro e w6 hB
        obtain ⟨T2, xs6, v6, rfl, h6, s6, hst6, hn6, hb6, kp6, ln6, hv6⟩ := hB.ex
        have H6 := Lib.hid h6
        have S6 := Lib.hid s6
        have HST6 := Lib.hid hst6
        have HN6 := Lib.hid hn6
        have HB7 := Lib.hid hb6
        have KP6 := Lib.hid kp6
        have LN6 := Lib.hid ln6
        have HV6 := Lib.hid hv6
        have C6 := Lib.hid hB.chg
        clear hB h6 s6 hst6 hn6 hb6 kp6 ln6 hv6
        go_wp2_with fail
        go_ret2
        have hx6 := P5.out.next (T2 := T2) (xs' := xs6) C6.out KP6.out LN6.out HN6.out HB7.out (by rw [HST6.out, bal_size]; rfl)
        refine ⟨T2, C5, A5, xs6, v6, by rw [HBIT.out]; rfl, SubPost.of H6.out S6.out hx6 ?_, ?_, HM5.out.trans HMADE.out⟩
        · have := HV3.out; have := HV6.out
          simp only [TT.st, ST.high]
          rw [HHA.out, HHC.out]
          exact ⟨by omega, by omega⟩
        · have h1 := HST5.out
          have h2 := HST.out
          simp only [TT.st, delT] at h1 h2 ⊢
          rw [if_neg (by rw [HLA.out]; exact hlt), HLA.out, ← h2, HST6.out, ← h1]
end Go.Proofs.YtcppgpjodfeigaaDoor

namespace Go.Proofs.YtcppgpjodfeigaaDoor
set_option linter.unusedVariables false
set_option linter.unusedSimpArgs false
open Go.RowKit

theorem tDelete_nil (w : World) (k : Int) : Calls Tryd.prog 32 #[.pointer none, .int .i64 k] w fun e w' => e = .returned (.tuple #[.bool false, .int .i64 6]) ∧ w = w' := by
  go_enter Tryd.func32, Tryd.ntmps32
  go_wp2_with fail
  refine (tHas_nil w k).mono ?_
  rintro e w' ⟨rfl, rfl⟩
  go_wp2_with fail
  go_ret2
  exact ⟨rfl, rfl⟩
theorem tDelete_bad {w : World} {p : Nat} {C : Nat → Prop} {A : Ar} {xs : List Nd} {vis : Int} {O : Option TT} (h : Head w p C A xs (onum O) vis) (hS : OSub w xs O) (k : Int) (hk : k < 0 ∨ ((obits O).length : Int) ≤ k) :
    Calls Tryd.prog 32 #[.pointer (some ⟨p, 0, none⟩), .int .i64 k] w fun e w' => e = .returned (.tuple #[.bool false, .int .i64 2]) ∧ Head w' p C A xs (onum O) 0 ∧ Chg C w w' := by
  have hh := tHas_any h hS k
  have e0 : hasL (obits O) k = 2 := by unfold hasL; rw [if_neg (by omega)]
  rw [e0] at hh
  have HH := Lib.hid hh
  clear hh h hS e0
  go_enter Tryd.func32, Tryd.ntmps32
  go_wp2_with fail
  refine HH.out.mono ?_
  rintro e w1 ⟨rfl, hH1, hC1⟩
  have H1 := Lib.hid hH1
  have C1 := Lib.hid hC1
  clear hH1 hC1
  go_wp2_with fail
  go_ret2
  exact ⟨rfl, H1.out, C1.out⟩
theorem tGet_nil (w : World) (k : Int) : Calls Tryd.prog 19 #[.pointer none, .int .i64 k] w fun e w' => e = .returned (.tuple #[.bool false, .int .i64 6]) ∧ w = w' := by
  go_enter Tryd.func19, Tryd.ntmps19
  go_wp2_with fail
  refine (tHas_nil w k).mono ?_
  rintro e w' ⟨rfl, rfl⟩
  go_wp2_with fail
  go_ret2
  exact ⟨rfl, rfl⟩
theorem tGet_bad {w : World} {p : Nat} {C : Nat → Prop} {A : Ar} {xs : List Nd} {vis : Int} {O : Option TT} (h : Head w p C A xs (onum O) vis) (hS : OSub w xs O) (k : Int) (hk : k < 0 ∨ ((obits O).length : Int) ≤ k) :
    Calls Tryd.prog 19 #[.pointer (some ⟨p, 0, none⟩), .int .i64 k] w fun e w' => e = .returned (.tuple #[.bool false, .int .i64 2]) ∧ Head w' p C A xs (onum O) 0 ∧ Chg C w w' := by
  have hh := tHas_any h hS k
  have e0 : hasL (obits O) k = 2 := by unfold hasL; rw [if_neg (by omega)]
  rw [e0] at hh
  have HH := Lib.hid hh
  clear hh h hS e0
  go_enter Tryd.func19, Tryd.ntmps19
  go_wp2_with fail
  refine HH.out.mono ?_
  rintro e w1 ⟨rfl, hH1, hC1⟩
  have H1 := Lib.hid hH1
  have C1 := Lib.hid hC1
  clear hH1 hC1
  go_wp2_with fail
  go_ret2
  exact ⟨rfl, H1.out, C1.out⟩

/-- What Delete leaves. -/
def DelPost (w w' : World) (p : Nat) (C : Nat → Prop) (A : Ar) (xs : List Nd) (T : TT) (k : Nat) (e : Ending) : Prop :=
  e = .returned (.tuple #[.bool (bitAt T.st.bits k), .int .i64 0]) ∧ ∃ (T' : TT) (C' : Nat → Prop) (A' : Ar) (xs' : List Nd) (v' : Int), T'.st = delT T.st k ∧ 0 ≤ v' ∧ v' ≤ 7 * T.st.high + 2 ∧ (∀ j, C' j → C j ∨ w.heap.size ≤ j) ∧ (∀ q ∈ T'.bl, q ∈ T.bl ∨ w.heap.size ≤ q) ∧
    xs'.length = A'.T.length ∧ A'.M = A.M ∧ A'.T.length = A.T.length ∧ Chg (fun j => C j ∨ j ∈ T.bl) w w' ∧
    ((T'.st.bits.length ≠ 0 ∧ Head w' p C' A' xs' T'.num v' ∧ Sub w' xs' T' ∧ Own A' T' ∧ A'.live + T.st.size = A.live + T'.st.size) ∨
     (T'.st.bits.length = 0 ∧ Head w' p C' A' xs' (-1) v' ∧ A'.live + 1 + T.st.size = A.live + T'.st.size))

set_option maxHeartbeats 3200000 in
set_option maxRecDepth 100000 in
theorem tDelete_some {w : World} {p : Nat} {C : Nat → Prop} {A : Ar} {xs : List Nd} {vis : Int} {T : TT} (h : Head w p C A xs T.num vis) (hS : Sub w xs T) (hlen : xs.length = A.T.length) (hO : Own A T) (hb1 : T.st.bits.length ≤ 8589934592) (hh : T.st.high ≤ 1000000000) (hav : T.st.Avl) (hfl : T.st.isLeaf = true ∨ T.st.Fill) (k : Nat) (hk : k < T.st.bits.length) :
    Calls Tryd.prog 32 #[.pointer (some ⟨p, 0, none⟩), .int .i64 k] w fun e w' => DelPost w w' p C A xs T k e := by
  have h0 := tHas_any (o := some T) h hS k
  have e0 : hasL (obits (some T)) k = 0 := by
    have : ((k : Int) < ((obits (some T)).length : Int)) := by show (k : Int) < (T.st.bits.length : Int); omega
    unfold hasL; rw [if_pos (by omega)]
  rw [e0] at h0
  have HH := Lib.hid h0
  have HD : Hid (∀ w1, Head w1 p C A xs T.num 0 → Chg C w w1 → Calls Tryd.prog 74 #[.pointer (some ⟨p, 0, none⟩), .int .i64 T.num, .int .i64 k] w1 fun e w' => DropPost w1 w' p C A xs T.num 0 T k e) :=
    fun w1 h1 c1 => tDrop_any T w1 p C A xs T.num 0 k h1 hlen (by omega) (by omega) (hS.chgC h c1 (fun _ _ => rfl)) hO hk hb1 hh hav (fun t ht => by rw [← ht]; exact hfl)
  clear h0 h hS e0 hlen hO hav hfl
  go_enter Tryd.func32, Tryd.ntmps32
  go_wp2_with fail
  refine HH.out.mono ?_
  rintro e w1 ⟨rfl, hH1, hC1⟩
  have hH1 : Head w1 p C A xs T.num 0 := hH1
  have c2 := hH1.cells.2.1
  have HDD := Lib.hid (HD.out w1 hH1 hC1)
  have C1 := Lib.hid hC1
  clear hH1 hC1
  obtain ⟨nt, hnt⟩ : ∃ n, T.num = n := ⟨_, rfl⟩
  rw [hnt] at c2 HDD
  clear hnt
  go_wp2_with fail
  refine HDD.out.mono ?_
  rintro e w2 ⟨T', C2, A2, xs2, v2, rfl, hP, hst, hmade⟩
  have h2 := hP.head
  have hr := hP.sub.root
  obtain ⟨g, rc, cur, r2, hgp, _⟩ := h2.row (by have := (List.getElem?_eq_some_iff.1 hr).1; omega)
  obtain ⟨_, _, hkx, _⟩ := h2.node r2 hr
  obtain ⟨_, _, _, a3, _⟩ := h2.eight r2 hr
  rw [T'.nd_n] at a3
  obtain ⟨_, b2, _, fz⟩ := h2.cells
  have f2 := fz 2
  obtain ⟨n', hn'⟩ : ∃ n, T'.num = n := ⟨_, rfl⟩
  obtain ⟨m', hm'⟩ : ∃ n, T'.st.bits.length = n := ⟨_, rfl⟩
  have hF : ∃ ap, (w2.setCell ⟨p, 2, none⟩ (.int .i64 n')).cell? ⟨p, 0, none⟩ = some (.pointer (some ⟨ap, 0, none⟩)) ∧ Calls Tryd.prog 75 #[.pointer (some ⟨ap, 0, none⟩), .slice (some ⟨(w2.setCell ⟨p, 2, none⟩ (.int .i64 n')).heap.size, 0, none⟩) 1 1] ((w2.setCell ⟨p, 2, none⟩ (.int .i64 n')).alloc (.cells #[.int .i64 n'] 3)) fun e w' =>
      e = .returned (.int .i64 0) ∧ ∃ C', Head w' p C' (A2.fr1 n') xs2 n' v2 ∧ HStep (w2.setCell ⟨p, 2, none⟩ (.int .i64 n')) w' C2 C' := by
    refine tFree1 (h2.set2 n') ?_
    rw [← hn']; exact hP.own.tk _ T'.num_mem
  obtain ⟨ap, p0, hfr⟩ := hF
  have hse : (w2.setCell ⟨p, 2, none⟩ (.int .i64 n')).heap.size = w2.heap.size := by simp [World.setCell]
  rw [hse] at hfr
  have p0' : w2.cell? ⟨p, 0, none⟩ = some (.pointer (some ⟨ap, 0, none⟩)) := by
    obtain ⟨⟨ap', q0⟩, _⟩ := h2.cells
    have q1 : (w2.setCell ⟨p, 2, none⟩ (.int .i64 n')).cell? ⟨p, 0, none⟩ = some (.pointer (some ⟨ap', 0, none⟩)) := by clear p0; go_simp
    rw [q1] at p0
    rw [q0]; exact p0
  rw [hn'] at hkx a3
  rw [hm'] at a3
  have H2 := Lib.hid h2
  have HP := Lib.hid hP
  have HST := Lib.hid hst
  have HMD := Lib.hid hmade
  have HN' := Lib.hid hn'
  have HM' := Lib.hid hm'
  have HFR := Lib.hid hfr
  clear h2 hP hst hmade hr fz hfr p0 hse
  rw [HN'.out]
  clear hn' hm'
  have c2C : Hid (Chg C2 w2 (w2.setCell ⟨p, 2, none⟩ (.int .i64 n'))) := Chg.refl.setCell _ (Or.inl H2.out.self) _
  by_cases hz : m' = 0
  · have d1 : ((m' : Int) == 0) = true := by rw [beq_iff_eq]; omega
    have HZ := Lib.hid hz
    clear hz
    go_wp2_with fail
    refine HFR.out.mono ?_
    rintro e w4 ⟨rfl, C4, h4, s4⟩
    obtain ⟨_, b4, _, fz4⟩ := h4.cells
    have f4 := fz4 2
    have H4 := Lib.hid h4
    have S4 := Lib.hid s4
    clear h4 s4 fz4
    go_wp2_with fail
    go_ret2
    have hv := HP.out.vis
    have c5 : Chg C4 w4 (w4.setCell ⟨p, 2, none⟩ (.int .i64 (-1))) := Chg.refl.setCell _ (Or.inl H4.out.self) _
    have hpc := (HP.out.chg.trans c2C.out (fun j hj => (HP.out.newC j hj).imp Or.inl id))
    have s1 := C1.out.size
    have s2 := hpc.size
    have gall : Chg (fun j => C j ∨ j ∈ T.bl) w (w4.setCell ⟨p, 2, none⟩ (.int .i64 (-1))) := ((C1.out.mono (fun j hj => Or.inl hj)).trans hpc (fun j hj => Or.inl hj)).trans (S4.out.chg.trans c5 S4.out.new) (fun j hj => (HP.out.newC j hj).imp Or.inl (fun h => by omega))
    refine ⟨rfl, T', C4, A2.fr1 n', xs2, v2, HST.out, by omega, by omega, fun j hj => ?_, fun q hq => (HP.out.newB q hq).imp id (fun h => by omega), ?_, HP.out.max, ?_, gall, Or.inr ⟨by rw [HM'.out, HZ.out], H4.out.set2 (-1), ?_⟩⟩
    · rcases S4.out.new j hj with e | e
      · exact (HP.out.newC j e).imp id (fun h => by omega)
      · right; omega
    · rw [HP.out.len]; simp [Ar.fr1]
    · rw [← HMD.out]; simp [Ar.fr1]
    · have h1 := HP.out.live
      have h2 := Ar.fr1_live H2.out.arOk (x := n') (by rw [← HN'.out]; exact HP.out.own.tk _ T'.num_mem)
      omega
  · have d1 : ((m' : Int) == 0) = false := by rw [beq_eq_false_iff_ne]; omega
    have HZ := Lib.hid hz
    clear hz
    go_wp2_with fail
    go_ret2
    have hv := HP.out.vis
    have s1 := C1.out.size
    have hpc := (HP.out.chg.trans c2C.out (fun j hj => (HP.out.newC j hj).imp Or.inl id))
    refine ⟨rfl, T', C2, A2, xs2, v2, HST.out, by omega, by omega, fun j hj => (HP.out.newC j hj).imp id (fun h => by omega), fun q hq => (HP.out.newB q hq).imp id (fun h => by omega), HP.out.len, HP.out.max, HMD.out, (C1.out.mono (fun j hj => Or.inl hj)).trans hpc (fun j hj => Or.inl hj), Or.inl ⟨by rw [HM'.out]; exact HZ.out, by rw [HN'.out]; exact H2.out.set2 n', HP.out.sub.chgC H2.out c2C.out (fun _ _ => rfl), HP.out.own, HP.out.live⟩⟩

end Go.Proofs.YtcppgpjodfeigaaDoor

namespace Go.Proofs.YtcppgpjodfeigaaDoor
set_option linter.unusedVariables false
set_option linter.unusedSimpArgs false
open Go.RowKit

set_option maxHeartbeats 3200000 in
set_option maxRecDepth 100000 in
theorem tAllN_any (T : TT) : ∀ (w : World) (p : Nat) (C : Nat → Prop) (A : Ar) (xs : List Nd) (root vis : Int), Head w p C A xs root vis → Sub w xs T → T.st.bits.length ≤ 8589934592 →
    Calls Tryd.prog 73 #[.pointer (some ⟨p, 0, none⟩), .int .i64 T.num] w (GivesB w.heap.size w T.st.bits) := by
  induction T with
  | leaf kn q l =>
    intro w p C A xs root vis h hS hb
    change Calls Tryd.prog _ #[.pointer (some ⟨p, 0, none⟩), .int .i64 (kn : Int)] w _
    have hx := hS.1
    obtain ⟨g, rc, cur, c1, hgp, _⟩ := h.row (by have := (List.getElem?_eq_some_iff.1 hx).1; omega)
    obtain ⟨_, _, hkx, _⟩ := h.node c1 hx
    obtain ⟨_, _, _, _, _, _, _, a7⟩ := h.eight c1 hx
    change w.cell? ⟨g, kn * 8 + 7, none⟩ = some (.pointer (some ⟨q, 0, none⟩)) at a7
    have HB := Lib.hid hS.2
    have d1 : ((kn : Int) == -1) = false := by rw [beq_eq_false_iff_ne]; omega
    clear h hS hx
    go_enter Tryd.func73, Tryd.ntmps73
    go_wp2_with fail
    refine (blkAll HB.out).mono ?_
    rintro e w2 ⟨v, rfl, hown, hb2⟩
    have HO := Lib.hid hown
    have HW := Lib.hid hb2
    clear hown hb2
    go_wp2_with fail
    go_ret
    exact ⟨v, rfl, HO.out, HW.out⟩
  | pair kn a c iha ihc =>
    intro w p C A xs root vis h hS hb
    change Calls Tryd.prog _ #[.pointer (some ⟨p, 0, none⟩), .int .i64 (kn : Int)] w _
    have hx := hS.1
    obtain ⟨g, rc, cur, c1, hgp, hCg, _⟩ := h.row (by have := (List.getElem?_eq_some_iff.1 hx).1; omega)
    obtain ⟨_, _, hkx, _⟩ := h.node c1 hx
    obtain ⟨a0, a1, _, _, _, _, _, a7⟩ := h.eight c1 hx
    change w.cell? ⟨g, kn * 8 + 7, none⟩ = some (.pointer none) at a7
    change w.cell? ⟨g, kn * 8, none⟩ = some (.int .i64 (a.num : Int)) at a0
    change w.cell? ⟨g, kn * 8 + 1, none⟩ = some (.int .i64 (c.num : Int)) at a1
    have hpw := h.lt p h.self
    have hgw := h.lt g hCg
    have d1 : ((kn : Int) == -1) = false := by rw [beq_eq_false_iff_ne]; omega
    have hlen : a.st.bits.length + c.st.bits.length ≤ 8589934592 := by simpa [TT.st, ST.bits] using hb
    have HIA := Lib.hid (iha w.drew p C A xs root vis h.drew (hS.2.1.keep (fun _ _ => rfl) (fun _ _ => rfl)) (by omega))
    have HIC : Hid (∀ w', Below w.heap.size w w' → Calls Tryd.prog 73 #[.pointer (some ⟨p, 0, none⟩), .int .i64 c.num] w' (GivesB w'.heap.size w' c.st.bits)) := fun w' hw =>
      ihc w' p C A xs root vis (h.below hw) (hS.2.2.chgC h (Chg.of_below hw) (fun _ _ => rfl)) (by omega)
    clear h hS hx hCg iha ihc
    obtain ⟨na, hna⟩ : ∃ n, a.num = n := ⟨_, rfl⟩
    obtain ⟨nc, hnc⟩ : ∃ n, c.num = n := ⟨_, rfl⟩
    rw [hna] at a0 HIA
    rw [hnc] at a1 HIC
    obtain ⟨la, hla⟩ : ∃ l, a.st.bits = l := ⟨_, rfl⟩
    obtain ⟨lc, hlc⟩ : ∃ l, c.st.bits = l := ⟨_, rfl⟩
    rw [hla] at hlen HIA
    rw [hlc] at hlen HIC
    have HBE : Hid ((TT.pair kn a c).st.bits = la ++ lc) := by show a.st.bits ++ c.st.bits = _; rw [hla, hlc]
    clear hna hnc hla hlc hb
    go_enter Tryd.func73, Tryd.ntmps73
    go_wp2_with fail
    -- REGION all
    refine reg_start (fun w' => w'.cell? ⟨p, 1, none⟩ = some (.slice (some ⟨g, 0, none⟩) xs.length rc) ∧ w'.cell? ⟨g, kn * 8, none⟩ = some (.int .i64 na) ∧ w'.cell? ⟨g, kn * 8 + 1, none⟩ = some (.int .i64 nc)) (by kernel_rfl) (⟨c1, a0, a1⟩) (fun hHeld => ?_)
    refine reg_take (i := 0) (v := ?val0) rfl (by kernel_rfl) rfl hHeld ?yal0 ?ral0
    case yal0 => (intro w hSw; (try dsimp only at hSw); go_simp; all_goals with_reducible rfl)
    try simp only [Act.put, List.setIfInBounds_toArray, List.set_cons_zero, List.set_cons_succ]
    refine reg_take (i := 1) (v := ?val1) rfl (by kernel_rfl) rfl hHeld ?yal1 ?ral1
    case yal1 => (intro w hSw; (try dsimp only at hSw); go_simp; all_goals with_reducible rfl)
    try simp only [Act.put, List.setIfInBounds_toArray, List.set_cons_zero, List.set_cons_succ]
    refine reg_take (i := 2) (v := ?val2) rfl (by kernel_rfl) rfl hHeld ?yal2 ?ral2
    case yal2 => (intro w hSw; (try dsimp only at hSw); go_simp; all_goals with_reducible rfl)
    try simp only [Act.put, List.setIfInBounds_toArray, List.set_cons_zero, List.set_cons_succ]
    refine reg_take (i := 3) (v := ?val3) rfl (by kernel_rfl) rfl hHeld ?yal3 ?ral3
    case yal3 => (intro w hSw; (try dsimp only at hSw); go_simp; all_goals with_reducible rfl)
    try simp only [Act.put, List.setIfInBounds_toArray, List.set_cons_zero, List.set_cons_succ]
    refine reg_take (i := 4) (v := ?val4) rfl (by kernel_rfl) rfl hHeld ?yal4 ?ral4
    case yal4 => (intro w hSw; (try dsimp only at hSw); go_simp; all_goals with_reducible rfl)
    try simp only [Act.put, List.setIfInBounds_toArray, List.set_cons_zero, List.set_cons_succ]
    refine reg_take (i := 5) (v := ?val5) rfl (by kernel_rfl) rfl hHeld ?yal5 ?ral5
    case yal5 => (intro w hSw; (try dsimp only at hSw); go_simp; all_goals with_reducible rfl)
    try simp only [Act.put, List.setIfInBounds_toArray, List.set_cons_zero, List.set_cons_succ]
    refine reg_take (i := 6) (v := ?val6) rfl (by kernel_rfl) rfl hHeld ?yal6 ?ral6
    case yal6 => (intro w hSw; (try dsimp only at hSw); go_simp; all_goals with_reducible rfl)
    try simp only [Act.put, List.setIfInBounds_toArray, List.set_cons_zero, List.set_cons_succ]
    refine reg_take (i := 7) (v := ?val7) rfl (by kernel_rfl) rfl hHeld ?yal7 ?ral7
    case yal7 => (intro w hSw; (try dsimp only at hSw); go_simp; all_goals with_reducible rfl)
    try simp only [Act.put, List.setIfInBounds_toArray, List.set_cons_zero, List.set_cons_succ]
    refine reg_take (i := 8) (v := ?val8) rfl (by kernel_rfl) rfl hHeld ?yal8 ?ral8
    case yal8 => (intro w hSw; (try dsimp only at hSw); go_simp; all_goals with_reducible rfl)
    try simp only [Act.put, List.setIfInBounds_toArray, List.set_cons_zero, List.set_cons_succ]
    refine reg_take (i := 10) (v := ?val10) rfl (by kernel_rfl) rfl hHeld ?yal10 ?ral10
    case yal10 => (intro w hSw; (try dsimp only at hSw); go_simp; all_goals with_reducible rfl)
    try simp only [Act.put, List.setIfInBounds_toArray, List.set_cons_zero, List.set_cons_succ]
    refine reg_take (i := 11) (v := ?val11) rfl (by kernel_rfl) rfl hHeld ?yal11 ?ral11
    case yal11 => (intro w hSw; (try dsimp only at hSw); go_simp; all_goals with_reducible rfl)
    try simp only [Act.put, List.setIfInBounds_toArray, List.set_cons_zero, List.set_cons_succ]
    refine reg_take (i := 12) (v := ?val12) rfl (by kernel_rfl) rfl hHeld ?yal12 ?ral12
    case yal12 => (intro w hSw; (try dsimp only at hSw); go_simp; all_goals with_reducible rfl)
    try simp only [Act.put, List.setIfInBounds_toArray, List.set_cons_zero, List.set_cons_succ]
    refine reg_take (i := 13) (v := ?val13) rfl (by kernel_rfl) rfl hHeld ?yal13 ?ral13
    case yal13 => (intro w hSw; (try dsimp only at hSw); go_simp; all_goals with_reducible rfl)
    try simp only [Act.put, List.setIfInBounds_toArray, List.set_cons_zero, List.set_cons_succ]
    refine reg_take (i := 14) (v := ?val14) rfl (by kernel_rfl) rfl hHeld ?yal14 ?ral14
    case yal14 => (intro w hSw; (try dsimp only at hSw); go_simp; all_goals with_reducible rfl)
    try simp only [Act.put, List.setIfInBounds_toArray, List.set_cons_zero, List.set_cons_succ]
    refine reg_take (i := 15) (v := ?val15) rfl (by kernel_rfl) rfl hHeld ?yal15 ?ral15
    case yal15 => (intro w hSw; (try dsimp only at hSw); go_simp; all_goals with_reducible rfl)
    try simp only [Act.put, List.setIfInBounds_toArray, List.set_cons_zero, List.set_cons_succ]
    refine reg_take (i := 16) (v := ?val16) rfl (by kernel_rfl) rfl hHeld ?yal16 ?ral16
    case yal16 => (intro w hSw; (try dsimp only at hSw); go_simp; all_goals with_reducible rfl)
    try simp only [Act.put, List.setIfInBounds_toArray, List.set_cons_zero, List.set_cons_succ]
    refine reg_take (i := 17) (v := ?val17) rfl (by kernel_rfl) rfl hHeld ?yal17 ?ral17
    case yal17 => (intro w hSw; (try dsimp only at hSw); go_simp; all_goals with_reducible rfl)
    try simp only [Act.put, List.setIfInBounds_toArray, List.set_cons_zero, List.set_cons_succ]
    refine reg_take (i := 18) (v := ?val18) rfl (by kernel_rfl) rfl hHeld ?yal18 ?ral18
    case yal18 => (intro w hSw; (try dsimp only at hSw); go_simp; all_goals with_reducible rfl)
    try simp only [Act.put, List.setIfInBounds_toArray, List.set_cons_zero, List.set_cons_succ]
    refine reg_loud (i := 9) rfl (by kernel_rfl) rfl (fun K hK => ?_)
    go_simp
    ((with_reducible refine HIA.out.mono ?_))
    rintro e w2 ⟨v2, rfl, hown2, hb2⟩
    have hbw2 : Below w.heap.size w w2 := ⟨hb2.os, hb2.tape, hb2.output, hb2.size, hb2.block⟩
    have hown2 : w2.ownsRow w.heap.size 4 1 v2 la.length (la.map Value.bool) := hown2
    have HO2 := Lib.hid hown2
    have hs2 := hbw2.size
    have HC2 := Lib.hid (HIC.out w2 hbw2)
    have HBW2 := Lib.hid hbw2
    clear hown2 hb2 hbw2
    refine hK.out _ _ (⟨(HBW2.out.cell (p := ⟨p, 1, none⟩) hpw).trans c1, (HBW2.out.cell (p := ⟨g, kn * 8, none⟩) hgw).trans a0, (HBW2.out.cell (p := ⟨g, kn * 8 + 1, none⟩) hgw).trans a1⟩) (fun hNew => ?_)
    clear hK K hHeld
    have hHeld := hNew
    clear hNew
    try simp only [Act.put, List.setIfInBounds_toArray, List.set_cons_zero, List.set_cons_succ]
    refine reg_loud (i := 19) rfl (by kernel_rfl) rfl (fun K hK => ?_)
    go_simp
    ((with_reducible refine HC2.out.mono ?_))
    rintro e w3 ⟨v3, rfl, hown3, hb3⟩
    have hbw3 : Below w.heap.size w w3 := HBW2.out.trans (hb3.mono hs2)
    have hown := own_below HO2.out hb3 (fun k hk => (own_lt HO2.out hk).2)
    obtain ⟨a3, c3, rfl, hnil3, _⟩ := own_slice hown3
    have HO3 := Lib.hid hown
    have HR3 := Lib.hid (readsV_own hown3)
    have HN3 := Lib.hid hnil3
    have HBW3 := Lib.hid hbw3
    have hs3 := hbw3.size
    clear hown3 hown hb3 hnil3 hbw3
    refine hK.out _ _ (⟨(HBW3.out.cell (p := ⟨p, 1, none⟩) hpw).trans c1, (HBW3.out.cell (p := ⟨g, kn * 8, none⟩) hgw).trans a0, (HBW3.out.cell (p := ⟨g, kn * 8 + 1, none⟩) hgw).trans a1⟩) (fun hNew => ?_)
    clear hK K hHeld
    have hHeld := hNew
    clear hNew
    try simp only [Act.put, List.setIfInBounds_toArray, List.set_cons_zero, List.set_cons_succ]
    refine reg_loud (i := 20) rfl (by kernel_rfl) rfl (fun K hK => ?_)
    refine wp_appendL _ _ 23 rfl w.heap.size 4 Tryd.infoBoolR Tryd.underlying23 rfl _ la.length _ rfl HO3.out a3 lc.length c3 (lc.map Value.bool) rfl (by simp) HN3.out HR3.out.hnews (oneB _) (by unfold maxLen; omega) (by omega) hs3 ?_
    intro a4 c4 w4 hown4 hgrow _
    have hbw4 : Below w.heap.size w w4 := HBW3.out.trans ((Below.refl _ _).grown hgrow hs3 (fun k hk => (own_lt HO3.out hk).1))
    have HBW := Lib.hid hbw4
    rw [← List.map_append] at hown4
    have HOW : Hid (w4.ownsRow w.heap.size 4 1 (.slice a4 (la.length + lc.length) c4) (la ++ lc).length ((la ++ lc).map Value.bool)) := by rw [List.length_append]; exact hown4
    clear hown4 hgrow hbw4
    refine hK.out _ _ (⟨(HBW.out.cell (p := ⟨p, 1, none⟩) hpw).trans c1, (HBW.out.cell (p := ⟨g, kn * 8, none⟩) hgw).trans a0, (HBW.out.cell (p := ⟨g, kn * 8 + 1, none⟩) hgw).trans a1⟩) (fun hNew => ?_)
    clear hK K hHeld
    have hHeld := hNew
    clear hNew
    try simp only [Act.put, List.setIfInBounds_toArray, List.set_cons_zero, List.set_cons_succ]
    refine reg_take (i := 21) (v := ?val21) rfl (by kernel_rfl) rfl hHeld ?yal21 ?ral21
    case yal21 => (intro w hSw; (try dsimp only at hSw); go_simp; all_goals with_reducible rfl)
    try simp only [Act.put, List.setIfInBounds_toArray, List.set_cons_zero, List.set_cons_succ]
    refine reg_done (by kernel_rfl) ?_ _
    -- END OF REGION all
    clear hHeld
    go_wp2_with fail
    go_ret
    rw [HBE.out]
    exact ⟨_, rfl, HOW.out, HBW.out⟩

end Go.Proofs.YtcppgpjodfeigaaDoor

namespace Go.Proofs.YtcppgpjodfeigaaDoor
set_option linter.unusedVariables false
set_option linter.unusedSimpArgs false
open Go.RowKit

theorem tAllN_none (w : World) (p : Nat) : Calls Tryd.prog 73 #[.pointer (some ⟨p, 0, none⟩), .int .i64 (-1)] w fun e w' => e = .returned (.slice none 0 0) ∧ w = w' := by
  go_enter Tryd.func73, Tryd.ntmps73
  go_wp2_with fail
  go_ret
  exact ⟨rfl, rfl⟩
theorem tAll_nil (w : World) : Calls Tryd.prog 31 #[.pointer none] w fun e w' => e = .returned (.slice none 0 0) ∧ w = w' := by
  go_enter Tryd.func31, Tryd.ntmps31
  go_wp2_with fail
  go_ret
  exact ⟨rfl, rfl⟩
set_option maxRecDepth 100000 in
theorem tAll_any {w : World} {p : Nat} {C : Nat → Prop} {A : Ar} {xs : List Nd} {vis : Int} {O : Option TT} (h : Head w p C A xs (onum O) vis) (hS : OSub w xs O) (hb : (obits O).length ≤ 8589934592) :
    Calls Tryd.prog 31 #[.pointer (some ⟨p, 0, none⟩)] w (GivesB w.heap.size w (obits O)) := by
  have c2 := h.cells.2.1
  cases O with
  | none =>
    have c2 : w.cell? ⟨p, 2, none⟩ = some (.int .i64 (-1)) := c2
    clear h hS hb
    have HG : Hid (GivesB w.heap.size w (obits none) (.returned (.slice none 0 0)) w) := ⟨_, rfl, World.ownsRow_nil _ _ _ _, Below.refl _ _⟩
    go_enter Tryd.func31, Tryd.ntmps31
    go_wp2_with fail
    refine (tAllN_none _ p).mono ?_
    rintro e w' ⟨rfl, rfl⟩
    go_wp2_with fail
    go_ret
    exact HG.out
  | some T =>
    change w.cell? ⟨p, 2, none⟩ = some (.int .i64 (T.num : Int)) at c2
    have HA : Hid (Calls Tryd.prog 73 #[.pointer (some ⟨p, 0, none⟩), .int .i64 (T.num : Int)] w (GivesB w.heap.size w T.st.bits)) := tAllN_any T w p C A xs _ vis h hS hb
    change Calls _ _ _ _ (GivesB w.heap.size w T.st.bits)
    clear h hS hb
    generalize T.st.bits = L at *
    generalize (T.num : Int) = n at *
    go_enter Tryd.func31, Tryd.ntmps31
    go_wp2_with fail
    refine HA.out.mono ?_
    rintro e w' ⟨v, rfl, hown, hb⟩
    have HO := Lib.hid hown
    have HW := Lib.hid hb
    clear hown hb
    go_wp2_with fail
    go_ret
    exact ⟨v, rfl, HO.out, HW.out⟩

theorem tLive_nil (w : World) : Calls Tryd.prog 33 #[.pointer none] w fun e w' => e = .returned (.int .i64 0) ∧ w = w' := by
  go_enter Tryd.func33, Tryd.ntmps33
  go_wp2_with fail
  go_ret
  exact ⟨rfl, rfl⟩
theorem tLive_any {w : World} {p : Nat} {C : Nat → Prop} {A : Ar} {xs : List Nd} {root vis : Int} (h : Head w p C A xs root vis) :
    Calls Tryd.prog 33 #[.pointer (some ⟨p, 0, none⟩)] w fun e w' => e = .returned (.int .i64 A.live) ∧ ∃ n, w' = w.drewN n := by
  obtain ⟨ap, SA, p0, hA, _, _⟩ := h.arena
  have HL := Lib.hid (arLive_any hA)
  clear h hA
  go_enter Tryd.func33, Tryd.ntmps33
  go_wp2_with fail
  refine HL.out.mono ?_
  rintro e w' ⟨rfl, n, rfl⟩
  go_wp2_with fail
  go_ret
  exact ⟨rfl, n, rfl⟩
theorem tMade_any {w : World} {p : Nat} {C : Nat → Prop} {A : Ar} {xs : List Nd} {root vis : Int} (h : Head w p C A xs root vis) :
    Calls Tryd.prog 34 #[.pointer (some ⟨p, 0, none⟩)] w fun e w' => e = .returned (.int .i64 A.T.length) ∧ ∃ n, w' = w.drewN n := by
  obtain ⟨ap, SA, p0, hA, _, _⟩ := h.arena
  have HL := Lib.hid (arMade_any hA)
  clear h hA
  go_enter Tryd.func34, Tryd.ntmps34
  go_wp2_with fail
  refine HL.out.mono ?_
  rintro e w' ⟨rfl, hw⟩
  go_wp2_with fail
  go_ret
  first
  | exact ⟨rfl, 0, hw.symm⟩
  | exact ⟨rfl, 0, hw⟩
  | exact ⟨rfl, hw⟩
theorem tVisits_any {w : World} {p : Nat} {C : Nat → Prop} {A : Ar} {xs : List Nd} {root vis : Int} (h : Head w p C A xs root vis) :
    Calls Tryd.prog 72 #[.pointer (some ⟨p, 0, none⟩)] w fun e w' => e = .returned (.int .i64 vis) ∧ w = w' := by
  have c3 := h.cells.2.2.1
  clear h
  go_enter Tryd.func72, Tryd.ntmps72
  go_wp2_with fail
  go_ret
  exact ⟨rfl, rfl⟩

theorem tShape_nil (w : World) : Calls Tryd.prog 27 #[.pointer none] w fun e w' => e = .returned (.agg #[.int .i64 0, .int .i64 0, .int .i64 0, .int .i64 0]) ∧ Below w.heap.size w w' := by
  go_enter Tryd.func27, Tryd.ntmps27
  go_wp2_with fail
  exact bodyPost_ret (v := .agg #[.int .i64 0, .int .i64 0, .int .i64 0, .int .i64 0]) (by simp [results, Tryd.results27, go_sem]) rfl ⟨rfl, (Below.refl _ _).alloc (Nat.le_refl _) _⟩
theorem tShape_none {w : World} {p : Nat} {C : Nat → Prop} {A : Ar} {xs : List Nd} {vis : Int} (h : Head w p C A xs (-1) vis) :
    Calls Tryd.prog 27 #[.pointer (some ⟨p, 0, none⟩)] w fun e w' => e = .returned (.agg #[.int .i64 0, .int .i64 0, .int .i64 0, .int .i64 0]) ∧ Below w.heap.size w w' := by
  have c2 := h.cells.2.1
  have hp := h.lt p h.self
  clear h
  go_enter Tryd.func27, Tryd.ntmps27
  go_wp2_with fail
  exact bodyPost_ret (v := .agg #[.int .i64 0, .int .i64 0, .int .i64 0, .int .i64 0]) (by simp [results, Tryd.results27, go_sem]) rfl ⟨rfl, (Below.refl _ _).alloc (Nat.le_refl _) _⟩

set_option maxHeartbeats 3200000 in
theorem tShape_some {w : World} {p : Nat} {C : Nat → Prop} {A : Ar} {xs : List Nd} {vis : Int} {T : TT} (h : Head w p C A xs T.num vis) (hS : Sub w xs T) (hl : A.live = T.st.size) (hlm : T.st.size ≤ 1000000000) :
    Calls Tryd.prog 27 #[.pointer (some ⟨p, 0, none⟩)] w fun e w' => e = .returned (.agg #[.int .i64 T.st.bits.length, .int .i64 T.st.high, .int .i64 T.st.leaves, .int .i64 T.st.size]) ∧ Below w.heap.size w w' := by
  have hr := hS.root
  obtain ⟨g, rc, cur, c1, hgp, hCg, _⟩ := h.row (by have := (List.getElem?_eq_some_iff.1 hr).1; omega)
  obtain ⟨_, _, hkx, _⟩ := h.node c1 hr
  obtain ⟨_, _, a2, _⟩ := h.eight c1 hr
  rw [T.nd_high] at a2
  have c2 := h.cells.2.1
  have hp := h.lt p h.self
  have hg := h.lt g hCg
  have hlv := T.st.size_leaves
  have hll : (T.st.leaves : Int) = ((T.st.size : Int) + 1) / 2 := by omega
  have dr : ((T.num : Int) == -1) = false := by rw [beq_eq_false_iff_ne]; omega
  have h1 : ∀ n o, Head ((w.alloc o).drewN n) p C A xs T.num vis := fun n o => (h.below (below_alloc w o)).drewN n
  have HLI : Hid (∀ o, Calls Tryd.prog 33 #[.pointer (some ⟨p, 0, none⟩)] (w.alloc o) fun e w' => e = .returned (.int .i64 T.st.size) ∧ ∃ n, w' = (w.alloc o).drewN n) := fun o => by
    have := tLive_any (h1 0 o); rw [hl] at this; exact this
  have HLE : Hid (∀ n o, Calls Tryd.prog 24 #[.pointer (some ⟨p, 0, none⟩)] ((w.alloc o).drewN n) fun e w' => e = .returned (.int .i64 T.st.bits.length) ∧ ∃ m, w' = ((w.alloc o).drewN n).drewN m) := fun n o =>
    tLen_some (h1 n o) (hS.chgC h ((Chg.refl.alloc o).drewN n) (fun _ _ => rfl))
  have HLL := Lib.hid hll
  clear h hS hr hl h1 hCg hlv hll
  generalize T.num = nt at *
  generalize T.st.size = z at *
  generalize T.st.bits.length = n at *
  generalize T.st.high = ht at *
  go_enter Tryd.func27, Tryd.ntmps27
  go_wp2_with fail
  refine (HLI.out _).mono ?_
  rintro e w' ⟨rfl, n1, rfl⟩
  go_wp2_with fail
  obtain ⟨lv, hlv⟩ : ∃ l, l = T.st.leaves := ⟨_, rfl⟩
  have hw3 : ((z : Int) + 1) / 2 = (lv : Int) := by rw [hlv]; exact HLL.out.symm
  have hlv2 : lv ≤ 1000000000 := by omega
  have hw1 : IntKind.i64.wrap ((z : Int) + 1) = (z : Int) + 1 := IntWalk.i64_in _ (by omega)
  have hw4 : IntKind.i64.wrap (lv : Int) = (lv : Int) := IntWalk.i64_in _ (by omega)
  have hw5 : IntKind.i64.wrap (((z : Int) + 1).tdiv 2) = (lv : Int) := by rw [Int.tdiv_eq_ediv_of_nonneg (by omega), hw3, hw4]
  have HLV := Lib.hid hlv
  have HL2 := Lib.hid (HLE.out (n1 + 1) (.cells #[.int .i64 0, .int .i64 0, .int .i64 0, .int .i64 0] 36))
  clear hlv HLI HLE
  -- REGION shape
  refine reg_start (fun w' => w'.cell? ⟨p, 1, none⟩ = some (.slice (some ⟨g, 0, none⟩) xs.length rc) ∧ w'.cell? ⟨p, 2, none⟩ = some (.int .i64 nt) ∧ w'.cell? ⟨g, nt * 8 + 2, none⟩ = some (.int .i64 ht)) (by kernel_rfl) ?hish (fun hHeld => ?_)
  case hish => (refine ⟨?_, ?_, ?_⟩ <;> go_simp)
  refine reg_take (i := 0) (v := ?vsh0) rfl (by kernel_rfl) rfl hHeld ?ysh0 ?rsh0
  case ysh0 => (intro w hSw; (try dsimp only at hSw); go_simp; all_goals with_reducible rfl)
  try simp only [Act.put, List.setIfInBounds_toArray, List.set_cons_zero, List.set_cons_succ]
  refine reg_take (i := 2) (v := ?vsh2) rfl (by kernel_rfl) rfl hHeld ?ysh2 ?rsh2
  case ysh2 => (intro w hSw; (try dsimp only at hSw); go_simp; all_goals with_reducible rfl)
  try simp only [Act.put, List.setIfInBounds_toArray, List.set_cons_zero, List.set_cons_succ]
  refine reg_take (i := 3) (v := ?vsh3) rfl (by kernel_rfl) rfl hHeld ?ysh3 ?rsh3
  case ysh3 => (intro w hSw; (try dsimp only at hSw); go_simp; all_goals with_reducible rfl)
  try simp only [Act.put, List.setIfInBounds_toArray, List.set_cons_zero, List.set_cons_succ]
  refine reg_take (i := 4) (v := ?vsh4) rfl (by kernel_rfl) rfl hHeld ?ysh4 ?rsh4
  case ysh4 => (intro w hSw; (try dsimp only at hSw); go_simp; all_goals with_reducible rfl)
  try simp only [Act.put, List.setIfInBounds_toArray, List.set_cons_zero, List.set_cons_succ]
  refine reg_take (i := 5) (v := ?vsh5) rfl (by kernel_rfl) rfl hHeld ?ysh5 ?rsh5
  case ysh5 => (intro w hSw; (try dsimp only at hSw); go_simp; all_goals with_reducible rfl)
  try simp only [Act.put, List.setIfInBounds_toArray, List.set_cons_zero, List.set_cons_succ]
  refine reg_take (i := 6) (v := ?vsh6) rfl (by kernel_rfl) rfl hHeld ?ysh6 ?rsh6
  case ysh6 => (intro w hSw; (try dsimp only at hSw); go_simp; all_goals with_reducible rfl)
  try simp only [Act.put, List.setIfInBounds_toArray, List.set_cons_zero, List.set_cons_succ]
  refine reg_take (i := 7) (v := ?vsh7) rfl (by kernel_rfl) rfl hHeld ?ysh7 ?rsh7
  case ysh7 => (intro w hSw; (try dsimp only at hSw); go_simp; all_goals with_reducible rfl)
  try simp only [Act.put, List.setIfInBounds_toArray, List.set_cons_zero, List.set_cons_succ]
  refine reg_take (i := 8) (v := ?vsh8) rfl (by kernel_rfl) rfl hHeld ?ysh8 ?rsh8
  case ysh8 => (intro w hSw; (try dsimp only at hSw); go_simp; all_goals with_reducible rfl)
  try simp only [Act.put, List.setIfInBounds_toArray, List.set_cons_zero, List.set_cons_succ]
  refine reg_take (i := 9) (v := ?vsh9) rfl (by kernel_rfl) rfl hHeld ?ysh9 ?rsh9
  case ysh9 => (intro w hSw; (try dsimp only at hSw); go_simp; all_goals with_reducible rfl)
  try simp only [Act.put, List.setIfInBounds_toArray, List.set_cons_zero, List.set_cons_succ]
  refine reg_take (i := 10) (v := ?vsh10) rfl (by kernel_rfl) rfl hHeld ?ysh10 ?rsh10
  case ysh10 => (intro w hSw; (try dsimp only at hSw); go_simp; all_goals with_reducible rfl)
  try simp only [Act.put, List.setIfInBounds_toArray, List.set_cons_zero, List.set_cons_succ]
  refine reg_take (i := 11) (v := ?vsh11) rfl (by kernel_rfl) rfl hHeld ?ysh11 ?rsh11
  case ysh11 => (intro w hSw; (try dsimp only at hSw); go_simp; all_goals with_reducible rfl)
  try simp only [Act.put, List.setIfInBounds_toArray, List.set_cons_zero, List.set_cons_succ]
  refine reg_take (i := 12) (v := ?vsh12) rfl (by kernel_rfl) rfl hHeld ?ysh12 ?rsh12
  case ysh12 => (intro w hSw; (try dsimp only at hSw); go_simp; all_goals with_reducible rfl)
  try simp only [Act.put, List.setIfInBounds_toArray, List.set_cons_zero, List.set_cons_succ]
  refine reg_take (i := 13) (v := ?vsh13) rfl (by kernel_rfl) rfl hHeld ?ysh13 ?rsh13
  case ysh13 => (intro w hSw; (try dsimp only at hSw); go_simp; all_goals with_reducible rfl)
  try simp only [Act.put, List.setIfInBounds_toArray, List.set_cons_zero, List.set_cons_succ]
  refine reg_take (i := 14) (v := ?vsh14) rfl (by kernel_rfl) rfl hHeld ?ysh14 ?rsh14
  case ysh14 => (intro w hSw; (try dsimp only at hSw); go_simp; all_goals with_reducible rfl)
  try simp only [Act.put, List.setIfInBounds_toArray, List.set_cons_zero, List.set_cons_succ]
  refine reg_take (i := 15) (v := ?vsh15) rfl (by kernel_rfl) rfl hHeld ?ysh15 ?rsh15
  case ysh15 => (intro w hSw; (try dsimp only at hSw); go_simp; all_goals with_reducible rfl)
  try simp only [Act.put, List.setIfInBounds_toArray, List.set_cons_zero, List.set_cons_succ]
  refine reg_take (i := 16) (v := ?vsh16) rfl (by kernel_rfl) rfl hHeld ?ysh16 ?rsh16
  case ysh16 => (intro w hSw; (try dsimp only at hSw); go_simp; all_goals with_reducible rfl)
  try simp only [Act.put, List.setIfInBounds_toArray, List.set_cons_zero, List.set_cons_succ]
  refine reg_loud (i := 1) rfl (by kernel_rfl) rfl (fun K hK => ?_)
  go_simp
  ((refine HL2.out.mono ?_))
  rintro e w2 ⟨rfl, n2, rfl⟩
  refine hK.out _ _ ?kpsh1 (fun hNew => ?_)
  case kpsh1 => (refine ⟨?_, ?_, ?_⟩ <;> go_simp)
  clear hK K hHeld
  have hHeld := hNew
  clear hNew
  try simp only [Act.put, List.setIfInBounds_toArray, List.set_cons_zero, List.set_cons_succ]
  refine reg_take (i := 17) (v := ?vsh17) rfl (by kernel_rfl) rfl hHeld ?ysh17 ?rsh17
  case ysh17 => (intro w hSw; (try dsimp only at hSw); go_simp; all_goals with_reducible rfl)
  try simp only [Act.put, List.setIfInBounds_toArray, List.set_cons_zero, List.set_cons_succ]
  refine reg_loud (i := 18) rfl (by kernel_rfl) rfl (fun K hK => ?_)
  go_simp
  refine hK.out _ _ ?kpsh18 (fun hNew => ?_)
  case kpsh18 => (refine ⟨?_, ?_, ?_⟩ <;> go_simp)
  clear hK K hHeld
  have hHeld := hNew
  clear hNew
  try simp only [Act.put, List.setIfInBounds_toArray, List.set_cons_zero, List.set_cons_succ]
  refine reg_done (by kernel_rfl) ?_ _
  -- END OF REGION shape
  clear hHeld
  go_wp2_with fail
  rw [← HLV.out]
  exact bodyPost_ret (v := .agg #[.int .i64 n, .int .i64 ht, .int .i64 lv, .int .i64 z]) (by simp [results, Tryd.results27, go_sem]) rfl ⟨rfl, ((((below_drewQ ((Below.refl _ _).alloc (Nat.le_refl _) _) _).setCell (by exact Nat.le_refl _) _).setCell (by exact Nat.le_refl _) _).setCell (by exact Nat.le_refl _) _).setCell (by exact Nat.le_refl _) _⟩

end Go.Proofs.YtcppgpjodfeigaaDoor

namespace Go.Proofs.YtcppgpjodfeigaaDoor
set_option linter.unusedVariables false
set_option linter.unusedSimpArgs false
open Go.RowKit

/-- A look at a tree: it is as it was, but for how many nodes were looked at. -/
def TLook (S : Nat → Prop) (w w' : World) (p : Nat) (o : Option ST) (made m : Nat) : Prop := (∃ v : Nat, v ≤ m ∧ TreeIs S w' p o made v) ∧ Chg S w w'

section
variable {S : Nat → Prop} {w w' : World} {p made : Nat} {o : Option ST} {vis : Int}
theorem treeIs_sm {O : Option TT} (hg : Good (ost O)) (hl : (sbits (ost O)).length ≤ 2147483648) : OSm O := by
  cases O with
  | none => trivial
  | some T =>
    have h := good_small hg.2 hl
    refine ⟨?_, by omega⟩
    have : T.st.bits.length ≤ 2147483648 := hl
    omega
theorem ohigh_st (O : Option TT) : ohigh O ≤ shigh (ost O) + 1 := by cases O <;> simp [ohigh, shigh, ost]
/-- What a contract's proof needs of a tree. -/
theorem TreeIs.open (h : TreeIs S w p o made vis) : ∃ (C : Nat → Prop) (A : Ar) (xs : List Nd) (O : Option TT), Head w p C A xs (onum O) vis ∧ OSub w xs O ∧ OSm O ∧ obits O = sbits o ∧ ohigh O ≤ shigh o + 1 ∧ (∀ k, C k → S k) ∧ A.live = osz O ∧ made = A.T.length ∧ ost O = o ∧
    (∀ w' v, Head w' p C A xs (onum O) v → Chg C w w' → TreeIs S w' p o made v ∧ Chg S w w') := by
  obtain ⟨C, A, xs, O, h1, h2, h3, h4, h5, h6, rfl, h8, h9⟩ := h.ex
  have hCS : ∀ k, C k → S k := fun k hk => (h9 k).2 (Or.inl hk)
  exact ⟨C, A, xs, O, h1, h2, treeIs_sm h.good h.len, obits_st O, ohigh_st O, hCS, h5, h8, rfl, fun w' v hH hc =>
    ⟨⟨⟨C, A, xs, O, hH, h2.chgC h1 hc, h3, h4, h5, h6, rfl, h8, h9⟩, h.good, h.len⟩, hc.mono hCS⟩⟩
theorem TreeIs.drewN (h : TreeIs S w p o made vis) (n : Nat) : TreeIs S (w.drewN n) p o made vis := h.below ⟨rfl, rfl, rfl, Nat.le_refl _, fun _ _ => rfl⟩

theorem tLen_is (h : TreeIs S w p o made vis) : Calls Tryd.prog 24 #[.pointer (some ⟨p, 0, none⟩)] w fun e w' => e = .returned (.int .i64 (sbits o).length) ∧ ∃ n, w' = w.drewN n := by
  obtain ⟨C, A, xs, O, h1, h2, _, e, _⟩ := h.open
  rw [← e]; exact tLen_any h1 h2
theorem tOnes_is (h : TreeIs S w p o made vis) : Calls Tryd.prog 23 #[.pointer (some ⟨p, 0, none⟩)] w fun e w' => e = .returned (.int .i64 ((sbits o).count true)) ∧ ∃ n, w' = w.drewN n := by
  obtain ⟨C, A, xs, O, h1, h2, _, e, _⟩ := h.open
  rw [← e]; exact tOnes_any h1 h2
theorem tLive_is (h : TreeIs S w p o made vis) : Calls Tryd.prog 33 #[.pointer (some ⟨p, 0, none⟩)] w fun e w' => e = .returned (.int .i64 (match o with | none => 0 | some t => t.size : Nat)) ∧ ∃ n, w' = w.drewN n := by
  obtain ⟨C, A, xs, O, h1, h2, _, e, _, _, hl, _, rfl, _⟩ := h.open
  have := tLive_any h1
  rw [hl] at this
  cases O <;> exact this
theorem tMade_is (h : TreeIs S w p o made vis) : Calls Tryd.prog 34 #[.pointer (some ⟨p, 0, none⟩)] w fun e w' => e = .returned (.int .i64 made) ∧ ∃ n, w' = w.drewN n := by
  obtain ⟨C, A, xs, O, h1, h2, _, e, _, _, hl, rfl, _⟩ := h.open
  exact tMade_any h1
theorem tVisits_is (h : TreeIs S w p o made vis) : Calls Tryd.prog 72 #[.pointer (some ⟨p, 0, none⟩)] w fun e w' => e = .returned (.int .i64 vis) ∧ w = w' := by
  obtain ⟨C, A, xs, O, h1, _⟩ := h.open
  exact tVisits_any h1
theorem tAll_is (h : TreeIs S w p o made vis) : Calls Tryd.prog 31 #[.pointer (some ⟨p, 0, none⟩)] w (GivesB w.heap.size w (sbits o)) := by
  have hl := h.len
  obtain ⟨C, A, xs, O, h1, h2, _, e, _⟩ := h.open
  rw [← e] at hl ⊢
  exact tAll_any h1 h2 (by omega)
/-- What Shape tells. -/
def shapeV : Option ST → Value
  | none => .agg #[.int .i64 0, .int .i64 0, .int .i64 0, .int .i64 0]
  | some t => .agg #[.int .i64 t.bits.length, .int .i64 t.high, .int .i64 t.leaves, .int .i64 t.size]
theorem tShape_is (h : TreeIs S w p o made vis) : Calls Tryd.prog 27 #[.pointer (some ⟨p, 0, none⟩)] w fun e w' => e = .returned (shapeV o) ∧ Below w.heap.size w w' := by
  have hg := h.good
  have hl := h.len
  obtain ⟨C, A, xs, O, h1, h2, _, e, _, _, hv, _, rfl, _⟩ := h.open
  cases O with
  | none => exact tShape_none h1
  | some T =>
    have hs := good_small hg.2 hl
    exact tShape_some h1 h2 hv (by omega)

theorem TLook.of {C : Nat → Prop} {A : Ar} {xs : List Nd} {root : Int} {m m' : Nat} (hh : ∀ w' v, Head w' p C A xs root v → Chg C w w' → TreeIs S w' p o made v ∧ Chg S w w') (hL : Look w w' p C A xs root m) (hm : m ≤ m') : TLook S w w' p o made m' := by
  obtain ⟨⟨v, hv, hH⟩, hc⟩ := hL
  exact ⟨⟨v, by omega, (hh w' v hH hc).1⟩, (hh w' v hH hc).2⟩
theorem tGet_is (h : TreeIs S w p o made vis) (k : Nat) (hk : k < (sbits o).length) :
    Calls Tryd.prog 19 #[.pointer (some ⟨p, 0, none⟩), .int .i64 k] w fun e w' => e = .returned (.tuple #[.bool (bitAt (sbits o) k), .int .i64 0]) ∧ TLook S w w' p o made (shigh o + 1) := by
  obtain ⟨C, A, xs, O, h1, h2, hs, e, _, _, _, _, rfl, hh⟩ := h.open
  cases O with
  | none => simp [ost, sbits] at hk
  | some T =>
    refine (tGet_some h1 h2 hs k hk).mono ?_
    rintro e w' ⟨rfl, hL⟩
    exact ⟨rfl, TLook.of hh hL (Nat.le_refl _)⟩
theorem tGet_isBad (h : TreeIs S w p o made vis) (k : Int) (hk : k < 0 ∨ ((sbits o).length : Int) ≤ k) :
    Calls Tryd.prog 19 #[.pointer (some ⟨p, 0, none⟩), .int .i64 k] w fun e w' => e = .returned (.tuple #[.bool false, .int .i64 2]) ∧ TLook S w w' p o made 0 := by
  obtain ⟨C, A, xs, O, h1, h2, hs, e, _, _, _, _, rfl, hh⟩ := h.open
  rw [← e] at hk
  refine (tGet_bad h1 h2 k hk).mono ?_
  rintro e w' ⟨rfl, hH, hc⟩
  exact ⟨rfl, TLook.of hh ⟨⟨0, Nat.le_refl _, hH⟩, hc⟩ (Nat.le_refl _)⟩
theorem tRank_is (h : TreeIs S w p o made vis) (k : Int) (x : Bool) :
    Calls Tryd.prog 20 #[.pointer (some ⟨p, 0, none⟩), .int .i64 k, .bool x] w fun e w' => e = .returned (.int .i64 (rankL (sbits o) k.toNat x)) ∧ TLook S w w' p o made (shigh o + 1) := by
  obtain ⟨C, A, xs, O, h1, h2, hs, e, hi, _, _, _, _, hh⟩ := h.open
  rw [← e]
  refine (tRank_any h1 h2 hs k x).mono ?_
  rintro e w' ⟨rfl, hL⟩
  exact ⟨rfl, TLook.of hh hL hi⟩
theorem tSelect_is (h : TreeIs S w p o made vis) (hTab : BitTab w) (hN : ¬ S 0) (j : Int) (x : Bool) :
    Calls Tryd.prog 21 #[.pointer (some ⟨p, 0, none⟩), .int .i64 j, .bool x] w fun e w' => e = .returned (.int .i64 (selL (sbits o) j x)) ∧ TLook S w w' p o made (shigh o + 1) := by
  obtain ⟨C, A, xs, O, h1, h2, hs, e, hi, hCS, _, _, _, hh⟩ := h.open
  rw [← e]
  refine (tSelect_any h1 h2 hs hTab (fun hc => hN (hCS _ hc)) j x).mono ?_
  rintro e w' ⟨rfl, hL⟩
  exact ⟨rfl, TLook.of hh hL hi⟩
theorem tInsert_isBad (h : TreeIs S w p o made vis) (k : Int) (b : Bool) (hk : k < 0 ∨ ((sbits o).length : Int) < k) :
    Calls Tryd.prog 25 #[.pointer (some ⟨p, 0, none⟩), .int .i64 k, .bool b] w fun e w' => e = .returned (.int .i64 2) ∧ TLook S w w' p o made 0 := by
  obtain ⟨C, A, xs, O, h1, h2, hs, e, _, _, _, _, rfl, hh⟩ := h.open
  rw [← e] at hk
  refine (tInsert_bad h1 h2 k b hk).mono ?_
  rintro e w' ⟨rfl, hH, hc⟩
  exact ⟨rfl, TLook.of hh ⟨⟨0, Nat.le_refl _, hH⟩, hc⟩ (Nat.le_refl _)⟩
theorem tDelete_isBad (h : TreeIs S w p o made vis) (k : Int) (hk : k < 0 ∨ ((sbits o).length : Int) ≤ k) :
    Calls Tryd.prog 32 #[.pointer (some ⟨p, 0, none⟩), .int .i64 k] w fun e w' => e = .returned (.tuple #[.bool false, .int .i64 2]) ∧ TLook S w w' p o made 0 := by
  obtain ⟨C, A, xs, O, h1, h2, hs, e, _, _, _, _, rfl, hh⟩ := h.open
  rw [← e] at hk
  refine (tDelete_bad h1 h2 k hk).mono ?_
  rintro e w' ⟨rfl, hH, hc⟩
  exact ⟨rfl, TLook.of hh ⟨⟨0, Nat.le_refl _, hH⟩, hc⟩ (Nat.le_refl _)⟩
end

/-- A tree behind a bit less. -/
def delO (o : Option ST) (k : Nat) : Option ST := match o with
  | none => none
  | some t => if (delT t k).bits.length = 0 then none else some (delT t k)
theorem delO_bits {o : Option ST} {k : Nat} (hk : k < (sbits o).length) : sbits (delO o k) = outL (sbits o) k := by
  cases o with
  | none => simp [sbits] at hk
  | some t =>
    have h := delT_bits (t := t) (k := k) hk
    simp only [delO]
    split
    · next h0 => show [] = outL t.bits k; rw [← h]; exact (List.eq_nil_of_length_eq_zero h0).symm
    · exact h
theorem delO_good {o : Option ST} {k : Nat} (hg : Good o) (hk : k < (sbits o).length) : Good (delO o k) ∧ shigh (delO o k) ≤ shigh o := by
  cases o with
  | none => exact ⟨trivial, Nat.le_refl _⟩
  | some t =>
    have hk' : k < t.bits.length := hk
    simp only [delO]
    split
    · exact ⟨trivial, Nat.zero_le _⟩
    · next h0 =>
      cases t with
      | leaf l =>
        have h2 : (outL l k).length ≠ 0 := h0
        have h3 : l.length ≤ 128 := hg.2.2
        have h4 : (outL l k).length = l.length - 1 := outL_len hk
        exact ⟨⟨trivial, ⟨by omega, by omega⟩⟩, Nat.le_refl _⟩
      | pair a b =>
        obtain ⟨g1, g2, g3, g4⟩ := delT_ok hg.1 (show (ST.pair a b).Fill from hg.2) hk
        refine ⟨⟨g1, ?_⟩, g3⟩
        revert g2
        cases delT (.pair a b) k with
        | leaf l => intro g2; exact ⟨by have := g2.1; omega, g2.2⟩
        | pair x y => intro g2; exact g2
section
variable {S : Nat → Prop} {w w' : World} {p made : Nat} {o : Option ST} {vis : Int}
/-- Delete, where there is such a bit. -/
theorem tDelete_is (h : TreeIs S w p o made vis) (k : Nat) (hk : k < (sbits o).length) :
    Calls Tryd.prog 32 #[.pointer (some ⟨p, 0, none⟩), .int .i64 k] w fun e w' => e = .returned (.tuple #[.bool (bitAt (sbits o) k), .int .i64 0]) ∧ ∃ v', TreeStep S w w' p (delO o k) made v' ∧ 0 ≤ v' ∧ v' ≤ 7 * shigh o + 2 := by
  have hgood := (delO_good h.good hk).1
  have hbits := delO_bits hk
  have hlen' : (sbits (delO o k)).length ≤ 2147483648 := by rw [hbits, outL_len hk]; have := h.len; omega
  have hgo := h.good
  have hl := h.len
  obtain ⟨C, A, xs, O, h1, h2, h3, h4, h5, h6, rfl, h8, h9⟩ := h.ex
  have hCS : ∀ j, C j → S j := fun j hj => (h9 j).2 (Or.inl hj)
  cases O with
  | none => simp [ost, sbits] at hk
  | some T =>
    have hsm := good_small hgo.2 hl
    have hl' : T.st.bits.length ≤ 2147483648 := hl
    have hlv : A.live = T.st.size := h5
    refine (tDelete_some h1 h2 h4 h3 (by omega) (by omega) hgo.1 ?_ k hk).mono ?_
    · have hr : T.st.Root := hgo.2
      revert hr
      cases T.st with
      | leaf l => exact fun _ => Or.inl rfl
      | pair a b => exact fun hr => Or.inr hr
    rintro e w' ⟨rfl, T', C', A', xs', v', hst, hv0, hv1, hC, hB, hx, hM, hmd, hc, hO⟩
    have hbc : ∀ j, (C' j ∨ j ∈ T'.bl) → S j ∨ w.heap.size ≤ j := fun j hj => hj.elim (fun h => (hC j h).imp (hCS j) id) (fun h => (hB j h).imp (fun h => (h9 j).2 (Or.inr h)) id)
    have hcS : Chg S w w' := hc.mono (fun j hj => (h9 j).2 hj)
    rcases hO with ⟨h0, hH, hSub, hOw, hlv'⟩ | ⟨h0, hH, hlv'⟩
    · refine ⟨rfl, v', ⟨⟨fun j => C' j ∨ j ∈ obl (some T'), ⟨⟨C', A', xs', some T', hH, hSub, hOw, hx, ?_, by rw [hM, h6], ?_, by rw [h8, hmd], fun j => Iff.rfl⟩, hgood, hlen'⟩, hbc⟩, hcS⟩, hv0, hv1⟩
      · show A'.live = T'.st.size; omega
      · show some T'.st = _
        simp only [ost, delO]; rw [← hst, if_neg h0]
    · refine ⟨rfl, v', ⟨⟨C', ⟨⟨C', A', xs', none, hH, trivial, trivial, hx, ?_, by rw [hM, h6], ?_, by rw [h8, hmd], fun j => by simp [obl]⟩, hgood, hlen'⟩, fun j hj => hbc j (Or.inl hj)⟩, hcS⟩, hv0, hv1⟩
      · show A'.live = 0
        have h7 : T'.st.size = 1 := by
          have hg' : (delT T.st k).bits.length = 0 := by rw [← hst]; exact h0
          rw [hst]
          revert hg'
          have hav : T.st.Avl := hgo.1
          have hrt : T.st.Root := hgo.2
          have hk' : k < T.st.bits.length := hk
          revert hav hrt hk'
          cases T.st with
          | leaf l => intros; rfl
          | pair a b =>
            intro hav hrt hk' hg'
            obtain ⟨g1, g2, g3, g4⟩ := delT_ok hav (show (ST.pair a b).Fill from hrt) hk'
            revert g2 hg'
            cases delT (.pair a b) k with
            | leaf l => intros; rfl
            | pair x y =>
              intro hg' g2
              have g3 := ST.Fill.len (t := .pair x y) g2
              have := ST.leaves_pos (.pair x y)
              omega
        omega
      · simp only [ost, delO]; rw [← hst, if_pos h0]

/-- New. -/
theorem tNew_is (w : World) {a : Option Addr} {c : Nat} (L : List Bool) (hr : ReadsV w a (L.map Value.bool)) (hc : L.length ≤ c) (hL : L.length ≤ 2147483648) :
    Calls Tryd.prog 18 #[.slice a L.length c] w fun e w' => ∃ p S o, e = .returned (.pointer (some ⟨p, 0, none⟩)) ∧ TreeIs S w' p o (match o with | none => 0 | some t => t.size) 0 ∧ (∀ k, S k → w.heap.size ≤ k) ∧ sbits o = L ∧ Chg (fun _ => False) w w' := by
  by_cases h0 : L.length = 0
  · obtain rfl := List.eq_nil_of_length_eq_zero h0
    refine (tNew_nil w a c).mono ?_
    rintro e w' ⟨p, q, rfl, hp, hq, hH, hcg⟩
    refine ⟨p, fun k => k = p ∨ k = q, none, rfl, ⟨⟨_, _, [], none, hH, trivial, trivial, rfl, rfl, rfl, rfl, rfl, fun k => by simp [obl]⟩, trivial, by simp [sbits]⟩, fun k hk => by rcases hk with rfl | rfl <;> assumption, rfl, hcg⟩
  · have had : ∀ ad, a = some ad → ad.block < w.heap.size := by
      intro ad h
      obtain ⟨b, off, h2, h3, _⟩ := hr 0 (by rw [List.length_map]; omega)
      rw [h] at h2; injection h2 with h2; rw [h2]; exact h3
    refine (tNew_some w hr hc hL (by omega) had).mono ?_
    rintro e w' ⟨p, st, S, rfl, h1, h2, h3, h4⟩
    exact ⟨p, S, some st, rfl, h1, h2, h3, h4⟩
end

end Go.Proofs.YtcppgpjodfeigaaDoor

namespace Go.Proofs.YtcppgpjodfeigaaDoor
set_option linter.unusedVariables false
set_option linter.unusedSimpArgs false
open Go.RowKit

/-- The blocks from B on, but for some. -/
def exT (B : Nat) (X : Nat → Prop) (k : Nat) : Prop := B ≤ k ∧ ¬ X k
/-- The block of a row. -/
def obk (v : Value) (k : Nat) : Prop := v.ownBlock = some k
def sizeO : Option ST → Nat
  | none => 0
  | some t => t.size
theorem town_cap {w : World} {base : Nat} {e : TypeId} {a : Option Addr} {n c : Nat} {xs : List Value} (h : w.ownsRow base e 1 (.slice a n c) n xs) : n ≤ c ∧ c ≤ maxLen := by
  rcases h.2 with ⟨hv, h0⟩ | ⟨g, cap, cur, hv, _, _, h1, h2, _⟩
  · injection hv with _ _ e3; subst e3; unfold maxLen; omega
  · injection hv with _ _ e3; subst e3; exact ⟨h1, h2⟩
/-- A tree whose blocks lie from B on and are none of X. -/
structure TreeE (B : Nat) (X : Nat → Prop) (w : World) (p : Nat) (o : Option ST) (made : Nat) (vis : Int) : Prop where
  t : ∃ S, TreeIs S w p o made vis ∧ ∀ k, S k → exT B X k
  le : B ≤ w.heap.size
  x : ∀ k, X k → k < w.heap.size

section
variable {B : Nat} {X : Nat → Prop} {w w' : World} {p made : Nat} {o : Option ST} {vis : Int}
theorem TreeE.good (h : TreeE B X w p o made vis) : Good o := by obtain ⟨S, h, _⟩ := h.t; exact h.good
theorem TreeE.len (h : TreeE B X w p o made vis) : (sbits o).length ≤ 2147483648 := by obtain ⟨S, h, _⟩ := h.t; exact h.len
/-- Blocks that came later are none of the tree's. -/
theorem TreeE.less (h : TreeE B X w p o made vis) (hb : Below w.heap.size w w') {Y : Nat → Prop} (hy : ∀ k, Y k → X k ∨ w.heap.size ≤ k) (hl : ∀ k, Y k → k < w'.heap.size) : TreeE B Y w' p o made vis := by
  obtain ⟨S, h1, h2⟩ := h.t
  exact ⟨⟨S, h1.below hb, fun k hk => ⟨(h2 k hk).1, fun hY => (hy k hY).elim (h2 k hk).2 (fun g => by have := h1.lt k hk; omega)⟩⟩, Nat.le_trans h.le hb.size, hl⟩
theorem TreeE.below (h : TreeE B X w p o made vis) (hb : Below w.heap.size w w') : TreeE B X w' p o made vis := h.less hb (fun k hk => Or.inl hk) (fun k hk => Nat.lt_of_lt_of_le (h.x k hk) hb.size)
theorem TreeE.drewN (h : TreeE B X w p o made vis) (n : Nat) : TreeE B X (w.drewN n) p o made vis := h.below ⟨rfl, rfl, rfl, Nat.le_refl _, fun _ _ => rfl⟩
theorem TreeE.chg {S : Nat → Prop} (h : TreeE B X w p o made vis) (hc : Chg S w w') (hd : ∀ k, exT B X k → k < w.heap.size → ¬ S k) : TreeE B X w' p o made vis := by
  obtain ⟨S', h1, h2⟩ := h.t
  exact ⟨⟨S', h1.chg hc (fun k hk => hd k (h2 k hk) (h1.lt k hk)), h2⟩, Nat.le_trans h.le hc.size, fun k hk => Nat.lt_of_lt_of_le (h.x k hk) hc.size⟩
theorem exT_below (hc : Chg (exT B X) w w') (hB : B ≤ w.heap.size) : Below B w w' := hc.below (fun b hb => hb.1) hB

/-- A look, at a tree beside other rows. -/
def ELook (B : Nat) (X : Nat → Prop) (w w' : World) (p : Nat) (o : Option ST) (made m : Nat) : Prop := (∃ v : Nat, v ≤ m ∧ TreeE B X w' p o made v) ∧ Chg (exT B X) w w'
def EStep (B : Nat) (X : Nat → Prop) (w w' : World) (p : Nat) (o' : Option ST) (made' m : Nat) : Prop := (∃ v : Nat, v ≤ m ∧ TreeE B X w' p o' made' v) ∧ Chg (exT B X) w w'
theorem eLook {S : Nat → Prop} {m : Nat} (h : TreeE B X w p o made vis) (hS : ∀ k, S k → exT B X k) (hL : TLook S w w' p o made m) : ELook B X w w' p o made m := by
  obtain ⟨⟨v, hv, h1⟩, hc⟩ := hL
  exact ⟨⟨v, hv, ⟨⟨S, h1, hS⟩, Nat.le_trans h.le hc.size, fun k hk => Nat.lt_of_lt_of_le (h.x k hk) hc.size⟩⟩, hc.mono hS⟩
theorem eStep {S : Nat → Prop} {o' : Option ST} {made' : Nat} {v' : Int} {m : Nat} (h : TreeE B X w p o made vis) (hS : ∀ k, S k → exT B X k) (hL : TreeStep S w w' p o' made' v') (h0 : 0 ≤ v') (h1 : v' ≤ m) : EStep B X w w' p o' made' m := by
  obtain ⟨⟨S', h2, h3⟩, hc⟩ := hL
  obtain ⟨v, rfl⟩ := Int.eq_ofNat_of_zero_le h0
  have h1' : (v : Int) ≤ (m : Int) := h1
  exact ⟨⟨v, by omega, ⟨⟨S', h2, fun k hk => (h3 k hk).elim (hS k) (fun g => ⟨Nat.le_trans h.le g, fun hx => by have := h.x k hx; omega⟩)⟩, Nat.le_trans h.le hc.size, fun k hk => Nat.lt_of_lt_of_le (h.x k hk) hc.size⟩⟩, hc.mono hS⟩

theorem len_t (h : TreeE B X w p o made vis) {L : List Bool} (hL : sbits o = L) : Calls Tryd.prog 24 #[.pointer (some ⟨p, 0, none⟩)] w fun e w' => e = .returned (.int .i64 L.length) ∧ ∃ n, w' = w.drewN n := by
  subst hL; obtain ⟨S, h1, h2⟩ := h.t; exact tLen_is h1
theorem ones_t (h : TreeE B X w p o made vis) {L : List Bool} (hL : sbits o = L) : Calls Tryd.prog 23 #[.pointer (some ⟨p, 0, none⟩)] w fun e w' => e = .returned (.int .i64 (L.count true)) ∧ ∃ n, w' = w.drewN n := by
  subst hL; obtain ⟨S, h1, h2⟩ := h.t; exact tOnes_is h1
theorem live_t (h : TreeE B X w p o made vis) : Calls Tryd.prog 33 #[.pointer (some ⟨p, 0, none⟩)] w fun e w' => e = .returned (.int .i64 (sizeO o)) ∧ ∃ n, w' = w.drewN n := by
  obtain ⟨S, h1, h2⟩ := h.t; have := tLive_is h1; cases o <;> exact this
theorem made_t (h : TreeE B X w p o made vis) : Calls Tryd.prog 34 #[.pointer (some ⟨p, 0, none⟩)] w fun e w' => e = .returned (.int .i64 made) ∧ ∃ n, w' = w.drewN n := by
  obtain ⟨S, h1, h2⟩ := h.t; exact tMade_is h1
theorem visits_t (h : TreeE B X w p o made vis) : Calls Tryd.prog 72 #[.pointer (some ⟨p, 0, none⟩)] w fun e w' => e = .returned (.int .i64 vis) ∧ w = w' := by
  obtain ⟨S, h1, h2⟩ := h.t; exact tVisits_is h1
theorem all_t (h : TreeE B X w p o made vis) {L : List Bool} (hL : sbits o = L) : Calls Tryd.prog 31 #[.pointer (some ⟨p, 0, none⟩)] w (GivesB w.heap.size w L) := by
  subst hL; obtain ⟨S, h1, h2⟩ := h.t; exact tAll_is h1
theorem shape_t (h : TreeE B X w p o made vis) : Calls Tryd.prog 27 #[.pointer (some ⟨p, 0, none⟩)] w fun e w' => e = .returned (shapeV o) ∧ Below w.heap.size w w' := by
  obtain ⟨S, h1, h2⟩ := h.t; exact tShape_is h1
theorem get_t (h : TreeE B X w p o made vis) {L : List Bool} (hL : sbits o = L) (n : Nat) {k : Int} (hk : k = (n : Int)) (hn : n < L.length) {x : Bool} (hx : bitAt L n = x) :
    Calls Tryd.prog 19 #[.pointer (some ⟨p, 0, none⟩), .int .i64 k] w fun e w' => e = .returned (.tuple #[.bool x, .int .i64 0]) ∧ ELook B X w w' p o made (shigh o + 1) := by
  subst hL hk hx; obtain ⟨S, h1, h2⟩ := h.t
  refine (tGet_is h1 n hn).mono ?_
  rintro e w' ⟨rfl, hl⟩
  exact ⟨rfl, eLook h h2 hl⟩
theorem get_tBad (h : TreeE B X w p o made vis) {L : List Bool} (hL : sbits o = L) (k : Int) (hk : k < 0 ∨ (L.length : Int) ≤ k) :
    Calls Tryd.prog 19 #[.pointer (some ⟨p, 0, none⟩), .int .i64 k] w fun e w' => e = .returned (.tuple #[.bool false, .int .i64 2]) ∧ ELook B X w w' p o made 0 := by
  subst hL; obtain ⟨S, h1, h2⟩ := h.t
  refine (tGet_isBad h1 k hk).mono ?_
  rintro e w' ⟨rfl, hl⟩
  exact ⟨rfl, eLook h h2 hl⟩
theorem rank_t (h : TreeE B X w p o made vis) {L : List Bool} (hL : sbits o = L) (k : Int) (x : Bool) {r : Nat} (hr : rankL L k.toNat x = r) :
    Calls Tryd.prog 20 #[.pointer (some ⟨p, 0, none⟩), .int .i64 k, .bool x] w fun e w' => e = .returned (.int .i64 r) ∧ ELook B X w w' p o made (shigh o + 1) := by
  subst hL hr; obtain ⟨S, h1, h2⟩ := h.t
  refine (tRank_is h1 k x).mono ?_
  rintro e w' ⟨rfl, hl⟩
  exact ⟨rfl, eLook h h2 hl⟩
theorem select_t (h : TreeE B X w p o made vis) (hTab : BitTab w) (hN : 0 < B) {L : List Bool} (hL : sbits o = L) (j : Int) (x : Bool) {r : Int} (hr : selL L j x = r) :
    Calls Tryd.prog 21 #[.pointer (some ⟨p, 0, none⟩), .int .i64 j, .bool x] w fun e w' => e = .returned (.int .i64 r) ∧ ELook B X w w' p o made (shigh o + 1) := by
  subst hL hr; obtain ⟨S, h1, h2⟩ := h.t
  refine (tSelect_is h1 hTab (fun hs => by have := (h2 _ hs).1; omega) j x).mono ?_
  rintro e w' ⟨rfl, hl⟩
  exact ⟨rfl, eLook h h2 hl⟩
theorem insert_t (h : TreeE B X w p o made vis) {L : List Bool} (hL : sbits o = L) (n : Nat) {k : Int} (hk : k = (n : Int)) (hn : n ≤ L.length) (hl : L.length < 2147483648) (b : Bool) :
    Calls Tryd.prog 25 #[.pointer (some ⟨p, 0, none⟩), .int .i64 k, .bool b] w fun e w' => e = .returned (.int .i64 0) ∧ ∃ made', EStep B X w w' p (insO o n b) made' (7 * shigh o + 2) := by
  subst hL hk; obtain ⟨S, h1, h2⟩ := h.t
  refine (tInsert_is h1 hl n hn b).mono ?_
  rintro e w' ⟨rfl, made', v', hs, h3, h4⟩
  exact ⟨rfl, made', eStep h h2 hs h3 (by omega)⟩
theorem insert_tBad (h : TreeE B X w p o made vis) {L : List Bool} (hL : sbits o = L) (k : Int) (b : Bool) (hk : k < 0 ∨ (L.length : Int) < k) :
    Calls Tryd.prog 25 #[.pointer (some ⟨p, 0, none⟩), .int .i64 k, .bool b] w fun e w' => e = .returned (.int .i64 2) ∧ ELook B X w w' p o made 0 := by
  subst hL; obtain ⟨S, h1, h2⟩ := h.t
  refine (tInsert_isBad h1 k b hk).mono ?_
  rintro e w' ⟨rfl, hl⟩
  exact ⟨rfl, eLook h h2 hl⟩
theorem delete_t (h : TreeE B X w p o made vis) {L : List Bool} (hL : sbits o = L) (n : Nat) {k : Int} (hk : k = (n : Int)) (hn : n < L.length) {x : Bool} (hx : bitAt L n = x) :
    Calls Tryd.prog 32 #[.pointer (some ⟨p, 0, none⟩), .int .i64 k] w fun e w' => e = .returned (.tuple #[.bool x, .int .i64 0]) ∧ EStep B X w w' p (delO o n) made (7 * shigh o + 2) := by
  subst hL hk hx; obtain ⟨S, h1, h2⟩ := h.t
  refine (tDelete_is h1 n hn).mono ?_
  rintro e w' ⟨rfl, v', hs, h3, h4⟩
  exact ⟨rfl, eStep h h2 hs h3 (by omega)⟩
theorem delete_tBad (h : TreeE B X w p o made vis) {L : List Bool} (hL : sbits o = L) (k : Int) (hk : k < 0 ∨ (L.length : Int) ≤ k) :
    Calls Tryd.prog 32 #[.pointer (some ⟨p, 0, none⟩), .int .i64 k] w fun e w' => e = .returned (.tuple #[.bool false, .int .i64 2]) ∧ ELook B X w w' p o made 0 := by
  subst hL; obtain ⟨S, h1, h2⟩ := h.t
  refine (tDelete_isBad h1 k hk).mono ?_
  rintro e w' ⟨rfl, hl⟩
  exact ⟨rfl, eLook h h2 hl⟩
/-- A new tree of the call's own. -/
theorem new_t {B : Nat} {X : Nat → Prop} {w : World} {a : Option Addr} {c n : Nat} (L : List Bool) (hn : n = L.length) (hr : ReadsV w a (L.map Value.bool)) (hc : n ≤ c) (hL : L.length ≤ 2147483648) (hB : B ≤ w.heap.size) (hX : ∀ k, X k → k < w.heap.size) :
    Calls Tryd.prog 18 #[.slice a n c] w fun e w' => ∃ p o, e = .returned (.pointer (some ⟨p, 0, none⟩)) ∧ TreeE B X w' p o (sizeO o) 0 ∧ sbits o = L ∧ Below w.heap.size w w' := by
  subst hn
  refine (tNew_is w L hr hc hL).mono ?_
  rintro e w' ⟨p, S, o, rfl, h1, h2, h3, h4⟩
  refine ⟨p, o, rfl, ⟨⟨S, by cases o <;> exact h1, fun k hk => ⟨Nat.le_trans hB (h2 k hk), fun hx => by have := hX k hx; have := h2 k hk; omega⟩⟩, Nat.le_trans hB h4.size, fun k hk => Nat.lt_of_lt_of_le (hX k hk) h4.size⟩, h3, h4.below (fun _ hf => hf.elim) (Nat.le_refl _)⟩
end

end Go.Proofs.YtcppgpjodfeigaaDoor

namespace Go.Proofs.YtcppgpjodfeigaaDoor
set_option linter.unusedVariables false
set_option linter.unusedSimpArgs false
open Go.RowKit

/-- How many shelves a level has. -/
def pw (l : Nat) : Nat := 2 ^ l
theorem pw_pos (l : Nat) : 0 < pw l := Nat.two_pow_pos l
theorem pw_le {l : Nat} (h : l < 9) : pw l ≤ 256 := by
  unfold pw; exact Nat.le_trans (Nat.pow_le_pow_right (by omega) (by omega : l ≤ 8)) (by decide)

theorem TreeIs.types {S : Nat → Prop} {w : World} {p made : Nat} {o : Option ST} {vis : Int} (h : TreeIs S w p o made vis) {k : Nat} (hk : S k) :
    TypeAt w k 83 ∨ TypeAt w k 88 ∨ TypeAt w k 110 ∨ TypeAt w k 4 ∨ TypeAt w k 3 ∨ TypeAt w k 114 := by
  obtain ⟨C, A, xs, O, h1, h2, _, _, _, _, _, _, h9⟩ := h.ex
  rcases (h9 k).1 hk with hk | hk
  · rcases h1.types hk with g | g | g | g | g
    · exact Or.inl g
    · exact Or.inr (Or.inl g)
    · exact Or.inr (Or.inr (Or.inl g))
    · exact Or.inr (Or.inr (Or.inr (Or.inl g)))
    · exact Or.inr (Or.inr (Or.inr (Or.inr (Or.inl g))))
  · cases O with
    | none => simp [obl] at hk
    | some T => exact Or.inr (Or.inr (Or.inr (Or.inr (Or.inr (Sub.type h2 hk)))))
theorem TreeIs.notT {S : Nat → Prop} {w : World} {p made : Nat} {o : Option ST} {vis : Int} (h : TreeIs S w p o made vis) {k : Nat} {T : TypeId} (hk : TypeAt w k T)
    (hT : T ≠ 83 ∧ T ≠ 88 ∧ T ≠ 110 ∧ T ≠ 4 ∧ T ≠ 3 ∧ T ≠ 114) : ¬ S k := by
  intro hs
  rcases h.types hs with g | g | g | g | g | g
  · exact hk.ne g hT.1 rfl
  · exact hk.ne g hT.2.1 rfl
  · exact hk.ne g hT.2.2.1 rfl
  · exact hk.ne g hT.2.2.2.1 rfl
  · exact hk.ne g hT.2.2.2.2.1 rfl
  · exact hk.ne g hT.2.2.2.2.2 rfl

/-- Where a wave's rows and trees lie. -/
structure WD where
  G : Nat → Nat
  C : Nat → Nat
  Q : Nat → Nat → Nat
def WD.row (D : WD) (l : Nat) : Value := .slice (some ⟨D.G l, 0, none⟩) (pw l) (D.C l)
def headV (D : WD) (n : Nat) (vis : Int) : Array Value :=
  #[D.row 0, D.row 1, D.row 2, D.row 3, D.row 4, D.row 5, D.row 6, D.row 7, D.row 8, .int .i64 n, .int .i64 vis]
def rowsV (D : WD) : Value := .agg #[D.row 0, D.row 1, D.row 2, D.row 3, D.row 4, D.row 5, D.row 6, D.row 7, D.row 8]
def shelfV (D : WD) (l k : Nat) : Value := .agg #[.pointer (some ⟨D.Q l k, 0, none⟩), .int .i64 l, .int .i64 k]

/-- A wave: its head at p, its rows, its trees O with their blocks S. -/
structure WaveIn (w : World) (p : Nat) (D : WD) (O : Nat → Nat → Option ST) (S : Nat → Nat → Nat → Prop) (n : Nat) (vis : Int) (Vb : Nat → Nat → Int → Prop) : Prop where
  head : w.heap[p]? = some (.cells (headV D n vis) 101 (0, 0))
  rty : ∀ l, l < 9 → ∃ cs, w.heap[D.G l]? = some (.cells cs 104 (0, 0))
  rows : ∀ l k, l < 9 → k < pw l → w.cell? ⟨D.G l, k * 3, none⟩ = some (.pointer (some ⟨D.Q l k, 0, none⟩)) ∧ w.cell? ⟨D.G l, k * 3 + 1, none⟩ = some (.int .i64 l) ∧ w.cell? ⟨D.G l, k * 3 + 2, none⟩ = some (.int .i64 k)
  tree : ∀ l k, l < 9 → k < pw l → ∃ (made : Nat) (v : Int), Vb l k v ∧ TreeIs (S l k) w (D.Q l k) (O l k) made v
  dis : ∀ l k l' k', l < 9 → k < pw l → l' < 9 → k' < pw l' → (l ≠ l' ∨ k ≠ k') → ∀ j, S l k j → ¬ S l' k' j
/-- All its blocks. -/
def WvB (p : Nat) (D : WD) (S : Nat → Nat → Nat → Prop) (j : Nat) : Prop := j = p ∨ (∃ l, l < 9 ∧ j = D.G l) ∨ ∃ l k, l < 9 ∧ k < pw l ∧ S l k j
/-- A wave whose blocks lie from B on and are none of X. -/
structure WaveE (B : Nat) (X : Nat → Prop) (w : World) (p : Nat) (D : WD) (O : Nat → Nat → Option ST) (n : Nat) (vis : Int) (Vb : Nat → Nat → Int → Prop) : Prop where
  i : ∃ S, WaveIn w p D O S n vis Vb ∧ ∀ j, WvB p D S j → exT B X j
  le : B ≤ w.heap.size
  x : ∀ k, X k → k < w.heap.size
def anyV : Nat → Nat → Int → Prop := fun _ _ _ => True
/-- One tree is another one. -/
def updO {α : Type} (O : Nat → Nat → α) (l k : Nat) (o : α) : Nat → Nat → α := fun l' k' => if l' = l ∧ k' = k then o else O l' k'
theorem updO_same {α : Type} (O : Nat → Nat → α) (l k : Nat) (o : α) : updO O l k o l k = o := by simp [updO]
theorem updO_ne {α : Type} (O : Nat → Nat → α) {l k l' k' : Nat} (o : α) (h : l' ≠ l ∨ k' ≠ k) : updO O l k o l' k' = O l' k' := by
  unfold updO; rw [if_neg (by omega)]
theorem updO_self {α : Type} (O : Nat → Nat → α) (l k : Nat) : updO O l k (O l k) = O := by
  funext l' k'; unfold updO; split
  · next h => rw [h.1, h.2]
  · rfl

section
variable {B : Nat} {X Y : Nat → Prop} {w w' : World} {p n : Nat} {D : WD} {O : Nat → Nat → Option ST} {S : Nat → Nat → Nat → Prop} {vis vis' : Int} {Vb Vc : Nat → Nat → Int → Prop}
theorem WaveIn.tyP (h : WaveIn w p D O S n vis Vb) : TypeAt w p 101 := ⟨_, h.head⟩
theorem WaveIn.tyG (h : WaveIn w p D O S n vis Vb) {l : Nat} (hl : l < 9) : TypeAt w (D.G l) 104 := by
  obtain ⟨cs, h⟩ := h.rty l hl; exact ⟨cs, h⟩
theorem WaveIn.nP (h : WaveIn w p D O S n vis Vb) {l k : Nat} (hl : l < 9) (hk : k < pw l) : ¬ S l k p := by
  obtain ⟨m, v, _, ht⟩ := h.tree l k hl hk
  exact ht.notT h.tyP (by decide)
theorem WaveIn.nG (h : WaveIn w p D O S n vis Vb) {l k l' : Nat} (hl : l < 9) (hk : k < pw l) (hl' : l' < 9) : ¬ S l k (D.G l') := by
  obtain ⟨m, v, _, ht⟩ := h.tree l k hl hk
  exact ht.notT (h.tyG hl') (by decide)
theorem WaveIn.pG (h : WaveIn w p D O S n vis Vb) {l : Nat} (hl : l < 9) : D.G l ≠ p := TypeAt.ne (h.tyG hl) h.tyP (by decide)
theorem WaveIn.lt (h : WaveIn w p D O S n vis Vb) : ∀ j, WvB p D S j → j < w.heap.size := by
  rintro j (rfl | ⟨l, hl, rfl⟩ | ⟨l, k, hl, hk, hj⟩)
  · exact h.tyP.lt
  · exact (h.tyG hl).lt
  · obtain ⟨m, v, _, ht⟩ := h.tree l k hl hk; exact ht.lt j hj
/-- What changes none of its blocks. -/
theorem WaveIn.chg {Z : Nat → Prop} (h : WaveIn w p D O S n vis Vb) (hc : Chg Z w w') (hd : ∀ j, WvB p D S j → ¬ Z j) : WaveIn w' p D O S n vis Vb := by
  refine ⟨hc.heap h.head (hd p (Or.inl rfl)), fun l hl => ?_, fun l k hl hk => ?_, fun l k hl hk => ?_, h.dis⟩
  · obtain ⟨cs, h1⟩ := h.rty l hl
    exact ⟨cs, hc.heap h1 (hd _ (Or.inr (Or.inl ⟨l, hl, rfl⟩)))⟩
  · obtain ⟨a, b, c⟩ := h.rows l k hl hk
    have hn := hd _ (Or.inr (Or.inl ⟨l, hl, rfl⟩))
    exact ⟨hc.cell (p := ⟨D.G l, k * 3, none⟩) a hn, hc.cell (p := ⟨D.G l, k * 3 + 1, none⟩) b hn, hc.cell (p := ⟨D.G l, k * 3 + 2, none⟩) c hn⟩
  · obtain ⟨m, v, hv, ht⟩ := h.tree l k hl hk
    exact ⟨m, v, hv, ht.chg hc (fun j hj => hd j (Or.inr (Or.inr ⟨l, k, hl, hk, hj⟩)))⟩
/-- The head's last cells are written. -/
theorem WaveIn.put (h : WaveIn w p D O S n vis Vb) {n' : Nat} (hc : Chg (fun j => j = p) w w') (hp : w'.heap[p]? = some (.cells (headV D n' vis') 101 (0, 0))) : WaveIn w' p D O S n' vis' Vb := by
  refine ⟨hp, fun l hl => ?_, fun l k hl hk => ?_, fun l k hl hk => ?_, h.dis⟩
  · obtain ⟨cs, h1⟩ := h.rty l hl
    exact ⟨cs, hc.heap h1 (h.pG hl)⟩
  · obtain ⟨a, b, c⟩ := h.rows l k hl hk
    have hn := h.pG hl
    exact ⟨hc.cell (p := ⟨D.G l, k * 3, none⟩) a hn, hc.cell (p := ⟨D.G l, k * 3 + 1, none⟩) b hn, hc.cell (p := ⟨D.G l, k * 3 + 2, none⟩) c hn⟩
  · obtain ⟨m, v, hv, ht⟩ := h.tree l k hl hk
    exact ⟨m, v, hv, ht.chg hc (fun j hj e => h.nP hl hk (by rw [← e]; exact hj))⟩
/-- A step of one tree. -/
theorem WaveIn.step (h : WaveIn w p D O S n vis Vb) {l k : Nat} (hl : l < 9) (hk : k < pw l) {S' : Nat → Prop} {o' : Option ST} {made' : Nat} {v' : Int} (ht : TreeIs S' w' (D.Q l k) o' made' v') (hS : ∀ j, S' j → S l k j ∨ w.heap.size ≤ j) (hc : Chg (S l k) w w')
    (hv : Vc l k v') (hvv : ∀ l' k' v, Vb l' k' v → (l' ≠ l ∨ k' ≠ k) → Vc l' k' v) : WaveIn w' p D (updO O l k o') (updO S l k S') n vis Vc := by
  refine ⟨hc.heap h.head (h.nP hl hk), fun l' hl' => ?_, fun l' k' hl' hk' => ?_, fun l' k' hl' hk' => ?_, fun l1 k1 l2 k2 h1 h2 h3 h4 hne j hj hj2 => ?_⟩
  · obtain ⟨cs, h1⟩ := h.rty l' hl'
    exact ⟨cs, hc.heap h1 (h.nG hl hk hl')⟩
  · obtain ⟨a, b, c⟩ := h.rows l' k' hl' hk'
    have hn := h.nG hl hk hl'
    exact ⟨hc.cell (p := ⟨D.G l', k' * 3, none⟩) a hn, hc.cell (p := ⟨D.G l', k' * 3 + 1, none⟩) b hn, hc.cell (p := ⟨D.G l', k' * 3 + 2, none⟩) c hn⟩
  · by_cases e : l' = l ∧ k' = k
    · obtain ⟨rfl, rfl⟩ := e
      rw [updO_same, updO_same]; exact ⟨made', v', hv, ht⟩
    · have hne : l' ≠ l ∨ k' ≠ k := by omega
      rw [updO_ne _ _ hne, updO_ne _ _ hne]
      obtain ⟨m, v, hvb, ht2⟩ := h.tree l' k' hl' hk'
      exact ⟨m, v, hvv l' k' v hvb hne, ht2.chg hc (fun j hj => h.dis l' k' l k hl' hk' hl hk (by omega) j hj)⟩
  · have key : ∀ l1 k1, l1 < 9 → k1 < pw l1 → updO S l k S' l1 k1 j → (l1 = l ∧ k1 = k ∧ (S l k j ∨ w.heap.size ≤ j)) ∨ ((l1 ≠ l ∨ k1 ≠ k) ∧ S l1 k1 j) := by
      intro l1 k1 h1 h2 hj
      by_cases e : l1 = l ∧ k1 = k
      · obtain ⟨rfl, rfl⟩ := e
        rw [updO_same] at hj
        exact Or.inl ⟨rfl, rfl, hS j hj⟩
      · have hne : l1 ≠ l ∨ k1 ≠ k := by omega
        rw [updO_ne _ _ hne] at hj
        exact Or.inr ⟨hne, hj⟩
    have ltS : ∀ l1 k1, l1 < 9 → k1 < pw l1 → S l1 k1 j → j < w.heap.size := fun l1 k1 h1 h2 hj => h.lt j (Or.inr (Or.inr ⟨l1, k1, h1, h2, hj⟩))
    rcases key l1 k1 h1 h2 hj with ⟨e1, e2, e3⟩ | ⟨e1, e2⟩ <;> rcases key l2 k2 h3 h4 hj2 with ⟨f1, f2, f3⟩ | ⟨f1, f2⟩
    · omega
    · rcases e3 with e3 | e3
      · exact h.dis l k l2 k2 hl hk h3 h4 (by omega) j e3 f2
      · have := ltS l2 k2 h3 h4 f2; omega
    · rcases f3 with f3 | f3
      · exact h.dis l k l1 k1 hl hk h1 h2 (by omega) j f3 e2
      · have := ltS l1 k1 h1 h2 e2; omega
    · exact h.dis l1 k1 l2 k2 h1 h2 h3 h4 hne j e2 f2

theorem WaveE.vb (h : WaveE B X w p D O n vis Vb) (hv : ∀ l k v, Vb l k v → Vc l k v) : WaveE B X w p D O n vis Vc := by
  obtain ⟨S, h1, h2⟩ := h.i
  exact ⟨⟨S, ⟨h1.head, h1.rty, h1.rows, fun l k hl hk => by obtain ⟨m, v, hvb, ht⟩ := h1.tree l k hl hk; exact ⟨m, v, hv l k v hvb, ht⟩, h1.dis⟩, h2⟩, h.le, h.x⟩
theorem WaveE.any (h : WaveE B X w p D O n vis Vb) : WaveE B X w p D O n vis anyV := h.vb (fun _ _ _ _ => trivial)
/-- Blocks that came later are none of the wave's. -/
theorem WaveE.less (h : WaveE B X w p D O n vis Vb) (hb : Below w.heap.size w w') (hy : ∀ k, Y k → X k ∨ w.heap.size ≤ k) (hl : ∀ k, Y k → k < w'.heap.size) : WaveE B Y w' p D O n vis Vb := by
  obtain ⟨S, h1, h2⟩ := h.i
  refine ⟨⟨S, h1.chg (Z := fun _ => False) (Chg.of_below hb) (fun _ _ hf => hf), fun j hj => ⟨(h2 j hj).1, fun hY => (hy j hY).elim (h2 j hj).2 (fun g => by have := h1.lt j hj; omega)⟩⟩, Nat.le_trans h.le hb.size, hl⟩
theorem WaveE.below (h : WaveE B X w p D O n vis Vb) (hb : Below w.heap.size w w') : WaveE B X w' p D O n vis Vb := h.less hb (fun k hk => Or.inl hk) (fun k hk => Nat.lt_of_lt_of_le (h.x k hk) hb.size)
theorem WaveE.drewN (h : WaveE B X w p D O n vis Vb) (m : Nat) : WaveE B X (w.drewN m) p D O n vis Vb := h.below ⟨rfl, rfl, rfl, Nat.le_refl _, fun _ _ => rfl⟩
theorem WaveE.chg {Z : Nat → Prop} (h : WaveE B X w p D O n vis Vb) (hc : Chg Z w w') (hd : ∀ k, exT B X k → k < w.heap.size → ¬ Z k) : WaveE B X w' p D O n vis Vb := by
  obtain ⟨S, h1, h2⟩ := h.i
  exact ⟨⟨S, h1.chg hc (fun k hk => hd k (h2 k hk) (h1.lt k hk)), h2⟩, Nat.le_trans h.le hc.size, fun k hk => Nat.lt_of_lt_of_le (h.x k hk) hc.size⟩
theorem WaveE.mono (h : WaveE B X w p D O n vis Vb) (hy : ∀ k, Y k → X k) : WaveE B Y w p D O n vis Vb := by
  obtain ⟨S, h1, h2⟩ := h.i
  exact ⟨⟨S, h1, fun j hj => ⟨(h2 j hj).1, fun hY => (h2 j hj).2 (hy j hY)⟩⟩, h.le, fun k hk => h.x k (hy k hk)⟩
/-- A step of one tree. -/
theorem WaveE.step (h : WaveE B X w p D O n vis Vb) {l k : Nat} (hl : l < 9) (hk : k < pw l) :
    ∃ (S : Nat → Prop) (made : Nat) (v : Int), Vb l k v ∧ TreeIs S w (D.Q l k) (O l k) made v ∧ (∀ j, S j → exT B X j) ∧
      ∀ w' S' o' made' v' Vc, TreeIs S' w' (D.Q l k) o' made' v' → (∀ j, S' j → S j ∨ w.heap.size ≤ j) → Chg S w w' → Vc l k v' → (∀ l' k' v, Vb l' k' v → (l' ≠ l ∨ k' ≠ k) → Vc l' k' v) →
        WaveE B X w' p D (updO O l k o') n vis Vc ∧ Chg (exT B X) w w' := by
  obtain ⟨S, h1, h2⟩ := h.i
  obtain ⟨m, v, hv, ht⟩ := h1.tree l k hl hk
  have hSx : ∀ j, S l k j → exT B X j := fun j hj => h2 j (Or.inr (Or.inr ⟨l, k, hl, hk, hj⟩))
  refine ⟨S l k, m, v, hv, ht, hSx, fun w' S' o' made' v' Vc ht' hS hc hvc hvv => ⟨⟨⟨updO S l k S', h1.step hl hk ht' hS hc hvc hvv, ?_⟩, Nat.le_trans h.le hc.size, fun j hj => Nat.lt_of_lt_of_le (h.x j hj) hc.size⟩, hc.mono hSx⟩⟩
  rintro j (rfl | ⟨l1, hl1, rfl⟩ | ⟨l1, k1, hl1, hk1, hj⟩)
  · exact h2 _ (Or.inl rfl)
  · exact h2 _ (Or.inr (Or.inl ⟨l1, hl1, rfl⟩))
  · by_cases e : l1 = l ∧ k1 = k
    · obtain ⟨rfl, rfl⟩ := e
      rw [updO_same] at hj
      rcases hS j hj with hj | hj
      · exact hSx j hj
      · exact ⟨Nat.le_trans h.le hj, fun hx => by have := h.x j hx; omega⟩
    · have hne : l1 ≠ l ∨ k1 ≠ k := by omega
      rw [updO_ne _ _ hne] at hj
      exact h2 j (Or.inr (Or.inr ⟨l1, k1, hl1, hk1, hj⟩))
/-- The head. -/
theorem WaveE.head (h : WaveE B X w p D O n vis Vb) : w.heap[p]? = some (.cells (headV D n vis) 101 (0, 0)) ∧ exT B X p := by
  obtain ⟨S, h1, h2⟩ := h.i
  exact ⟨h1.head, h2 p (Or.inl rfl)⟩
theorem WaveE.put (h : WaveE B X w p D O n vis Vb) {n' : Nat} (hc : Chg (fun j => j = p) w w') (hp : w'.heap[p]? = some (.cells (headV D n' vis') 101 (0, 0))) : WaveE B X w' p D O n' vis' Vb := by
  obtain ⟨S, h1, h2⟩ := h.i
  exact ⟨⟨S, h1.put hc hp, h2⟩, Nat.le_trans h.le hc.size, fun j hj => Nat.lt_of_lt_of_le (h.x j hj) hc.size⟩
theorem WaveE.setVis (h : WaveE B X w p D O n vis Vb) (v : Int) : WaveE B X (w.setCell ⟨p, 10, none⟩ (.int .i64 v)) p D O n v Vb ∧ Chg (exT B X) w (w.setCell ⟨p, 10, none⟩ (.int .i64 v)) := by
  have hc : Chg (fun j => j = p) w (w.setCell ⟨p, 10, none⟩ (.int .i64 v)) := Chg.refl.setCell (S := fun j => j = p) ⟨p, 10, none⟩ (Or.inl rfl) _
  exact ⟨h.put hc (heap_setCell_same w p 10 _ _ _ h.head.1), hc.mono (fun j hj => by subst hj; exact h.head.2)⟩
theorem WaveE.setN (h : WaveE B X w p D O n vis Vb) (m : Nat) : WaveE B X (w.setCell ⟨p, 9, none⟩ (.int .i64 m)) p D O m vis Vb ∧ Chg (exT B X) w (w.setCell ⟨p, 9, none⟩ (.int .i64 m)) := by
  have hc : Chg (fun j => j = p) w (w.setCell ⟨p, 9, none⟩ (.int .i64 m)) := Chg.refl.setCell (S := fun j => j = p) ⟨p, 9, none⟩ (Or.inl rfl) _
  exact ⟨h.put hc (heap_setCell_same w p 9 _ _ _ h.head.1), hc.mono (fun j hj => by subst hj; exact h.head.2)⟩
/-- The head's cells. -/
theorem WaveE.cells (h : WaveE B X w p D O n vis Vb) : (∀ l, l < 9 → w.cell? ⟨p, l, none⟩ = some (D.row l)) ∧ w.cell? ⟨p, 9, none⟩ = some (.int .i64 n) ∧ w.cell? ⟨p, 10, none⟩ = some (.int .i64 vis) ∧ (∀ j, w.frozen? ⟨p, j, none⟩ = false) ∧ p < w.heap.size := by
  have hp := h.head.1
  refine ⟨fun l hl => ?_, by rw [cell_of_row w p 9 _ _ _ hp]; rfl, by rw [cell_of_row w p 10 _ _ _ hp]; rfl, fun j => frozen_of_row w p j _ _ hp, (Array.getElem?_eq_some_iff.1 hp).1⟩
  rw [cell_of_row w p l _ _ _ hp]
  have : l = 0 ∨ l = 1 ∨ l = 2 ∨ l = 3 ∨ l = 4 ∨ l = 5 ∨ l = 6 ∨ l = 7 ∨ l = 8 := by omega
  rcases this with rfl | rfl | rfl | rfl | rfl | rfl | rfl | rfl | rfl <;> rfl
/-- A shelf's cells. -/
theorem WaveE.shelf (h : WaveE B X w p D O n vis Vb) {l k : Nat} (hl : l < 9) (hk : k < pw l) : w.cell? ⟨D.G l, k * 3, none⟩ = some (.pointer (some ⟨D.Q l k, 0, none⟩)) ∧ w.cell? ⟨D.G l, k * 3 + 1, none⟩ = some (.int .i64 l) ∧ w.cell? ⟨D.G l, k * 3 + 2, none⟩ = some (.int .i64 k) := by
  obtain ⟨S, h1, _⟩ := h.i
  exact h1.rows l k hl hk
end

end Go.Proofs.YtcppgpjodfeigaaDoor

namespace Go.Proofs.YtcppgpjodfeigaaDoor
set_option linter.unusedVariables false
set_option linter.unusedSimpArgs false
open Go.RowKit

/-- The cells of a level's first shelves. -/
def shC (Q : Nat → Nat → Nat) (l k : Nat) : List Value := (List.range k).flatMap (fun i => [.pointer (some ⟨Q l i, 0, none⟩), .int .i64 l, .int .i64 i])
theorem shC_succ (Q : Nat → Nat → Nat) (l k : Nat) : shC Q l (k + 1) = shC Q l k ++ [.pointer (some ⟨Q l k, 0, none⟩), .int .i64 l, .int .i64 k] := by
  unfold shC; rw [List.range_succ, List.flatMap_append]; simp
theorem shC_len (Q : Nat → Nat → Nat) (l k : Nat) : (shC Q l k).length = k * 3 := by
  induction k with
  | zero => rfl
  | succ k ih => rw [shC_succ, List.length_append, ih]; simp; omega
theorem shC_congr {Q Q' : Nat → Nat → Nat} {l k : Nat} (h : ∀ i, i < k → Q l i = Q' l i) : shC Q l k = shC Q' l k := by
  induction k with
  | zero => rfl
  | succ k ih => rw [shC_succ, shC_succ, ih (fun i hi => h i (by omega)), h k (by omega)]
theorem shC_get (Q : Nat → Nat → Nat) (l : Nat) {i k : Nat} (h : i < k) : (shC Q l k)[i * 3]? = some (.pointer (some ⟨Q l i, 0, none⟩)) ∧ (shC Q l k)[i * 3 + 1]? = some (.int .i64 l) ∧ (shC Q l k)[i * 3 + 2]? = some (.int .i64 i) := by
  induction k with
  | zero => omega
  | succ k ih =>
    rw [shC_succ]
    by_cases e : i = k
    · subst e
      have hl := shC_len Q l i
      refine ⟨?_, ?_, ?_⟩
      · rw [List.getElem?_append_right (by omega), hl, Nat.sub_self]; rfl
      · rw [List.getElem?_append_right (by omega), hl, show i * 3 + 1 - i * 3 = 1 by omega]; rfl
      · rw [List.getElem?_append_right (by omega), hl, show i * 3 + 2 - i * 3 = 2 by omega]; rfl
    · obtain ⟨a, b, c⟩ := ih (by omega)
      have hl := shC_len Q l k
      refine ⟨?_, ?_, ?_⟩
      · rw [List.getElem?_append_left (by omega)]; exact a
      · rw [List.getElem?_append_left (by omega)]; exact b
      · rw [List.getElem?_append_left (by omega)]; exact c

def headG (V : Nat → Value) (n : Nat) : Array Value := #[V 0, V 1, V 2, V 3, V 4, V 5, V 6, V 7, V 8, .int .i64 n, .int .i64 0]
def putV (V : Nat → Value) (l : Nat) (v : Value) : Nat → Value := fun l' => if l' = l then v else V l'
def incC (c : Nat → Nat) (l : Nat) : Nat → Nat := fun l' => if l' = l then c l + 1 else c l'
theorem headG_put (V : Nat → Value) (n : Nat) {l : Nat} (h : l < 9) (v : Value) : (headG V n).setIfInBounds l v = headG (putV V l v) n := by
  have : l = 0 ∨ l = 1 ∨ l = 2 ∨ l = 3 ∨ l = 4 ∨ l = 5 ∨ l = 6 ∨ l = 7 ∨ l = 8 := by omega
  rcases this with rfl | rfl | rfl | rfl | rfl | rfl | rfl | rfl | rfl <;> rfl
theorem headG_get (V : Nat → Value) (n : Nat) {l : Nat} (h : l < 9) : (headG V n)[l]? = some (V l) := by
  have : l = 0 ∨ l = 1 ∨ l = 2 ∨ l = 3 ∨ l = 4 ∨ l = 5 ∨ l = 6 ∨ l = 7 ∨ l = 8 := by omega
  rcases this with rfl | rfl | rfl | rfl | rfl | rfl | rfl | rfl | rfl <;> rfl

/-- A wave that is being built: so many shelves of each level are there. -/
structure WavePt (w : World) (base p : Nat) (V : Nat → Value) (c : Nat → Nat) (Q : Nat → Nat → Nat) (O : Nat → Nat → Option ST) (S : Nat → Nat → Nat → Prop) (n : Nat) : Prop where
  head : w.heap[p]? = some (.cells (headG V n) 101 (0, 0))
  rows : ∀ l, l < 9 → w.ownsRow base 104 3 (V l) (c l) (shC Q l (c l))
  rdis : ∀ l l' g, l < 9 → l' < 9 → l ≠ l' → (V l).ownBlock = some g → (V l').ownBlock ≠ some g
  tree : ∀ l k, l < 9 → k < c l → ∃ made, TreeIs (S l k) w (Q l k) (O l k) made 0
  dis : ∀ l k l' k', l < 9 → k < c l → l' < 9 → k' < c l' → (l ≠ l' ∨ k ≠ k') → ∀ j, S l k j → ¬ S l' k' j
  low : base ≤ p ∧ ∀ l k j, l < 9 → k < c l → S l k j → base ≤ j

section
variable {w w' : World} {base p n : Nat} {V : Nat → Value} {c : Nat → Nat} {Q : Nat → Nat → Nat} {O : Nat → Nat → Option ST} {S : Nat → Nat → Nat → Prop}
theorem own_ty {w : World} {base : Nat} {e : TypeId} {size : Nat} {v : Value} {n : Nat} {xs : List Value} (h : w.ownsRow base e size v n xs) {g : Nat} (hg : v.ownBlock = some g) : TypeAt w g e := by
  rcases h.2 with ⟨rfl, _⟩ | ⟨g', cap, cur, rfl, _, hgg, _⟩
  · simp [Value.ownBlock] at hg
  · simp [Value.ownBlock] at hg
    subst hg
    exact ⟨cur, hgg⟩
theorem WavePt.tyP (h : WavePt w base p V c Q O S n) : TypeAt w p 101 := ⟨_, h.head⟩
theorem WavePt.tyG (h : WavePt w base p V c Q O S n) {l g : Nat} (hl : l < 9) (hg : (V l).ownBlock = some g) : TypeAt w g 104 := own_ty (h.rows l hl) hg
theorem WavePt.chg {Z : Nat → Prop} (h : WavePt w base p V c Q O S n) (hc : Chg Z w w') (hp : ¬ Z p) (hr : ∀ l g, l < 9 → (V l).ownBlock = some g → ¬ Z g) (ht : ∀ l k j, l < 9 → k < c l → S l k j → ¬ Z j) : WavePt w' base p V c Q O S n :=
  ⟨hc.heap h.head hp, fun l hl => hc.own (h.rows l hl) (fun g hg => hr l g hl hg), h.rdis, fun l k hl hk => by obtain ⟨m, t⟩ := h.tree l k hl hk; exact ⟨m, t.chg hc (fun j hj => ht l k j hl hk hj)⟩, h.dis, h.low⟩
theorem WavePt.below (h : WavePt w base p V c Q O S n) (hb : Below w.heap.size w w') : WavePt w' base p V c Q O S n :=
  h.chg (Z := fun _ => False) (Chg.of_below hb) id (fun _ _ _ _ => id) (fun _ _ _ _ _ _ => id)
theorem WavePt.start (w : World) (n : Nat) (hb : base ≤ w.heap.size) (Q : Nat → Nat → Nat) (O : Nat → Nat → Option ST) (S : Nat → Nat → Nat → Prop) : WavePt (w.alloc (.cells (headG (fun _ => .slice none 0 0) n) 101)) base w.heap.size (fun _ => .slice none 0 0) (fun _ => 0) Q O S n :=
  ⟨heap_alloc_new w _, fun l hl => World.ownsRow_nil _ _ _ _, fun l l' g _ _ _ h => by simp [Value.ownBlock] at h, fun l k _ hk => by omega, fun l k l' k' _ hk => by omega, hb, fun l k j _ hk => by omega⟩

/-- One more shelf. -/
theorem WavePt.push {w1 w2 w3 : World} (h : WavePt w base p V c Q O S n) {l : Nat} (hl : l < 9) {S' : Nat → Prop} {q m : Nat} {o : Option ST} (ht : TreeIs S' w1 q o m 0) (hS : ∀ j, S' j → w.heap.size ≤ j) (h1 : Chg (fun _ => False) w w1) (h2 : Below w1.heap.size w1 w2)
    {v : Value} {g : Nat} (hv : v.ownBlock = some g) (hown : w3.ownsRow base 104 3 v (c l + 1) (shC Q l (c l) ++ [.pointer (some ⟨q, 0, none⟩), .int .i64 l, .int .i64 (c l : Nat)])) (hg : w2.grownBy w3 (V l).ownBlock) (hor : (V l).ownBlock = some g ∨ w2.heap.size ≤ g) :
    WavePt (w3.setCell ⟨p, l, none⟩ v) base p (putV V l v) (incC c l) (updO Q l (c l) q) (updO O l (c l) o) (updO S l (c l) S') n ∧ Chg (fun j => j = p ∨ (V l).ownBlock = some j) w (w3.setCell ⟨p, l, none⟩ v) := by
  have h12 : Chg (fun _ => False) w w2 := h1.trans (Chg.of_below (S := fun _ => False) h2) (fun b hb => hb.elim)
  have h3 : Chg (fun j => (V l).ownBlock = some j) w w3 := (h12.mono (fun j hj => hj.elim)).grown hg (fun k hk => Or.inl hk)
  have h3' : Chg (fun j => (V l).ownBlock = some j) w1 w3 := (Chg.of_below (S := fun j => (V l).ownBlock = some j) h2).grown hg (fun k hk => Or.inl hk)
  have hpw := h.tyP.lt
  have hpl : (V l).ownBlock ≠ some p := fun e => TypeAt.ne (h.tyG hl e) h.tyP (by decide) rfl
  have hset : Chg (fun j => j = p) w3 (w3.setCell ⟨p, l, none⟩ v) := Chg.refl.setCell (S := fun j => j = p) ⟨p, l, none⟩ (Or.inl rfl) v
  have hgt : TypeAt w3 g 104 := own_ty hown hv
  have hhead : w3.heap[p]? = some (.cells (headG V n) 101 (0, 0)) := h3.heap h.head hpl
  have hgp : g ≠ p := fun e => TypeAt.ne hgt ⟨_, hhead⟩ (by decide) e
  have nP : ∀ l' k, l' < 9 → k < c l' → ¬ S l' k p := fun l' k hl' hk => by obtain ⟨m, t⟩ := h.tree l' k hl' hk; exact t.notT h.tyP (by decide)
  have nG : ∀ l' k g', l' < 9 → k < c l' → (V l).ownBlock = some g' → ¬ S l' k g' := fun l' k g' hl' hk e => by obtain ⟨m, t⟩ := h.tree l' k hl' hk; exact t.notT (h.tyG hl e) (by decide)
  have nG' : ∀ j, S' j → (V l).ownBlock ≠ some j := fun j hj e => by have := (h.tyG hl e).lt; have := hS j hj; omega
  have nP' : ¬ S' p := fun hj => by have := hS p hj; omega
  have hsz := h12.size
  refine ⟨⟨?_, fun l' hl' => ?_, fun l1 l2 g' hl1 hl2 hne hg1 hg2 => ?_, fun l' k hl' hk => ?_, fun l1 k1 l2 k2 hl1 hk1 hl2 hk2 hne j hj1 hj2 => ?_, h.low.1, fun l' k j hl' hk hj => ?_⟩, Chg.setCell (S := fun j => j = p ∨ (V l).ownBlock = some j) (h3.mono (fun j hj => Or.inr hj)) ⟨p, l, none⟩ (Or.inl (Or.inl rfl)) v⟩
  · have := heap_setCell_same w3 p l _ _ v hhead
    rw [headG_put V n hl v] at this
    exact this
  · by_cases e : l' = l
    · subst e
      have e1 : putV V l' v l' = v := by simp [putV]
      have e2 : incC c l' l' = c l' + 1 := by simp [incC]
      rw [e1, e2, shC_succ, updO_same, shC_congr (Q' := Q) (fun i hi => updO_ne Q q (by omega))]
      exact hset.own hown (fun k hk e => by rw [hv] at hk; injection hk with hk; omega)
    · have e1 : putV V l v l' = V l' := by simp [putV, e]
      have e2 : incC c l l' = c l' := by simp [incC, e]
      rw [e1, e2, shC_congr (Q' := Q) (fun i hi => updO_ne Q q (Or.inl e))]
      refine hset.own (h3.own (h.rows l' hl') (fun k hk e3 => h.rdis l l' k hl hl' (Ne.symm e) e3 hk)) (fun k hk e3 => ?_)
      exact TypeAt.ne (h.tyG hl' hk) h.tyP (by decide) e3
  · by_cases e : l1 = l
    · subst e
      have e1 : putV V l1 v l1 = v := by simp [putV]
      have e2 : putV V l1 v l2 = V l2 := by simp [putV, Ne.symm hne]
      rw [e1, hv] at hg1; injection hg1 with hg1; subst hg1
      rw [e2] at hg2
      rcases hor with hor | hor
      · exact h.rdis l1 l2 g hl1 hl2 hne hor hg2
      · have := (h.tyG hl2 hg2).lt; omega
    · by_cases e' : l2 = l
      · subst e'
        have e1 : putV V l2 v l1 = V l1 := by simp [putV, e]
        have e2 : putV V l2 v l2 = v := by simp [putV]
        rw [e2, hv] at hg2; injection hg2 with hg2; subst hg2
        rw [e1] at hg1
        rcases hor with hor | hor
        · exact h.rdis l1 l2 g hl1 hl2 hne hg1 hor
        · have := (h.tyG hl1 hg1).lt; omega
      · have e1 : putV V l v l1 = V l1 := by simp [putV, e]
        have e2 : putV V l v l2 = V l2 := by simp [putV, e']
        rw [e1] at hg1; rw [e2] at hg2
        exact h.rdis l1 l2 g' hl1 hl2 hne hg1 hg2
  · by_cases e : l' = l ∧ k = c l
    · obtain ⟨rfl, rfl⟩ := e
      rw [updO_same, updO_same, updO_same]
      exact ⟨m, (ht.chg h3' nG').chg hset (fun j hj e => nP' (e ▸ hj))⟩
    · have hne : l' ≠ l ∨ k ≠ c l := by omega
      have hk' : k < c l' := by
        unfold incC at hk
        split at hk
        · next e2 => subst e2; omega
        · exact hk
      rw [updO_ne _ _ hne, updO_ne _ _ hne, updO_ne _ _ hne]
      obtain ⟨m, t⟩ := h.tree l' k hl' hk'
      exact ⟨m, (t.chg h3 (fun j hj e => nG l' k j hl' hk' e hj)).chg hset (fun j hj e => nP l' k hl' hk' (e ▸ hj))⟩
  · have key : ∀ l1 k1, l1 < 9 → k1 < incC c l l1 → updO S l (c l) S' l1 k1 j → (l1 = l ∧ k1 = c l ∧ w.heap.size ≤ j) ∨ ((l1 ≠ l ∨ k1 ≠ c l) ∧ k1 < c l1 ∧ S l1 k1 j ∧ j < w.heap.size) := by
      intro l1 k1 hl1 hk1 hj
      by_cases e : l1 = l ∧ k1 = c l
      · obtain ⟨rfl, rfl⟩ := e
        rw [updO_same] at hj
        exact Or.inl ⟨rfl, rfl, hS j hj⟩
      · have hne : l1 ≠ l ∨ k1 ≠ c l := by omega
        have hk' : k1 < c l1 := by
          unfold incC at hk1
          split at hk1
          · next e2 => subst e2; omega
          · exact hk1
        rw [updO_ne _ _ hne] at hj
        obtain ⟨m, t⟩ := h.tree l1 k1 hl1 hk'
        exact Or.inr ⟨hne, hk', hj, t.lt j hj⟩
    rcases key l1 k1 hl1 hk1 hj1 with ⟨a1, a2, a3⟩ | ⟨a1, a2, a3, a4⟩ <;> rcases key l2 k2 hl2 hk2 hj2 with ⟨b1, b2, b3⟩ | ⟨b1, b2, b3, b4⟩
    · omega
    · omega
    · omega
    · exact h.dis l1 k1 l2 k2 hl1 a2 hl2 b2 hne j a3 b3
  · by_cases e : l' = l ∧ k = c l
    · obtain ⟨rfl, rfl⟩ := e
      rw [updO_same] at hj
      have := hS j hj
      have := h.low.1
      omega
    · have hne : l' ≠ l ∨ k ≠ c l := by omega
      have hk' : k < c l' := by
        unfold incC at hk
        split at hk
        · next e2 => subst e2; omega
        · exact hk
      rw [updO_ne _ _ hne] at hj
      exact h.low.2 l' k j hl' hk' hj

theorem WavePt.mid {w1 w2 w3 : World} (h : WavePt w base p V c Q O S n) {l : Nat} (hl : l < 9) (h1 : Chg (fun _ => False) w w1) (h2 : Below w1.heap.size w1 w2) (hg : w2.grownBy w3 (V l).ownBlock) : w3.cell? ⟨p, l, none⟩ = some (V l) ∧ w3.frozen? ⟨p, l, none⟩ = false := by
  have h12 : Chg (fun _ => False) w w2 := h1.trans (Chg.of_below (S := fun _ => False) h2) (fun b hb => hb.elim)
  have h3 : Chg (fun j => (V l).ownBlock = some j) w w3 := (h12.mono (fun j hj => hj.elim)).grown hg (fun k hk => Or.inl hk)
  have hpl : (V l).ownBlock ≠ some p := fun e => TypeAt.ne (h.tyG hl e) h.tyP (by decide) rfl
  have hhead : w3.heap[p]? = some (.cells (headG V n) 101 (0, 0)) := h3.heap h.head hpl
  exact ⟨by rw [cell_of_row w3 p l _ _ _ hhead, headG_get V n hl], frozen_of_row w3 p l _ _ hhead⟩
/-- All shelves are there: it is a wave. -/
theorem WavePt.done (h : WavePt w base p V c Q O S n) (hc : ∀ l, l < 9 → c l = pw l) (hb : base ≤ w.heap.size) : ∃ D, WaveE base (fun _ => False) w p D O n 0 anyV := by
  have hex : ∀ l, ∃ g cap, l < 9 → V l = .slice (some ⟨g, 0, none⟩) (pw l) cap ∧ ∃ cur : Array Value, base ≤ g ∧ w.heap[g]? = some (.cells cur 104 (0, 0)) ∧ cur.toList.take (pw l * 3) = shC Q l (pw l) := by
    intro l
    by_cases hl : l < 9
    · have h1 := h.rows l hl
      rw [hc l hl] at h1
      rcases h1.2 with ⟨_, h0⟩ | ⟨g, cap, cur, hv, hb, hg, _, _, _, ht⟩
      · have := pw_pos l; omega
      · exact ⟨g, cap, fun _ => ⟨hv, cur, hb, hg, ht⟩⟩
    · exact ⟨0, 0, fun h => absurd h hl⟩
  obtain ⟨G, hG⟩ := Classical.axiomOfChoice hex
  obtain ⟨C, hC⟩ := Classical.axiomOfChoice hG
  refine ⟨⟨G, C, Q⟩, ⟨S, ⟨?_, fun l hl => ?_, fun l k hl hk => ?_, fun l k hl hk => ?_, fun l k l' k' hl hk hl' hk' hne j hj => h.dis l k l' k' hl (by rw [hc l hl]; exact hk) hl' (by rw [hc l' hl']; exact hk') hne j hj⟩, fun j hj => ?_⟩, hb, fun _ hf => hf.elim⟩
  · have hh := h.head
    unfold headG at hh
    rw [(hC 0 (by omega)).1, (hC 1 (by omega)).1, (hC 2 (by omega)).1, (hC 3 (by omega)).1, (hC 4 (by omega)).1, (hC 5 (by omega)).1, (hC 6 (by omega)).1, (hC 7 (by omega)).1, (hC 8 (by omega)).1] at hh
    exact hh
  · obtain ⟨_, cur, _, hg, _⟩ := hC l hl
    exact ⟨cur, hg⟩
  · obtain ⟨_, cur, _, hg, ht⟩ := hC l hl
    obtain ⟨a, b, c'⟩ := shC_get Q l hk
    have key : ∀ i v, (shC Q l (pw l))[i]? = some v → w.cell? ⟨G l, i, none⟩ = some v := by
      intro i v hv
      rw [cell_of_row w (G l) i _ _ _ hg]
      rw [← ht, List.getElem?_take] at hv
      split at hv
      · simpa using hv
      · cases hv
    exact ⟨key _ _ a, key _ _ b, key _ _ c'⟩
  · obtain ⟨m, t⟩ := h.tree l k hl (by rw [hc l hl]; exact hk)
    exact ⟨m, 0, trivial, t⟩
  · rcases hj with rfl | ⟨l, hl, rfl⟩ | ⟨l, k, hl, hk, hj⟩
    · exact ⟨h.low.1, id⟩
    · obtain ⟨_, cur, hb, _, _⟩ := hC l hl
      exact ⟨hb, id⟩
    · exact ⟨h.low.2 l k j hl (by rw [hc l hl]; exact hk) hj, id⟩
end

end Go.Proofs.YtcppgpjodfeigaaDoor
