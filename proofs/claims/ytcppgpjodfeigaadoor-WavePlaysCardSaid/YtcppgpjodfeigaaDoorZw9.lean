/- Lemmas and contracts under the claims of this seat: Contract of package wave: Shapes. Contract of package wave: Select. Contract of package wave: Insert. Contract of package wave: Insert, in full. Contract of package wave: Delete. A wave of symbols as a law sees it. told of law 7. A wave and the row of its symbols, as laws see them. The contract of sym.All: the symbols of all parts, and the end, in memory of the call's own. sym.All of one, two and three parts. Contracts of the document's answer for symbols: Is, Bit, Path, Syms, Same. -/
import Derived.Test.YtcppgpjodfeigaaDoorZw8
import Derived.Test.YtcppgpjodfeigaaDoorZw7
import Derived.Deep.DeepCutAuto
import Derived.Deep.CutBlock
import Derived.Deep.CutRange
import Derived.Test.YtcppgpjodfeigaaDoorZw1
import Derived.Laws.BytesArg
import Derived.Deep.QuietTactic
import Derived.BigQuiet

namespace Go.Proofs.YtcppgpjodfeigaaDoor
set_option linter.unusedVariables false
set_option linter.unusedSimpArgs false
open Go.RowKit

/-- The shelves that have bits, in their order. -/
def nonE (o : Option ST) : Bool := decide (0 < (sbits o).length)
def shL (O : Nat → Nat → Option ST) (l k : Nat) : List (Option ST) := ((List.range k).map (O l)).filter nonE
def shTo (O : Nat → Nat → Option ST) (l : Nat) : List (Option ST) := (List.range l).flatMap (fun l => shL O l (pw l))
def shapeC (o : Option ST) : List Value := match o with
  | none => [.int .i64 0, .int .i64 0, .int .i64 0, .int .i64 0]
  | some t => [.int .i64 t.bits.length, .int .i64 t.high, .int .i64 t.leaves, .int .i64 t.size]
theorem shapeC_v (o : Option ST) : shapeV o = .agg (shapeC o).toArray := by cases o <;> rfl
theorem shapeC_one (o : Option ST) : ∀ u ∈ shapeC o, u.oneCell' = true := by
  cases o <;> intro u hu <;> simp [shapeC] at hu <;> rcases hu with rfl | rfl | rfl | rfl <;> rfl
theorem shapeC_len (o : Option ST) : (shapeC o).length = 4 := by cases o <;> rfl
theorem shL_zero (O : Nat → Nat → Option ST) (l : Nat) : shL O l 0 = [] := rfl
theorem shL_succ (O : Nat → Nat → Option ST) (l k : Nat) : shL O l (k + 1) = shL O l k ++ if nonE (O l k) then [O l k] else [] := by
  unfold shL
  rw [List.range_succ, List.map_append, List.filter_append]
  congr 1
  simp [List.filter_cons]
theorem shTo_succ (O : Nat → Nat → Option ST) (l : Nat) : shTo O (l + 1) = shTo O l ++ shL O l (pw l) := by
  unfold shTo
  rw [List.range_succ, List.flatMap_append]
  simp
theorem shL_le (O : Nat → Nat → Option ST) (l k : Nat) : (shL O l k).length ≤ k := by
  unfold shL
  exact Nat.le_trans (List.length_filter_le _ _) (by simp)
theorem shTo_le (O : Nat → Nat → Option ST) (l : Nat) (h : l ≤ 9) : (shTo O l).length ≤ l * 256 := by
  induction l with
  | zero => simp [shTo]
  | succ l ih =>
    rw [shTo_succ, List.length_append]
    have h1 := ih (by omega)
    have h2 := shL_le O l (pw l)
    have h3 : pw l ≤ 256 := pw_le (by omega)
    omega
theorem Tryd.infoShape : (Tryd.prog.info? 36).map (fun i => (i.zero, i.size, i.bytes)) = some (some (.agg #[.int .i64 0, .int .i64 0, .int .i64 0, .int .i64 0]), 4, 32) := by kernel_rfl

theorem own_belowK {w w' : World} {base : Nat} {e : TypeId} {size : Nat} {v : Value} {n : Nat} {xs : List Value} (h : w.ownsRow base e size v n xs) (hb : Below w.heap.size w w') : w'.ownsRow base e size v n xs :=
  h.kept (row := none) ⟨hb.os, hb.tape, hb.output, hb.size, fun k hk _ => hb.block k hk⟩ (by cases hv : v.ownBlock <;> simp)
theorem shapeC_ex (o : Option ST) : ∃ a0 a1 a2 a3 : Nat, shapeC o = [.int .i64 a0, .int .i64 a1, .int .i64 a2, .int .i64 a3] := by
  cases o with
  | none => exact ⟨0, 0, 0, 0, rfl⟩
  | some t => exact ⟨_, _, _, _, rfl⟩

/-- The row of shapes so far. -/
def ShRow (w : World) (base : Nat) (v : Value) (ys : List (Option ST)) : Prop := w.ownsRow base 36 4 v ys.length (ys.flatMap shapeC)

set_option maxHeartbeats 6400000 in
set_option maxRecDepth 100000 in
theorem wShapes_any {B : Nat} {X : Nat → Prop} {w : World} {p n : Nat} {D : WD} {O : Nat → Nat → Option ST} {vis : Int} {Vb : Nat → Nat → Int → Prop} (h : WaveE B X w p D O n vis Vb) :
    Calls Tryd.prog 41 #[.pointer (some ⟨p, 0, none⟩)] w fun e w' => ∃ v, e = .returned v ∧ ShRow w' w.heap.size v (shTo O 9) ∧ Below w.heap.size w w' := by
  obtain ⟨hc0, c9, c10, fz, hp⟩ := h.cells
  have x0 := hc0 0 (by omega)
  have x1 := hc0 1 (by omega)
  have x2 := hc0 2 (by omega)
  have x3 := hc0 3 (by omega)
  have x4 := hc0 4 (by omega)
  have x5 := hc0 5 (by omega)
  have x6 := hc0 6 (by omega)
  have x7 := hc0 7 (by omega)
  have x8 := hc0 8 (by omega)
  have HW := Lib.hid h
  clear h hc0 fz
  go_enter Tryd.func41, Tryd.ntmps41
  go_wp2_with fail
  clear x0 x1 x2 x3 x4 x5 x6 x7 x8 c9 c10
  go_loopw [3, 14] (fun v x wr => ∃ l : Nat, l ≤ 9 ∧ x = .int .i64 l ∧ ShRow wr w.heap.size v (shTo O l) ∧ Below w.heap.size w wr) (fun _ x _ => 9 - (intOf x).toNat)
  case atStart => exact ⟨0, by omega, rfl, World.ownsRow_nil _ _ _ _, Below.refl _ _⟩
  case round => as_aux_lemma =>
    obtain ⟨l, hl, rfl, hr, hb⟩ := hrel
    by_cases hlt : l < 9
    · have hix : ∀ w : World, (Instr.index 99 (.agg #[D.row 0, D.row 1, D.row 2, D.row 3, D.row 4, D.row 5, D.row 6, D.row 7, D.row 8]) (.int .i64 (l : Int))).run Tryd.prog w = .ok (.slice (some ⟨D.G l, 0, none⟩) (pw l) (D.C l)) w := idx_row D hlt
      have hpl := pw_le hlt
      have HIX := Lib.hid hix
      have d9 : decide ((l : Int) < 9) = true := decide_eq_true (by omega)
      go_wp2_with fail
      clear hix d9
      go_loopw [3, 19] (fun v x wr => ∃ k : Nat, k ≤ pw l ∧ x = .int .i64 k ∧ ShRow wr w.heap.size v (shTo O l ++ shL O l k) ∧ Below w.heap.size w wr) (fun _ x _ => pw l - (intOf x).toNat)
      case atStart => exact ⟨0, by omega, rfl, by rw [shL_zero, List.append_nil]; exact hr, hb⟩
      case round => as_aux_lemma =>
        clear hr hb
        obtain ⟨k, hk, rfl, hr, hb⟩ := hrel
        by_cases hkp : k < pw l
        · obtain ⟨r0, r1, r2⟩ := (HW.out.below hb).shelf hlt hkp
          have HSZ := Lib.hid hb.size
          have HLN := Lib.hid (fun (w' : World) (hb' : Below w.heap.size w w') => (HW.out.below hb').tLen hlt hkp)
          have HSH := Lib.hid (fun (w' : World) (hb' : Below w.heap.size w w') => (HW.out.below hb').tShape hlt hkp)
          have HR := Lib.hid hr
          have HB := Lib.hid hb
          have HKP := Lib.hid hkp
          have i0 : (0 : Int) ≤ (k : Int) := by omega
          have i1 : (k : Int) < ((pw l : Nat) : Int) := by omega
          clear hr hb
          obtain ⟨q, hq⟩ : ∃ q, D.Q l k = q := ⟨_, rfl⟩
          obtain ⟨g, hg⟩ : ∃ g, D.G l = g := ⟨_, rfl⟩
          rw [hq] at HLN HSH r0
          rw [hg] at r0 r1 r2 ⊢
          clear hq hg
          generalize D.C l = gc at *
          clear HIX
          go_wp2_with fail
          have hb0 := below_al wr (.cells #[.pointer (some ⟨q, 0, none⟩), .int .i64 l, .int .i64 k] 104)
          have hx3 : Box3 (wr.alloc (.cells #[.pointer (some ⟨q, 0, none⟩), .int .i64 l, .int .i64 k] 104)) wr.heap.size (.pointer (some ⟨q, 0, none⟩)) (.int .i64 l) (.int .i64 k) 104 := heap_alloc_new wr _
          have HR1 : Hid (ShRow (wr.alloc (.cells #[.pointer (some ⟨q, 0, none⟩), .int .i64 l, .int .i64 k] 104)) w.heap.size u3 (shTo O l ++ shL O l k)) := Lib.hid (World.ownsRow.alloc HR.out _)
          have HB1 : Hid (Below w.heap.size w (wr.alloc (.cells #[.pointer (some ⟨q, 0, none⟩), .int .i64 l, .int .i64 k] 104))) := Lib.hid (HB.out.trans (hb0.mono HSZ.out))
          clear HR HB hb0 r0 r1 r2
          generalize wr.alloc (.cells #[.pointer (some ⟨q, 0, none⟩), .int .i64 l, .int .i64 k] 104) = wa at *
          refine (HLN.out _ HB1.out).mono ?_
          rintro e w1 ⟨rfl, m, rfl⟩
          obtain ⟨b90, b91, b92⟩ := hx3.cells
          have b90 : (wa.drewN m).cell? ⟨wr.heap.size, 0, none⟩ = some (.pointer (some ⟨q, 0, none⟩)) := b90
          have HB2 : Hid (Below w.heap.size w (wa.drewN m)) := Lib.hid (below_dN HB1.out m)
          have HR2 : Hid (ShRow (wa.drewN m) w.heap.size u3 (shTo O l ++ shL O l k)) := HR1
          clear HB1 HR1 hx3 b91 b92 HLN
          generalize wa.drewN m = w1 at *
          have hsucc := shL_succ O l k
          obtain ⟨z, hz⟩ : ∃ z, (sbits (O l k)).length = z := ⟨_, rfl⟩
          have hne : nonE (O l k) = decide (0 < z) := by rw [← hz]; rfl
          rw [hz]
          by_cases hz0 : 0 < z
          · have hne : nonE (O l k) = true := hne.trans (decide_eq_true hz0)
            rw [hne, if_pos rfl] at hsucc
            have d0 : decide ((0 : Int) < (z : Int)) = true := decide_eq_true (by omega)
            have HSU := Lib.hid hsucc
            have HHS := Lib.hid (HSH.out _ HB2.out)
            obtain ⟨o, ho⟩ : ∃ o, O l k = o := ⟨_, rfl⟩
            rw [ho] at HHS HSU
            obtain ⟨a0, a1, a2, a3, hsc⟩ := shapeC_ex o
            rw [shapeC_v, hsc] at HHS
            have HSC := Lib.hid hsc
            have HLE : Hid ((shTo O l ++ shL O l k).length ≤ 100000) := Lib.hid (by
              have h1 := shTo_le O l hl
              have h2 := shL_le O l k
              rw [List.length_append]; omega)
            clear hne hz hsucc HSH ho hsc
            go_wp2_with fail
            refine HHS.out.mono ?_
            rintro e w3 ⟨rfl, hb3⟩
            have HB3 : Hid (Below w.heap.size w w3) := Lib.hid (HB2.out.trans (hb3.mono HB2.out.size))
            have hr3 : ShRow w3 w.heap.size u3 (shTo O l ++ shL O l k) := own_belowK HR2.out hb3
            have hs3 := HB3.out.size
            have hle := HLE.out
            obtain ⟨ys, hys⟩ : ∃ ys, shTo O l ++ shL O l k = ys := ⟨_, rfl⟩
            rw [hys] at hr3 hle
            have HYS : Hid (shTo O l ++ shL O l (k + 1) = ys ++ [o]) := Lib.hid (by rw [HSU.out, ← List.append_assoc, hys])
            obtain ⟨n1, hn1⟩ : ∃ n1, ys.length = n1 := ⟨_, rfl⟩
            obtain ⟨xs1, hxs1⟩ : ∃ xs1, ys.flatMap shapeC = xs1 := ⟨_, rfl⟩
            unfold ShRow at hr3
            rw [hxs1, hn1] at hr3
            rw [hn1] at hle
            have HN1 := Lib.hid hn1
            have HX1 := Lib.hid hxs1
            clear HB2 HR2 HHS hb3 b90 HSU hys HLE hn1 hxs1 HW
            go_wp2_with (at_builtin; refine wpList_pushK rfl _ _ 58 rfl w.heap.size 36 Tryd.infoShape Tryd.underlying58 rfl (by decide) _ _ _ rfl (World.ownsRow.alloc hr3 _) w3.heap.size 1 [.int .i64 a0, .int .i64 a1, .int .i64 a2, .int .i64 a3] rfl rfl ?hus ?h1 ?c1 ?c2 ?c3 ?_)
            case hus =>
              intro j u hj
              rw [cell_of_row _ w3.heap.size j _ _ _ (heap_alloc_new w3 _)]
              simpa using hj
            case h1 => intro u hu; simp at hu; rcases hu with rfl | rfl | rfl | rfl <;> rfl
            case c1 => unfold maxLen; omega
            case c2 => omega
            case c3 => simp; omega
            intro gg cp w4 hown hgrow hor hlt4
            have HR4 : Hid (ShRow w4 w.heap.size (.slice (some ⟨gg, 0, none⟩) (n1 + 1) cp) (shTo O l ++ shL O l (k + 1))) := Lib.hid (by
              rw [HYS.out]
              unfold ShRow
              rw [List.length_append, List.flatMap_append, HN1.out, HX1.out]
              simp only [List.flatMap_cons, List.flatMap_nil, List.append_nil, HSC.out]
              exact hown)
            have hgr : w3.grownBy w4 u3.ownBlock := ⟨hgrow.os, hgrow.tape, hgrow.output, by have := hgrow.size; simp at this; omega, fun j hj hne => by
              rw [hgrow.block j (by simp; omega) hne]; exact Below.heap_alloc w3 _ j hj⟩
            have HB4 : Hid (Below w.heap.size w w4) := Lib.hid (HB3.out.grown hgr hs3 (fun j hj => (hr3.lt j hj).1))
            clear hown hgrow hor hlt4 hgr hr3 HB3 HYS HN1 HX1 HSC
            go_wp2_with fail
            go_roundw
            case rel => exact ⟨k + 1, by have := HKP.out; omega, by go_num, HR4.out, HB4.out⟩
            case measure => have := HKP.out; simp [intOf]; omega
          · obtain rfl : z = 0 := by omega
            have hne : nonE (O l k) = false := hne
            rw [hne, if_neg (by decide), List.append_nil] at hsucc
            have HSU := Lib.hid hsucc
            clear hne hz hsucc HSH
            go_wp2_with fail
            go_roundw
            case rel => exact ⟨k + 1, by have := HKP.out; omega, by go_num, by rw [HSU.out]; exact HR2.out, HB2.out⟩
            case measure => have := HKP.out; simp [intOf]; omega
        · obtain rfl : k = pw l := by omega
          go_wp2_with fail
          go_roundw
          case rel => exact ⟨l + 1, by omega, by go_num, by rw [shTo_succ]; exact hr, hb⟩
          case measure => simp [intOf]; omega
    · obtain rfl : l = 9 := by omega
      go_wp2_with fail
      go_ret
      exact ⟨_, rfl, hr, hb⟩

end Go.Proofs.YtcppgpjodfeigaaDoor

namespace Go.Proofs.YtcppgpjodfeigaaDoor
set_option linter.unusedVariables false
set_option linter.unusedSimpArgs false
open Go.RowKit

/-- The place of the s with j such ones ahead; -1. -/
def selS (L : List Nat) (j : Int) (s : Nat) : Int := match (List.range L.length).find? fun i => decide (L[i]? = some s) && decide ((rankS L i s : Int) = j) with
  | some i => (i : Int)
  | none => -1
theorem rankS_succ {L : List Nat} {k : Nat} (s : Nat) (h : k < L.length) : rankS L (k + 1) s = rankS L k s + (if L[k]? = some s then 1 else 0) := by
  unfold rankS
  rw [List.take_add_one, List.getElem?_eq_getElem h, Option.toList_some, List.count_append, List.count_singleton]
  congr 1
  by_cases e : L[k] = s <;> simp [e]
theorem rankS_mono (L : List Nat) {i j : Nat} (s : Nat) (h : i ≤ j) : rankS L i s ≤ rankS L j s := by
  unfold rankS
  exact List.Sublist.count_le _ (List.take_sublist_take_left h)
theorem rankS_over {L : List Nat} {k : Nat} (s : Nat) (h : L.length ≤ k) : rankS L k s = L.count s := by unfold rankS; rw [List.take_of_length_le h]
theorem rankS_le (L : List Nat) (k s : Nat) : rankS L k s ≤ k ∧ rankS L k s ≤ L.count s := by
  constructor
  · unfold rankS
    have := List.count_le_length (a := s) (l := L.take k)
    rw [List.length_take] at this; omega
  · rw [← rankS_over (L := L) (k := max k L.length) s (by omega)]
    exact rankS_mono L s (by omega)
theorem selS_hit {L : List Nat} {k s : Nat} {j : Int} (hk : L[k]? = some s) (hp : (rankS L k s : Int) = j) : selS L j s = k := by
  have hlt := (List.getElem?_eq_some_iff.1 hk).1
  unfold selS
  have : (List.range L.length).find? (fun i => decide (L[i]? = some s) && decide ((rankS L i s : Int) = j)) = some k := by
    rw [List.find?_range_eq_some]
    refine ⟨by simp [hk, hp], by simpa using hlt, fun i hi => ?_⟩
    simp only [Bool.not_eq_true', Bool.and_eq_false_iff, decide_eq_false_iff_not]
    by_cases e : L[i]? = some s
    · right
      have h1 := rankS_succ s (L := L) (k := i) (by omega)
      rw [if_pos e] at h1
      have h2 := rankS_mono L (i := i + 1) (j := k) s (by omega)
      omega
    · exact Or.inl e
  rw [this]
theorem selS_none {L : List Nat} {j : Int} {s : Nat} (h : ∀ i, L[i]? = some s → (rankS L i s : Int) ≠ j) : selS L j s = -1 := by
  unfold selS
  have : (List.range L.length).find? (fun i => decide (L[i]? = some s) && decide ((rankS L i s : Int) = j)) = none := by
    rw [List.find?_eq_none]
    intro i _
    simp only [Bool.and_eq_true, decide_eq_true_eq, not_and]
    exact fun e => h i e
  rw [this]
theorem selS_neg {L : List Nat} {j : Int} {s : Nat} (h : j < 0) : selS L j s = -1 := selS_none (fun i _ => by omega)
theorem selS_many {L : List Nat} {j : Int} {s : Nat} (h : (L.count s : Int) ≤ j) : selS L j s = -1 := selS_none (fun i hi => by
  have hlt := (List.getElem?_eq_some_iff.1 hi).1
  have h1 := rankS_succ s hlt
  rw [if_pos hi] at h1
  have h2 := (rankS_le L (i + 1) s).2
  omega)
theorem selS_ex : ∀ (n : Nat) (L : List Nat) (s j : Nat), n ≤ L.length → j < rankS L n s → ∃ k, k < n ∧ L[k]? = some s ∧ rankS L k s = j
  | 0, L, s, j, _, h => by simp [rankS] at h
  | n + 1, L, s, j, hn, h => by
    have h1 := rankS_succ s (L := L) (k := n) (by omega)
    by_cases e : L[n]? = some s
    · rw [if_pos e] at h1
      by_cases e2 : j = rankS L n s
      · exact ⟨n, by omega, e, e2.symm⟩
      · obtain ⟨k, a, b, c⟩ := selS_ex n L s j (by omega) (by omega)
        exact ⟨k, by omega, b, c⟩
    · rw [if_neg e] at h1
      obtain ⟨k, a, b, c⟩ := selS_ex n L s j (by omega) (by omega)
      exact ⟨k, by omega, b, c⟩

theorem keepS3 {w : World} {a b c d : Nat} {va vb vc u : Value} (h : w.cell? ⟨a, 0, none⟩ = some va ∧ w.cell? ⟨b, 0, none⟩ = some vb ∧ w.cell? ⟨c, 0, none⟩ = some vc) (hn : a ≠ d ∧ b ≠ d ∧ c ≠ d) :
    (w.setCell ⟨d, 0, none⟩ u).cell? ⟨a, 0, none⟩ = some va ∧ (w.setCell ⟨d, 0, none⟩ u).cell? ⟨b, 0, none⟩ = some vb ∧ (w.setCell ⟨d, 0, none⟩ u).cell? ⟨c, 0, none⟩ = some vc := by
  have hc : Chg (fun j => j = d) w (w.setCell ⟨d, 0, none⟩ u) := Chg.refl.setCell (S := fun j => j = d) ⟨d, 0, none⟩ (Or.inl rfl) u
  exact ⟨hc.cell (p := ⟨a, 0, none⟩) h.1 hn.1, hc.cell (p := ⟨b, 0, none⟩) h.2.1 hn.2.1, hc.cell (p := ⟨c, 0, none⟩) h.2.2 hn.2.2⟩

set_option maxHeartbeats 3200000 in
theorem wSel1 {B : Nat} {Z : Nat → Prop} {w : World} {p n : Nat} {D : WD} {O : Nat → Nat → Option ST} {vis : Int} (h : WaveE B Z w p D O n vis anyV) (hTab : BitTab w) (hN : 0 < B) {l k s : Nat} (hs : s < 257) (hl : l < 9) (hk : k < pw l) {b1 b2 b3 : Nat} (z1 : Z b1) (z2 : Z b2) (z3 : Z b3) (hn2 : b2 ≠ b1) (hn3 : b3 ≠ b1) {j : Int}
    (h1 : Box1 w b1 (.int .i64 j) 3) (h2 : Box1 w b2 (.int .i64 s) 3) (h3 : Box1 w b3 (.int .i64 l) 3) :
    Calls Tryd.prog 89 #[shelfV D l k, .pointer (some ⟨b1, 0, none⟩), .pointer (some ⟨b2, 0, none⟩), .pointer (some ⟨b3, 0, none⟩)] w fun e w' => e = .returned (.tuple #[]) ∧ DoPost B Z (fun i => i = b1) w w' p D O n vis l k (shigh (O l k) + 1) ∧ Box1 w' b1 (.int .i64 (selL (sbits (O l k)) j (bitS s l))) 3 := by
  have hb0 := below_al w (.cells #[.pointer (some ⟨D.Q l k, 0, none⟩), .int .i64 l, .int .i64 k] 104)
  obtain ⟨W, hW⟩ : ∃ W, W = w.alloc (.cells #[.pointer (some ⟨D.Q l k, 0, none⟩), .int .i64 l, .int .i64 k] 104) := ⟨_, rfl⟩
  have hbx : Box3 W w.heap.size (.pointer (some ⟨D.Q l k, 0, none⟩)) (.int .i64 l) (.int .i64 k) 104 := by rw [hW]; exact heap_alloc_new w _
  rw [← hW] at hb0
  have c1 := (h1.below hb0).cell
  have c2 := (h2.below hb0).cell
  have c3 := (h3.below hb0).cell
  have HBIT := Lib.hid (fun w => bit_nat hs hl w)
  have hE' : WaveE B (fun i => Z i ∨ i = w.heap.size) W p D O n vis anyV := h.less hb0 (fun i hi => hi.elim Or.inl (fun e => Or.inr (by omega))) (fun i hi => hi.elim (fun g => Nat.lt_of_lt_of_le (h.x i g) hb0.size) (fun e => by subst e; exact hbx.lt))
  have HSEL := Lib.hid ((hE'.drewN 1).tSelect hl hk (BitTab.below' hTab ⟨hb0.os, hb0.tape, hb0.output, hb0.size, hb0.block⟩) hN j (bitS s l))
  have HB1 := Lib.hid (h1.below hb0)
  have HB0 := Lib.hid hb0
  have HZ1 := Lib.hid z1
  have hsbx := hbx.cells.1
  have HSK : Hid (∀ w', Chg (exT B (fun i => Z i ∨ i = w.heap.size)) (W.drewN 1) w' → (w'.cell? ⟨w.heap.size, 0, none⟩ = some (.pointer (some ⟨D.Q l k, 0, none⟩)) ∧ w'.cell? ⟨b2, 0, none⟩ = some (.int .i64 s) ∧ w'.cell? ⟨b3, 0, none⟩ = some (.int .i64 l))) := fun w' hc =>
    ⟨(Box3.chg (w := W.drewN 1) hbx hc (fun hk => hk.2 (Or.inr rfl))).cells.1, (Box1.chg (w := W.drewN 1) (Box1.below (w' := W) h2 hb0) hc (fun hk => hk.2 (Or.inl z2))).cell, (Box1.chg (w := W.drewN 1) (Box1.below (w' := W) h3 hb0) hc (fun hk => hk.2 (Or.inl z3))).cell⟩
  have HNE : Hid (w.heap.size ≠ b1 ∧ b2 ≠ b1 ∧ b3 ≠ b1) := ⟨fun e => by have := h1.lt; omega, hn2, hn3⟩
  clear h h1 h2 h3 hb0 z1 z2 z3 hl hk hTab hbx hE'
  unfold shelfV
  obtain ⟨r, hr⟩ : ∃ r, selL (sbits (O l k)) j (bitS s l) = r := ⟨_, rfl⟩
  rw [hr] at HSEL ⊢
  clear hr
  generalize bitS s l = bt at *
  obtain ⟨q, hq⟩ : ∃ q, D.Q l k = q := ⟨_, rfl⟩
  rw [hq] at HSEL hW hsbx HSK ⊢
  clear hq
  have HWW := Lib.hid hW
  go_enter Tryd.func89, Tryd.ntmps89
  go_wp2_with fail
  rw [← hW]
  clear hW
  -- REGION s1
  refine reg_start (fun w' => w'.cell? ⟨w.heap.size, 0, none⟩ = some (.pointer (some ⟨q, 0, none⟩)) ∧ w'.cell? ⟨b2, 0, none⟩ = some (.int .i64 s) ∧ w'.cell? ⟨b3, 0, none⟩ = some (.int .i64 l)) (by kernel_rfl) (HSK.out _ Chg.refl) (fun hHeld => ?_)
  refine reg_take (i := 0) (v := ?vs10) rfl (by kernel_rfl) rfl hHeld ?ys10 ?rs10
  case ys10 => (intro w hSw; (try dsimp only at hSw); go_simp; all_goals with_reducible rfl)
  try simp only [Act.put, List.setIfInBounds_toArray, List.set_cons_zero, List.set_cons_succ]
  refine reg_take (i := 1) (v := ?vs11) rfl (by kernel_rfl) rfl hHeld ?ys11 ?rs11
  case ys11 => (intro w hSw; (try dsimp only at hSw); go_simp; all_goals with_reducible rfl)
  try simp only [Act.put, List.setIfInBounds_toArray, List.set_cons_zero, List.set_cons_succ]
  refine reg_take (i := 3) (v := ?vs13) rfl (by kernel_rfl) rfl hHeld ?ys13 ?rs13
  case ys13 => (intro w hSw; (try dsimp only at hSw); go_simp; all_goals with_reducible rfl)
  try simp only [Act.put, List.setIfInBounds_toArray, List.set_cons_zero, List.set_cons_succ]
  refine reg_take (i := 4) (v := ?vs14) rfl (by kernel_rfl) rfl hHeld ?ys14 ?rs14
  case ys14 => (intro w hSw; (try dsimp only at hSw); go_simp; all_goals with_reducible rfl)
  try simp only [Act.put, List.setIfInBounds_toArray, List.set_cons_zero, List.set_cons_succ]
  refine reg_loud2 (i := 2) (j := 5) rfl rfl (by kernel_rfl) rfl rfl (fun K hK => ?bs12) (fun K hK => ?bs15)
  case bs12 => 
    go_simp
    refine hK.out _ _ (hHeld) (fun hNew => ?_)
    clear hK K hHeld
    have hHeld := hNew
    clear hNew
    try simp only [Act.put, List.setIfInBounds_toArray, List.set_cons_zero, List.set_cons_succ]
    refine reg_loud (i := 5) rfl (by kernel_rfl) rfl (fun K hK => ?_)
    go_simp
    ((refine (HBIT.out _).mono ?_))
    rintro e w2 ⟨rfl, rfl⟩
    refine hK.out _ _ (hHeld) (fun hNew => ?_)
    clear hK K hHeld
    have hHeld := hNew
    clear hNew
    try simp only [Act.put, List.setIfInBounds_toArray, List.set_cons_zero, List.set_cons_succ]
    refine reg_loud (i := 6) rfl (by kernel_rfl) rfl (fun K hK => ?_)
    go_simp
    ((refine HSEL.out.mono ?_))
    rintro e w2 ⟨rfl, hE2, hC2⟩
    have hb1 := Box1.chg (w := W.drewN 1) HB1.out hC2 (fun hk => hk.2 (Or.inl HZ1.out))
    have k1 := hb1.cell
    have kf1 := hb1.frz
    have HK1 := Lib.hid hb1
    have HE2 := Lib.hid hE2
    have HC2 := Lib.hid hC2
    clear hb1 hE2 hC2
    refine hK.out _ _ (HSK.out _ HC2.out) (fun hNew => ?_)
    clear hK K hHeld
    have hHeld := hNew
    clear hNew
    try simp only [Act.put, List.setIfInBounds_toArray, List.set_cons_zero, List.set_cons_succ]
    refine reg_loud (i := 7) rfl (by kernel_rfl) rfl (fun K hK => ?_)
    go_simp
    refine hK.out _ _ (keepS3 hHeld HNE.out) (fun hNew => ?_)
    clear hK K hHeld
    have hHeld := hNew
    clear hNew
    try simp only [Act.put, List.setIfInBounds_toArray, List.set_cons_zero, List.set_cons_succ]
    refine reg_done (by kernel_rfl) ?_ _
    clear hHeld
    go_wp2_with fail
    go_end0
    refine ⟨rfl, ⟨(HE2.out.mono (fun i hi => Or.inl hi)).setBox HZ1.out _, ?_⟩, HK1.out.set _⟩
    exact (((Chg.of_below (S := fun j => exT B Z j ∨ j = b1) HB0.out).drewN 1).trans (HC2.out.mono (fun j hj => Or.inl (exT_mono (fun i hi => Or.inl hi) hj))) (fun j hj => Or.inl hj)).setCell _ (Or.inl (Or.inr rfl)) _
  case bs15 => 
    go_simp
    ((refine (HBIT.out _).mono ?_))
    rintro e w2 ⟨rfl, rfl⟩
    refine hK.out _ _ (hHeld) (fun hNew => ?_)
    clear hK K hHeld
    have hHeld := hNew
    clear hNew
    try simp only [Act.put, List.setIfInBounds_toArray, List.set_cons_zero, List.set_cons_succ]
    refine reg_loud (i := 2) rfl (by kernel_rfl) rfl (fun K hK => ?_)
    go_simp
    refine hK.out _ _ (hHeld) (fun hNew => ?_)
    clear hK K hHeld
    have hHeld := hNew
    clear hNew
    try simp only [Act.put, List.setIfInBounds_toArray, List.set_cons_zero, List.set_cons_succ]
    refine reg_loud (i := 6) rfl (by kernel_rfl) rfl (fun K hK => ?_)
    go_simp
    ((refine HSEL.out.mono ?_))
    rintro e w2 ⟨rfl, hE2, hC2⟩
    have hb1 := Box1.chg (w := W.drewN 1) HB1.out hC2 (fun hk => hk.2 (Or.inl HZ1.out))
    have k1 := hb1.cell
    have kf1 := hb1.frz
    have HK1 := Lib.hid hb1
    have HE2 := Lib.hid hE2
    have HC2 := Lib.hid hC2
    clear hb1 hE2 hC2
    refine hK.out _ _ (HSK.out _ HC2.out) (fun hNew => ?_)
    clear hK K hHeld
    have hHeld := hNew
    clear hNew
    try simp only [Act.put, List.setIfInBounds_toArray, List.set_cons_zero, List.set_cons_succ]
    refine reg_loud (i := 7) rfl (by kernel_rfl) rfl (fun K hK => ?_)
    go_simp
    refine hK.out _ _ (keepS3 hHeld HNE.out) (fun hNew => ?_)
    clear hK K hHeld
    have hHeld := hNew
    clear hNew
    try simp only [Act.put, List.setIfInBounds_toArray, List.set_cons_zero, List.set_cons_succ]
    refine reg_done (by kernel_rfl) ?_ _
    clear hHeld
    go_wp2_with fail
    go_end0
    refine ⟨rfl, ⟨(HE2.out.mono (fun i hi => Or.inl hi)).setBox HZ1.out _, ?_⟩, HK1.out.set _⟩
    exact (((Chg.of_below (S := fun j => exT B Z j ∨ j = b1) HB0.out).drewN 1).trans (HC2.out.mono (fun j hj => Or.inl (exT_mono (fun i hi => Or.inl hi) hj))) (fun j hj => Or.inl hj)).setCell _ (Or.inl (Or.inr rfl)) _
  -- END OF REGION s1

def adOf : Value → Addr
  | .pointer (some a) => a
  | _ => ⟨0, 0, none⟩

set_option maxHeartbeats 6400000 in
set_option maxRecDepth 100000 in
theorem wSelect_any {B : Nat} {X : Nat → Prop} {w : World} {p : Nat} {D : WD} {O : Nat → Nat → Option ST} {L : List Nat} {vis : Int} (h : WaveE B X w p D O L.length vis anyV) (hTab : BitTab w) (hNT : 0 < B) (hO : LvlO O L) (hL : Syms L) (hn : L.length ≤ 1000000000) {H : Nat} (hH : HiO O H) (hHm : H ≤ 1000000000) (j : Int) (s : Nat) (hs : s < 257) :
    Calls Tryd.prog 47 #[.pointer (some ⟨p, 0, none⟩), .int .i64 j, .int .i64 s] w fun e w' =>
      e = .returned (.int .i64 (selS L j s)) ∧ ∃ vis' : Int, WaveE B X w' p D O L.length vis' anyV ∧ Chg (exT B X) w w' := by
  obtain ⟨wa, hwa⟩ : ∃ wa, wa = w.alloc (.cells #[.int .i64 j] 3) := ⟨_, rfl⟩
  obtain ⟨wb, hwb⟩ : ∃ wb, wb = wa.alloc (.cells #[.int .i64 s] 3) := ⟨_, rfl⟩
  have sa : wa.heap.size = w.heap.size + 1 := by rw [hwa]; simp
  have ba : Below w.heap.size w wa := by rw [hwa]; exact below_al w _
  have bb : Below wa.heap.size wa wb := by rw [hwb]; exact below_al wa _
  have ball : Below w.heap.size w wb := ba.trans (bb.mono ba.size)
  have bj : Box1 wb w.heap.size (.int .i64 j) 3 := (by rw [hwa]; exact Box1.new w _ _ : Box1 wa w.heap.size (.int .i64 j) 3).below bb
  have bs : Box1 wb (w.heap.size + 1) (.int .i64 s) 3 := by rw [hwb, ← sa]; exact Box1.new wa _ _
  have hX1 : WaveE B (fun i => X i ∨ (i = w.heap.size ∨ i = w.heap.size + 1)) wb p D O L.length vis anyV := h.less ball (fun i hi => hi.elim Or.inl (fun e => Or.inr (by omega))) (fun i hi => hi.elim (fun g => Nat.lt_of_lt_of_le (h.x i g) ball.size) (fun e => by have := bs.lt; omega))
  obtain ⟨hc0, c9, c10, fz, hp⟩ := hX1.cells
  have cj := bj.cell
  have cs := bs.cell
  have HRK : Hid (Calls Tryd.prog 46 #[.pointer (some ⟨p, 0, none⟩), .int .i64 L.length, .int .i64 s] (wb.drewN 1) fun e w' =>
      e = .returned (.int .i64 (L.count s : Nat)) ∧ ∃ vis' : Int, 0 ≤ vis' ∧ vis' ≤ 9 * (H + 1) ∧ WaveE B (fun i => X i ∨ (i = w.heap.size ∨ i = w.heap.size + 1)) w' p D O L.length vis' anyV ∧ Chg (exT B (fun i => X i ∨ (i = w.heap.size ∨ i = w.heap.size + 1))) (wb.drewN 1) w') := by
    have := wRank_any (hX1.drewN 1) hO hL hn hH hHm (L.length : Int) s hs
    rw [Int.toNat_natCast, rankS_over s (Nat.le_refl _)] at this
    exact this
  have HX := Lib.hid h.x
  have HLE := Lib.hid h.le
  have HO := Lib.hid hO
  have HHi := Lib.hid hH
  have HLS := Lib.hid hL
  have HLEN := Lib.hid hn
  have HBJ := Lib.hid bj
  have HBS := Lib.hid bs
  have HBL := Lib.hid ball
  have HX1 := Lib.hid hX1
  have HTB := Lib.hid hTab
  have HPW := Lib.hid h.cells.2.2.2.2
  clear h hc0 fz hO hH hL hn hX1 ball bj bs ba bb sa hTab
  by_cases hj : j < 0
  · have d0 : decide (j < 0) = true := decide_eq_true hj
    have hsl := selS_neg (L := L) (s := s) hj
    have HSL := Lib.hid hsl.symm
    clear hsl
    subst hwa
    rw [hwb] at c9 c10 cj cs hp
    go_enter Tryd.func47, Tryd.ntmps47
    go_wp2_with fail
    go_quiet (fail)
    go_wp2_with fail
    go_ret
    rw [HSL.out]
    have hb := HBL.out
    have hx := HX1.out
    rw [hwb] at hb hx
    exact ⟨rfl, vis, (hx.mono (fun i hi => Or.inl hi)).drewN _, (Chg.of_below hb).drewN _⟩
  · have d0 : decide (j < 0) = false := decide_eq_false hj
    subst hwa
    have HWB := Lib.hid hwb
    rw [hwb] at c9 c10 cj cs hp
    go_enter Tryd.func47, Tryd.ntmps47
    go_wp2_with fail
    rw [← hwb] at c9 c10 cj cs hp ⊢
    clear hwb
    -- REGION sel
    refine reg_start (fun w' => w'.cell? ⟨w.heap.size, 0, none⟩ = some (.int .i64 j) ∧ w'.cell? ⟨w.heap.size + 1, 0, none⟩ = some (.int .i64 s) ∧ w'.cell? ⟨p, 9, none⟩ = some (.int .i64 L.length)) (by kernel_rfl) (⟨cj, cs, c9⟩) (fun hHeld => ?_)
    refine reg_take (i := 0) (v := ?vsl0) rfl (by kernel_rfl) rfl hHeld ?ysl0 ?rsl0
    case ysl0 => (intro w hSw; (try dsimp only at hSw); go_simp; all_goals with_reducible rfl)
    try simp only [Act.put, List.setIfInBounds_toArray, List.set_cons_zero, List.set_cons_succ]
    refine reg_take (i := 1) (v := ?vsl1) rfl (by kernel_rfl) rfl hHeld ?ysl1 ?rsl1
    case ysl1 => (intro w hSw; (try dsimp only at hSw); go_simp; all_goals with_reducible rfl)
    try simp only [Act.put, List.setIfInBounds_toArray, List.set_cons_zero, List.set_cons_succ]
    refine reg_take (i := 2) (v := ?vsl2) rfl (by kernel_rfl) rfl hHeld ?ysl2 ?rsl2
    case ysl2 => (intro w hSw; (try dsimp only at hSw); go_simp; all_goals with_reducible rfl)
    try simp only [Act.put, List.setIfInBounds_toArray, List.set_cons_zero, List.set_cons_succ]
    refine reg_take (i := 3) (v := ?vsl3) rfl (by kernel_rfl) rfl hHeld ?ysl3 ?rsl3
    case ysl3 => (intro w hSw; (try dsimp only at hSw); go_simp; all_goals with_reducible rfl)
    try simp only [Act.put, List.setIfInBounds_toArray, List.set_cons_zero, List.set_cons_succ]
    refine reg_take (i := 4) (v := ?vsl4) rfl (by kernel_rfl) rfl hHeld ?ysl4 ?rsl4
    case ysl4 => (intro w hSw; (try dsimp only at hSw); go_simp; all_goals with_reducible rfl)
    try simp only [Act.put, List.setIfInBounds_toArray, List.set_cons_zero, List.set_cons_succ]
    refine reg_take (i := 5) (v := ?vsl5) rfl (by kernel_rfl) rfl hHeld ?ysl5 ?rsl5
    case ysl5 => (intro w hSw; (try dsimp only at hSw); go_simp; all_goals with_reducible rfl)
    try simp only [Act.put, List.setIfInBounds_toArray, List.set_cons_zero, List.set_cons_succ]
    refine reg_take (i := 6) (v := ?vsl6) rfl (by kernel_rfl) rfl hHeld ?ysl6 ?rsl6
    case ysl6 => (intro w hSw; (try dsimp only at hSw); go_simp; all_goals with_reducible rfl)
    try simp only [Act.put, List.setIfInBounds_toArray, List.set_cons_zero, List.set_cons_succ]
    refine reg_take (i := 7) (v := ?vsl7) rfl (by kernel_rfl) rfl hHeld ?ysl7 ?rsl7
    case ysl7 => (intro w hSw; (try dsimp only at hSw); go_simp; all_goals with_reducible rfl)
    try simp only [Act.put, List.setIfInBounds_toArray, List.set_cons_zero, List.set_cons_succ]
    refine reg_take (i := 8) (v := ?vsl8) rfl (by kernel_rfl) rfl hHeld ?ysl8 ?rsl8
    case ysl8 => (intro w hSw; (try dsimp only at hSw); go_simp; all_goals with_reducible rfl)
    try simp only [Act.put, List.setIfInBounds_toArray, List.set_cons_zero, List.set_cons_succ]
    refine reg_take (i := 9) (v := ?vsl9) rfl (by kernel_rfl) rfl hHeld ?ysl9 ?rsl9
    case ysl9 => (intro w hSw; (try dsimp only at hSw); go_simp; all_goals with_reducible rfl)
    try simp only [Act.put, List.setIfInBounds_toArray, List.set_cons_zero, List.set_cons_succ]
    refine reg_take (i := 10) (v := ?vsl10) rfl (by kernel_rfl) rfl hHeld ?ysl10 ?rsl10
    case ysl10 => (intro w hSw; (try dsimp only at hSw); go_simp; all_goals with_reducible rfl)
    try simp only [Act.put, List.setIfInBounds_toArray, List.set_cons_zero, List.set_cons_succ]
    refine reg_take (i := 11) (v := ?vsl11) rfl (by kernel_rfl) rfl hHeld ?ysl11 ?rsl11
    case ysl11 => (intro w hSw; (try dsimp only at hSw); go_simp; all_goals with_reducible rfl)
    try simp only [Act.put, List.setIfInBounds_toArray, List.set_cons_zero, List.set_cons_succ]
    refine reg_take (i := 12) (v := ?vsl12) rfl (by kernel_rfl) rfl hHeld ?ysl12 ?rsl12
    case ysl12 => (intro w hSw; (try dsimp only at hSw); go_simp; all_goals with_reducible rfl)
    try simp only [Act.put, List.setIfInBounds_toArray, List.set_cons_zero, List.set_cons_succ]
    refine reg_take (i := 13) (v := ?vsl13) rfl (by kernel_rfl) rfl hHeld ?ysl13 ?rsl13
    case ysl13 => (intro w hSw; (try dsimp only at hSw); go_simp; all_goals with_reducible rfl)
    try simp only [Act.put, List.setIfInBounds_toArray, List.set_cons_zero, List.set_cons_succ]
    refine reg_loud (i := 14) rfl (by kernel_rfl) rfl (fun K hK => ?_)
    go_simp
    ((refine HRK.out.mono ?_))
    rintro e w2 ⟨rfl, v1, v1a, v1b, hE2, hC2⟩
    have hj2 := Box1.chg (w := wb.drewN 1) HBJ.out hC2 (fun hk => hk.2 (Or.inr (Or.inl rfl)))
    have hs2 := Box1.chg (w := wb.drewN 1) HBS.out hC2 (fun hk => hk.2 (Or.inr (Or.inr rfl)))
    have HS2 : Hid (w2.cell? ⟨w.heap.size, 0, none⟩ = some (.int .i64 j) ∧ w2.cell? ⟨w.heap.size + 1, 0, none⟩ = some (.int .i64 s) ∧ w2.cell? ⟨p, 9, none⟩ = some (.int .i64 L.length)) := ⟨hj2.cell, hs2.cell, hE2.cells.2.1⟩
    have HE2 := Lib.hid hE2
    have HJ2 := Lib.hid hj2
    have HB2 := Lib.hid hs2
    have HC2 : Hid (Chg (exT B X) w w2) := ((Chg.of_below (S := exT B X) HBL.out).drewN 1).trans hC2 (fun j hj => Or.inl (exT_mono (fun i hi => Or.inl hi) hj))
    clear hj2 hs2 hE2 hC2
    refine hK.out _ _ (HS2.out) (fun hNew => ?_)
    clear hK K hHeld
    have hHeld := hNew
    clear hNew
    try simp only [Act.put, List.setIfInBounds_toArray, List.set_cons_zero, List.set_cons_succ]
    refine reg_take (i := 15) (v := ?vsl15) rfl (by kernel_rfl) rfl hHeld ?ysl15 ?rsl15
    case ysl15 => (intro w hSw; (try dsimp only at hSw); go_simp; all_goals with_reducible rfl)
    try simp only [Act.put, List.setIfInBounds_toArray, List.set_cons_zero, List.set_cons_succ]
    refine reg_take (i := 16) (v := ?vsl16) rfl (by kernel_rfl) rfl hHeld ?ysl16 ?rsl16
    case ysl16 => (intro w hSw; (try dsimp only at hSw); go_simp; all_goals with_reducible rfl)
    try simp only [Act.put, List.setIfInBounds_toArray, List.set_cons_zero, List.set_cons_succ]
    refine reg_done (by kernel_rfl) ?_ _
    -- END OF REGION sel
    obtain ⟨kj, ks, kp⟩ := hHeld
    clear c9 c10 cj cs
    by_cases hm : (L.count s : Int) ≤ j
    · have d1 : decide ((L.count s : Int) ≤ j) = true := decide_eq_true hm
      have HSL : Hid (-1 = selS L j s) := (selS_many hm).symm
      go_wp2_with fail
      go_ret
      rw [HSL.out]
      exact ⟨rfl, v1, HE2.out.mono (fun i hi => Or.inl hi), HC2.out⟩
    · have d1 : decide ((L.count s : Int) ≤ j) = false := decide_eq_false hm
      go_wp2_with fail
      obtain ⟨J, rfl⟩ := Int.eq_ofNat_of_zero_le (by omega : 0 ≤ j)
      obtain ⟨K, _, hK, hKr⟩ := selS_ex L.length L s J (Nat.le_refl _) (by rw [rankS_over s (Nat.le_refl _)]; omega)
      have HSL : Hid ((K : Int) = selS L J s) := (selS_hit hK (by rw [hKr])).symm
      have HK := Lib.hid hK
      have d1n : decide (L.count s ≤ J) = false := decide_eq_false (by omega)
      have hcj : J = cntP L 9 (pth s 9) K := by rw [pth_nine, cntP_nine, hKr]
      have HCJ := Lib.hid hcj
      clear hm d0 hj hK hKr HRK HBL HX1 hcj
      have bl := Box1.new w2 (.int .i64 8) 3
      have hbl := below_al w2 (.cells #[.int .i64 8] 3)
      have HS0 : Hid (WaveE B (fun i => (X i ∨ (i = w.heap.size ∨ i = w.heap.size + 1)) ∨ i = w2.heap.size) (w2.alloc (.cells #[.int .i64 8] 3)) p D O L.length v1 anyV ∧ Box1 (w2.alloc (.cells #[.int .i64 8] 3)) w.heap.size (.int .i64 (cntP L 9 (pth s 9) K : Nat)) 3 ∧ Box1 (w2.alloc (.cells #[.int .i64 8] 3)) (w.heap.size + 1) (.int .i64 s) 3 ∧ Box1 (w2.alloc (.cells #[.int .i64 8] 3)) w2.heap.size (.int .i64 8) 3 ∧ Chg (exT B X) w (w2.alloc (.cells #[.int .i64 8] 3)) ∧ w.heap.size + 1 < w2.heap.size) := by
        refine ⟨HE2.out.less hbl (fun i hi => hi.elim Or.inl (fun e => Or.inr (by omega))) (fun i hi => hi.elim (fun g => Nat.lt_of_lt_of_le (HE2.out.x i g) hbl.size) (fun e => by subst e; exact bl.lt)), ?_, HB2.out.below hbl, bl, HC2.out.trans (Chg.of_below (S := exT B X) hbl) (fun j hj => Or.inl hj), HB2.out.lt⟩
        rw [← HCJ.out]; exact HJ2.out.below hbl
      clear bl hbl HE2 HJ2 HB2 HC2 kj ks kp HS2 d1 d1n
      generalize w2.alloc (.cells #[.int .i64 8] 3) = wl at *
      go_loopw [7] (fun v wr => ∃ (m lb : Nat) (x : Int), m ≤ 9 ∧ v = .pointer (some ⟨lb, 0, none⟩) ∧ x = (m : Int) - 1 ∧ w.heap.size + 1 < lb ∧ (∃ vis' : Int, 0 ≤ vis' ∧ vis' ≤ 18 * (H + 1) - m * (H + 1) ∧ WaveE B (fun i => (X i ∨ (i = w.heap.size ∨ i = w.heap.size + 1)) ∨ i = lb) wr p D O L.length vis' anyV) ∧ Box1 wr w.heap.size (.int .i64 (cntP L m (pth s m) K : Nat)) 3 ∧ Box1 wr (w.heap.size + 1) (.int .i64 s) 3 ∧ Box1 wr lb (.int .i64 x) 3 ∧ Chg (exT B X) w wr) (fun v wr => (intOf ((wr.cell? (adOf v)).getD undef) + 1).toNat)
      case atStart => exact ⟨9, w2.heap.size, 8, Nat.le_refl _, rfl, rfl, HS0.out.2.2.2.2.2, ⟨v1, v1a, by omega, HS0.out.1⟩, HS0.out.2.1, HS0.out.2.2.1, HS0.out.2.2.2.1, HS0.out.2.2.2.2.1⟩
      case round => as_aux_lemma =>
        clear HS0
        obtain ⟨m, lb, x, hm9, rfl, hx, hlb, ⟨vis', hv0, hv1, hE⟩, hJ, hS, hB, hC⟩ := hrel
        obtain rfl | ⟨l, rfl⟩ : m = 0 ∨ ∃ l, m = l + 1 := by
          cases m with
          | zero => exact Or.inl rfl
          | succ l => exact Or.inr ⟨l, rfl⟩
        · obtain rfl : x = -1 := by omega
          have k0 := hJ.cell
          have k1 := hB.cell
          have HE := Lib.hid hE
          have HC := Lib.hid hC
          have HKK : Hid ((cntP L 0 (pth s 0) K : Nat) = K) := by
            show _ = _
            rw [pth_zero (by omega), cntP_zero HLS.out.lt K (by have := (List.getElem?_eq_some_iff.1 HK.out).1; omega)]
          clear hE hC hJ hS hB hv0 hv1 hx hm9
          go_wp2_with fail
          go_ret
          rw [HKK.out, HSL.out]
          exact ⟨rfl, vis', HE.out.mono (fun i hi => Or.inl (Or.inl hi)), HC.out⟩
        · obtain rfl : x = (l : Int) := by omega
          have hlt : l < 9 := by omega
          have hpp := pth_pw hs hlt
          obtain ⟨r0, r1, r2⟩ := hE.shelf hlt hpp
          have rr := hE.cells.1 l hlt
          have hHl := HHi.out l (pth s l) hlt hpp
          have hse : selL (sbits (O l (pth s l))) ((cntP L (l + 1) (pth s (l + 1)) K : Nat) : Int) (bitS s l) = (cntP L l (pth s l) K : Nat) := by
            rw [HO.out l _ hlt hpp]; exact sel_next HK.out hlt
          have hmul : ((l + 1 : Nat) : Int) * ((H : Int) + 1) = (l : Int) * ((H : Int) + 1) + ((H : Int) + 1) := by push_cast; rw [Int.add_mul]; omega
          have hmul0 : 0 ≤ (l : Int) * ((H : Int) + 1) := Int.mul_nonneg (by omega) (by omega)
          rw [hmul] at hv1
          have hpwr := hE.cells.2.2.2.2
          have HLK : Hid (∀ w', w'.heap = wr.heap → WaveE B (fun i => (X i ∨ (i = w.heap.size ∨ i = w.heap.size + 1)) ∨ i = lb) w' p D O L.length vis' anyV → Box1 w' w.heap.size (.int .i64 (cntP L (l + 1) (pth s (l + 1)) K : Nat)) 3 → Box1 w' (w.heap.size + 1) (.int .i64 s) 3 → Box1 w' lb (.int .i64 (l : Int)) 3 → BitTab w' →
              Calls Tryd.prog 85 #[.pointer (some ⟨p, 0, none⟩), shelfV D l (pth s l), .func (.func 89) #[] #[.pointer (some ⟨w.heap.size, 0, none⟩), .pointer (some ⟨w.heap.size + 1, 0, none⟩), .pointer (some ⟨lb, 0, none⟩)]] w' fun e w'' =>
                e = .returned (.tuple #[]) ∧ ∃ v : Nat, v ≤ shigh (O l (pth s l)) + 1 ∧ WaveE B (fun i => (X i ∨ (i = w.heap.size ∨ i = w.heap.size + 1)) ∨ i = lb) w'' p D O L.length (vis' + v) anyV ∧ Chg (fun j => exT B (fun i => (X i ∨ (i = w.heap.size ∨ i = w.heap.size + 1)) ∨ i = lb) j ∨ j = w.heap.size) w' w'' ∧ Box1 w'' w.heap.size (.int .i64 (cntP L l (pth s l) K : Nat)) 3) := fun w' _ h1 h2 h3 h4 h5 => by
            refine wLook h1 hlt hpp ⟨hv0, by omega⟩ (M := shigh (O l (pth s l)) + 1) (by omega) (Y := fun i => i = w.heap.size) (fun i e => Or.inl (Or.inr (Or.inl e))) _ _ _ (enters_of Tryd.func89 (by kernel_rfl) rfl) (fun w' => Box1 w' w.heap.size (.int .i64 (cntP L l (pth s l) K : Nat)) 3) (fun w1 w2 hb hc => hb.chg hc (fun e => by have := HPW.out; omega)) (fun w0 Z hXZ hb hE0 => ?_)
            have := wSel1 hE0 (h5.below' hb) hNT hs hlt hpp (hXZ _ (Or.inl (Or.inr (Or.inl rfl)))) (hXZ _ (Or.inl (Or.inr (Or.inr rfl)))) (hXZ _ (Or.inr rfl)) (by omega) (by omega) (h2.below hb) (h3.below hb) (h4.below hb)
            rw [hse] at this; exact this
          have HPA := Lib.hid (fun w => path_nat hs (by omega : l ≤ 9) w)
          have kl := hB.cell
          have ks := hS.cell
          have HTB2 : Hid (BitTab wr) := HTB.out.below ((Chg.below hC (fun b hb => hb.1)) HLE.out) hNT
          have HE := Lib.hid hE
          have HJ := Lib.hid hJ
          have HS := Lib.hid hS
          have HB := Lib.hid hB
          have HC := Lib.hid hC
          have HV0 := Lib.hid hv0
          have HV1 := Lib.hid hv1
          have HHL := Lib.hid hHl
          have HLT := Lib.hid hlt
          have HCF : Hid (∀ (w' : World) (v : Int) (X' : Nat → Prop), WaveE B X' w' p D O L.length v anyV → (w'.cell? ⟨p, l, none⟩ = some (.slice (some ⟨D.G l, 0, none⟩) (pw l) (D.C l)) ∧ w'.cell? ⟨D.G l, pth s l * 3, none⟩ = some (.pointer (some ⟨D.Q l (pth s l), 0, none⟩)) ∧ w'.cell? ⟨D.G l, pth s l * 3 + 1, none⟩ = some (.int .i64 l) ∧ w'.cell? ⟨D.G l, pth s l * 3 + 2, none⟩ = some (.int .i64 (pth s l : Nat)))) := fun w' v X' h => ⟨h.cells.1 l hlt, h.shelf hlt hpp⟩
          have rr : wr.cell? ⟨p, l, none⟩ = some (.slice (some ⟨D.G l, 0, none⟩) (pw l) (D.C l)) := rr
          have i0 : (0 : Int) ≤ (l : Int) := by omega
          have i9 : (l : Int) < 9 := by omega
          have j0 : (0 : Int) ≤ ((pth s l : Nat) : Int) := by omega
          have j1 : ((pth s l : Nat) : Int) < ((pw l : Nat) : Int) := by omega
          clear hE hJ hS hB hC hv0 hv1 hHl hse hmul hmul0 hx hpp
          unfold shelfV at HLK
          obtain ⟨π, hπ⟩ : ∃ π, pth s l = π := ⟨_, rfl⟩
          have HPI := Lib.hid hπ
          rw [hπ] at HLK HPA HHL HCF r0 r1 r2 j0 j1
          clear hπ
          generalize D.Q l π = q at *
          generalize D.G l = g at *
          generalize D.C l = gc at *
          go_wp2_with fail
          -- REGION sel6
          refine reg_start (fun w' => w'.cell? ⟨lb, 0, none⟩ = some (.int .i64 (l : Int)) ∧ w'.cell? ⟨w.heap.size + 1, 0, none⟩ = some (.int .i64 s) ∧ w'.cell? ⟨p, l, none⟩ = some (.slice (some ⟨g, 0, none⟩) (pw l) gc) ∧ w'.cell? ⟨g, π * 3, none⟩ = some (.pointer (some ⟨q, 0, none⟩)) ∧ w'.cell? ⟨g, π * 3 + 1, none⟩ = some (.int .i64 l) ∧ w'.cell? ⟨g, π * 3 + 2, none⟩ = some (.int .i64 (π : Nat))) (by kernel_rfl) (⟨kl, ks, rr, r0, r1, r2⟩) (fun hHeld => ?_)
          refine reg_take (i := 0) (v := ?vs60) rfl (by kernel_rfl) rfl hHeld ?ys60 ?rs60
          case ys60 => (intro w hSw; (try dsimp only at hSw); go_simp; all_goals with_reducible rfl)
          try simp only [Act.put, List.setIfInBounds_toArray, List.set_cons_zero, List.set_cons_succ]
          refine reg_take (i := 1) (v := ?vs61) rfl (by kernel_rfl) rfl hHeld ?ys61 ?rs61
          case ys61 => (intro w hSw; (try dsimp only at hSw); go_simp; all_goals with_reducible rfl)
          try simp only [Act.put, List.setIfInBounds_toArray, List.set_cons_zero, List.set_cons_succ]
          refine reg_take (i := 2) (v := ?vs62) rfl (by kernel_rfl) rfl hHeld ?ys62 ?rs62
          case ys62 => (intro w hSw; (try dsimp only at hSw); go_simp; all_goals with_reducible rfl)
          try simp only [Act.put, List.setIfInBounds_toArray, List.set_cons_zero, List.set_cons_succ]
          refine reg_take (i := 3) (v := ?vs63) rfl (by kernel_rfl) rfl hHeld ?ys63 ?rs63
          case ys63 => (intro w hSw; (try dsimp only at hSw); go_simp; all_goals with_reducible rfl)
          try simp only [Act.put, List.setIfInBounds_toArray, List.set_cons_zero, List.set_cons_succ]
          refine reg_take (i := 4) (v := ?vs64) rfl (by kernel_rfl) rfl hHeld ?ys64 ?rs64
          case ys64 => (intro w hSw; (try dsimp only at hSw); go_simp; all_goals with_reducible rfl)
          try simp only [Act.put, List.setIfInBounds_toArray, List.set_cons_zero, List.set_cons_succ]
          refine reg_take (i := 5) (v := ?vs65) rfl (by kernel_rfl) rfl hHeld ?ys65 ?rs65
          case ys65 => (intro w hSw; (try dsimp only at hSw); go_simp; all_goals with_reducible rfl)
          try simp only [Act.put, List.setIfInBounds_toArray, List.set_cons_zero, List.set_cons_succ]
          refine reg_take (i := 6) (v := ?vs66) rfl (by kernel_rfl) rfl hHeld ?ys66 ?rs66
          case ys66 => (intro w hSw; (try dsimp only at hSw); go_simp; all_goals with_reducible rfl)
          try simp only [Act.put, List.setIfInBounds_toArray, List.set_cons_zero, List.set_cons_succ]
          refine reg_take (i := 7) (v := ?vs67) rfl (by kernel_rfl) rfl hHeld ?ys67 ?rs67
          case ys67 => (intro w hSw; (try dsimp only at hSw); go_simp; all_goals with_reducible rfl)
          try simp only [Act.put, List.setIfInBounds_toArray, List.set_cons_zero, List.set_cons_succ]
          refine reg_take (i := 8) (v := ?vs68) rfl (by kernel_rfl) rfl hHeld ?ys68 ?rs68
          case ys68 => (intro w hSw; (try dsimp only at hSw); go_simp; all_goals with_reducible rfl)
          try simp only [Act.put, List.setIfInBounds_toArray, List.set_cons_zero, List.set_cons_succ]
          refine reg_take (i := 12) (v := ?vs612) rfl (by kernel_rfl) rfl hHeld ?ys612 ?rs612
          case ys612 => (intro w hSw; (try dsimp only at hSw); go_simp; all_goals with_reducible rfl)
          try simp only [Act.put, List.setIfInBounds_toArray, List.set_cons_zero, List.set_cons_succ]
          refine reg_loud (i := 9) rfl (by kernel_rfl) rfl (fun K hK => ?_)
          go_simp
          ((refine (HPA.out _).mono ?_))
          rintro e w2 ⟨rfl, rfl⟩
          refine hK.out _ _ (hHeld) (fun hNew => ?_)
          clear hK K hHeld
          have hHeld := hNew
          clear hNew
          try simp only [Act.put, List.setIfInBounds_toArray, List.set_cons_zero, List.set_cons_succ]
          refine reg_take (i := 10) (v := ?vs610) rfl (by kernel_rfl) rfl hHeld ?ys610 ?rs610
          case ys610 => (intro w hSw; (try dsimp only at hSw); go_simp; all_goals with_reducible rfl)
          try simp only [Act.put, List.setIfInBounds_toArray, List.set_cons_zero, List.set_cons_succ]
          refine reg_take (i := 11) (v := ?vs611) rfl (by kernel_rfl) rfl hHeld ?ys611 ?rs611
          case ys611 => (intro w hSw; (try dsimp only at hSw); go_simp; all_goals with_reducible rfl)
          try simp only [Act.put, List.setIfInBounds_toArray, List.set_cons_zero, List.set_cons_succ]
          refine reg_loud (i := 13) rfl (by kernel_rfl) rfl (fun K hK => ?_)
          go_simp
          ((refine (HLK.out (wr.drewN 1) rfl (HE.out.drewN 1) HJ.out HS.out HB.out HTB2.out).mono ?_))
          rintro e w2 ⟨rfl, v, hv, hE2, hC2, hJ2⟩
          have hs2 : Box1 w2 (w.heap.size + 1) (.int .i64 s) 3 := Box1.chg (w := wr.drewN 1) HS.out hC2 (fun hk => hk.elim (fun hk => hk.2 (Or.inl (Or.inr (Or.inr rfl)))) (fun e => by omega))
          have hl2 : Box1 w2 lb (.int .i64 (l : Int)) 3 := Box1.chg (w := wr.drewN 1) HB.out hC2 (fun hk => hk.elim (fun hk => hk.2 (Or.inr rfl)) (fun e => by omega))
          have HS2 : Hid (w2.cell? ⟨lb, 0, none⟩ = some (.int .i64 (l : Int)) ∧ w2.cell? ⟨w.heap.size + 1, 0, none⟩ = some (.int .i64 s) ∧ w2.cell? ⟨p, l, none⟩ = some (.slice (some ⟨g, 0, none⟩) (pw l) gc) ∧ w2.cell? ⟨g, π * 3, none⟩ = some (.pointer (some ⟨q, 0, none⟩)) ∧ w2.cell? ⟨g, π * 3 + 1, none⟩ = some (.int .i64 l) ∧ w2.cell? ⟨g, π * 3 + 2, none⟩ = some (.int .i64 (π : Nat))) := ⟨hl2.cell, hs2.cell, HCF.out _ _ _ hE2⟩
          have kl2 := hl2.cell
          have kf2 := hl2.frz
          have HJ2 := Lib.hid hJ2
          have HB2 := Lib.hid hs2
          have HL2 := Lib.hid hl2
          have HE2 := Lib.hid hE2
          have HV2 := Lib.hid hv
          have HC2 : Hid (Chg (exT B X) w w2) := (HC.out.drewN 1).trans hC2 (fun j hj => hj.elim (fun hj => Or.inl (exT_mono (fun i hi => Or.inl (Or.inl hi)) hj)) (fun e => Or.inr (by omega)))
          clear hs2 hl2 hE2 hC2 hJ2 hv
          refine hK.out _ _ (HS2.out) (fun hNew => ?_)
          clear hK K hHeld
          have hHeld := hNew
          clear hNew
          try simp only [Act.put, List.setIfInBounds_toArray, List.set_cons_zero, List.set_cons_succ]
          refine reg_done (by kernel_rfl) ?_ _
          -- END OF REGION sel6
          clear hHeld rr r0 r1 r2 kl ks i0 i9 j0 j1
          have bl := Box1.new w2 (.int .i64 ((l : Int) - 1)) 3
          have hbl := below_al w2 (.cells #[.int .i64 ((l : Int) - 1)] 3)
          have HNB : Hid ((∃ vis' : Int, 0 ≤ vis' ∧ vis' ≤ 18 * ((H : Int) + 1) - l * ((H : Int) + 1) ∧ WaveE B (fun i => (X i ∨ (i = w.heap.size ∨ i = w.heap.size + 1)) ∨ i = w2.heap.size) (w2.alloc (.cells #[.int .i64 ((l : Int) - 1)] 3)) p D O L.length vis' anyV) ∧ Box1 (w2.alloc (.cells #[.int .i64 ((l : Int) - 1)] 3)) w.heap.size (.int .i64 (cntP L l π K : Nat)) 3 ∧ Box1 (w2.alloc (.cells #[.int .i64 ((l : Int) - 1)] 3)) (w.heap.size + 1) (.int .i64 s) 3 ∧ Box1 (w2.alloc (.cells #[.int .i64 ((l : Int) - 1)] 3)) w2.heap.size (.int .i64 ((l : Int) - 1)) 3 ∧ Chg (exT B X) w (w2.alloc (.cells #[.int .i64 ((l : Int) - 1)] 3)) ∧ w.heap.size + 1 < w2.heap.size) := by
            refine ⟨⟨vis' + v, by have := HV0.out; omega, by have := HV1.out; have := HV2.out; have := HHL.out; omega, HE2.out.less hbl (fun i hi => hi.elim (fun g => Or.inl (Or.inl g)) (fun e => Or.inr (by omega))) (fun i hi => hi.elim (fun g => Nat.lt_of_lt_of_le (HE2.out.x i (Or.inl g)) hbl.size) (fun e => by subst e; exact bl.lt))⟩, HJ2.out.below hbl, HB2.out.below hbl, bl, HC2.out.trans (Chg.of_below (S := exT B X) hbl) (fun j hj => Or.inl hj), HB2.out.lt⟩
          have HMS : Hid ((intOf (((w2.alloc (.cells #[.int .i64 ((l : Int) - 1)] 3)).cell? ⟨w2.heap.size, 0, none⟩).getD undef) + 1).toNat < (intOf ((wr.cell? ⟨lb, 0, none⟩).getD undef) + 1).toNat) := by
            rw [bl.cell, HB.out.cell]
            show ((l : Int) - 1 + 1).toNat < ((l : Int) + 1).toNat
            omega
          clear bl hbl
          go_wp2_with fail
          go_roundw
          case rel =>
            have hq := HNB.out
            exact ⟨l, w2.heap.size, _, by have := HLT.out; omega, rfl, rfl, hq.2.2.2.2.2, hq.1, by rw [HPI.out]; exact hq.2.1, hq.2.2.1, hq.2.2.2.1, hq.2.2.2.2.1⟩
          case measure => exact HMS.out

end Go.Proofs.YtcppgpjodfeigaaDoor

namespace Go.Proofs.YtcppgpjodfeigaaDoor
set_option linter.unusedVariables false
set_option linter.unusedSimpArgs false
open Go.RowKit

set_option maxHeartbeats 1600000 in
theorem wIns1 {B : Nat} {Z : Nat → Prop} {w : World} {p n : Nat} {D : WD} {O : Nat → Nat → Option ST} {vis : Int} (h : WaveE B Z w p D O n vis anyV) {l k : Nat} (hl : l < 9) (hk : k < pw l) {b1 b2 : Nat} {j : Nat} (hj : j ≤ (sbits (O l k)).length) (hlen : (sbits (O l k)).length < 2147483648) {x : Bool}
    (h1 : Box1 w b1 (.int .i64 j) 3) (h2 : Box1 w b2 (.bool x) 4) :
    Calls Tryd.prog 90 #[shelfV D l k, .pointer (some ⟨b1, 0, none⟩), .pointer (some ⟨b2, 0, none⟩)] w fun e w' => e = .returned (.tuple #[]) ∧ DoPost B Z (fun _ => False) w w' p D (updO O l k (insO (O l k) j x)) n vis l k (7 * shigh (O l k) + 2) ∧ True := by
  have hb0 := below_al w (.cells #[.pointer (some ⟨D.Q l k, 0, none⟩), .int .i64 l, .int .i64 k] 104)
  obtain ⟨W, hW⟩ : ∃ W, W = w.alloc (.cells #[.pointer (some ⟨D.Q l k, 0, none⟩), .int .i64 l, .int .i64 k] 104) := ⟨_, rfl⟩
  rw [← hW] at hb0
  have c1 := (h1.below hb0).cell
  have c2 := (h2.below hb0).cell
  have HRK := Lib.hid ((h.below hb0).tInsert hl hk j hj hlen x)
  have HB0 := Lib.hid hb0
  clear h h1 h2 hb0 hl hk hj hlen
  unfold shelfV
  obtain ⟨q, hq⟩ : ∃ q, D.Q l k = q := ⟨_, rfl⟩
  rw [hq] at HRK hW ⊢
  clear hq
  subst hW
  go_enter Tryd.func90, Tryd.ntmps90
  go_wp2_with fail
  refine HRK.out.mono ?_
  rintro e w1 ⟨rfl, hE1, hC1⟩
  have HE1 := Lib.hid hE1
  have HC1 := Lib.hid hC1
  clear hE1 hC1 HRK
  go_wp2_with fail
  go_end0
  refine ⟨rfl, ⟨HE1.out, ?_⟩, trivial⟩
  exact (Chg.of_below (S := fun j => exT B Z j ∨ False) HB0.out).trans (HC1.out.mono (fun j hj => Or.inl hj)) (fun j hj => Or.inl hj)

/-- The levels above l hold L', the others L. -/
def LvlM (O : Nat → Nat → Option ST) (L L' : List Nat) (l : Nat) : Prop := ∀ l' k, l' < 9 → k < pw l' → sbits (O l' k) = if l' < l then lvl L' l' k else lvl L l' k
theorem LvlM.start {O : Nat → Nat → Option ST} {L L' : List Nat} (h : LvlO O L) : LvlM O L L' 0 := fun l' k h1 h2 => by rw [if_neg (by omega)]; exact h l' k h1 h2
theorem LvlM.fin {O : Nat → Nat → Option ST} {L L' : List Nat} (h : LvlM O L L' 9) : LvlO O L' := fun l' k h1 h2 => by rw [h l' k h1 h2, if_pos h1]
theorem rankL_in_self {l : List Bool} {k : Nat} (b x : Bool) (h : k ≤ l.length) : rankL (inL l k b) k x = rankL l k x := by
  unfold rankL inL
  rw [List.take_append_of_le_length (by rw [List.length_take]; omega), List.take_take, Nat.min_self]
theorem LvlM.ins {O : Nat → Nat → Option ST} {L : List Nat} {k s l : Nat} (h : LvlM O L (inL L k s) l) (hk : k ≤ L.length) (hl : l < 9) (hs : s < 257) :
    LvlM (updO O l (pth s l) (insO (O l (pth s l)) (cntP L l (pth s l) k) (bitS s l))) L (inL L k s) (l + 1) ∧ sbits (O l (pth s l)) = lvl L l (pth s l) := by
  have hb : sbits (O l (pth s l)) = lvl L l (pth s l) := by rw [h l _ hl (pth_lt (by omega) (by omega)), if_neg (by omega)]
  refine ⟨fun l' k' h1 h2 => ?_, hb⟩
  by_cases e : l' = l ∧ k' = pth s l
  · obtain ⟨rfl, rfl⟩ := e
    rw [updO_same, if_pos (by omega), insO_bits (by rw [hb]; exact cntP_le _ _ _ _), hb, lvl_in s hk, if_pos rfl]
  · have hne : l' ≠ l ∨ k' ≠ pth s l := by omega
    rw [updO_ne _ _ hne, h l' k' h1 h2]
    by_cases e2 : l' = l
    · subst e2
      rw [if_neg (by omega), if_pos (by omega), lvl_in s hk, if_neg (by omega)]
    · by_cases e3 : l' < l
      · rw [if_pos e3, if_pos (by omega)]
      · rw [if_neg e3, if_neg (by omega)]

end Go.Proofs.YtcppgpjodfeigaaDoor

namespace Go.Proofs.YtcppgpjodfeigaaDoor
set_option linter.unusedVariables false
set_option linter.unusedSimpArgs false
open Go.RowKit

theorem belowAA (w : World) (a b : Obj) : Below w.heap.size w ((w.alloc a).alloc b).drew :=
  (((Below.refl _ _).alloc (Nat.le_refl _) _).alloc (by simp) _).drew
theorem winsA (w : World) (v0 v1 v2 u : Value) (T U : TypeId) : Box3 ((w.alloc (.cells #[v0, v1, v2] T)).alloc (.cells #[u] U)).drew w.heap.size v0 v1 v2 T ∧ Box1 ((w.alloc (.cells #[v0, v1, v2] T)).alloc (.cells #[u] U)).drew (w.heap.size + 1) u U := by
  have h1 := heap_alloc_new w (.cells #[v0, v1, v2] T)
  have h2 := heap_alloc_new (w.alloc (.cells #[v0, v1, v2] T)) (.cells #[u] U)
  rw [show (w.alloc (.cells #[v0, v1, v2] T)).heap.size = w.heap.size + 1 by simp] at h2
  exact ⟨(Chg.of_below (S := fun _ => False) (below_al (w.alloc (.cells #[v0, v1, v2] T)) _)).heap h1 id, h2⟩
theorem insB (w : World) (v0 v1 v2 u : Value) (T U : TypeId) : Box3 ((w.alloc (.cells #[u] U)).alloc (.cells #[v0, v1, v2] T)).drew (w.heap.size + 1) v0 v1 v2 T ∧ Box1 ((w.alloc (.cells #[u] U)).alloc (.cells #[v0, v1, v2] T)).drew w.heap.size u U := by
  have h1 := heap_alloc_new w (.cells #[u] U)
  have h2 := heap_alloc_new (w.alloc (.cells #[u] U)) (.cells #[v0, v1, v2] T)
  rw [show (w.alloc (.cells #[u] U)).heap.size = w.heap.size + 1 by simp] at h2
  exact ⟨h2, (Chg.of_below (S := fun _ => False) (below_al (w.alloc (.cells #[u] U)) _)).heap h1 id⟩

set_option maxHeartbeats 6400000 in
set_option maxRecDepth 100000 in
theorem wInsert_any {B : Nat} {X : Nat → Prop} {w : World} {p : Nat} {D : WD} {O : Nat → Nat → Option ST} {L : List Nat} {vis : Int} (h : WaveE B X w p D O L.length vis anyV) (hO : LvlO O L) (hL : Syms L) (hn : L.length ≤ 1000000000) {H : Nat} (hH : HiO O H) (hHm : H ≤ 1000000000) (k s : Nat) (hk : k ≤ L.length) (hs : s < 257) :
    Calls Tryd.prog 48 #[.pointer (some ⟨p, 0, none⟩), .int .i64 k, .int .i64 s] w fun e w' =>
      e = .returned (.int .i64 0) ∧ ∃ (O' : Nat → Nat → Option ST) (vis' : Int), 0 ≤ vis' ∧ vis' ≤ 9 * (8 * H + 4) ∧ WaveE B X w' p D O' (L.length + 1) vis' anyV ∧ LvlO O' (inL L k s) ∧ HiO O' (H + 1) ∧ Chg (exT B X) w w' := by
  have hb0 := below_al w (.cells #[.int .i64 k] 3)
  obtain ⟨W, hW⟩ : ∃ W, W = w.alloc (.cells #[.int .i64 k] 3) := ⟨_, rfl⟩
  have hbx : Box1 W w.heap.size (.int .i64 k) 3 := by rw [hW]; exact Box1.new w _ _
  rw [← hW] at hb0
  have hX1 : WaveE B (fun i => X i ∨ i = w.heap.size) W p D O L.length vis anyV := h.less hb0 (fun i hi => hi.elim Or.inl (fun e => Or.inr (by omega))) (fun i hi => hi.elim (fun g => Nat.lt_of_lt_of_le (h.x i g) hb0.size) (fun e => by subst e; exact hbx.lt))
  have hpn : p ≠ w.heap.size := by have := h.cells.2.2.2.2; omega
  have HX := Lib.hid h.x
  have HLE := Lib.hid h.le
  obtain ⟨hc0, c9, c10, fz, hp⟩ := hX1.cells
  have z10 := fz 10
  have kc := hbx.cell
  have HST := Lib.hid (hX1.setVis 0)
  have HKB : Hid (∀ v, Box1 (W.setCell ⟨p, 10, none⟩ v) w.heap.size (.int .i64 k) 3) := fun v => hbx.chg (S := fun j => j = p) (Chg.refl.setCell (S := fun j => j = p) ⟨p, 10, none⟩ (Or.inl rfl) _) (fun e => hpn e.symm)
  have HB0 := Lib.hid hb0
  have x0 := hc0 0 (by omega)
  have x1 := hc0 1 (by omega)
  have x2 := hc0 2 (by omega)
  have x3 := hc0 3 (by omega)
  have x4 := hc0 4 (by omega)
  have x5 := hc0 5 (by omega)
  have x6 := hc0 6 (by omega)
  have x7 := hc0 7 (by omega)
  have x8 := hc0 8 (by omega)
  have his : symIs (s : Int) = true := symIs_true (by omega) (by omega)
  have HIS : Hid (∀ w, Calls Tryd.prog 80 #[.int .i64 s] w fun e w' => e = .returned (.bool true) ∧ w = w') := fun w => by rw [← his]; exact symIs_any s w
  have HO := Lib.hid hO
  have HHi := Lib.hid hH
  have HLS := Lib.hid hL
  have HK := Lib.hid hk
  have HLEN := Lib.hid hn
  have d0 : decide ((k : Int) < 0) = false := decide_eq_false (by omega)
  have d1 : decide (L.length < k) = false := decide_eq_false (by omega)
  have d2 : decide ((L.length : Int) < (k : Int)) = false := decide_eq_false (by omega)
  have HPN := Lib.hid hpn
  clear h hc0 fz hO hH hL hn hX1 hb0 hbx hk his
  subst hW
  go_enter Tryd.func48, Tryd.ntmps48
  go_wp2_with fail
  refine (HIS.out _).mono ?_
  rintro e w' ⟨rfl, rfl⟩
  go_wp2_with fail
  go_quiet (fail)
  go_wp2_with fail
  have HS0 : Hid (WaveE B (fun i => X i ∨ i = w.heap.size) (((w.alloc (.cells #[.int .i64 k] 3)).setCell ⟨p, 10, none⟩ (.int .i64 0)).drewN nq) p D O L.length 0 anyV ∧ Box1 (((w.alloc (.cells #[.int .i64 k] 3)).setCell ⟨p, 10, none⟩ (.int .i64 0)).drewN nq) w.heap.size (.int .i64 k) 3 ∧ Chg (exT B X) w (((w.alloc (.cells #[.int .i64 k] 3)).setCell ⟨p, 10, none⟩ (.int .i64 0)).drewN nq)) :=
    ⟨HST.out.1.drewN nq, HKB.out _, ((Chg.of_below (S := exT B X) HB0.out).trans (HST.out.2.mono (fun j hj => exT_mono (fun i hi => Or.inl hi) hj)) (fun j hj => Or.inl hj)).drewN nq⟩
  generalize ((w.alloc (.cells #[.int .i64 k] 3)).setCell ⟨p, 10, none⟩ (.int .i64 0)).drewN nq = ws at *
  clear HST HKB HB0 x0 x1 x2 x3 x4 x5 x6 x7 x8 c9 c10 z10 kc d0 d1 d2 hp hpn
  go_loopw [35] (fun x wr => ∃ l : Nat, l ≤ 9 ∧ x = .int .i64 l ∧ ∃ (O' : Nat → Nat → Option ST) (vis' : Int), 0 ≤ vis' ∧ vis' ≤ l * (8 * H + 4) ∧ WaveE B (fun i => X i ∨ i = w.heap.size) wr p D O' L.length vis' anyV ∧ LvlM O' L (inL L k s) l ∧ (∀ l' k', l' < 9 → k' < pw l' → shigh (O' l' k') ≤ H + 1 ∧ (l ≤ l' → shigh (O' l' k') ≤ H)) ∧ Box1 wr w.heap.size (.int .i64 (cntP L l (pth s l) k : Nat)) 3 ∧ Chg (exT B X) w wr) (fun x _ => 9 - (intOf x).toNat)
  case atStart => exact ⟨0, by omega, rfl, O, 0, by omega, by simp, HS0.out.1, LvlM.start HO.out, fun l' k' h1 h2 => by have := HHi.out l' k' h1 h2; omega, by rw [pth_zero (by omega), cntP_zero HLS.out.lt k HK.out]; exact HS0.out.2.1, HS0.out.2.2⟩
  case round => as_aux_lemma =>
    clear HS0 HO HHi
    obtain ⟨l, hl, rfl, O', vis', hv0, hv1, hE, hM, hHH, hKB, hC⟩ := hrel
    by_cases hlt : l < 9
    · have hix : ∀ w : World, (Instr.index 99 (.agg #[D.row 0, D.row 1, D.row 2, D.row 3, D.row 4, D.row 5, D.row 6, D.row 7, D.row 8]) (.int .i64 (l : Int))).run Tryd.prog w = .ok (.slice (some ⟨D.G l, 0, none⟩) (pw l) (D.C l)) w := idx_row D hlt
      have hpp := pth_pw hs hlt
      have hpl := pw_le hlt
      obtain ⟨r0, r1, r2⟩ := hE.shelf hlt hpp
      obtain ⟨hM', hOB⟩ := hM.ins HK.out hlt hs
      have hHl := (hHH l (pth s l) hlt hpp).2 (Nat.le_refl _)
      have hv1' : vis' ≤ 9 * (8 * (H : Int) + 4) := by
        have h1 : (l : Int) * (8 * (H : Int) + 4) ≤ 9 * (8 * (H : Int) + 4) := Int.mul_le_mul_of_nonneg_right (by omega) (by omega)
        omega
      have hcl : cntP L l (pth s l) k ≤ (lvl L l (pth s l)).length := cntP_le _ _ _ _
      have hlvl : (lvl L l (pth s l)).length ≤ L.length := by unfold lvl; rw [List.length_map]; exact List.length_filter_le _ _
      have hHI := insO_high (o := O' l (pth s l)) (k := cntP L l (pth s l) k) (b := bitS s l) (hE.tGood hlt hpp).1
      have hnx : rankL (sbits (insO (O' l (pth s l)) (cntP L l (pth s l) k) (bitS s l))) (cntP L l (pth s l) k) (bitS s l) = cntP L (l + 1) (pth s (l + 1)) k := by
        rw [insO_bits (by rw [hOB]; exact hcl), hOB, rankL_in_self _ _ hcl, wrank_next L hlt, pth_succ hlt]
      have HPA := Lib.hid (fun w => path_nat hs hl w)
      have HBI := Lib.hid (fun w => bit_nat hs hlt w)
      rw [← hOB] at hcl hlvl
      obtain ⟨π, hπ⟩ : ∃ π, pth s l = π := ⟨_, rfl⟩
      obtain ⟨bt, hbt⟩ : ∃ bt, bitS s l = bt := ⟨_, rfl⟩
      obtain ⟨ct, hct⟩ : ∃ ct, cntP L l (pth s l) k = ct := ⟨_, rfl⟩
      rw [hct] at hM' hcl hKB hHI hnx
      rw [hbt] at hM' hHI hnx HBI
      rw [hπ] at hM' hOB hHl hcl hlvl hHI hnx HPA hpp r0 r1 r2
      have HC := Lib.hid hC
      have HE := Lib.hid hE
      have HKB := Lib.hid hKB
      have HM' := Lib.hid hM'
      have HNX := Lib.hid hnx
      have HHI := Lib.hid hHI
      have HHH := Lib.hid hHH
      have HCL := Lib.hid hcl
      have HLV := Lib.hid hlvl
      have HHL := Lib.hid hHl
      have HV1' := Lib.hid hv1'
      have HV0 := Lib.hid hv0
      have HV1 := Lib.hid hv1
      have HPP := Lib.hid hpp
      have i0 : (0 : Int) ≤ (π : Int) := by omega
      have i1 : (π : Int) < ((pw l : Nat) : Int) := by omega
      have hsz := hKB.lt
      have HSZ := Lib.hid hsz
      clear hM hE hKB hC hOB hM' hHI hnx hHH hcl hlvl hHl hv1' hv0 hv1 hpp hpl hsz hπ hbt hct
      obtain ⟨q, hq⟩ : ∃ q, D.Q l π = q := ⟨_, rfl⟩
      rw [hq] at r0
      generalize D.G l = g at *
      generalize D.C l = gc at *
      go_upto_region 11 with fail
      go_cut [9, 10] from 36 to 57 (fun t9 t10 wx => ∃ b9 b10 : Nat, t9 = .pointer (some ⟨b9, 0, none⟩) ∧ t10 = .pointer (some ⟨b10, 0, none⟩) ∧ b9 ≠ b10 ∧ wr.heap.size ≤ b9 ∧ wr.heap.size ≤ b10 ∧ Box3 wx b9 (.pointer (some ⟨q, 0, none⟩)) (.int .i64 l) (.int .i64 π) 104 ∧ Box1 wx b10 (.bool bt) 4 ∧ Below wr.heap.size wr wx)
      case first => as_aux_lemma =>
        have HSB : Hid (∀ w', Below wr.heap.size wr w' → (w'.cell? ⟨g, π * 3, none⟩ = some (.pointer (some ⟨q, 0, none⟩)) ∧ w'.cell? ⟨g, π * 3 + 1, none⟩ = some (.int .i64 l) ∧ w'.cell? ⟨g, π * 3 + 2, none⟩ = some (.int .i64 π)) ∧ Below wr.heap.size wr w') := fun w' hb => by
          have hg := World.block_lt_of_cell? wr _ r0
          exact ⟨⟨(hb.cell (p := ⟨g, π * 3, none⟩) hg).trans r0, (hb.cell (p := ⟨g, π * 3 + 1, none⟩) hg).trans r1, (hb.cell (p := ⟨g, π * 3 + 2, none⟩) hg).trans r2⟩, hb⟩
        clear r0 r1 r2 HM' HHH HHI HNX HE HC
        -- REGION ins
        refine reg_start (fun w' => (w'.cell? ⟨g, π * 3, none⟩ = some (.pointer (some ⟨q, 0, none⟩)) ∧ w'.cell? ⟨g, π * 3 + 1, none⟩ = some (.int .i64 l) ∧ w'.cell? ⟨g, π * 3 + 2, none⟩ = some (.int .i64 π)) ∧ Below wr.heap.size wr w') (by kernel_rfl) (HSB.out _ ⟨rfl, rfl, rfl, Nat.le_refl _, fun _ _ => rfl⟩) (fun hHeld => ?_)
        refine reg_take (i := 0) (v := ?vis0) rfl (by kernel_rfl) rfl hHeld ?yis0 ?ris0
        case yis0 => (intro w hSw; (try dsimp only at hSw); go_simp; all_goals with_reducible rfl)
        try simp only [Act.put, List.setIfInBounds_toArray, List.set_cons_zero, List.set_cons_succ]
        refine reg_take (i := 1) (v := ?vis1) rfl (by kernel_rfl) rfl hHeld ?yis1 ?ris1
        case yis1 => (intro w hSw; (try dsimp only at hSw); go_simp; all_goals with_reducible rfl)
        try simp only [Act.put, List.setIfInBounds_toArray, List.set_cons_zero, List.set_cons_succ]
        refine reg_take (i := 2) (v := ?vis2) rfl (by kernel_rfl) rfl hHeld ?yis2 ?ris2
        case yis2 => (intro w hSw; (try dsimp only at hSw); go_simp; all_goals with_reducible rfl)
        try simp only [Act.put, List.setIfInBounds_toArray, List.set_cons_zero, List.set_cons_succ]
        refine reg_take (i := 6) (v := ?vis6) rfl (by kernel_rfl) rfl hHeld ?yis6 ?ris6
        case yis6 => (intro w hSw; (try dsimp only at hSw); go_simp; all_goals with_reducible rfl)
        try simp only [Act.put, List.setIfInBounds_toArray, List.set_cons_zero, List.set_cons_succ]
        refine reg_take (i := 7) (v := ?vis7) rfl (by kernel_rfl) rfl hHeld ?yis7 ?ris7
        case yis7 => (intro w hSw; (try dsimp only at hSw); go_simp; all_goals with_reducible rfl)
        try simp only [Act.put, List.setIfInBounds_toArray, List.set_cons_zero, List.set_cons_succ]
        refine reg_loud3 (i := 3) (j := 9) (k := 10) rfl rfl rfl (by kernel_rfl) rfl rfl rfl (fun K hK => ?bis3) (fun K hK => ?bis9) (fun K hK => ?bis10)
        case bis3 => 
          go_simp
          ((refine (HPA.out _).mono ?_))
          rintro e w2 ⟨rfl, rfl⟩
          refine hK.out _ _ (hHeld) (fun hNew => ?_)
          clear hK K hHeld
          have hHeld := hNew
          clear hNew
          try simp only [Act.put, List.setIfInBounds_toArray, List.set_cons_zero, List.set_cons_succ]
          refine reg_take (i := 4) (v := ?visa4) rfl (by kernel_rfl) rfl hHeld ?yisa4 ?risa4
          case yisa4 => (intro w hSw; (try dsimp only at hSw); go_simp; all_goals with_reducible rfl)
          try simp only [Act.put, List.setIfInBounds_toArray, List.set_cons_zero, List.set_cons_succ]
          refine reg_take (i := 5) (v := ?visa5) rfl (by kernel_rfl) rfl hHeld ?yisa5 ?risa5
          case yisa5 => (intro w hSw; (try dsimp only at hSw); go_simp; all_goals with_reducible rfl)
          try simp only [Act.put, List.setIfInBounds_toArray, List.set_cons_zero, List.set_cons_succ]
          refine reg_loud3 (i := 8) (j := 9) (k := 10) rfl rfl rfl (by kernel_rfl) rfl rfl rfl (fun K hK => ?bisa8) (fun K hK => ?bisa9) (fun K hK => ?bisa10)
          case bisa8 => 
            go_simp
            ((refine (HBI.out _).mono ?_))
            rintro e w2 ⟨rfl, rfl⟩
            refine hK.out _ _ (hHeld) (fun hNew => ?_)
            clear hK K hHeld
            have hHeld := hNew
            clear hNew
            try simp only [Act.put, List.setIfInBounds_toArray, List.set_cons_zero, List.set_cons_succ]
            refine reg_loud2 (i := 9) (j := 10) rfl rfl (by kernel_rfl) rfl rfl (fun K hK => ?bisaa9) (fun K hK => ?bisaa10)
            case bisaa9 => 
              go_simp
              refine hK.out _ _ (HSB.out _ (hHeld.2.alloc hHeld.2.size _)) (fun hNew => ?_)
              clear hK K hHeld
              have hHeld := hNew
              clear hNew
              try simp only [Act.put, List.setIfInBounds_toArray, List.set_cons_zero, List.set_cons_succ]
              refine reg_loud (i := 10) rfl (by kernel_rfl) rfl (fun K hK => ?_)
              go_simp
              refine hK.out _ _ (HSB.out _ (hHeld.2.alloc hHeld.2.size _)) (fun hNew => ?_)
              clear hK K hHeld
              have hHeld := hNew
              clear hNew
              try simp only [Act.put, List.setIfInBounds_toArray, List.set_cons_zero, List.set_cons_succ]
              refine reg_loud (i := 11) rfl (by kernel_rfl) rfl (fun K hK => ?_)
              go_simp
              refine hK.out _ _ (HSB.out _ (belowAA _ _ _)) (fun hNew => ?_)
              clear hK K hHeld
              have hHeld := hNew
              clear hNew
              try simp only [Act.put, List.setIfInBounds_toArray, List.set_cons_zero, List.set_cons_succ]
              refine reg_loud (i := 12) rfl (by kernel_rfl) rfl (fun K hK => ?_)
              go_simp
              refine hK.out _ _ (HSB.out _ (belowAA _ _ _)) (fun hNew => ?_)
              clear hK K hHeld
              have hHeld := hNew
              clear hNew
              try simp only [Act.put, List.setIfInBounds_toArray, List.set_cons_zero, List.set_cons_succ]
              refine reg_done (by kernel_rfl) ?_ _
              clear hHeld
              go_wp2_with fail
              go_meet
              case rel => exact ⟨wr.heap.size, wr.heap.size + 1, rfl, rfl, by omega, Nat.le_refl _, by omega, (winsA _ _ _ _ _ _ _).1, (winsA _ _ _ _ _ _ _).2, belowAA _ _ _⟩
            case bisaa10 => 
              go_simp
              refine hK.out _ _ (HSB.out _ (hHeld.2.alloc hHeld.2.size _)) (fun hNew => ?_)
              clear hK K hHeld
              have hHeld := hNew
              clear hNew
              try simp only [Act.put, List.setIfInBounds_toArray, List.set_cons_zero, List.set_cons_succ]
              refine reg_loud (i := 9) rfl (by kernel_rfl) rfl (fun K hK => ?_)
              go_simp
              refine hK.out _ _ (HSB.out _ (hHeld.2.alloc hHeld.2.size _)) (fun hNew => ?_)
              clear hK K hHeld
              have hHeld := hNew
              clear hNew
              try simp only [Act.put, List.setIfInBounds_toArray, List.set_cons_zero, List.set_cons_succ]
              refine reg_loud (i := 11) rfl (by kernel_rfl) rfl (fun K hK => ?_)
              go_simp
              refine hK.out _ _ (HSB.out _ (belowAA _ _ _)) (fun hNew => ?_)
              clear hK K hHeld
              have hHeld := hNew
              clear hNew
              try simp only [Act.put, List.setIfInBounds_toArray, List.set_cons_zero, List.set_cons_succ]
              refine reg_loud (i := 12) rfl (by kernel_rfl) rfl (fun K hK => ?_)
              go_simp
              refine hK.out _ _ (HSB.out _ (belowAA _ _ _)) (fun hNew => ?_)
              clear hK K hHeld
              have hHeld := hNew
              clear hNew
              try simp only [Act.put, List.setIfInBounds_toArray, List.set_cons_zero, List.set_cons_succ]
              refine reg_done (by kernel_rfl) ?_ _
              clear hHeld
              go_wp2_with fail
              go_meet
              case rel => exact ⟨wr.heap.size + 1, wr.heap.size, rfl, rfl, by omega, by omega, Nat.le_refl _, (insB _ _ _ _ _ _ _).1, (insB _ _ _ _ _ _ _).2, belowAA _ _ _⟩
          case bisa9 => 
            go_simp
            refine hK.out _ _ (HSB.out _ (hHeld.2.alloc hHeld.2.size _)) (fun hNew => ?_)
            clear hK K hHeld
            have hHeld := hNew
            clear hNew
            try simp only [Act.put, List.setIfInBounds_toArray, List.set_cons_zero, List.set_cons_succ]
            refine reg_loud2 (i := 8) (j := 10) rfl rfl (by kernel_rfl) rfl rfl (fun K hK => ?bisab8) (fun K hK => ?bisab10)
            case bisab8 => 
              go_simp
              ((refine (HBI.out _).mono ?_))
              rintro e w2 ⟨rfl, rfl⟩
              refine hK.out _ _ (hHeld) (fun hNew => ?_)
              clear hK K hHeld
              have hHeld := hNew
              clear hNew
              try simp only [Act.put, List.setIfInBounds_toArray, List.set_cons_zero, List.set_cons_succ]
              refine reg_loud (i := 10) rfl (by kernel_rfl) rfl (fun K hK => ?_)
              go_simp
              refine hK.out _ _ (HSB.out _ (hHeld.2.alloc hHeld.2.size _)) (fun hNew => ?_)
              clear hK K hHeld
              have hHeld := hNew
              clear hNew
              try simp only [Act.put, List.setIfInBounds_toArray, List.set_cons_zero, List.set_cons_succ]
              refine reg_loud (i := 11) rfl (by kernel_rfl) rfl (fun K hK => ?_)
              go_simp
              refine hK.out _ _ (HSB.out _ (belowAA _ _ _)) (fun hNew => ?_)
              clear hK K hHeld
              have hHeld := hNew
              clear hNew
              try simp only [Act.put, List.setIfInBounds_toArray, List.set_cons_zero, List.set_cons_succ]
              refine reg_loud (i := 12) rfl (by kernel_rfl) rfl (fun K hK => ?_)
              go_simp
              refine hK.out _ _ (HSB.out _ (belowAA _ _ _)) (fun hNew => ?_)
              clear hK K hHeld
              have hHeld := hNew
              clear hNew
              try simp only [Act.put, List.setIfInBounds_toArray, List.set_cons_zero, List.set_cons_succ]
              refine reg_done (by kernel_rfl) ?_ _
              clear hHeld
              go_wp2_with fail
              go_meet
              case rel => exact ⟨wr.heap.size, wr.heap.size + 1, rfl, rfl, by omega, Nat.le_refl _, by omega, (winsA _ _ _ _ _ _ _).1, (winsA _ _ _ _ _ _ _).2, belowAA _ _ _⟩
            case bisab10 => 
              go_simp
              refine hK.out _ _ (HSB.out _ (hHeld.2.alloc hHeld.2.size _)) (fun hNew => ?_)
              clear hK K hHeld
              have hHeld := hNew
              clear hNew
              try simp only [Act.put, List.setIfInBounds_toArray, List.set_cons_zero, List.set_cons_succ]
              refine reg_loud (i := 8) rfl (by kernel_rfl) rfl (fun K hK => ?_)
              go_simp
              ((refine (HBI.out _).mono ?_))
              rintro e w2 ⟨rfl, rfl⟩
              refine hK.out _ _ (hHeld) (fun hNew => ?_)
              clear hK K hHeld
              have hHeld := hNew
              clear hNew
              try simp only [Act.put, List.setIfInBounds_toArray, List.set_cons_zero, List.set_cons_succ]
              refine reg_loud (i := 11) rfl (by kernel_rfl) rfl (fun K hK => ?_)
              go_simp
              refine hK.out _ _ (HSB.out _ (belowAA _ _ _)) (fun hNew => ?_)
              clear hK K hHeld
              have hHeld := hNew
              clear hNew
              try simp only [Act.put, List.setIfInBounds_toArray, List.set_cons_zero, List.set_cons_succ]
              refine reg_loud (i := 12) rfl (by kernel_rfl) rfl (fun K hK => ?_)
              go_simp
              refine hK.out _ _ (HSB.out _ (belowAA _ _ _)) (fun hNew => ?_)
              clear hK K hHeld
              have hHeld := hNew
              clear hNew
              try simp only [Act.put, List.setIfInBounds_toArray, List.set_cons_zero, List.set_cons_succ]
              refine reg_done (by kernel_rfl) ?_ _
              clear hHeld
              go_wp2_with fail
              go_meet
              case rel => exact ⟨wr.heap.size, wr.heap.size + 1, rfl, rfl, by omega, Nat.le_refl _, by omega, (winsA _ _ _ _ _ _ _).1, (winsA _ _ _ _ _ _ _).2, belowAA _ _ _⟩
          case bisa10 => 
            go_simp
            refine hK.out _ _ (HSB.out _ (hHeld.2.alloc hHeld.2.size _)) (fun hNew => ?_)
            clear hK K hHeld
            have hHeld := hNew
            clear hNew
            try simp only [Act.put, List.setIfInBounds_toArray, List.set_cons_zero, List.set_cons_succ]
            refine reg_loud2 (i := 8) (j := 9) rfl rfl (by kernel_rfl) rfl rfl (fun K hK => ?bisac8) (fun K hK => ?bisac9)
            case bisac8 => 
              go_simp
              ((refine (HBI.out _).mono ?_))
              rintro e w2 ⟨rfl, rfl⟩
              refine hK.out _ _ (hHeld) (fun hNew => ?_)
              clear hK K hHeld
              have hHeld := hNew
              clear hNew
              try simp only [Act.put, List.setIfInBounds_toArray, List.set_cons_zero, List.set_cons_succ]
              refine reg_loud (i := 9) rfl (by kernel_rfl) rfl (fun K hK => ?_)
              go_simp
              refine hK.out _ _ (HSB.out _ (hHeld.2.alloc hHeld.2.size _)) (fun hNew => ?_)
              clear hK K hHeld
              have hHeld := hNew
              clear hNew
              try simp only [Act.put, List.setIfInBounds_toArray, List.set_cons_zero, List.set_cons_succ]
              refine reg_loud (i := 11) rfl (by kernel_rfl) rfl (fun K hK => ?_)
              go_simp
              refine hK.out _ _ (HSB.out _ (belowAA _ _ _)) (fun hNew => ?_)
              clear hK K hHeld
              have hHeld := hNew
              clear hNew
              try simp only [Act.put, List.setIfInBounds_toArray, List.set_cons_zero, List.set_cons_succ]
              refine reg_loud (i := 12) rfl (by kernel_rfl) rfl (fun K hK => ?_)
              go_simp
              refine hK.out _ _ (HSB.out _ (belowAA _ _ _)) (fun hNew => ?_)
              clear hK K hHeld
              have hHeld := hNew
              clear hNew
              try simp only [Act.put, List.setIfInBounds_toArray, List.set_cons_zero, List.set_cons_succ]
              refine reg_done (by kernel_rfl) ?_ _
              clear hHeld
              go_wp2_with fail
              go_meet
              case rel => exact ⟨wr.heap.size + 1, wr.heap.size, rfl, rfl, by omega, by omega, Nat.le_refl _, (insB _ _ _ _ _ _ _).1, (insB _ _ _ _ _ _ _).2, belowAA _ _ _⟩
            case bisac9 => 
              go_simp
              refine hK.out _ _ (HSB.out _ (hHeld.2.alloc hHeld.2.size _)) (fun hNew => ?_)
              clear hK K hHeld
              have hHeld := hNew
              clear hNew
              try simp only [Act.put, List.setIfInBounds_toArray, List.set_cons_zero, List.set_cons_succ]
              refine reg_loud (i := 8) rfl (by kernel_rfl) rfl (fun K hK => ?_)
              go_simp
              ((refine (HBI.out _).mono ?_))
              rintro e w2 ⟨rfl, rfl⟩
              refine hK.out _ _ (hHeld) (fun hNew => ?_)
              clear hK K hHeld
              have hHeld := hNew
              clear hNew
              try simp only [Act.put, List.setIfInBounds_toArray, List.set_cons_zero, List.set_cons_succ]
              refine reg_loud (i := 11) rfl (by kernel_rfl) rfl (fun K hK => ?_)
              go_simp
              refine hK.out _ _ (HSB.out _ (belowAA _ _ _)) (fun hNew => ?_)
              clear hK K hHeld
              have hHeld := hNew
              clear hNew
              try simp only [Act.put, List.setIfInBounds_toArray, List.set_cons_zero, List.set_cons_succ]
              refine reg_loud (i := 12) rfl (by kernel_rfl) rfl (fun K hK => ?_)
              go_simp
              refine hK.out _ _ (HSB.out _ (belowAA _ _ _)) (fun hNew => ?_)
              clear hK K hHeld
              have hHeld := hNew
              clear hNew
              try simp only [Act.put, List.setIfInBounds_toArray, List.set_cons_zero, List.set_cons_succ]
              refine reg_done (by kernel_rfl) ?_ _
              clear hHeld
              go_wp2_with fail
              go_meet
              case rel => exact ⟨wr.heap.size + 1, wr.heap.size, rfl, rfl, by omega, by omega, Nat.le_refl _, (insB _ _ _ _ _ _ _).1, (insB _ _ _ _ _ _ _).2, belowAA _ _ _⟩
        case bis9 => 
          go_simp
          refine hK.out _ _ (HSB.out _ (hHeld.2.alloc hHeld.2.size _)) (fun hNew => ?_)
          clear hK K hHeld
          have hHeld := hNew
          clear hNew
          try simp only [Act.put, List.setIfInBounds_toArray, List.set_cons_zero, List.set_cons_succ]
          refine reg_loud2 (i := 3) (j := 10) rfl rfl (by kernel_rfl) rfl rfl (fun K hK => ?bisb3) (fun K hK => ?bisb10)
          case bisb3 => 
            go_simp
            ((refine (HPA.out _).mono ?_))
            rintro e w2 ⟨rfl, rfl⟩
            refine hK.out _ _ (hHeld) (fun hNew => ?_)
            clear hK K hHeld
            have hHeld := hNew
            clear hNew
            try simp only [Act.put, List.setIfInBounds_toArray, List.set_cons_zero, List.set_cons_succ]
            refine reg_take (i := 4) (v := ?visba4) rfl (by kernel_rfl) rfl hHeld ?yisba4 ?risba4
            case yisba4 => (intro w hSw; (try dsimp only at hSw); go_simp; all_goals with_reducible rfl)
            try simp only [Act.put, List.setIfInBounds_toArray, List.set_cons_zero, List.set_cons_succ]
            refine reg_take (i := 5) (v := ?visba5) rfl (by kernel_rfl) rfl hHeld ?yisba5 ?risba5
            case yisba5 => (intro w hSw; (try dsimp only at hSw); go_simp; all_goals with_reducible rfl)
            try simp only [Act.put, List.setIfInBounds_toArray, List.set_cons_zero, List.set_cons_succ]
            refine reg_loud2 (i := 8) (j := 10) rfl rfl (by kernel_rfl) rfl rfl (fun K hK => ?bisba8) (fun K hK => ?bisba10)
            case bisba8 => 
              go_simp
              ((refine (HBI.out _).mono ?_))
              rintro e w2 ⟨rfl, rfl⟩
              refine hK.out _ _ (hHeld) (fun hNew => ?_)
              clear hK K hHeld
              have hHeld := hNew
              clear hNew
              try simp only [Act.put, List.setIfInBounds_toArray, List.set_cons_zero, List.set_cons_succ]
              refine reg_loud (i := 10) rfl (by kernel_rfl) rfl (fun K hK => ?_)
              go_simp
              refine hK.out _ _ (HSB.out _ (hHeld.2.alloc hHeld.2.size _)) (fun hNew => ?_)
              clear hK K hHeld
              have hHeld := hNew
              clear hNew
              try simp only [Act.put, List.setIfInBounds_toArray, List.set_cons_zero, List.set_cons_succ]
              refine reg_loud (i := 11) rfl (by kernel_rfl) rfl (fun K hK => ?_)
              go_simp
              refine hK.out _ _ (HSB.out _ (belowAA _ _ _)) (fun hNew => ?_)
              clear hK K hHeld
              have hHeld := hNew
              clear hNew
              try simp only [Act.put, List.setIfInBounds_toArray, List.set_cons_zero, List.set_cons_succ]
              refine reg_loud (i := 12) rfl (by kernel_rfl) rfl (fun K hK => ?_)
              go_simp
              refine hK.out _ _ (HSB.out _ (belowAA _ _ _)) (fun hNew => ?_)
              clear hK K hHeld
              have hHeld := hNew
              clear hNew
              try simp only [Act.put, List.setIfInBounds_toArray, List.set_cons_zero, List.set_cons_succ]
              refine reg_done (by kernel_rfl) ?_ _
              clear hHeld
              go_wp2_with fail
              go_meet
              case rel => exact ⟨wr.heap.size, wr.heap.size + 1, rfl, rfl, by omega, Nat.le_refl _, by omega, (winsA _ _ _ _ _ _ _).1, (winsA _ _ _ _ _ _ _).2, belowAA _ _ _⟩
            case bisba10 => 
              go_simp
              refine hK.out _ _ (HSB.out _ (hHeld.2.alloc hHeld.2.size _)) (fun hNew => ?_)
              clear hK K hHeld
              have hHeld := hNew
              clear hNew
              try simp only [Act.put, List.setIfInBounds_toArray, List.set_cons_zero, List.set_cons_succ]
              refine reg_loud (i := 8) rfl (by kernel_rfl) rfl (fun K hK => ?_)
              go_simp
              ((refine (HBI.out _).mono ?_))
              rintro e w2 ⟨rfl, rfl⟩
              refine hK.out _ _ (hHeld) (fun hNew => ?_)
              clear hK K hHeld
              have hHeld := hNew
              clear hNew
              try simp only [Act.put, List.setIfInBounds_toArray, List.set_cons_zero, List.set_cons_succ]
              refine reg_loud (i := 11) rfl (by kernel_rfl) rfl (fun K hK => ?_)
              go_simp
              refine hK.out _ _ (HSB.out _ (belowAA _ _ _)) (fun hNew => ?_)
              clear hK K hHeld
              have hHeld := hNew
              clear hNew
              try simp only [Act.put, List.setIfInBounds_toArray, List.set_cons_zero, List.set_cons_succ]
              refine reg_loud (i := 12) rfl (by kernel_rfl) rfl (fun K hK => ?_)
              go_simp
              refine hK.out _ _ (HSB.out _ (belowAA _ _ _)) (fun hNew => ?_)
              clear hK K hHeld
              have hHeld := hNew
              clear hNew
              try simp only [Act.put, List.setIfInBounds_toArray, List.set_cons_zero, List.set_cons_succ]
              refine reg_done (by kernel_rfl) ?_ _
              clear hHeld
              go_wp2_with fail
              go_meet
              case rel => exact ⟨wr.heap.size, wr.heap.size + 1, rfl, rfl, by omega, Nat.le_refl _, by omega, (winsA _ _ _ _ _ _ _).1, (winsA _ _ _ _ _ _ _).2, belowAA _ _ _⟩
          case bisb10 => 
            go_simp
            refine hK.out _ _ (HSB.out _ (hHeld.2.alloc hHeld.2.size _)) (fun hNew => ?_)
            clear hK K hHeld
            have hHeld := hNew
            clear hNew
            try simp only [Act.put, List.setIfInBounds_toArray, List.set_cons_zero, List.set_cons_succ]
            refine reg_loud (i := 3) rfl (by kernel_rfl) rfl (fun K hK => ?_)
            go_simp
            ((refine (HPA.out _).mono ?_))
            rintro e w2 ⟨rfl, rfl⟩
            refine hK.out _ _ (hHeld) (fun hNew => ?_)
            clear hK K hHeld
            have hHeld := hNew
            clear hNew
            try simp only [Act.put, List.setIfInBounds_toArray, List.set_cons_zero, List.set_cons_succ]
            refine reg_take (i := 4) (v := ?visbb4) rfl (by kernel_rfl) rfl hHeld ?yisbb4 ?risbb4
            case yisbb4 => (intro w hSw; (try dsimp only at hSw); go_simp; all_goals with_reducible rfl)
            try simp only [Act.put, List.setIfInBounds_toArray, List.set_cons_zero, List.set_cons_succ]
            refine reg_take (i := 5) (v := ?visbb5) rfl (by kernel_rfl) rfl hHeld ?yisbb5 ?risbb5
            case yisbb5 => (intro w hSw; (try dsimp only at hSw); go_simp; all_goals with_reducible rfl)
            try simp only [Act.put, List.setIfInBounds_toArray, List.set_cons_zero, List.set_cons_succ]
            refine reg_loud (i := 8) rfl (by kernel_rfl) rfl (fun K hK => ?_)
            go_simp
            ((refine (HBI.out _).mono ?_))
            rintro e w2 ⟨rfl, rfl⟩
            refine hK.out _ _ (hHeld) (fun hNew => ?_)
            clear hK K hHeld
            have hHeld := hNew
            clear hNew
            try simp only [Act.put, List.setIfInBounds_toArray, List.set_cons_zero, List.set_cons_succ]
            refine reg_loud (i := 11) rfl (by kernel_rfl) rfl (fun K hK => ?_)
            go_simp
            refine hK.out _ _ (HSB.out _ (belowAA _ _ _)) (fun hNew => ?_)
            clear hK K hHeld
            have hHeld := hNew
            clear hNew
            try simp only [Act.put, List.setIfInBounds_toArray, List.set_cons_zero, List.set_cons_succ]
            refine reg_loud (i := 12) rfl (by kernel_rfl) rfl (fun K hK => ?_)
            go_simp
            refine hK.out _ _ (HSB.out _ (belowAA _ _ _)) (fun hNew => ?_)
            clear hK K hHeld
            have hHeld := hNew
            clear hNew
            try simp only [Act.put, List.setIfInBounds_toArray, List.set_cons_zero, List.set_cons_succ]
            refine reg_done (by kernel_rfl) ?_ _
            clear hHeld
            go_wp2_with fail
            go_meet
            case rel => exact ⟨wr.heap.size, wr.heap.size + 1, rfl, rfl, by omega, Nat.le_refl _, by omega, (winsA _ _ _ _ _ _ _).1, (winsA _ _ _ _ _ _ _).2, belowAA _ _ _⟩
        case bis10 => 
          go_simp
          refine hK.out _ _ (HSB.out _ (hHeld.2.alloc hHeld.2.size _)) (fun hNew => ?_)
          clear hK K hHeld
          have hHeld := hNew
          clear hNew
          try simp only [Act.put, List.setIfInBounds_toArray, List.set_cons_zero, List.set_cons_succ]
          refine reg_loud2 (i := 3) (j := 9) rfl rfl (by kernel_rfl) rfl rfl (fun K hK => ?bisc3) (fun K hK => ?bisc9)
          case bisc3 => 
            go_simp
            ((refine (HPA.out _).mono ?_))
            rintro e w2 ⟨rfl, rfl⟩
            refine hK.out _ _ (hHeld) (fun hNew => ?_)
            clear hK K hHeld
            have hHeld := hNew
            clear hNew
            try simp only [Act.put, List.setIfInBounds_toArray, List.set_cons_zero, List.set_cons_succ]
            refine reg_take (i := 4) (v := ?visca4) rfl (by kernel_rfl) rfl hHeld ?yisca4 ?risca4
            case yisca4 => (intro w hSw; (try dsimp only at hSw); go_simp; all_goals with_reducible rfl)
            try simp only [Act.put, List.setIfInBounds_toArray, List.set_cons_zero, List.set_cons_succ]
            refine reg_take (i := 5) (v := ?visca5) rfl (by kernel_rfl) rfl hHeld ?yisca5 ?risca5
            case yisca5 => (intro w hSw; (try dsimp only at hSw); go_simp; all_goals with_reducible rfl)
            try simp only [Act.put, List.setIfInBounds_toArray, List.set_cons_zero, List.set_cons_succ]
            refine reg_loud2 (i := 8) (j := 9) rfl rfl (by kernel_rfl) rfl rfl (fun K hK => ?bisca8) (fun K hK => ?bisca9)
            case bisca8 => 
              go_simp
              ((refine (HBI.out _).mono ?_))
              rintro e w2 ⟨rfl, rfl⟩
              refine hK.out _ _ (hHeld) (fun hNew => ?_)
              clear hK K hHeld
              have hHeld := hNew
              clear hNew
              try simp only [Act.put, List.setIfInBounds_toArray, List.set_cons_zero, List.set_cons_succ]
              refine reg_loud (i := 9) rfl (by kernel_rfl) rfl (fun K hK => ?_)
              go_simp
              refine hK.out _ _ (HSB.out _ (hHeld.2.alloc hHeld.2.size _)) (fun hNew => ?_)
              clear hK K hHeld
              have hHeld := hNew
              clear hNew
              try simp only [Act.put, List.setIfInBounds_toArray, List.set_cons_zero, List.set_cons_succ]
              refine reg_loud (i := 11) rfl (by kernel_rfl) rfl (fun K hK => ?_)
              go_simp
              refine hK.out _ _ (HSB.out _ (belowAA _ _ _)) (fun hNew => ?_)
              clear hK K hHeld
              have hHeld := hNew
              clear hNew
              try simp only [Act.put, List.setIfInBounds_toArray, List.set_cons_zero, List.set_cons_succ]
              refine reg_loud (i := 12) rfl (by kernel_rfl) rfl (fun K hK => ?_)
              go_simp
              refine hK.out _ _ (HSB.out _ (belowAA _ _ _)) (fun hNew => ?_)
              clear hK K hHeld
              have hHeld := hNew
              clear hNew
              try simp only [Act.put, List.setIfInBounds_toArray, List.set_cons_zero, List.set_cons_succ]
              refine reg_done (by kernel_rfl) ?_ _
              clear hHeld
              go_wp2_with fail
              go_meet
              case rel => exact ⟨wr.heap.size + 1, wr.heap.size, rfl, rfl, by omega, by omega, Nat.le_refl _, (insB _ _ _ _ _ _ _).1, (insB _ _ _ _ _ _ _).2, belowAA _ _ _⟩
            case bisca9 => 
              go_simp
              refine hK.out _ _ (HSB.out _ (hHeld.2.alloc hHeld.2.size _)) (fun hNew => ?_)
              clear hK K hHeld
              have hHeld := hNew
              clear hNew
              try simp only [Act.put, List.setIfInBounds_toArray, List.set_cons_zero, List.set_cons_succ]
              refine reg_loud (i := 8) rfl (by kernel_rfl) rfl (fun K hK => ?_)
              go_simp
              ((refine (HBI.out _).mono ?_))
              rintro e w2 ⟨rfl, rfl⟩
              refine hK.out _ _ (hHeld) (fun hNew => ?_)
              clear hK K hHeld
              have hHeld := hNew
              clear hNew
              try simp only [Act.put, List.setIfInBounds_toArray, List.set_cons_zero, List.set_cons_succ]
              refine reg_loud (i := 11) rfl (by kernel_rfl) rfl (fun K hK => ?_)
              go_simp
              refine hK.out _ _ (HSB.out _ (belowAA _ _ _)) (fun hNew => ?_)
              clear hK K hHeld
              have hHeld := hNew
              clear hNew
              try simp only [Act.put, List.setIfInBounds_toArray, List.set_cons_zero, List.set_cons_succ]
              refine reg_loud (i := 12) rfl (by kernel_rfl) rfl (fun K hK => ?_)
              go_simp
              refine hK.out _ _ (HSB.out _ (belowAA _ _ _)) (fun hNew => ?_)
              clear hK K hHeld
              have hHeld := hNew
              clear hNew
              try simp only [Act.put, List.setIfInBounds_toArray, List.set_cons_zero, List.set_cons_succ]
              refine reg_done (by kernel_rfl) ?_ _
              clear hHeld
              go_wp2_with fail
              go_meet
              case rel => exact ⟨wr.heap.size + 1, wr.heap.size, rfl, rfl, by omega, by omega, Nat.le_refl _, (insB _ _ _ _ _ _ _).1, (insB _ _ _ _ _ _ _).2, belowAA _ _ _⟩
          case bisc9 => 
            go_simp
            refine hK.out _ _ (HSB.out _ (hHeld.2.alloc hHeld.2.size _)) (fun hNew => ?_)
            clear hK K hHeld
            have hHeld := hNew
            clear hNew
            try simp only [Act.put, List.setIfInBounds_toArray, List.set_cons_zero, List.set_cons_succ]
            refine reg_loud (i := 3) rfl (by kernel_rfl) rfl (fun K hK => ?_)
            go_simp
            ((refine (HPA.out _).mono ?_))
            rintro e w2 ⟨rfl, rfl⟩
            refine hK.out _ _ (hHeld) (fun hNew => ?_)
            clear hK K hHeld
            have hHeld := hNew
            clear hNew
            try simp only [Act.put, List.setIfInBounds_toArray, List.set_cons_zero, List.set_cons_succ]
            refine reg_take (i := 4) (v := ?viscb4) rfl (by kernel_rfl) rfl hHeld ?yiscb4 ?riscb4
            case yiscb4 => (intro w hSw; (try dsimp only at hSw); go_simp; all_goals with_reducible rfl)
            try simp only [Act.put, List.setIfInBounds_toArray, List.set_cons_zero, List.set_cons_succ]
            refine reg_take (i := 5) (v := ?viscb5) rfl (by kernel_rfl) rfl hHeld ?yiscb5 ?riscb5
            case yiscb5 => (intro w hSw; (try dsimp only at hSw); go_simp; all_goals with_reducible rfl)
            try simp only [Act.put, List.setIfInBounds_toArray, List.set_cons_zero, List.set_cons_succ]
            refine reg_loud (i := 8) rfl (by kernel_rfl) rfl (fun K hK => ?_)
            go_simp
            ((refine (HBI.out _).mono ?_))
            rintro e w2 ⟨rfl, rfl⟩
            refine hK.out _ _ (hHeld) (fun hNew => ?_)
            clear hK K hHeld
            have hHeld := hNew
            clear hNew
            try simp only [Act.put, List.setIfInBounds_toArray, List.set_cons_zero, List.set_cons_succ]
            refine reg_loud (i := 11) rfl (by kernel_rfl) rfl (fun K hK => ?_)
            go_simp
            refine hK.out _ _ (HSB.out _ (belowAA _ _ _)) (fun hNew => ?_)
            clear hK K hHeld
            have hHeld := hNew
            clear hNew
            try simp only [Act.put, List.setIfInBounds_toArray, List.set_cons_zero, List.set_cons_succ]
            refine reg_loud (i := 12) rfl (by kernel_rfl) rfl (fun K hK => ?_)
            go_simp
            refine hK.out _ _ (HSB.out _ (belowAA _ _ _)) (fun hNew => ?_)
            clear hK K hHeld
            have hHeld := hNew
            clear hNew
            try simp only [Act.put, List.setIfInBounds_toArray, List.set_cons_zero, List.set_cons_succ]
            refine reg_done (by kernel_rfl) ?_ _
            clear hHeld
            go_wp2_with fail
            go_meet
            case rel => exact ⟨wr.heap.size + 1, wr.heap.size, rfl, rfl, by omega, by omega, Nat.le_refl _, (insB _ _ _ _ _ _ _).1, (insB _ _ _ _ _ _ _).2, belowAA _ _ _⟩
        -- END OF REGION ins
      case rest => as_aux_lemma =>
        obtain ⟨b9, b10, rfl, rfl, hne, h9, h10, hb9, hb10, hbw⟩ := hcut
        have hE := HE.out.less hbw (Y := fun i => (X i ∨ i = w.heap.size) ∨ (i = b9 ∨ i = b10)) (fun i hi => hi.elim Or.inl (fun g => Or.inr (by omega))) (fun i hi => hi.elim (fun g => Nat.lt_of_lt_of_le (HE.out.x i g) hbw.size) (fun g => by have := hb9.lt; have := hb10.lt; omega))
        have hkb := HKB.out.below hbw
        have HLOOK := Lib.hid (wLook hE hlt HPP.out ⟨HV0.out, by have := HV1'.out; omega⟩ (M := 7 * shigh (O' l π) + 2) (by have := HHL.out; omega) (Y := fun _ => False) (fun i e => e.elim) (updO O' l π (insO (O' l π) ct bt)) 90 #[.pointer (some ⟨w.heap.size, 0, none⟩), .pointer (some ⟨b10, 0, none⟩)]
          (enters_of Tryd.func90 (by kernel_rfl) rfl) (fun _ => True) (fun _ _ _ _ => trivial)
          (fun w0 Z hXZ hb hE0 => wIns1 hE0 hlt HPP.out HCL.out (by have := HLV.out; have := HLEN.out; omega) (hkb.below hb) (hb10.below hb)))
        have HKB2 := Lib.hid hkb
        have HB9 := Lib.hid hb9
        have HB10 := Lib.hid hb10
        have HCW : Hid (Chg (exT B X) w _) := HC.out.trans (Chg.of_below (S := exT B X) hbw) (fun j hj => Or.inl hj)
        have HNE : Hid (b9 ≠ b10 ∧ w.heap.size < wr.heap.size ∧ wr.heap.size ≤ b9 ∧ wr.heap.size ≤ b10) := ⟨hne, HSZ.out, h9, h10⟩
        obtain ⟨e0, e1, e2⟩ := hb9.cells
        unfold shelfV at HLOOK
        rw [hq] at HLOOK
        clear hE hkb hb9 hb10 hbw hne h9 h10 r0 r1 r2 HC HE HKB
        go_wp2_with fail
        refine HLOOK.out.mono ?_
        rintro e w2 ⟨rfl, v1, hv1, hE2, hC2, _⟩
        have hC2 : Chg (exT B (fun i => (X i ∨ i = w.heap.size) ∨ (i = b9 ∨ i = b10))) _ w2 := hC2.mono (fun j hj => hj.elim id (fun h => h.elim))
        have hb9 := Box3.chg HB9.out hC2 (fun hk => hk.2 (Or.inr (Or.inl rfl)))
        have hb10 := HB10.out.chg hC2 (fun hk => hk.2 (Or.inr (Or.inr rfl)))
        have hkb2 := HKB2.out.chg hC2 (fun hk => hk.2 (Or.inl (Or.inr rfl)))
        have HRK := Lib.hid (wRankS hE2 hlt HPP.out ⟨by have := HV0.out; omega, by have := HV1'.out; have := HHL.out; omega⟩ (by rw [updO_same]; have := HHI.out; have := HHL.out; omega) (ct : Int) bt)
        rw [updO_same, Int.toNat_natCast, HNX.out] at HRK
        unfold shelfV at HRK
        rw [hq] at HRK
        have HW2 : Hid (Chg (exT B X) w w2) := HCW.out.trans hC2 (fun j hj => Or.inl (exT_mono (fun i hi => Or.inl (Or.inl hi)) hj))
        have k2 := hkb2.cell
        have t10 := hb10.cell
        obtain ⟨f0, f1, f2⟩ := hb9.cells
        have HKB3 := Lib.hid hkb2
        clear hE2 hC2 hb9 hb10 hkb2 HLOOK HB9 HB10 HKB2 HCW e0 e1 e2
        go_wp2_with fail
        refine HRK.out.mono ?_
        rintro e w3 ⟨rfl, v2, hv2, hE3, hC3⟩
        have hkb3 := HKB3.out.chg hC3 (fun hk => hk.2 (Or.inl (Or.inr rfl)))
        have k3 := hkb3.cell
        have kf3 := hkb3.frz
        have HK3 := Lib.hid hkb3
        have HE3 := Lib.hid hE3
        have HW3 : Hid (Chg (exT B X) w w3) := HW2.out.trans hC3 (fun j hj => Or.inl (exT_mono (fun i hi => Or.inl (Or.inl hi)) hj))
        clear hE3 hC3 hkb3 HRK HKB3 HW2 k2 t10 f0 f1 f2
        go_wp2_with fail
        go_roundw
        case rel =>
          refine ⟨l + 1, by omega, by go_num, _, vis' + v1 + v2, ?_, ?_, (HE3.out.mono (fun i hi => Or.inl hi)).chg (Z := fun j => j = w.heap.size) (Chg.refl.setCell (S := fun j => j = w.heap.size) ⟨w.heap.size, 0, none⟩ (Or.inl rfl) _) (fun k hk _ e => hk.2 (Or.inr e)), HM'.out, fun l' k' g1 g2 => ?_, HK3.out.set _, HW3.out.setCell _ (Or.inr (Nat.le_refl _)) _⟩
          · have := HV0.out; omega
          · have e : ((l + 1 : Nat) : Int) * (8 * (H : Int) + 4) = (l : Int) * (8 * (H : Int) + 4) + (8 * (H : Int) + 4) := by push_cast; rw [Int.add_mul]; omega
            rw [e]
            have h1 := HV1.out
            have h2 := HHL.out
            have h3 := HHI.out
            omega
          · by_cases e : l' = l ∧ k' = π
            · obtain ⟨rfl, rfl⟩ := e
              rw [updO_same]
              have h2 := HHL.out
              have h3 := HHI.out
              exact ⟨by omega, fun h => by omega⟩
            · rw [updO_ne _ _ (by omega)]
              have := HHH.out l' k' g1 g2
              exact ⟨this.1, fun h => this.2 (by omega)⟩
        case measure => simp [intOf]; omega
    · obtain rfl : l = 9 := by omega
      have HC := Lib.hid hC
      have HE := Lib.hid hE
      have HM := Lib.hid hM
      have HHH := Lib.hid hHH
      obtain ⟨_, c9, _, fz, _⟩ := hE.cells
      have z9 := fz 9
      have hwn : IntKind.i64.wrap ((L.length : Int) + 1) = (L.length : Int) + 1 := IntWalk.i64_in _ (by have := HLEN.out; omega)
      have HN : Hid ((L.length : Int) + 1 = ((L.length + 1 : Nat) : Int)) := by show _ = _; omega
      clear hC hE hM hHH hKB fz
      go_wp2_with fail
      go_ret
      rw [HN.out]
      refine ⟨rfl, O', vis', hv0, by omega, ((HE.out.mono (fun i hi => Or.inl hi)).setN (L.length + 1)).1, HM.out.fin, fun l' k' h1 h2 => (HHH.out l' k' h1 h2).1, HC.out.trans ((HE.out.mono (fun i hi => Or.inl hi)).setN (L.length + 1)).2 (fun j hj => Or.inl hj)⟩

end Go.Proofs.YtcppgpjodfeigaaDoor

namespace Go.Proofs.YtcppgpjodfeigaaDoor
set_option linter.unusedVariables false
set_option linter.unusedSimpArgs false
open Go.RowKit

set_option maxHeartbeats 1600000 in
theorem wDel1 {B : Nat} {Z : Nat → Prop} {w : World} {p n : Nat} {D : WD} {O : Nat → Nat → Option ST} {vis : Int} (h : WaveE B Z w p D O n vis anyV) {l k : Nat} (hl : l < 9) (hk : k < pw l) {b1 b2 : Nat} (z1 : Z b1) (z2 : Z b2) {j : Nat} (hj : j < (sbits (O l k)).length) {v0 : Value}
    (h1 : Box1 w b1 (.int .i64 j) 3) (h2 : Box1 w b2 v0 4) :
    Calls Tryd.prog 91 #[shelfV D l k, .pointer (some ⟨b1, 0, none⟩), .pointer (some ⟨b2, 0, none⟩)] w fun e w' => e = .returned (.tuple #[]) ∧ DoPost B Z (fun i => i = b2) w w' p D (updO O l k (delO (O l k) j)) n vis l k (7 * shigh (O l k) + 2) ∧ Box1 w' b2 (.bool (bitAt (sbits (O l k)) j)) 4 := by
  have hb0 := below_al w (.cells #[.pointer (some ⟨D.Q l k, 0, none⟩), .int .i64 l, .int .i64 k] 104)
  obtain ⟨W, hW⟩ : ∃ W, W = w.alloc (.cells #[.pointer (some ⟨D.Q l k, 0, none⟩), .int .i64 l, .int .i64 k] 104) := ⟨_, rfl⟩
  rw [← hW] at hb0
  have c1 := (h1.below hb0).cell
  have HRK := Lib.hid ((h.below hb0).tDelete hl hk j hj)
  have HB2 := Lib.hid (h2.below hb0)
  have HB0 := Lib.hid hb0
  have HZ2 := Lib.hid z2
  clear h h1 h2 hb0 z1 z2 hl hk hj
  unfold shelfV
  obtain ⟨r, hr⟩ : ∃ r, bitAt (sbits (O l k)) j = r := ⟨_, rfl⟩
  rw [hr] at HRK ⊢
  clear hr
  obtain ⟨q, hq⟩ : ∃ q, D.Q l k = q := ⟨_, rfl⟩
  rw [hq] at HRK hW ⊢
  clear hq
  subst hW
  go_enter Tryd.func91, Tryd.ntmps91
  go_wp2_with fail
  refine HRK.out.mono ?_
  rintro e w1 ⟨rfl, hE1, hC1⟩
  have hb2 := HB2.out.chg hC1 (fun hk => hk.2 HZ2.out)
  have HB2' := Lib.hid hb2
  have c3 := hb2.cell
  have f3 := hb2.frz
  have HE1 := Lib.hid hE1
  have HC1 := Lib.hid hC1
  clear hE1 hC1 hb2 HRK
  go_wp2_with fail
  go_end0
  refine ⟨rfl, ⟨HE1.out.setBox HZ2.out _, ?_⟩, HB2'.out.set _⟩
  exact ((Chg.of_below (S := fun j => exT B Z j ∨ j = b2) HB0.out).trans (HC1.out.mono (fun j hj => Or.inl hj)) (fun j hj => Or.inl hj)).setCell _ (Or.inl (Or.inr rfl)) _

theorem LvlM.del {O : Nat → Nat → Option ST} {L : List Nat} {k s l : Nat} (h : LvlM O L (outL L k) l) (hk : L[k]? = some s) (hl : l < 9) (hs : s < 257) :
    LvlM (updO O l (pth s l) (delO (O l (pth s l)) (cntP L l (pth s l) k))) L (outL L k) (l + 1) ∧ sbits (O l (pth s l)) = lvl L l (pth s l) := by
  have hb : sbits (O l (pth s l)) = lvl L l (pth s l) := by rw [h l _ hl (pth_lt (by omega) (by omega)), if_neg (by omega)]
  refine ⟨fun l' k' h1 h2 => ?_, hb⟩
  by_cases e : l' = l ∧ k' = pth s l
  · obtain ⟨rfl, rfl⟩ := e
    rw [updO_same, if_pos (by omega), delO_bits (by rw [hb]; exact (lvl_at hk l').1), hb, lvl_out hk, if_pos rfl]
  · have hne : l' ≠ l ∨ k' ≠ pth s l := by omega
    rw [updO_ne _ _ hne, h l' k' h1 h2]
    by_cases e2 : l' = l
    · subst e2
      rw [if_neg (by omega), if_pos (by omega), lvl_out hk, if_neg (by omega)]
    · by_cases e3 : l' < l
      · rw [if_pos e3, if_pos (by omega)]
      · rw [if_neg e3, if_neg (by omega)]

set_option maxHeartbeats 6400000 in
set_option maxRecDepth 100000 in
theorem wDelete_any {B : Nat} {X : Nat → Prop} {w : World} {p : Nat} {D : WD} {O : Nat → Nat → Option ST} {L : List Nat} {vis : Int} (h : WaveE B X w p D O L.length vis anyV) (hO : LvlO O L) (hL : Syms L) (hn : L.length ≤ 1000000000) {H : Nat} (hH : HiO O H) (hHm : H ≤ 1000000000) (k s : Nat) (hk : L[k]? = some s) :
    Calls Tryd.prog 49 #[.pointer (some ⟨p, 0, none⟩), .int .i64 k] w fun e w' =>
      e = .returned (.tuple #[.int .i64 s, .int .i64 0]) ∧ ∃ (O' : Nat → Nat → Option ST) (vis' : Int), 0 ≤ vis' ∧ vis' ≤ 9 * (8 * H + 4) ∧ WaveE B X w' p D O' (outL L k).length vis' anyV ∧ LvlO O' (outL L k) ∧ HiO O' H ∧ Chg (exT B X) w w' := by
  have hkL := (List.getElem?_eq_some_iff.1 hk).1
  have hs : s < 257 := hL s (List.mem_of_getElem? hk)
  have hb0 := below_al w (.cells #[.int .i64 k] 3)
  obtain ⟨W, hW⟩ : ∃ W, W = w.alloc (.cells #[.int .i64 k] 3) := ⟨_, rfl⟩
  have hbx : Box1 W w.heap.size (.int .i64 k) 3 := by rw [hW]; exact Box1.new w _ _
  rw [← hW] at hb0
  have hX1 : WaveE B (fun i => X i ∨ i = w.heap.size) W p D O L.length vis anyV := h.less hb0 (fun i hi => hi.elim Or.inl (fun e => Or.inr (by omega))) (fun i hi => hi.elim (fun g => Nat.lt_of_lt_of_le (h.x i g) hb0.size) (fun e => by subst e; exact hbx.lt))
  have hpn : p ≠ w.heap.size := by have := h.cells.2.2.2.2; omega
  have HX := Lib.hid h.x
  have HLE := Lib.hid h.le
  obtain ⟨hc0, c9, c10, fz, hp⟩ := hX1.cells
  have z10 := fz 10
  have kc := hbx.cell
  have HST := Lib.hid (hX1.setVis 0)
  have HKB : Hid (∀ v, Box1 (W.setCell ⟨p, 10, none⟩ v) w.heap.size (.int .i64 k) 3) := fun v => hbx.chg (S := fun j => j = p) (Chg.refl.setCell (S := fun j => j = p) ⟨p, 10, none⟩ (Or.inl rfl) _) (fun e => hpn e.symm)
  have HB0 := Lib.hid hb0
  have x0 := hc0 0 (by omega)
  have x1 := hc0 1 (by omega)
  have x2 := hc0 2 (by omega)
  have x3 := hc0 3 (by omega)
  have x4 := hc0 4 (by omega)
  have x5 := hc0 5 (by omega)
  have x6 := hc0 6 (by omega)
  have x7 := hc0 7 (by omega)
  have x8 := hc0 8 (by omega)
  have HO := Lib.hid hO
  have HHi := Lib.hid hH
  have HLS := Lib.hid hL
  have HK := Lib.hid hk
  have HLEN := Lib.hid hn
  have d0 : decide ((k : Int) < 0) = false := decide_eq_false (by omega)
  have d1 : decide (L.length ≤ k) = false := decide_eq_false (by omega)
  have d2 : decide ((L.length : Int) ≤ (k : Int)) = false := decide_eq_false (by omega)
  have HPN := Lib.hid hpn
  clear h hc0 fz hO hH hL hn hX1 hb0 hbx hk
  subst hW
  go_enter Tryd.func49, Tryd.ntmps49
  go_wp2_with fail
  go_quiet (fail)
  go_wp2_with fail
  have HS0 : Hid (WaveE B (fun i => X i ∨ i = w.heap.size) (((w.alloc (.cells #[.int .i64 k] 3)).setCell ⟨p, 10, none⟩ (.int .i64 0)).drewN nq) p D O L.length 0 anyV ∧ Box1 (((w.alloc (.cells #[.int .i64 k] 3)).setCell ⟨p, 10, none⟩ (.int .i64 0)).drewN nq) w.heap.size (.int .i64 k) 3 ∧ Chg (exT B X) w (((w.alloc (.cells #[.int .i64 k] 3)).setCell ⟨p, 10, none⟩ (.int .i64 0)).drewN nq)) :=
    ⟨HST.out.1.drewN nq, HKB.out _, ((Chg.of_below (S := exT B X) HB0.out).trans (HST.out.2.mono (fun j hj => exT_mono (fun i hi => Or.inl hi) hj)) (fun j hj => Or.inl hj)).drewN nq⟩
  generalize ((w.alloc (.cells #[.int .i64 k] 3)).setCell ⟨p, 10, none⟩ (.int .i64 0)).drewN nq = ws at *
  clear HST HKB HB0 x0 x1 x2 x3 x4 x5 x6 x7 x8 c9 c10 z10 kc d0 d1 d2 hp hpn
  go_loopw [6, 31] (fun v x wr => ∃ l : Nat, l ≤ 9 ∧ x = .int .i64 l ∧ v = .int .i64 (pth s l : Nat) ∧ ∃ (O' : Nat → Nat → Option ST) (vis' : Int), 0 ≤ vis' ∧ vis' ≤ l * (8 * H + 4) ∧ WaveE B (fun i => X i ∨ i = w.heap.size) wr p D O' L.length vis' anyV ∧ LvlM O' L (outL L k) l ∧ (∀ l' k', l' < 9 → k' < pw l' → shigh (O' l' k') ≤ H) ∧ Box1 wr w.heap.size (.int .i64 (cntP L l (pth s l) k : Nat)) 3 ∧ Chg (exT B X) w wr) (fun _ x _ => 9 - (intOf x).toNat)
  case atStart => exact ⟨0, by omega, rfl, by rw [pth_zero (by omega)]; rfl, O, 0, by omega, by simp, HS0.out.1, LvlM.start HO.out, HHi.out, by rw [pth_zero (by omega), cntP_zero HLS.out.lt k (by omega)]; exact HS0.out.2.1, HS0.out.2.2⟩
  case round => as_aux_lemma =>
    clear HS0 HO HHi
    obtain ⟨l, hl, rfl, rfl, O', vis', hv0, hv1, hE, hM, hHH, hKB, hC⟩ := hrel
    by_cases hlt : l < 9
    · have hix : ∀ w : World, (Instr.index 99 (.agg #[D.row 0, D.row 1, D.row 2, D.row 3, D.row 4, D.row 5, D.row 6, D.row 7, D.row 8]) (.int .i64 (l : Int))).run Tryd.prog w = .ok (.slice (some ⟨D.G l, 0, none⟩) (pw l) (D.C l)) w := idx_row D hlt
      have hpp := pth_pw hs hlt
      have hpl := pw_le hlt
      obtain ⟨r0, r1, r2⟩ := hE.shelf hlt hpp
      obtain ⟨hM', hOB⟩ := hM.del HK.out hlt hs
      obtain ⟨g1, g2⟩ := lvl_at HK.out l
      have hHl := hHH l (pth s l) hlt hpp
      have hv1' : vis' ≤ 9 * (8 * (H : Int) + 4) := by
        have h1 : (l : Int) * (8 * (H : Int) + 4) ≤ 9 * (8 * (H : Int) + 4) := Int.mul_le_mul_of_nonneg_right (by omega) (by omega)
        omega
      have hHI := (delO_good (o := O' l (pth s l)) (k := cntP L l (pth s l) k) (hE.tGood hlt hpp).1 (by rw [hOB]; exact g1)).2
      obtain ⟨π, hπ⟩ : ∃ π, pth s l = π := ⟨_, rfl⟩
      obtain ⟨bt, hbt⟩ : ∃ bt, bitS s l = bt := ⟨_, rfl⟩
      obtain ⟨ct, hct⟩ : ∃ ct, cntP L l (pth s l) k = ct := ⟨_, rfl⟩
      have hpn : 2 * π + bnum bt = pth s (l + 1) := by rw [← hπ, ← hbt, pth_succ hlt]
      have hnx : rankL (sbits (O' l π)) ct bt = cntP L (l + 1) (pth s (l + 1)) k := by
        rw [← hπ, ← hbt, ← hct, hOB, wrank_next L hlt, pth_succ hlt]
      rw [hct] at hM' g1 g2 hKB hHI
      rw [hbt] at g2
      rw [hπ] at hM' hOB hHl hHI hpp r0 r1 r2 g1 g2 ⊢
      rw [← hOB] at g1 g2
      have hbo := rankL_both (l := sbits (O' l π)) (k := ct) (by omega)
      obtain ⟨on, hon⟩ : ∃ on, rankL (sbits (O' l π)) ct true = on := ⟨_, rfl⟩
      rw [hon] at hbo
      have hbf : bt = true → (on : Nat) = cntP L (l + 1) (pth s (l + 1)) k := fun h => by rw [← hnx, h, hon]
      have hbg : bt = false → (ct : Int) - (on : Int) = (cntP L (l + 1) (pth s (l + 1)) k : Nat) := fun h => by
        rw [← hnx, h]; omega
      obtain ⟨wa, hwa⟩ : ∃ wa, wa = wr.alloc (.cells #[.pointer (some ⟨D.Q l π, 0, none⟩), .int .i64 l, .int .i64 π] 104) := ⟨_, rfl⟩
      obtain ⟨wb, hwb⟩ : ∃ wb, wb = wa.alloc (.cells #[.bool false] 4) := ⟨_, rfl⟩
      have sa : wa.heap.size = wr.heap.size + 1 := by rw [hwa]; simp
      have ba : Below wr.heap.size wr wa := by rw [hwa]; exact below_al wr _
      have bb : Below wa.heap.size wa wb := by rw [hwb]; exact below_al wa _
      have ball : Below wr.heap.size wr wb := ba.trans (bb.mono ba.size)
      have bx9 : Box3 wb wr.heap.size (.pointer (some ⟨D.Q l π, 0, none⟩)) (.int .i64 l) (.int .i64 π) 104 := (Chg.of_below (S := fun _ => False) bb).heap (by rw [hwa]; exact heap_alloc_new wr _) id
      have bx10 : Box1 wb (wr.heap.size + 1) (.bool false) 4 := by rw [hwb, ← sa]; exact Box1.new wa _ _
      have hkl := hKB.lt
      have hX3 : WaveE B (fun i => (X i ∨ i = w.heap.size) ∨ (i = wr.heap.size ∨ i = wr.heap.size + 1)) wb p D O' L.length vis' anyV := hE.less ball (fun i hi => hi.elim Or.inl (fun g => Or.inr (by omega))) (fun i hi => hi.elim (fun g => Nat.lt_of_lt_of_le (hE.x i g) ball.size) (fun g => by have := bx10.lt; omega))
      have HX3 := Lib.hid hX3
      have HBX10 := Lib.hid bx10
      have HB9 := Lib.hid bx9
      have HKB2 := Lib.hid (hKB.below ball)
      have HCB : Hid (Chg (exT B X) w wb) := hC.trans (Chg.of_below (S := exT B X) ball) (fun j hj => Or.inl hj)
      have HKL := Lib.hid hkl
      have HPW := Lib.hid hE.cells.2.2.2.2
      have HRK : Hid (Calls Tryd.prog 87 #[.pointer (some ⟨p, 0, none⟩), shelfV D l π, .int .i64 ct, .bool true] wb fun e w'' =>
          e = .returned (.int .i64 (on : Nat)) ∧ ∃ v' : Nat, v' ≤ shigh (O' l π) + 1 ∧ WaveE B (fun i => (X i ∨ i = w.heap.size) ∨ (i = wr.heap.size ∨ i = wr.heap.size + 1)) w'' p D O' L.length (vis' + v') anyV ∧ Chg (exT B (fun i => (X i ∨ i = w.heap.size) ∨ (i = wr.heap.size ∨ i = wr.heap.size + 1))) wb w'') := by
        have := wRankS hX3 hlt hpp ⟨hv0, by omega⟩ (by omega) (ct : Int) true
        rw [Int.toNat_natCast, hon] at this
        exact this
      have HNXT : Hid (∀ w', Calls Tryd.prog 88 #[shelfV D l π, .bool bt] w' fun e w'' => e = .returned (.int .i64 (pth s (l + 1) : Nat)) ∧ Below w'.heap.size w' w'') := fun w' => by
        have := wNext D (l := l) (k := π) (by omega) bt w'
        rw [hpn] at this; exact this
      have HLK : Hid (∀ (w1 : World) (v1 : Nat), v1 ≤ shigh (O' l π) + 1 → WaveE B (fun i => (X i ∨ i = w.heap.size) ∨ (i = wr.heap.size ∨ i = wr.heap.size + 1)) w1 p D O' L.length (vis' + v1) anyV → Box1 w1 w.heap.size (.int .i64 ct) 3 → Box1 w1 (wr.heap.size + 1) (.bool false) 4 →
          Calls Tryd.prog 85 #[.pointer (some ⟨p, 0, none⟩), shelfV D l π, .func (.func 91) #[] #[.pointer (some ⟨w.heap.size, 0, none⟩), .pointer (some ⟨wr.heap.size + 1, 0, none⟩)]] w1 fun e w' =>
            e = .returned (.tuple #[]) ∧ ∃ v : Nat, v ≤ 7 * shigh (O' l π) + 2 ∧ WaveE B (fun i => (X i ∨ i = w.heap.size) ∨ (i = wr.heap.size ∨ i = wr.heap.size + 1)) w' p D (updO O' l π (delO (O' l π) ct)) L.length (vis' + v1 + v) anyV ∧ Chg (fun j => exT B (fun i => (X i ∨ i = w.heap.size) ∨ (i = wr.heap.size ∨ i = wr.heap.size + 1)) j ∨ j = wr.heap.size + 1) w1 w' ∧ Box1 w' (wr.heap.size + 1) (.bool bt) 4) := fun w1 v1 hv1 h1 h2 h3 => by
        refine wLook h1 hlt hpp ⟨by omega, by omega⟩ (M := 7 * shigh (O' l π) + 2) (by omega) (Y := fun i => i = wr.heap.size + 1) (fun i e => Or.inr (Or.inr e)) _ _ _ (enters_of Tryd.func91 (by kernel_rfl) rfl) (fun w' => Box1 w' (wr.heap.size + 1) (.bool bt) 4) (fun w1 w2 hb hc => hb.chg hc (fun e => by have := HPW.out; omega)) (fun w0 Z hXZ hb hE0 => ?_)
        have := wDel1 hE0 hlt hpp (hXZ _ (Or.inl (Or.inr rfl))) (hXZ _ (Or.inr (Or.inr rfl))) g1 (h2.below hb) (h3.below hb)
        rw [g2] at this; exact this
      have HM' := Lib.hid hM'
      have HHI := Lib.hid hHI
      have HHH := Lib.hid hHH
      have HHL := Lib.hid hHl
      have HV0 := Lib.hid hv0
      have HV1 := Lib.hid hv1
      have i0 : (0 : Int) ≤ (π : Int) := by omega
      have i1 : (π : Int) < ((pw l : Nat) : Int) := by omega
      have hct9 : ct ≤ 1000000000 := by
        have h1 : (sbits (O' l π)).length ≤ L.length := by rw [hOB]; unfold lvl; rw [List.length_map]; exact List.length_filter_le _ _
        have := HLEN.out
        omega
      have hon9 : on ≤ ct := by omega
      obtain ⟨e0, e1, e2⟩ := bx9.cells
      have kb0 := HKB2.out.cell
      have kbr := hKB.cell
      have HBF := Lib.hid hbf
      have HBG := Lib.hid hbg
      clear hE hM hKB hC hOB g1 g2 hHl hv1' hv0 hv1 hct hπ hbt hnx hpn sa ba bb ball bx9 bx10 hkl hX3 hpp hpl hHI hHH hM' hbo hon hbf hbg
      unfold shelfV at HLK HRK HNXT
      generalize D.Q l π = q at *
      generalize D.G l = g at *
      generalize D.C l = gc at *
      subst hwa
      rw [hwb] at kb0
      go_wp2_with fail
      rw [← hwb]
      refine HRK.out.mono ?_
      rintro e w2 ⟨rfl, v1, hv1, hE2, hC2⟩
      have hb9 := Box3.chg HB9.out hC2 (fun hk => hk.2 (Or.inr (Or.inl rfl)))
      have hb10 := HBX10.out.chg hC2 (fun hk => hk.2 (Or.inr (Or.inr rfl)))
      have hkb2 := HKB2.out.chg hC2 (fun hk => hk.2 (Or.inl (Or.inr rfl)))
      have HLOOK := Lib.hid (HLK.out w2 v1 hv1 hE2 hkb2 hb10)
      have HB9b := Lib.hid hb9
      have HKB2b := Lib.hid hkb2
      have HW2 : Hid (Chg (exT B X) w w2) := HCB.out.trans hC2 (fun j hj => Or.inl (exT_mono (fun i hi => Or.inl (Or.inl hi)) hj))
      obtain ⟨f0, f1, f2⟩ := hb9.cells
      clear hE2 hC2 hb9 hb10 hkb2 HRK HB9 HBX10 HKB2 HCB e0 e1 e2 kb0 kbr hwb HLK HX3
      go_wp2_with fail
      refine HLOOK.out.mono ?_
      rintro e w3 ⟨rfl, v2, hv2, hE3, hC3, hR3⟩
      have hb9 := Box3.chg HB9b.out hC3 (fun hk => hk.elim (fun hk => hk.2 (Or.inr (Or.inl rfl))) (fun e => by omega))
      have hkb3 := HKB2b.out.chg hC3 (fun hk => hk.elim (fun hk => hk.2 (Or.inl (Or.inr rfl))) (fun e => by have := HKL.out; omega))
      have HR3 := Lib.hid hR3
      have HB9c := Lib.hid hb9
      have HKB3 := Lib.hid hkb3
      have HE3 := Lib.hid hE3
      have HW3 : Hid (Chg (exT B X) w w3) := HW2.out.trans hC3 (fun j hj => hj.elim (fun h => Or.inl (exT_mono (fun i hi => Or.inl (Or.inl hi)) h)) (fun e => by right; have := HKL.out; omega))
      obtain ⟨y0, y1, y2⟩ := hb9.cells
      have t10 := hR3.cell
      clear hE3 hC3 hR3 hb9 hkb3 HLOOK HB9b HKB2b HW2 f0 f1 f2
      go_wp2_with fail
      refine (HNXT.out _).mono ?_
      rintro e w4 ⟨rfl, hb4⟩
      have hkb4 := HKB3.out.below hb4
      have hb10 := HR3.out.below hb4
      have u10 := hb10.cell
      have k4 := hkb4.cell
      have kf4 := hkb4.frz
      have HK4 := Lib.hid hkb4
      have HE4 := Lib.hid (HE3.out.below hb4)
      have HW4 : Hid (Chg (exT B X) w w4) := HW3.out.trans (Chg.of_below (S := exT B X) hb4) (fun j hj => Or.inl hj)
      clear hkb4 hb10 hb4 HR3 HB9c HKB3 HE3 HW3 y0 y1 y2 t10 HNXT
      have HFIN : Hid (∀ u : Value, 0 ≤ vis' + (v1 : Int) + (v2 : Int) ∧ vis' + (v1 : Int) + (v2 : Int) ≤ ((l + 1 : Nat) : Int) * (8 * H + 4) ∧ WaveE B (fun i => X i ∨ i = w.heap.size) (w4.setCell ⟨w.heap.size, 0, none⟩ u) p D (updO O' l π (delO (O' l π) ct)) L.length (vis' + v1 + v2) anyV ∧ LvlM (updO O' l π (delO (O' l π) ct)) L (outL L k) (l + 1) ∧ (∀ l' k', l' < 9 → k' < pw l' → shigh (updO O' l π (delO (O' l π) ct) l' k') ≤ H) ∧ Box1 (w4.setCell ⟨w.heap.size, 0, none⟩ u) w.heap.size u 3 ∧ Chg (exT B X) w (w4.setCell ⟨w.heap.size, 0, none⟩ u)) := fun u => by
        refine ⟨by have := HV0.out; omega, ?_, (HE4.out.mono (fun i hi => Or.inl hi)).chg (Z := fun j => j = w.heap.size) (Chg.refl.setCell (S := fun j => j = w.heap.size) ⟨w.heap.size, 0, none⟩ (Or.inl rfl) _) (fun k hk _ e => hk.2 (Or.inr e)), HM'.out, fun l' k' g1 g2 => ?_, HK4.out.set _, HW4.out.setCell _ (Or.inr (Nat.le_refl _)) _⟩
        · have e : ((l + 1 : Nat) : Int) * (8 * (H : Int) + 4) = (l : Int) * (8 * (H : Int) + 4) + (8 * (H : Int) + 4) := by push_cast; rw [Int.add_mul]; omega
          rw [e]
          have h1 := HV1.out
          have h2 := HHL.out
          omega
        · by_cases e : l' = l ∧ k' = π
          · obtain ⟨rfl, rfl⟩ := e
            rw [updO_same]
            have h2 := HHL.out
            have h3 := HHI.out
            omega
          · rw [updO_ne _ _ (by omega)]
            exact HHH.out l' k' g1 g2
      cases bt
      · have hw1 : IntKind.i64.wrap ((ct : Int) - (on : Int)) = (ct : Int) - (on : Int) := IntWalk.i64_in _ (by omega)
        go_wp2_with fail
        go_roundw
        case rel =>
          have hg := HBG.out (by simp)
          rw [hg]
          exact ⟨l + 1, by omega, by go_num, rfl, _, _, HFIN.out _⟩
        case measure => simp [intOf]; omega
      · go_wp2_with fail
        go_roundw
        case rel =>
          have hg := HBF.out (by simp)
          rw [hg]
          exact ⟨l + 1, by omega, by go_num, rfl, _, _, HFIN.out _⟩
        case measure => simp [intOf]; omega
    · obtain rfl : l = 9 := by omega
      have hp9 := pth_nine s
      have HC := Lib.hid hC
      have HE := Lib.hid hE
      have HM := Lib.hid hM
      have HHH := Lib.hid hHH
      obtain ⟨_, c9, _, fz, _⟩ := hE.cells
      have z9 := fz 9
      have hwn : IntKind.i64.wrap ((L.length : Int) - 1) = (L.length : Int) - 1 := IntWalk.i64_in _ (by have := HLEN.out; omega)
      have HN : Hid ((L.length : Int) - 1 = ((outL L k).length : Nat)) := by show _ = _; rw [outL_len hkL]; omega
      clear hC hE hM hHH hKB fz
      go_wp2_with fail
      go_ret2
      rw [HN.out]
      refine ⟨by rw [hp9]; rfl, O', vis', hv0, by omega, ((HE.out.mono (fun i hi => Or.inl hi)).setN (outL L k).length).1, HM.out.fin, HHH.out, HC.out.trans ((HE.out.mono (fun i hi => Or.inl hi)).setN (outL L k).length).2 (fun j hj => Or.inl hj)⟩

end Go.Proofs.YtcppgpjodfeigaaDoor

namespace Go.Proofs.YtcppgpjodfeigaaDoor
set_option linter.unusedVariables false
set_option linter.unusedSimpArgs false
open Go.RowKit

/-- Block p holds a wave of the symbols L; its blocks are from B on and none of X. -/
def Wv (B : Nat) (X : Nat → Prop) (w : World) (p : Nat) (L : List Nat) : Prop := ∃ D O vis, WaveE B X w p D O L.length vis anyV ∧ LvlO O L

section
variable {B : Nat} {X Y : Nat → Prop} {w w' : World} {p : Nat} {L : List Nat}
theorem waveE_high {D : WD} {O : Nat → Nat → Option ST} {n : Nat} {vis : Int} {Vb : Nat → Nat → Int → Prop} (h : WaveE B X w p D O n vis Vb) : HiO O 1000000000 := fun l k hl hk => by
  have hg := h.tGood hl hk
  cases ho : O l k with
  | none => simp [shigh]
  | some t => rw [ho] at hg; have := good_small hg.1.2 hg.2; simp only [shigh]; omega
theorem Wv.below (h : Wv B X w p L) (hb : Below w.heap.size w w') : Wv B X w' p L := by
  obtain ⟨D, O, v, h1, h2⟩ := h; exact ⟨D, O, v, h1.below hb, h2⟩
theorem Wv.drewN (h : Wv B X w p L) (m : Nat) : Wv B X (w.drewN m) p L := by
  obtain ⟨D, O, v, h1, h2⟩ := h; exact ⟨D, O, v, h1.drewN m, h2⟩
theorem Wv.less (h : Wv B X w p L) (hb : Below w.heap.size w w') (hy : ∀ k, Y k → X k ∨ w.heap.size ≤ k) (hl : ∀ k, Y k → k < w'.heap.size) : Wv B Y w' p L := by
  obtain ⟨D, O, v, h1, h2⟩ := h; exact ⟨D, O, v, h1.less hb hy hl, h2⟩
theorem Wv.mono (h : Wv B X w p L) (hy : ∀ k, Y k → X k) : Wv B Y w p L := by
  obtain ⟨D, O, v, h1, h2⟩ := h; exact ⟨D, O, v, h1.mono hy, h2⟩
theorem Wv.chg {Z : Nat → Prop} (h : Wv B X w p L) (hc : Chg Z w w') (hd : ∀ k, exT B X k → k < w.heap.size → ¬ Z k) : Wv B X w' p L := by
  obtain ⟨D, O, v, h1, h2⟩ := h; exact ⟨D, O, v, h1.chg hc hd, h2⟩
theorem Wv.le (h : Wv B X w p L) : B ≤ w.heap.size := by obtain ⟨D, O, v, h1, h2⟩ := h; exact h1.le
theorem Wv.lt (h : Wv B X w p L) : p < w.heap.size := by obtain ⟨D, O, v, h1, h2⟩ := h; exact h1.cells.2.2.2.2

theorem wvGet (h : Wv B X w p L) (hL : Syms L) (hn : L.length ≤ 1000000000) (k s : Nat) (hk : L[k]? = some s) :
    Calls Tryd.prog 45 #[.pointer (some ⟨p, 0, none⟩), .int .i64 k] w fun e w' => e = .returned (.tuple #[.int .i64 s, .int .i64 0]) ∧ Wv B X w' p L ∧ Chg (exT B X) w w' := by
  obtain ⟨D, O, v, h1, h2⟩ := h
  refine (wGet_any h1 h2 hL hn (waveE_high h1) (Nat.le_refl _) k s hk).mono ?_
  rintro e w' ⟨rfl, v', _, _, h3, h4⟩
  exact ⟨rfl, ⟨D, O, v', h3, h2⟩, h4⟩
theorem wvRank (h : Wv B X w p L) (hL : Syms L) (hn : L.length ≤ 1000000000) (k : Int) (s : Nat) (hs : s < 257) :
    Calls Tryd.prog 46 #[.pointer (some ⟨p, 0, none⟩), .int .i64 k, .int .i64 s] w fun e w' => e = .returned (.int .i64 (rankS L k.toNat s)) ∧ Wv B X w' p L ∧ Chg (exT B X) w w' := by
  obtain ⟨D, O, v, h1, h2⟩ := h
  refine (wRank_any h1 h2 hL hn (waveE_high h1) (Nat.le_refl _) k s hs).mono ?_
  rintro e w' ⟨rfl, v', _, _, h3, h4⟩
  exact ⟨rfl, ⟨D, O, v', h3, h2⟩, h4⟩
theorem wvSelect (h : Wv B X w p L) (hTab : BitTab w) (hNT : 0 < B) (hL : Syms L) (hn : L.length ≤ 1000000000) (j : Int) (s : Nat) (hs : s < 257) :
    Calls Tryd.prog 47 #[.pointer (some ⟨p, 0, none⟩), .int .i64 j, .int .i64 s] w fun e w' => e = .returned (.int .i64 (selS L j s)) ∧ Wv B X w' p L ∧ Chg (exT B X) w w' := by
  obtain ⟨D, O, v, h1, h2⟩ := h
  refine (wSelect_any h1 hTab hNT h2 hL hn (waveE_high h1) (Nat.le_refl _) j s hs).mono ?_
  rintro e w' ⟨rfl, v', h3, h4⟩
  exact ⟨rfl, ⟨D, O, v', h3, h2⟩, h4⟩
theorem wvInsert (h : Wv B X w p L) (hL : Syms L) (hn : L.length ≤ 1000000000) (k s : Nat) (hk : k ≤ L.length) (hs : s < 257) :
    Calls Tryd.prog 48 #[.pointer (some ⟨p, 0, none⟩), .int .i64 k, .int .i64 s] w fun e w' => e = .returned (.int .i64 0) ∧ Wv B X w' p (inL L k s) ∧ Chg (exT B X) w w' := by
  obtain ⟨D, O, v, h1, h2⟩ := h
  refine (wInsert_any h1 h2 hL hn (waveE_high h1) (Nat.le_refl _) k s hk hs).mono ?_
  rintro e w' ⟨rfl, O', v', _, _, h3, h4, _, h5⟩
  exact ⟨rfl, ⟨D, O', v', by rw [inL_len hk]; exact h3, h4⟩, h5⟩
theorem wvDelete (h : Wv B X w p L) (hL : Syms L) (hn : L.length ≤ 1000000000) (k s : Nat) (hk : L[k]? = some s) :
    Calls Tryd.prog 49 #[.pointer (some ⟨p, 0, none⟩), .int .i64 k] w fun e w' => e = .returned (.tuple #[.int .i64 s, .int .i64 0]) ∧ Wv B X w' p (outL L k) ∧ Chg (exT B X) w w' := by
  obtain ⟨D, O, v, h1, h2⟩ := h
  refine (wDelete_any h1 h2 hL hn (waveE_high h1) (Nat.le_refl _) k s hk).mono ?_
  rintro e w' ⟨rfl, O', v', _, _, h3, h4, _, h5⟩
  exact ⟨rfl, ⟨D, O', v', h3, h4⟩, h5⟩
theorem wvGet_bad (h : Wv B X w p L) (k : Int) (hk : k < 0 ∨ (L.length : Int) ≤ k) :
    Calls Tryd.prog 45 #[.pointer (some ⟨p, 0, none⟩), .int .i64 k] w fun e w' => e = .returned (.tuple #[.int .i64 (-1), .int .i64 2]) ∧ Wv B X w' p L ∧ Chg (exT B X) w w' := by
  obtain ⟨D, O, v, h1, h2⟩ := h
  refine (wGet_bad h1 k hk).mono ?_
  rintro e w' ⟨rfl, h3, h4⟩
  exact ⟨rfl, ⟨D, O, 0, h3, h2⟩, h4⟩
theorem wvInsert_bad (h : Wv B X w p L) (k s : Int) (hk : symIs s = false ∨ k < 0 ∨ (L.length : Int) < k) :
    Calls Tryd.prog 48 #[.pointer (some ⟨p, 0, none⟩), .int .i64 k, .int .i64 s] w fun e w' => e = .returned (.int .i64 (if symIs s then 2 else 1)) ∧ Wv B X w' p L ∧ Chg (exT B X) w w' := by
  obtain ⟨D, O, v, h1, h2⟩ := h
  refine (wInsert_bad h1 k s hk).mono ?_
  rintro e w' ⟨rfl, h3, h4⟩
  exact ⟨rfl, ⟨D, O, 0, h3, h2⟩, h4⟩
theorem wvRank_bad (h : Wv B X w p L) (k s : Int) (hs : symIs s = false) :
    Calls Tryd.prog 46 #[.pointer (some ⟨p, 0, none⟩), .int .i64 k, .int .i64 s] w fun e w' => e = .returned (.int .i64 0) ∧ Wv B X w' p L ∧ Chg (exT B X) w w' := by
  obtain ⟨D, O, v, h1, h2⟩ := h
  refine (wRank_bad h1 k s hs).mono ?_
  rintro e w' ⟨rfl, h3, h4⟩
  exact ⟨rfl, ⟨D, O, 0, h3, h2⟩, h4⟩
theorem wvLen (h : Wv B X w p L) : Calls Tryd.prog 59 #[.pointer (some ⟨p, 0, none⟩)] w fun e w' => e = .returned (.int .i64 L.length) ∧ w = w' := by
  obtain ⟨D, O, v, h1, h2⟩ := h
  exact wLen_any h1
theorem wvAll (h : Wv B X w p L) (hL : Syms L) (hn : L.length ≤ 1000000000) :
    Calls Tryd.prog 51 #[.pointer (some ⟨p, 0, none⟩)] w fun e w' =>
      ∃ g, e = .returned (.slice (some ⟨g, 0, none⟩) L.length L.length) ∧ w.heap.size ≤ g ∧ RowC w' g (L.map wsV) 3 ∧ Wv B (fun i => X i ∨ i = g) w' p L ∧ Chg (exT B X) w w' := by
  obtain ⟨D, O, v, h1, h2⟩ := h
  refine (wAll_any h1 h2 hL hn (waveE_high h1) (Nat.le_refl _)).mono ?_
  rintro e w' ⟨g, rfl, h3, h4, h5, h6⟩
  exact ⟨g, rfl, h3, h4, ⟨D, O, v, h5, h2⟩, h6⟩
/-- What Level answers, of symbols. -/
def lvS (L : List Nat) (l k : Int) : List Bool := if 0 ≤ l ∧ l < 9 ∧ 0 ≤ k ∧ k < (pw l.toNat : Nat) then lvl L l.toNat k.toNat else []
theorem wvLevel (h : Wv B X w p L) (l k : Int) : Calls Tryd.prog 43 #[.pointer (some ⟨p, 0, none⟩), .int .i64 l, .int .i64 k] w (GivesB w.heap.size w (lvS L l k)) := by
  obtain ⟨D, O, v, h1, h2⟩ := h
  have := wLevel_any h1 l k
  have e : lvB O l k = lvS L l k := by
    unfold lvB lvS
    split
    · next hc => exact h2 _ _ (by omega) (by omega)
    · rfl
  rwa [e] at this
/-- How many shelves have bits, ahead of a level. -/
def nonL (L : List Nat) (l : Nat) : List (List Bool) := (List.range l).flatMap (fun l => ((List.range (pw l)).map (lvl L l)).filter (fun b => decide (0 < b.length)))
theorem shTo_nonL {O : Nat → Nat → Option ST} (h : LvlO O L) : (shTo O 9).map sbits = nonL L 9 := by
  have key : ∀ l, l ≤ 9 → (shTo O l).map sbits = nonL L l := by
    intro l hl
    induction l with
    | zero => rfl
    | succ l ih =>
      have e : nonL L (l + 1) = nonL L l ++ ((List.range (pw l)).map (lvl L l)).filter (fun b => decide (0 < b.length)) := by
        unfold nonL; rw [List.range_succ, List.flatMap_append]; simp
      rw [shTo_succ, List.map_append, ih (by omega), e]
      congr 1
      unfold shL
      have e2 : (List.range (pw l)).map (lvl L l) = ((List.range (pw l)).map (O l)).map sbits := by
        rw [List.map_map]
        apply List.map_congr_left
        intro k hk
        exact (h l k (by omega) (List.mem_range.1 hk)).symm
      rw [e2]
      exact (List.filter_map (f := sbits) (p := fun b : List Bool => decide (0 < b.length)) (l := (List.range (pw l)).map (O l))).symm
  exact key 9 (Nat.le_refl _)
theorem wvShapes (h : Wv B X w p L) : Calls Tryd.prog 41 #[.pointer (some ⟨p, 0, none⟩)] w fun e w' => ∃ v ys, e = .returned v ∧ ShRow w' w.heap.size v ys ∧ ys.map sbits = nonL L 9 ∧ Below w.heap.size w w' := by
  obtain ⟨D, O, v, h1, h2⟩ := h
  refine (wShapes_any h1).mono ?_
  rintro e w' ⟨v, rfl, h3, h4⟩
  exact ⟨v, _, rfl, h3, shTo_nonL h2, h4⟩
theorem wvNew {a : Option Addr} {c : Nat} (L : List Nat) (hr : ReadsV w a (L.map wsV)) (hL : Syms L) (hn : L.length ≤ 1000000) :
    Calls Tryd.prog 40 #[.slice a L.length c] w fun e w' => ∃ p, e = .returned (.tuple #[.pointer (some ⟨p, 0, none⟩), .int .i64 0]) ∧ Wv w.heap.size (fun _ => False) w' p L ∧ Below w.heap.size w w' := by
  refine (wNew_good L hr hL hn).mono ?_
  rintro e w' ⟨p, D, O, rfl, h1, h2, h3⟩
  exact ⟨p, rfl, ⟨D, O, 0, h1, h2⟩, h3⟩
/-- A lower bound for its blocks. -/
theorem Wv.base {B' : Nat} (h : Wv B X w p L) (hB : B' ≤ B) : Wv B' (fun j => X j ∨ (B' ≤ j ∧ j < B)) w p L := by
  obtain ⟨D, O, v, ⟨⟨S, hS, hE⟩, hle, hx⟩, h2⟩ := h
  refine ⟨D, O, v, ⟨⟨S, hS, fun j hj => ?_⟩, by omega, fun k hk => ?_⟩, h2⟩
  · have := hE j hj
    exact ⟨by have := this.1; omega, fun hk => hk.elim this.2 (fun e => by have := this.1; omega)⟩
  · rcases hk with hk | hk
    · exact hx k hk
    · omega
end

end Go.Proofs.YtcppgpjodfeigaaDoor

namespace Go.Proofs.YtcppgpjodfeigaaDoor
set_option linter.unusedVariables false
set_option linter.unusedSimpArgs false
open Go.RowKit

theorem Wv.tab {B : Nat} {X : Nat → Prop} {w w' : World} {p : Nat} {L : List Nat} (h : Wv B X w p L) (hT : BitTab w) (hc : Chg (exT B X) w w') (hN : 0 < B) : BitTab w' := hT.below (exT_below hc h.le) hN
theorem sy3 : Syms [3, 256, 3] := fun s hs => by simp at hs; omega
theorem sy4 : Syms (inL [3, 256, 3] 1 0) := fun s hs => by simp [inL] at hs; omega
theorem sy5 : Syms (outL (inL [3, 256, 3] 1 0) 2) := fun s hs => by simp [inL, outL] at hs; omega
theorem no10 : (nonL [3, 0, 3] 9).length = 10 := by kernel_rfl
theorem in_out3 : outL (inL [3, 256, 3] 1 0) 2 = [3, 0, 3] := rfl

set_option maxHeartbeats 6400000 in
set_option maxRecDepth 100000 in
theorem told7_any (w : World) (hT : BitTab w) : Calls Tryd.prog 44 #[] w fun e w' => e = .returned (.bool true) ∧ Below w.heap.size w w' := by
  have HTL := Lib.hid hT.lt
  have hb0 := below_al w (.cells #[.int .i64 3, .int .i64 256, .int .i64 3] 3)
  have HB0 := Lib.hid hb0
  have hr0 : ReadsV (w.alloc (.cells #[.int .i64 3, .int .i64 256, .int .i64 3] 3)) (some ⟨w.heap.size, 0, none⟩) ([3, 256, 3].map wsV) := readsV_block (heap_alloc_new w _)
  have HNEW := Lib.hid (wvNew (c := 3) [3, 256, 3] hr0 sy3 (by decide))
  have HT := Lib.hid hT
  clear hT hb0 hr0
  go_enter Tryd.func44, Tryd.ntmps44
  go_wp2_with fail
  refine HNEW.out.mono ?_
  rintro e w1 ⟨p, rfl, hV, hb⟩
  have HS1 : Hid (w.heap.size < w1.heap.size) := Lib.hid (by have := hb.size; simp at this; omega)
  have HB1 : Hid (Below w.heap.size w w1) := Lib.hid (HB0.out.trans (hb.mono (by simp)))
  have HV1 := Lib.hid (hV.base (B' := w.heap.size) (by simp))
  clear hV hb HB0 HNEW
  have hb2 := below_al w1 (.cells #[.int .i64 257] 3)
  have hr2 : ReadsV (w1.alloc (.cells #[.int .i64 257] 3)) (some ⟨w1.heap.size, 0, none⟩) [.int .i64 257] := readsV_block (heap_alloc_new w1 _)
  have HBAD := Lib.hid (wNew_bad (c := 1) hr2 (by decide))
  have HB2 := Lib.hid hb2
  clear hb2 hr2
  go_wp2_with fail
  refine HBAD.out.mono ?_
  rintro e w2 ⟨rfl, hb⟩
  have hb12 : Below w1.heap.size w1 w2 := HB2.out.trans (hb.mono (by simp))
  have HB3 : Hid (Below w.heap.size w w2) := Lib.hid (HB1.out.trans (hb12.mono HB1.out.size))
  have HV3 := Lib.hid (HV1.out.below hb12)
  clear hb hb12 HB2 HB1 HV1 HBAD
  obtain ⟨X, hX⟩ : ∃ X : Nat → Prop, (fun j => False ∨ (w.heap.size ≤ j ∧ j < (w.alloc (.cells #[.int .i64 3, .int .i64 256, .int .i64 3] 3)).heap.size)) = X := ⟨_, rfl⟩
  rw [hX] at HV3
  clear hX
  go_wp2_with fail
  refine (wvInsert HV3.out sy3 (by decide) 1 0 (by decide) (by decide)).mono ?_
  rintro e w4 ⟨rfl, hV, hc⟩
  have HB4 := Lib.hid (HB3.out.trans (exT_below hc HV3.out.le))
  have HV4 := Lib.hid hV
  clear hV hc HB3 HV3
  go_wp2_with fail
  refine (wvDelete HV4.out sy4 (by decide) 2 256 (by decide)).mono ?_
  rintro e w5 ⟨rfl, hV, hc⟩
  rw [in_out3] at hV
  have HB5 := Lib.hid (HB4.out.trans (exT_below hc HV4.out.le))
  have HV5 := Lib.hid hV
  clear hV hc HB4 HV4
  go_wp2_with fail
  refine (wvGet_bad HV5.out 9 (Or.inr (by decide))).mono ?_
  rintro e w6 ⟨rfl, hV, hc⟩
  have HB6 := Lib.hid (HB5.out.trans (exT_below hc HV5.out.le))
  have HV6 := Lib.hid hV
  clear hV hc HB5 HV5
  go_wp2_with fail
  refine (wvInsert_bad HV6.out 0 257 (Or.inl (by decide))).mono ?_
  rintro e w7 ⟨rfl, hV, hc⟩
  have HB7 := Lib.hid (HB6.out.trans (exT_below hc HV6.out.le))
  have HV7 := Lib.hid hV
  clear hV hc HB6 HV6
  rw [show symIs 257 = false by decide]
  go_wp2_with fail
  refine (wvLen HV7.out).mono ?_
  rintro e w' ⟨rfl, rfl⟩
  go_wp2_with fail
  refine (wvRank HV7.out sy5 (by decide) 3 3 (by decide)).mono ?_
  rintro e w8 ⟨rfl, hV, hc⟩
  have HB8 := Lib.hid (HB7.out.trans (exT_below hc HV7.out.le))
  have HV8 := Lib.hid hV
  clear hV hc HB7 HV7
  rw [show rankS [3, 0, 3] (3 : Int).toNat 3 = 2 by decide]
  go_wp2_with fail
  refine (wvRank_bad HV8.out 9 300 (by decide)).mono ?_
  rintro e w9 ⟨rfl, hV, hc⟩
  have HB9 := Lib.hid (HB8.out.trans (exT_below hc HV8.out.le))
  have HV9 := Lib.hid hV
  clear hV hc HB8 HV8
  go_wp2_with fail
  refine (wvSelect HV9.out (HT.out.below' HB9.out) HTL.out sy5 (by decide) 1 3 (by decide)).mono ?_
  rintro e w10 ⟨rfl, hV, hc⟩
  have HB10 := Lib.hid (HB9.out.trans (exT_below hc HV9.out.le))
  have HV10 := Lib.hid hV
  clear hV hc HB9 HV9
  rw [show selS [3, 0, 3] 1 3 = 2 by decide]
  go_wp2_with fail
  refine (wvSelect HV10.out (HT.out.below' HB10.out) HTL.out sy5 (by decide) 0 9 (by decide)).mono ?_
  rintro e w11 ⟨rfl, hV, hc⟩
  have HB11 := Lib.hid (HB10.out.trans (exT_below hc HV10.out.le))
  have HV11 := Lib.hid hV
  clear hV hc HB10 HV10
  rw [show selS [3, 0, 3] 0 9 = -1 by decide]
  go_wp2_with fail
  refine (wvLevel HV11.out 0 0).mono ?_
  rintro e w12 ⟨v, rfl, hown, hb⟩
  obtain ⟨ad, c, rfl, _, _⟩ := own_slice hown
  rw [show (lvS [3, 0, 3] 0 0).length = 3 by decide]
  have HB12 := Lib.hid (HB11.out.trans (hb.mono HB11.out.size))
  have HV12 := Lib.hid (HV11.out.below hb)
  clear hown hb HB11 HV11
  go_wp2_with fail
  refine (wvLevel HV12.out 9 0).mono ?_
  rintro e w13 ⟨v, rfl, hown, hb⟩
  obtain ⟨ad, c, rfl, _, _⟩ := own_slice hown
  rw [show (lvS [3, 0, 3] 9 0).length = 0 by decide]
  have HB13 := Lib.hid (HB12.out.trans (hb.mono HB12.out.size))
  have HV13 := Lib.hid (HV12.out.below hb)
  clear hown hb HB12 HV12
  go_wp2_with fail
  refine (wvShapes HV13.out).mono ?_
  rintro e w14 ⟨v, ys, rfl, hsr, hys, hb⟩
  have hl : ys.length = 10 := by
    have h1 := congrArg List.length hys
    rw [List.length_map] at h1
    rw [h1]
    exact no10
  unfold ShRow at hsr
  rw [hl] at hsr
  obtain ⟨ad, c, rfl, _, _⟩ := own_slice hsr
  have HB14 := Lib.hid (HB13.out.trans (hb.mono HB13.out.size))
  clear hsr hl hys hb HB13 HV13
  go_wp2_with fail
  refine (wNil_insert _ _ _).mono ?_
  rintro e w15 ⟨rfl, hb⟩
  have HB15 := Lib.hid (HB14.out.trans (hb.mono HB14.out.size))
  clear hb HB14
  go_wp2_with fail
  refine (wNil_rank _ _ _).mono ?_
  rintro e w' ⟨rfl, rfl⟩
  go_wp2_with fail
  refine (wNil_len _).mono ?_
  rintro e w' ⟨rfl, rfl⟩
  go_wp2_with fail
  go_ret
  exact ⟨rfl, HB15.out⟩

end Go.Proofs.YtcppgpjodfeigaaDoor

namespace Go.Proofs.YtcppgpjodfeigaaDoor
set_option linter.unusedVariables false
set_option linter.unusedSimpArgs false
open Go.RowKit

/-- A wave of the symbols L beside a row (from a) of the symbols M. -/
structure WR (B : Nat) (X : Nat → Prop) (w0 w : World) (p : Nat) (L : List Nat) (a : Option Addr) (M : List Nat) : Prop where
  v : Wv B X w p L
  r : ReadsV w a (M.map wsV)
  ra : ∀ ad, a = some ad → X ad.block
  tab : BitTab w
  tl : 0 < B
  chg : Chg (exT B X) w0 w
section
variable {B : Nat} {X : Nat → Prop} {w0 w w' : World} {p : Nat} {L L' : List Nat} {a : Option Addr} {M : List Nat}
theorem WR.step (h : WR B X w0 w p L a M) (hv : Wv B X w' p L') (hc : Chg (exT B X) w w') : WR B X w0 w' p L' a M :=
  ⟨hv, h.r.chg hc (fun ad ha hk => hk.2 (h.ra ad ha)), h.ra, h.tab.below (exT_below hc h.v.le) h.tl, h.tl, h.chg.trans hc (fun b hb => Or.inl hb)⟩
theorem WR.cell (h : WR B X w0 w p L a M) {k s : Nat} (hk : M[k]? = some s) : ∃ b off, a = some ⟨b, off, none⟩ ∧ w.cell? ⟨b, off + k, none⟩ = some (.int .i64 s) := by
  obtain ⟨b, off, ha, _, hc⟩ := sym_cell h.r hk
  exact ⟨b, off, ha, hc w (Below.refl _ _)⟩
theorem selS_rank {L : List Nat} {k s : Nat} (hk : L[k]? = some s) : selS L (rankS L k s : Nat) s = k := selS_hit hk rfl
end

end Go.Proofs.YtcppgpjodfeigaaDoor

namespace Go.Proofs.YtcppgpjodfeigaaDoor
open Go.RowKit

/-- The first j parts, one behind the other. -/
def cat (px : Nat → List Int) : Nat → List Int
  | 0 => []
  | j + 1 => cat px j ++ px j
theorem cat_le (px : Nat → List Int) {j m : Nat} (h : j ≤ m) : (cat px j).length ≤ (cat px m).length := by
  induction m with
  | zero => have : j = 0 := by omega
            subst this; exact Nat.le_refl _
  | succ m ih =>
    by_cases e : j = m + 1
    · subst e; exact Nat.le_refl _
    · have := ih (by omega)
      simp only [cat, List.length_append]; omega

/-- A byte's symbol, as a value. -/
def symV (x : Int) : Value := .int .i64 (x + 1)

theorem Tryd.infoInt : (Tryd.prog.info? 3).map (fun i => (i.zero, i.size, i.bytes)) = some (some (.int .i64 0), 1, 8) := by kernel_rfl

end Go.Proofs.YtcppgpjodfeigaaDoor

namespace Go.Proofs.YtcppgpjodfeigaaDoor
open Go.RowKit

end Go.Proofs.YtcppgpjodfeigaaDoor

namespace Go.Proofs.YtcppgpjodfeigaaDoor
open Go.RowKit

theorem take_snoc (s : ByteArray) (k : Nat) (h : k < s.size) : s.data.toList.take (k + 1) = s.data.toList.take k ++ [s[k]] := by
  rw [List.take_succ_eq_append_getElem (by simpa using h)]; rfl

/-- A string's byte as a symbol's value. -/
def symB (b : UInt8) : Value := .int .i64 ((b.toNat : Int) + 1)

/-- Are two lists of numbers one? -/
def sameI (xs ys : List Int) : Bool := decide (xs = ys)

theorem take_eq_step {xs ys : List Int} {k : Nat} (hx : k < xs.length) (hy : k < ys.length) (h : xs.take k = ys.take k) (he : xs[k]?.getD 0 = ys[k]?.getD 0) : xs.take (k + 1) = ys.take (k + 1) := by
  rw [List.take_add_one, List.take_add_one, h, List.getElem?_eq_getElem hx, List.getElem?_eq_getElem hy]
  rw [List.getElem?_eq_getElem hx, List.getElem?_eq_getElem hy] at he
  simp only [Option.getD_some] at he
  rw [he]

set_option maxHeartbeats 1600000 in
set_option maxRecDepth 100000 in
theorem refSameI_any (a b : Option Addr) (c d : Nat) (xs ys : List Int) (w : World) (hx : Reads w .i64 a xs) (hy : Reads w .i64 b ys) (hm : xs.length ≤ 9223372036854775806) :
    Calls Tryd.prog 50 #[.slice a xs.length c, .slice b ys.length d] w fun e w' => e = .returned (.bool (sameI xs ys)) ∧ ∃ n, w' = w.drewN n := by
  by_cases hl : xs.length = ys.length
  · have hlb : ((xs.length : Int) != (ys.length : Int)) = false := by simp [hl]
    have HL := Lib.hid hl
    rw [← hl] at hlb ⊢
    clear hl
    go_enter Tryd.func50, Tryd.ntmps50
    go_wp2
    go_loopw [5] (fun i wr => ∃ k : Nat, k ≤ xs.length ∧ i = .int .i64 k ∧ xs.take k = ys.take k ∧ ∃ n, wr = w.drewN n) (fun i _ => xs.length - (intOf i).toNat)
    case atStart => exact ⟨0, Nat.zero_le _, rfl, rfl, 0, rfl⟩
    case round =>
      obtain ⟨k, hk, rfl, ht, nd, rfl⟩ := hrel
      have HT := Lib.hid ht; clear ht
      by_cases hlt : k < xs.length
      · obtain ⟨b0, o0, rfl, _, hc0⟩ := hx.some (by omega)
        obtain ⟨b1, o1, rfl, _, hc1⟩ := hy.some (by have := HL.out; omega)
        have h0 := hc0 k hlt
        have h1 := hc1 k (by have := HL.out; omega)
        clear hc0 hc1 hx hy
        have HD : Hid ((xs[k]?.getD 0 = ys[k]?.getD 0 → xs.take (k + 1) = ys.take (k + 1)) ∧ (xs[k]?.getD 0 ≠ ys[k]?.getD 0 → sameI xs ys = false)) :=
          ⟨fun he => take_eq_step hlt (by have := HL.out; omega) HT.out he, fun hne => decide_eq_false fun he => hne (by rw [he])⟩
        generalize xs[k]?.getD 0 = x at *
        generalize ys[k]?.getD 0 = y at *
        have hi0 : (0 : Int) ≤ (k : Int) := by omega
        have hi1 : (k : Int) < (xs.length : Int) := by omega
        by_cases hxy : x = y
        · subst hxy
          go_wp2_with fail
          go_quiet (fail)
          go_wp2
          go_roundw
          case rel => exact ⟨k + 1, by omega, by simp, HD.out.1 (by trivial), _, rfl⟩
          case measure => simp [intOf]; omega
        · have hne : (x != y) = true := by simp [hxy]
          have HS : Hid (sameI xs ys = false) := HD.out.2 hxy
          clear hxy
          go_wp2_with fail
          go_quiet (fail)
          go_wp2
          go_ret
          exact ⟨ret_bool HS.out.symm, _, World.drewN_drewN _ _ _⟩
      · obtain rfl : k = xs.length := by omega
        have HS : Hid (sameI xs ys = true) := decide_eq_true (by
          have := HT.out
          rwa [List.take_length, HL.out, List.take_length] at this)
        go_wp2
        go_ret
        exact ⟨ret_bool HS.out.symm, _, rfl⟩
  · have hlb : ((xs.length : Int) != (ys.length : Int)) = true := by rw [bne_iff_ne]; omega
    have hsm : sameI xs ys = false := decide_eq_false fun h => hl (by rw [h])
    rw [hsm]
    clear hsm hl
    go_enter Tryd.func50, Tryd.ntmps50
    go_wp2
    go_ret
    exact ⟨rfl, 0, rfl⟩

theorem refSame_len (a b : Option Addr) (n m c d : Nat) (xs ys : List Int) (w : World) (hx : Reads w .i64 a xs) (hy : Reads w .i64 b ys) (hn : n = xs.length) (hm : m = ys.length) (hmx : xs.length ≤ 9223372036854775806) :
    Calls Tryd.prog 50 #[.slice a n c, .slice b m d] w fun e w' => e = .returned (.bool (sameI xs ys)) ∧ ∃ k, w' = w.drewN k := by
  subst hn; subst hm
  exact refSameI_any a b c d xs ys w hx hy hmx

/-- The symbols of bytes, and the end. -/
def symsOf (xs : List Int) : List Int := xs.map (· + 1) ++ [0]
theorem symsOf_len (xs : List Int) : (symsOf xs).length = xs.length + 1 := by simp [symsOf]
theorem symsOf_vals (xs : List Int) : (symsOf xs).map (Value.int .i64) = xs.map symV ++ [.int .i64 0] := by
  simp only [symsOf, List.map_append, List.map_map, List.map_cons, List.map_nil]; rfl

/-- An own row of symbols, as a slice that is read. -/
theorem own_syms {w : World} {base : Nat} {v : Value} {xs : List Int} (h : w.ownsRow base 3 1 v (xs.length + 1) (xs.map symV ++ [.int .i64 0])) :
    ∃ g cap, v = .slice (some ⟨g, 0, none⟩) (xs.length + 1) cap ∧ base ≤ g ∧ g < w.heap.size ∧ Reads w .i64 (some ⟨g, 0, none⟩) (symsOf xs) := by
  obtain ⟨g, cap, rfl, hg1, hg2, hc1, hc2, hcell, hfr⟩ := own_some h (by omega)
  exact ⟨g, cap, rfl, hg1, hg2, own_reads (by rw [symsOf_vals]; exact h)⟩

theorem refIs_any (s : Int) (w : World) : Calls Tryd.prog 53 #[.int .i64 s] w fun e w' => e = .returned (.bool (symIs s)) ∧ w = w' := by
  by_cases h0 : 0 ≤ s
  · have d0 : decide (0 ≤ s) = true := decide_eq_true h0
    by_cases h1 : s < 257
    · rw [symIs_true h0 h1]
      have d1 : decide (s < 257) = true := decide_eq_true h1
      go_enter Tryd.func53, Tryd.ntmps53
      go_wp2
      go_ret
      exact ⟨rfl, rfl⟩
    · rw [symIs_false (by omega)]
      have d1 : decide (s < 257) = false := decide_eq_false h1
      go_enter Tryd.func53, Tryd.ntmps53
      go_wp2
      go_ret
      exact ⟨rfl, rfl⟩
  · have d0 : decide (0 ≤ s) = false := decide_eq_false h0
    rw [symIs_false (by omega)]
    go_enter Tryd.func53, Tryd.ntmps53
    go_wp2
    go_ret
    exact ⟨rfl, rfl⟩

theorem refSBit_any (s l : Int) (w : World) : Calls Tryd.prog 84 #[.int .i64 s, .int .i64 l] w fun e w' => e = .returned (.bool (symBit s l)) ∧ w = w' := by
  by_cases hs : 0 ≤ s ∧ s < 257
  · have e : symIs s = true := symIs_true hs.1 hs.2
    obtain ⟨hs0, hs1⟩ := hs
    by_cases h2 : 0 ≤ l
    · have hd : decide (0 ≤ l) = true := decide_eq_true h2
      by_cases h3 : l < 9
      · have hd2 : decide (l < 9) = true := decide_eq_true h3
        have HB := Lib.hid (symBit_in hs0 hs1 h2 h3)
        go_enter Tryd.func84, Tryd.ntmps84
        go_wp2_with (go_at_call 53; refine (refIs_any _ _).mono ?_; rintro e w' ⟨rfl, rfl⟩)
        go_ret
        exact ⟨ret_bool HB.out, rfl⟩
      · have hd2 : decide (l < 9) = false := decide_eq_false h3
        have HB : Hid (false = symBit s l) := (decide_eq_false (by omega)).symm
        go_enter Tryd.func84, Tryd.ntmps84
        go_wp2_with (go_at_call 53; refine (refIs_any _ _).mono ?_; rintro e w' ⟨rfl, rfl⟩)
        go_ret
        exact ⟨ret_bool HB.out, rfl⟩
    · have hd : decide (0 ≤ l) = false := decide_eq_false h2
      have HB : Hid (false = symBit s l) := (decide_eq_false (by omega)).symm
      go_enter Tryd.func84, Tryd.ntmps84
      go_wp2_with (go_at_call 53; refine (refIs_any _ _).mono ?_; rintro e w' ⟨rfl, rfl⟩)
      go_ret
      exact ⟨ret_bool HB.out, rfl⟩
  · have e : symIs s = false := symIs_false hs
    have HB : Hid (false = symBit s l) := (decide_eq_false (fun h => hs ⟨h.1, h.2.1⟩)).symm
    go_enter Tryd.func84, Tryd.ntmps84
    go_wp2_with (go_at_call 53; refine (refIs_any _ _).mono ?_; rintro e w' ⟨rfl, rfl⟩)
    go_ret
    exact ⟨ret_bool HB.out, rfl⟩

theorem refPath_any (s l : Int) (w : World) : Calls Tryd.prog 83 #[.int .i64 s, .int .i64 l] w fun e w' => e = .returned (.int .i64 (symPath s l)) ∧ w = w' := by
  by_cases hs : 0 ≤ s ∧ s < 257
  · have e : symIs s = true := symIs_true hs.1 hs.2
    obtain ⟨hs0, hs1⟩ := hs
    by_cases h2 : 0 ≤ l
    · have hd : decide (l < 0) = false := by simp; omega
      by_cases h3 : l ≤ 9
      · have HP : Hid (s / 2 ^ (9 - l).toNat = symPath s l) := (if_pos ⟨hs0, hs1, h2, h3⟩ : symPath s l = _).symm
        have hd2 : decide (9 < l) = false := by simp; omega
        go_enter Tryd.func83, Tryd.ntmps83
        go_wp2_with (go_at_call 53; refine (refIs_any _ _).mono ?_; rintro e w' ⟨rfl, rfl⟩)
        go_ret
        exact ⟨ret_int HP.out, rfl⟩
      · have HP : Hid (-1 = symPath s l) := (if_neg (by omega) : symPath s l = _).symm
        have hd2 : decide (9 < l) = true := by simp; omega
        go_enter Tryd.func83, Tryd.ntmps83
        go_wp2_with (go_at_call 53; refine (refIs_any _ _).mono ?_; rintro e w' ⟨rfl, rfl⟩)
        go_ret
        exact ⟨ret_int HP.out, rfl⟩
    · have HP : Hid (-1 = symPath s l) := (if_neg (by omega) : symPath s l = _).symm
      have hd : decide (l < 0) = true := by simp; omega
      go_enter Tryd.func83, Tryd.ntmps83
      go_wp2_with (go_at_call 53; refine (refIs_any _ _).mono ?_; rintro e w' ⟨rfl, rfl⟩)
      go_ret
      exact ⟨ret_int HP.out, rfl⟩
  · have e : symIs s = false := symIs_false hs
    have HP : Hid (-1 = symPath s l) := (if_neg (fun h => hs ⟨h.1, h.2.1⟩) : symPath s l = _).symm
    go_enter Tryd.func83, Tryd.ntmps83
    go_wp2_with (go_at_call 53; refine (refIs_any _ _).mono ?_; rintro e w' ⟨rfl, rfl⟩)
    go_ret
    exact ⟨ret_int HP.out, rfl⟩

end Go.Proofs.YtcppgpjodfeigaaDoor
