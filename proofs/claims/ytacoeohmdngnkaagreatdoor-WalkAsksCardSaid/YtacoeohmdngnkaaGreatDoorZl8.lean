/- Lemmas and contracts under the claims of this seat: The contract of sorted.Back. scrimshawlaw6.told answers true and turns nothing that was there. Plain lemmas on symbols' bits and paths; small helpers for the laws on them. Lemmas for the walk of SymAsks. The laws' helpers of layer 9: Text, told; contracts for rows of the call's own. Walks of a text, as laws see them: New, Back, On, First, Narrow. Contracts of package walk: Text, Of; scrimshawlaw10.told. scrimshawlaw10.told: two walks side by side. The laws of scrimshawlaw10: how they begin; what is kept beside a walk. Contracts of the document's answer for lists of numbers: In, Out, Rank, Below, Good. More helpers for the laws of layer 9: rows as numbers, late rows, literals of the call's own. Contracts of the document's answer for sorted rows: less, Rows, Last, Back. Contracts of the document's answer: Last. Contracts of the document's answer: Back. The document's answer for walks: places of a pattern; rows back and on, first symbols, narrowing. -/
import Derived.Test.YtacoeohmdngnkaaGreatDoorZl7
import Derived.Test.YtacoeohmdngnkaaGreatDoorZl1
import Derived.Test.YtacoeohmdngnkaaGreatDoorZl6
import Derived.Lib.SlBytesConst
import Derived.OpenShut
import Derived.Test.YtacoeohmdngnkaaGreatDoorZl4
import Derived.Test.YtacoeohmdngnkaaGreatDoorZl2
import Derived.Outline

namespace Go.Proofs.YtacoeohmdngnkaaGreatDoor
set_option linter.unusedVariables false
set_option linter.unusedSimpArgs false
open Go.RowKit

/-- tally.New of numbers of which one is no symbol. -/
theorem tNew_fail {w : World} {a : Option Addr} {c k0 : Nat} {l : List Int} (hl : Reads w .i64 a l) (hk0 : k0 < l.length) (hs : ∀ i (hi : i < k0), 0 ≤ l[i]'(by omega) ∧ l[i]'(by omega) < 257) (hx : ¬ (0 ≤ l[k0] ∧ l[k0] < 257)) (hlen : l.length ≤ 2147483648) :
    Calls Tryz.prog 50 #[.slice a l.length c] w fun e w' => e = .returned (.tuple #[.pointer none, .int .i64 1]) ∧ Below w.heap.size w w' := by
  have hz := tzero
  have h0 : IsTally (w.alloc (.cells (tlV Tl.zero) 89)) w.heap.size Tl.zero := ⟨Tl.zero_ok, heap_alloc_new w _⟩
  generalize hV : tlV Tl.zero = V at *
  have H0 := Lib.hid h0
  clear h0 hV
  go_enter Tryz.func50, Tryz.ntmps50
  go_wp2_with fail
  go_loopw [12] (fun i wr => ∃ k : Nat, k ≤ k0 ∧ i = .int .i64 k ∧ IsTally wr w.heap.size (Tl.of (l.take k)) ∧ Below w.heap.size w wr) (fun i _ => l.length - (intOf i).toNat)
  case atStart => exact ⟨0, by omega, rfl, H0.out, (Below.refl _ _).alloc (Nat.le_refl _) _⟩
  case round =>
    obtain ⟨k, hk, rfl, hT, hb⟩ := hrel
    have hs1 := hb.size
    have hlt : k < l.length := by omega
    obtain ⟨b, off, rfl, hbl, hcells⟩ := hl.some (by omega)
    have hcx := (hb.cell (p := ⟨b, off + k, none⟩) hbl).trans (hcells k hlt)
    rw [List.getElem?_eq_getElem hlt, Option.getD_some] at hcx
    by_cases hlt0 : k < k0
    · have hx' := hs k hlt0
      have e : l.take (k + 1) = l.take k ++ [((l[k].toNat : Nat) : Int)] := by
        rw [List.take_succ_eq_append_getElem hlt, Int.toNat_of_nonneg hx'.1]
      have e2 : Tl.of (l.take (k + 1)) = (Tl.of (l.take k)).add l[k].toNat 1 := by rw [e, Tl.of_snoc]
      have h1 := hT.ok.pos l[k].toNat (by omega)
      have h2 : (1 : Int) ≤ 2147483648 - (Tl.of (l.take k)).all := by
        show (1 : Int) ≤ 2147483648 - ((l.take k).length : Int)
        rw [List.length_take]; omega
      have hadd := tAdd_good hT hx'.1 hx'.2 (n := 1) (by omega) h2
      rw [← e2] at hadd
      have HADD := Lib.hid hadd
      have HX := Lib.hid hx
      have HS := Lib.hid hs
      clear hx hs hx'
      generalize l[k] = x at *
      clear hcells e e2 h1 h2 hadd
      go_wp2_with fail
      refine HADD.out.mono ?_
      rintro e w2 ⟨rfl, hT2, hc2⟩
      have hb2 : Below w.heap.size w w2 := hb.trans (hc2.below (fun b hb => by subst hb; exact Nat.le_refl _) hs1)
      clear hT
      go_wp2_with fail
      go_roundw
      case rel => exact ⟨k + 1, by omega, by simp, hT2, hb2⟩
      case measure => simp [intOf]; omega
    · obtain rfl : k = k0 := by omega
      have HX := Lib.hid hx
      clear hx hs hcells
      generalize l[k] = x at *
      go_wp2_with fail
      refine (tAdd_bad HX.out).mono ?_
      rintro e w2 ⟨rfl, rfl⟩
      go_wp2_with fail
      go_ret2
      exact ⟨rfl, hb⟩

/-- What Back tells: the text whose transform it is; nothing, if there is none. -/
def BackPost (B : Nat) (w : World) (m : List Int) (e : Ending) (w' : World) : Prop := ∃ v ok, e = .returned (.tuple #[v, .bool ok]) ∧ Below B w w' ∧
  (ok = true → IsLast (textOf m) m ∧ w'.ownsRow B 5 1 v (textOf m).length ((textOf m).map (Value.int .u8))) ∧ (ok = false → v = .slice none 0 0 ∧ ∀ t, ¬ IsLast t m)
theorem back_no {B : Nat} {w w' : World} {m : List Int} (h : ∀ t, ¬ IsLast t m) (hb : Below B w w') : BackPost B w m (.returned (.tuple #[.slice none 0 0, .bool false])) w' :=
  ⟨_, _, rfl, hb, (fun h => by cases h), fun _ => ⟨rfl, h⟩⟩

theorem zero257 (w : World) : (zeroValue 81).run Tryz.prog w = .ok (.agg (vecL (fun _ => .int .i64 0) 257).toArray) w := by kernel_rfl

/-- What Back keeps: the tally, what was seen, where the rows lead, the first rows of the symbols. -/
structure BackSt (B : Nat) (w : World) (p qs qt Q n : Nat) (T : Tl) (fs ft ff : Nat → Int) : Prop where
  tally : IsTally w p T
  seen : w.heap[qs]? = some (.cells (vecL (fun i => .int .i64 (fs i)) n).toArray 3 (0, 0))
  lead : w.heap[qt]? = some (.cells (vecL (fun i => .int .i64 (ft i)) n).toArray 3 (0, 0))
  first : w.heap[Q]? = some (.cells (vecL (fun i => .int .i64 (ff i)) 257).toArray 81 (0, 0))
  ne : qs ≠ qt ∧ qs ≠ Q ∧ qt ≠ Q ∧ p ≠ qs ∧ p ≠ qt ∧ p ≠ Q
  lo : B ≤ p ∧ B ≤ qs ∧ B ≤ qt ∧ B ≤ Q
section
variable {B : Nat} {w w' : World} {p qs qt Q n : Nat} {T : Tl} {fs ft ff : Nat → Int}
theorem BackSt.chg (h : BackSt B w p qs qt Q n T fs ft ff) {S : Nat → Prop} (hc : Chg S w w') (h1 : ¬ S p) (h2 : ¬ S qs) (h3 : ¬ S qt) (h4 : ¬ S Q) : BackSt B w' p qs qt Q n T fs ft ff :=
  ⟨h.tally.chg hc h1, hc.heap h.seen h2, hc.heap h.lead h3, hc.heap h.first h4, h.ne, h.lo⟩
theorem BackSt.still (h : BackSt B w p qs qt Q n T fs ft ff) (hb : Below w.heap.size w w') : BackSt B w' p qs qt Q n T fs ft ff := h.chg (Chg.of_below (S := fun _ => False) hb) id id id id
theorem vec_ifG {f : Nat → Int} {j n : Nat} {x : Int} {k : IntKind} : vecL (fun i => if i = j then Value.int k x else Value.int k (f i)) n = vecL (fun i => Value.int k (if i = j then x else f i)) n :=
  vecL_congr (fun i _ => by split <;> rfl)
theorem BackSt.setSeen (h : BackSt B w p qs qt Q n T fs ft ff) (j : Nat) (x : Int) : BackSt B (w.setCell ⟨qs, j, none⟩ (.int .i64 x)) p qs qt Q n T (fun i => if i = j then x else fs i) ft ff := by
  have hc : Chg (fun b => b = qs) w (w.setCell ⟨qs, j, none⟩ (.int .i64 x)) := Chg.refl.setCell (S := fun b => b = qs) ⟨qs, j, none⟩ (Or.inl rfl) _
  obtain ⟨a1, a2, a3, a4, a5, a6⟩ := h.ne
  have ho := vec_set (s := j) h.seen (.int .i64 x)
  rw [vec_ifG] at ho
  exact ⟨h.tally.chg hc a4, ho, hc.heap h.lead (fun e => a1 e.symm), hc.heap h.first (fun e => a2 e.symm), h.ne, h.lo⟩
theorem BackSt.setTo (h : BackSt B w p qs qt Q n T fs ft ff) (j : Nat) (x : Int) : BackSt B (w.setCell ⟨qt, j, none⟩ (.int .i64 x)) p qs qt Q n T fs (fun i => if i = j then x else ft i) ff := by
  have hc : Chg (fun b => b = qt) w (w.setCell ⟨qt, j, none⟩ (.int .i64 x)) := Chg.refl.setCell (S := fun b => b = qt) ⟨qt, j, none⟩ (Or.inl rfl) _
  obtain ⟨a1, a2, a3, a4, a5, a6⟩ := h.ne
  have ho := vec_set (s := j) h.lead (.int .i64 x)
  rw [vec_ifG] at ho
  exact ⟨h.tally.chg hc a5, hc.heap h.seen a1, ho, hc.heap h.first (fun e => a3 e.symm), h.ne, h.lo⟩
theorem BackSt.setFirst (h : BackSt B w p qs qt Q n T fs ft ff) (j : Nat) (x : Int) : BackSt B (w.setCell ⟨Q, j, none⟩ (.int .i64 x)) p qs qt Q n T fs ft (fun i => if i = j then x else ff i) := by
  have hc : Chg (fun b => b = Q) w (w.setCell ⟨Q, j, none⟩ (.int .i64 x)) := Chg.refl.setCell (S := fun b => b = Q) ⟨Q, j, none⟩ (Or.inl rfl) _
  obtain ⟨a1, a2, a3, a4, a5, a6⟩ := h.ne
  have ho := vec_set (s := j) h.first (.int .i64 x)
  rw [vec_ifG] at ho
  exact ⟨h.tally.chg hc a6, hc.heap h.seen a2, hc.heap h.lead a3, ho, h.ne, h.lo⟩
theorem BackSt.congr (h : BackSt B w p qs qt Q n T fs ft ff) {fs' ft' ff' : Nat → Int} (e1 : ∀ i, i < n → fs i = fs' i) (e2 : ∀ i, i < n → ft i = ft' i) (e3 : ∀ i, i < 257 → ff i = ff' i) : BackSt B w p qs qt Q n T fs' ft' ff' :=
  ⟨h.tally, by rw [vecL_congr (g := fun i => .int .i64 (fs i)) (fun i hi => by rw [e1 i hi])]; exact h.seen, by rw [vecL_congr (g := fun i => .int .i64 (ft i)) (fun i hi => by rw [e2 i hi])]; exact h.lead, by rw [vecL_congr (g := fun i => .int .i64 (ff i)) (fun i hi => by rw [e3 i hi])]; exact h.first, h.ne, h.lo⟩
theorem BackSt.cells (h : BackSt B w p qs qt Q n T fs ft ff) : (∀ j, j < n → w.cell? ⟨qs, j, none⟩ = some (.int .i64 (fs j))) ∧ (∀ j, j < n → w.cell? ⟨qt, j, none⟩ = some (.int .i64 (ft j))) ∧ (∀ j, j < 257 → w.cell? ⟨Q, j, none⟩ = some (.int .i64 (ff j))) ∧
    (∀ j, w.frozen? ⟨qs, j, none⟩ = false) ∧ (∀ j, w.frozen? ⟨qt, j, none⟩ = false) ∧ (∀ j, w.frozen? ⟨Q, j, none⟩ = false) :=
  ⟨fun j hj => vec_cell h.seen hj, fun j hj => vec_cell h.lead hj, fun j hj => vec_cell h.first hj, fun j => frozen_of_row w qs j _ _ h.seen, fun j => frozen_of_row w qt j _ _ h.lead, fun j => frozen_of_row w Q j _ _ h.first⟩
end
theorem Tryz.infoU8 : (Tryz.prog.info? 5).map (fun i => (i.zero, i.size, i.bytes)) = some (some (.int .u8 0), 1, 1) := by kernel_rfl
theorem make_bytes (n : Nat) (h : n ≤ 1000000000) (w : World) : (Instr.makeSlice 24 (.int .i64 (n : Int)) (.int .i64 (n : Int))).run Tryz.prog w = .ok (.slice (some ⟨w.heap.size, 0, none⟩) n n) (w.alloc (.cells (vecL (fun _ => .int .u8 0) n).toArray 5)) :=
  run_makeG Tryz.infoU8 Tryz.underlying24 rfl n (by omega) (by unfold maxLen; omega) w

set_option maxHeartbeats 4000000 in
set_option maxRecDepth 100000 in
theorem back_any (a : Option Addr) (c : Nat) (m : List Int) (w : World) (hr : Reads w .i64 a m) (hl : m.length ≤ 1000000) :
    Calls Tryz.prog 36 #[.slice a m.length c] w (BackPost w.heap.size w m) := by
  by_cases hsy : ∀ x ∈ m, 0 ≤ x ∧ x < 257
  · have HSY := Lib.hid hsy
    have hnew := tNew_good (c := c) hr hsy (by omega)
    have HNEW := Lib.hid hnew
    clear hnew hsy
    go_enter Tryz.func36, Tryz.ntmps36
    go_wp2_with fail
    refine HNEW.out.mono ?_
    rintro e w1 ⟨rfl, hT, hb1⟩
    have HT := Lib.hid hT
    have HB1 := Lib.hid hb1
    have hs1 := hb1.size
    have hzl := hT.lt
    have hof : tOf (Tl.of m) 0 = (cnt m 0 : Int) := rfl
    have hofc := tOf_any hT 0
    rw [hof] at hofc
    have HOF := Lib.hid hofc
    obtain ⟨p, hp⟩ : ∃ p, w.heap.size = p := ⟨_, rfl⟩
    rw [hp] at HT HOF hzl ⊢
    have HP := Lib.hid hp
    clear hT hb1 hof hofc HNEW hp
    by_cases h1 : cnt m 0 = 1
    · have HH1 := Lib.hid h1
      rw [h1] at HOF
      have hn0 : 0 < m.length := by
        rcases Nat.eq_zero_or_pos m.length with e | e
        · have e2 : m = [] := List.eq_nil_of_length_eq_zero e
          rw [e2] at h1; cases h1
        · exact e
      clear h1
      go_upto_region 4 with (go_at_call 57; refine HOF.out.mono ?_; rintro e w' ⟨rfl, rfl⟩)
      have hmk := make_ints m.length (by omega)
      obtain ⟨b, off, rfl, hbl, hcs⟩ := hr.some hn0
      have HRD : Hid (∀ W, Below w.heap.size w W → ∀ j, j < m.length → W.cell? ⟨b, off + j, none⟩ = some (.int .i64 (sy m j))) := by
        intro W hW j hj
        rw [(hW.cell (p := ⟨b, off + j, none⟩) hbl).trans (hcs j hj), sy_in hj]
        simp [hj]
      have HB0 : Hid (Below w1.heap.size w1 w1.drew) := (Below.refl _ _).drew
      clear hcs hr HOF
      go_cut [6, 7] (fun r6 r7 wx => ∃ qs qt, r6 = .slice (some ⟨qs, 0, none⟩) m.length m.length ∧ r7 = .slice (some ⟨qt, 0, none⟩) m.length m.length ∧ wx.heap[qs]? = some (.cells (vecL (fun _ => .int .i64 0) m.length).toArray 3 (0, 0)) ∧
        wx.heap[qt]? = some (.cells (vecL (fun _ => .int .i64 0) m.length).toArray 3 (0, 0)) ∧ qs ≠ qt ∧ w1.heap.size ≤ qs ∧ w1.heap.size ≤ qt ∧ Below w1.heap.size w1 wx)
      case first => as_aux_lemma =>
    -- REGION 4
        refine reg_start (fun _ => True) (by kernel_rfl) trivial (fun hHeld => ?_)
        generalize w1.drew = x0 at *
        refine reg_take (i := 0) (v := ?mv1) rfl (by kernel_rfl) rfl hHeld ?my1 ?mr1
        case my1 => (intro w hSw; (try dsimp only at hSw); go_simp; all_goals with_reducible rfl)
        try simp only [Act.put, List.setIfInBounds_toArray, List.set_cons_zero, List.set_cons_succ]
        refine reg_take (i := 1) (v := ?mv2) rfl (by kernel_rfl) rfl hHeld ?my2 ?mr2
        case my2 => (intro w hSw; (try dsimp only at hSw); go_simp; all_goals with_reducible rfl)
        try simp only [Act.put, List.setIfInBounds_toArray, List.set_cons_zero, List.set_cons_succ]
        refine reg_take (i := 3) (v := ?mv3) rfl (by kernel_rfl) rfl hHeld ?my3 ?mr3
        case my3 => (intro w hSw; (try dsimp only at hSw); go_simp; all_goals with_reducible rfl)
        try simp only [Act.put, List.setIfInBounds_toArray, List.set_cons_zero, List.set_cons_succ]
        refine reg_take (i := 4) (v := ?mv4) rfl (by kernel_rfl) rfl hHeld ?my4 ?mr4
        case my4 => (intro w hSw; (try dsimp only at hSw); go_simp; all_goals with_reducible rfl)
        try simp only [Act.put, List.setIfInBounds_toArray, List.set_cons_zero, List.set_cons_succ]
        refine wpAnyH_ready (rs := [2, 5]) (by kernel_rfl) (by simp) (all_cons rfl rfl (fun K hK => ?_) (all_cons rfl rfl (fun K hK => ?_) (AllReadyH.nil)))
        · go_simp
          obtain ⟨x1, qs, hx, hq, HB1, HO2, HC1, z1a, z1b, z1c⟩ := mk_step HB0.out (.cells (vecL (fun _ => .int .i64 0) m.length).toArray 3)
          rw [hx, hq]
          clear hx hq
          refine hK.out _ _ trivial (fun hHeld => ?_)
          clear hK K
          try simp only [Act.put, List.setIfInBounds_toArray, List.set_cons_zero, List.set_cons_succ]
          refine reg_take (i := 6) (v := ?mv5) rfl (by kernel_rfl) rfl hHeld ?my5 ?mr5
          case my5 => (intro w hSw; (try dsimp only at hSw); go_simp; all_goals with_reducible rfl)
          try simp only [Act.put, List.setIfInBounds_toArray, List.set_cons_zero, List.set_cons_succ]
          refine wpAnyH_ready (rs := [5]) (by kernel_rfl) (by simp) (all_cons rfl rfl (fun K hK => ?_) (AllReadyH.nil))
          · go_simp
            obtain ⟨x2, qt, hx, hq, HB2, HO5, HC2, z2a, z2b, z2c⟩ := mk_step HB1.out (.cells (vecL (fun _ => .int .i64 0) m.length).toArray 3)
            rw [hx, hq]
            clear hx hq
            refine hK.out _ _ trivial (fun hHeld => ?_)
            clear hK K
            try simp only [Act.put, List.setIfInBounds_toArray, List.set_cons_zero, List.set_cons_succ]
            refine reg_take (i := 7) (v := ?mv6) rfl (by kernel_rfl) rfl hHeld ?my6 ?mr6
            case my6 => (intro w hSw; (try dsimp only at hSw); go_simp; all_goals with_reducible rfl)
            try simp only [Act.put, List.setIfInBounds_toArray, List.set_cons_zero, List.set_cons_succ]
            refine reg_done (by kernel_rfl) ?_ _
            go_wp2_with fail
            go_meet
            case rel => exact ⟨qs, qt, rfl, rfl, (HC2.out (fun _ => False)).heap HO2.out (fun h => h), (Chg.refl (S := (fun _ => False))).heap HO5.out (fun h => h), by omega, by omega, by omega, HB2.out⟩
        · go_simp
          obtain ⟨x1, qt, hx, hq, HB1, HO5, HC1, z1a, z1b, z1c⟩ := mk_step HB0.out (.cells (vecL (fun _ => .int .i64 0) m.length).toArray 3)
          rw [hx, hq]
          clear hx hq
          refine hK.out _ _ trivial (fun hHeld => ?_)
          clear hK K
          try simp only [Act.put, List.setIfInBounds_toArray, List.set_cons_zero, List.set_cons_succ]
          refine wpAnyH_ready (rs := [2]) (by kernel_rfl) (by simp) (all_cons rfl rfl (fun K hK => ?_) (AllReadyH.nil))
          · go_simp
            obtain ⟨x2, qs, hx, hq, HB2, HO2, HC2, z2a, z2b, z2c⟩ := mk_step HB1.out (.cells (vecL (fun _ => .int .i64 0) m.length).toArray 3)
            rw [hx, hq]
            clear hx hq
            refine hK.out _ _ trivial (fun hHeld => ?_)
            clear hK K
            try simp only [Act.put, List.setIfInBounds_toArray, List.set_cons_zero, List.set_cons_succ]
            refine reg_take (i := 6) (v := ?mv7) rfl (by kernel_rfl) rfl hHeld ?my7 ?mr7
            case my7 => (intro w hSw; (try dsimp only at hSw); go_simp; all_goals with_reducible rfl)
            try simp only [Act.put, List.setIfInBounds_toArray, List.set_cons_zero, List.set_cons_succ]
            refine reg_take (i := 7) (v := ?mv8) rfl (by kernel_rfl) rfl hHeld ?my8 ?mr8
            case my8 => (intro w hSw; (try dsimp only at hSw); go_simp; all_goals with_reducible rfl)
            try simp only [Act.put, List.setIfInBounds_toArray, List.set_cons_zero, List.set_cons_succ]
            refine reg_done (by kernel_rfl) ?_ _
            go_wp2_with fail
            go_meet
            case rel => exact ⟨qs, qt, rfl, rfl, (Chg.refl (S := (fun _ => False))).heap HO2.out (fun h => h), (HC2.out (fun _ => False)).heap HO5.out (fun h => h), by omega, by omega, by omega, HB2.out⟩
    -- END OF REGION 4
      case rest => as_aux_lemma =>
        obtain ⟨qs, qt, rfl, rfl, hqs, hqt, hne, hl1, hl2, hbc⟩ := hcut
        have hz := zero257
        have hst : BackSt w.heap.size (wc.alloc (.cells (vecL (fun _ => .int .i64 0) 257).toArray 81)) p qs qt wc.heap.size m.length (Tl.of m) (fun _ => 0) (fun _ => 0) (fun _ => 0) := by
          have hba := below_al wc (.cells (vecL (fun _ => .int .i64 0) 257).toArray 81)
          have z1 := (Array.getElem?_eq_some_iff.1 hqs).1
          have z2 := (Array.getElem?_eq_some_iff.1 hqt).1
          have z3 := hbc.size
          have z4 := HP.out
          exact ⟨(HT.out.chg (Chg.of_below (S := fun _ => False) hbc) id).chg (Chg.of_below (S := fun _ => False) hba) id, below_heap hba hqs, below_heap hba hqt, heap_alloc_new wc _, ⟨hne, by omega, by omega, by omega, by omega, by omega⟩, ⟨by omega, by omega, by omega, by omega⟩⟩
        have hbw : Below w.heap.size w (wc.alloc (.cells (vecL (fun _ => .int .i64 0) 257).toArray 81)) := (HB1.out.trans (hbc.mono hs1)).alloc (by have := hbc.size; omega) _
        have HSTA := Lib.hid hst
        have HBWA := Lib.hid hbw
        generalize hV : vecL (fun _ => Value.int .i64 0) 257 = V at *
        clear hqs hqt hne hl1 hl2 hst hbw hV hmk HT
        go_wp2_with fail
        generalize wc.alloc (.cells V.toArray 81) = wa at *
        generalize wc.heap.size = Q at *
        go_loopw [35, 9] (fun v35 _ wr => ∃ k : Nat, k ≤ 257 ∧ v35 = .int .i64 k ∧ BackSt w.heap.size wr p qs qt Q m.length (Tl.of m) (fun _ => 0) (fun _ => 0) (fun s => if s < k then (belowL m (s : Int) : Int) else 0) ∧ Below w.heap.size w wr) (fun v35 _ _ => 257 - (intOf v35).toNat)
        case atStart => exact ⟨0, by omega, rfl, HSTA.out.congr (fun _ _ => rfl) (fun _ _ => rfl) (fun i _ => by simp), HBWA.out⟩
        case round =>
          clear hbc hz
          obtain ⟨k, hk, rfl, hst, hbw⟩ := hrel
          have hs := hbw.size
          by_cases hlt : k < 257
          · have hbel := tBelow_any hst.tally (k : Int)
            have hnn : ∀ x ∈ m, 0 ≤ x := fun x hx => (HSY.out x hx).1
            have e : tBelow (Tl.of m) (k : Int) = (belowL m (k : Int) : Int) := by
              rw [← belowL_bl hnn k]
              unfold tBelow clamp
              congr 1; omega
            rw [e] at hbel
            have HBEL := Lib.hid hbel
            obtain ⟨_, _, d3, _, _, d6⟩ := hst.cells
            have e1 := d3 k hlt
            have e2 := d6 k
            simp only [Nat.lt_irrefl, if_false] at e1
            have HST := Lib.hid (hst.setFirst k (belowL m (k : Int) : Int))
            have hlo := hst.lo.2.2.2
            clear hbel e hnn d3 d6 hst
            generalize hy : (belowL m (k : Int) : Int) = y at *
            have HY := Lib.hid hy
            clear hy
            go_wp2_with (go_at_call 53; refine HBEL.out.mono ?_; rintro e w' ⟨rfl, rfl⟩)
            go_roundw
            case rel =>
              refine ⟨k + 1, by omega, by go_num, HST.out.congr (fun _ _ => rfl) (fun _ _ => rfl) (fun i _ => ?_), below_setQ hbw hs hlo _⟩
              by_cases e : i = k
              · subst e; rw [if_pos rfl, if_pos (by omega)]; exact HY.out.symm
              · rw [if_neg e]
                by_cases e2 : i < k
                · rw [if_pos e2, if_pos (by omega)]
                · rw [if_neg e2, if_neg (by omega)]
            case measure => simp [intOf]; omega
          · obtain rfl : k = 257 := by omega
            rw [show ((257 : Nat) : Int) = 257 from rfl]
            have HST := Lib.hid (hst.congr (fs' := fun _ => 0) (ft' := fun i => if i < 0 then (lfL m i : Int) else 0) (ff' := fun s => ((belowL m (s : Int) + cnt (m.take 0) (s : Int) : Nat) : Int)) (fun _ _ => rfl) (fun i _ => by simp) (fun i hi => by rw [if_pos hi]; simp [cnt]))
            have HBW := Lib.hid hbw
            clear hst hbw hs hk hlt
            go_wp2_with fail
            go_loopw [46] (fun v46 wr => ∃ k : Nat, k ≤ m.length ∧ v46 = .int .i64 k ∧ BackSt w.heap.size wr p qs qt Q m.length (Tl.of m) (fun _ => 0) (fun i => if i < k then (lfL m i : Int) else 0) (fun s => ((belowL m (s : Int) + cnt (m.take k) (s : Int) : Nat) : Int)) ∧ Below w.heap.size w wr) (fun v46 _ => m.length - (intOf v46).toNat)
            case atStart => exact ⟨0, by omega, rfl, HST.out, HBW.out⟩
            case round =>
              clear HST HBW
              obtain ⟨k, hk, rfl, hst, hbw⟩ := hrel
              have hs := hbw.size
              by_cases hlt : k < m.length
              · have hx := HSY.out m[k] (List.getElem_mem _)
                obtain ⟨x, hxe⟩ := Int.eq_ofNat_of_zero_le hx.1
                have hsk : sy m k = (x : Int) := by rw [sy_in hlt, hxe]
                have e1 := HRD.out wr hbw k hlt
                rw [hsk] at e1
                have hx257 : x < 257 := by omega
                have hlf : lfL m k = belowL m (x : Int) + cnt (m.take k) (x : Int) := by unfold lfL; rw [hsk]
                have hlfl := lfL_lt hlt
                have htk : ∀ s : Nat, cnt (m.take (k + 1)) (s : Int) = cnt (m.take k) (s : Int) + (if s = x then 1 else 0) := by
                  intro s
                  rw [List.take_succ_eq_append_getElem hlt, cnt_snoc, hxe]
                  by_cases e : s = x
                  · subst e; simp
                  · rw [if_neg e, if_neg (by omega)]
                obtain ⟨_, d2, d3, _, d5, d6⟩ := hst.cells
                have e2 := d2 k hlt
                have e3 := d3 x hx257
                have e4 := d5 k
                have e5 := d6 x
                simp only [Nat.lt_irrefl, if_false] at e2
                rw [← hlf] at e3
                have hlo := hst.lo
                have hqq := hst.ne.2.2.1
                have hst2 := (hst.setTo k (lfL m k : Int)).setFirst x ((lfL m k : Int) + 1)
                have HST2 := Lib.hid hst2
                have HTK := Lib.hid htk
                have HLF := Lib.hid hlf
                clear hx hxe hsk hlf htk d2 d3 d5 d6 hst hst2
                generalize hy : lfL m k = y at *
                have HY := Lib.hid hy
                clear hy
                go_wp2_with fail
                go_roundw
                case rel =>
                  refine ⟨k + 1, by omega, by go_num, HST2.out.congr (fun _ _ => rfl) (fun i _ => ?_) (fun i _ => ?_), ?_⟩
                  · by_cases e : i = k
                    · subst e; rw [if_pos rfl, if_pos (by omega), HY.out]
                    · rw [if_neg e]
                      by_cases e2 : i < k
                      · rw [if_pos e2, if_pos (by omega)]
                      · rw [if_neg e2, if_neg (by omega)]
                  · have h1 := HTK.out i
                    by_cases e : i = x
                    · subst e
                      rw [if_pos rfl] at h1 ⊢
                      have := HLF.out
                      omega
                    · rw [if_neg e] at h1 ⊢
                      rw [h1]; rfl
                  · exact below_setQ (below_setQ hbw hs hlo.2.2.1 _) (by simp [World.setCell]; exact hs) hlo.2.2.2 _
                case measure => simp [intOf]; omega
              · obtain rfl : k = m.length := by omega
                have HST := Lib.hid (hst.congr (fs' := fun i => (seenC m 0 i : Int)) (ft' := fun i => (lfL m i : Int)) (ff' := fun s => ((belowL m (s : Int) + cnt (m.take m.length) (s : Int) : Nat) : Int)) (fun i _ => by simp [seenC]) (fun i hi => by rw [if_pos hi]) (fun _ _ => rfl))
                have HBW := Lib.hid hbw
                obtain ⟨n, hn⟩ : ∃ n, m.length = n + 1 := ⟨m.length - 1, by omega⟩
                have hmb := make_bytes n (by omega)
                have hn2 : (n : Int) ≤ 1000000 := by omega
                have HN := Lib.hid hn
                clear hst hbw hs hk hlt
                have ecast : ((m.length : Nat) : Int) = (n : Int) + 1 := by have := HN.out; omega
                have HEC := Lib.hid ecast
                rw [show (n : Int) = (m.length : Int) - 1 by omega] at hmb
                clear ecast hn
                go_wp2_with fail
                clear hmb
                have HST2 := Lib.hid (HST.out.still (below_al wr (.cells (vecL (fun _ => .int .u8 0) n).toArray 5)))
                have hq := heap_alloc_new wr (.cells (vecL (fun _ => .int .u8 0) n).toArray 5)
                have HBW2 := Lib.hid (HBW.out.alloc HBW.out.size (.cells (vecL (fun _ => .int .u8 0) n).toArray 5))
                have hqx : qs < wr.heap.size ∧ qt < wr.heap.size ∧ Q < wr.heap.size ∧ p < wr.heap.size ∧ w.heap.size ≤ wr.heap.size :=
                  ⟨(Array.getElem?_eq_some_iff.1 HST.out.seen).1, (Array.getElem?_eq_some_iff.1 HST.out.lead).1, (Array.getElem?_eq_some_iff.1 HST.out.first).1, HST.out.tally.lt, HBW.out.size⟩
                generalize wr.alloc (.cells (vecL (fun _ => .int .u8 0) n).toArray 5) = wb at *
                generalize wr.heap.size = qx at *
                have HQ := Lib.hid hq
                have HQX := Lib.hid hqx
                clear hq hqx HST HBW
                go_loopw [13, 14] (fun v13 v14 wr => ∃ r : Nat, r ≤ n ∧ v14 = .int .i64 ((r : Int) - 1) ∧ v13 = .int .i64 (chain m (n - r) : Int) ∧ BackSt w.heap.size wr p qs qt Q m.length (Tl.of m) (fun i => (seenC m (n - r) i : Int)) (fun i => (lfL m i : Int)) (fun s => ((belowL m (s : Int) + cnt (m.take m.length) (s : Int) : Nat) : Int)) ∧
                  wr.heap[qx]? = some (.cells (vecL (fun i => .int .u8 (if r ≤ i then (textOf m)[i]?.getD 0 else 0)) n).toArray 5 (0, 0)) ∧ (∀ j, j < n - r → 1 ≤ sy m (chain m j)) ∧ Below w.heap.size w wr) (fun _ v14 _ => (intOf v14 + 1).toNat)
                case atStart =>
                  refine ⟨n, Nat.le_refl _, ?_, ?_, ?_, ?_, ?_, HBW2.out⟩
                  · rfl
                  · rw [Nat.sub_self]; rfl
                  · rw [Nat.sub_self]; exact HST2.out
                  · rw [HQ.out, vecL_congr (fun i hi => ?_)]
                    rw [if_neg (by omega)]
                  · intro j hj; omega
                case round =>
                  clear HST2 HQ HBW2
                  obtain ⟨r, hrn, rfl, rfl, hst, hqr, hbs, hbw⟩ := hrel
                  have hs := hbw.size
                  have hcl := chain_lt hn0 (n - r)
                  have e1 := HRD.out wr hbw (chain m (n - r)) hcl
                  have hxm := HSY.out (sy m (chain m (n - r))) (by rw [sy_in hcl]; exact List.getElem_mem _)
                  have HST := Lib.hid hst
                  have HBS := Lib.hid hbs
                  have HQR := Lib.hid hqr
                  have hn := HN.out
                  rcases Nat.eq_zero_or_pos r with rfl | hr0
                  · rw [Nat.sub_zero] at *
                    have hsl : sy m (chain m n) = 0 ∨ ∀ t, ¬ IsLast t m := by
                      by_cases e : sy m (chain m n) = 0
                      · exact Or.inl e
                      · refine Or.inr (fun t h => e ?_)
                        have h1 := h.len
                        have h2 := h.stop
                        rwa [show t.length = n by omega] at h2
                    have htl : (textOf m).length = n := by rw [textOf_len]; omega
                    have hown : wr.ownsRow w.heap.size 5 1 (.slice (some ⟨qx, 0, none⟩) n n) n ((textOf m).map (Value.int .u8)) := by
                      have e : (textOf m).map (Value.int .u8) = vecL (fun i => .int .u8 (if 0 ≤ i then (textOf m)[i]?.getD 0 else 0)) n := by
                        apply List.ext_getElem?
                        intro z
                        by_cases hz : z < n
                        · rw [vecL_get hz, List.getElem?_map, List.getElem?_eq_getElem (by omega)]; simp
                        · rw [List.getElem?_eq_none (by simp; omega), List.getElem?_eq_none (by rw [vecL_len]; omega)]
                      rw [e]
                      exact own_vecG hqr (by have := HQX.out; omega) (by unfold maxLen; omega)
                    have hbyt : Bytes (textOf m) := by
                      intro z hz
                      have hz2 : z < m.length - 1 := by omega
                      rw [textOf_get hz2, Option.getD_some]
                      have h1 := hbs (m.length - 2 - z) (by omega)
                      have h2 := chain_lt hn0 (m.length - 2 - z)
                      have h3 := HSY.out (sy m (chain m (m.length - 2 - z))) (by rw [sy_in h2]; exact List.getElem_mem _)
                      omega
                    have hrd : Reads wr .u8 (some ⟨qx, 0, none⟩) (textOf m) := by
                      have h1 := own_reads hown
                      exact h1
                    have HSL := Lib.hid hsl
                    have HTL := Lib.hid htl
                    have HOWN := Lib.hid hown
                    have HBYT := Lib.hid hbyt
                    have HRT := Lib.hid hrd
                    clear hn hsl htl hown hbyt hrd hqr hbs hst hxm
                    generalize hce : chain m n = ρ at *
                    have HCE := Lib.hid hce
                    clear hce
                    generalize hx : sy m ρ = x at *
                    have HX := Lib.hid hx
                    clear hx
                    by_cases hx0 : x = 0
                    · subst hx0
                      have hla := last_any (some ⟨qx, 0, none⟩) n (textOf m) wr HRT.out HBYT.out (by have := HTL.out; omega)
                      rw [HTL.out] at hla
                      have HLA := Lib.hid hla
                      clear hla
                      go_wp2_with fail
                      refine HLA.out.mono ?_
                      rintro e w5 ⟨m', hm', v, rfl, hown5, hb5⟩
                      obtain ⟨a5, c5, rfl, _, _⟩ := own_slice hown5
                      have hr5 := own_reads hown5
                      have hrm : Reads w5 .i64 (some ⟨b, off, none⟩) m := by
                        intro z hz
                        refine ⟨b, off, rfl, by have := hb5.size; omega, fun j hj => ?_⟩
                        rw [HRD.out w5 (hbw.trans (hb5.mono hs)) j hj, sy_in hj, List.getElem?_eq_getElem hj]; rfl
                      have hl5 : m'.length = m.length := by rw [hm'.len, HTL.out, HN.out]
                      have hsame := same_ints a5 (some ⟨b, off, none⟩) m'.length m.length c5 c m' m w5 hr5 hrm rfl rfl (by omega) (by omega)
                      have HSAME := Lib.hid hsame
                      have HM' := Lib.hid hm'
                      have HB5 := Lib.hid (hbw.trans (hb5.mono hs))
                      have HO5 := Lib.hid (own_below HOWN.out hb5 (fun k hk => (own_lt HOWN.out hk).2))
                      clear hown5 hr5 hrm hl5 hsame hm' hb5
                      go_wp2_with fail
                      refine HSAME.out.mono ?_
                      rintro e w6 ⟨rfl, nd, rfl⟩
                      by_cases hmm : m' = m
                      · have dd : decide (m' = m) = true := decide_eq_true hmm
                        rw [dd]
                        have HMM := Lib.hid hmm
                        clear hmm dd
                        go_wp2_with fail
                        go_ret2
                        refine ⟨_, _, rfl, below_dN HB5.out nd, fun _ => ⟨?_, ?_⟩, fun h => by cases h⟩
                        · have := HM'.out
                          rwa [HMM.out] at this
                        · rw [HTL.out]; exact HO5.out
                      · have dd : decide (m' = m) = false := decide_eq_false hmm
                        rw [dd]
                        have HNO : Hid (∀ t, ¬ IsLast t m) := fun t h => hmm (by
                          have e := h.text
                          subst e
                          exact HM'.out.same h)
                        clear hmm dd
                        go_wp2_with fail
                        go_ret2
                        exact back_no HNO.out (below_dN HB5.out nd)
                    · have d1 : (x != 0) = true := by simp [hx0]
                      have HNO : Hid (∀ t, ¬ IsLast t m) := (HSL.out).resolve_left hx0
                      clear hx0
                      go_wp2_with fail
                      go_ret2
                      exact back_no HNO.out hbw
                  · obtain ⟨i, rfl⟩ : ∃ i, r = i + 1 := ⟨r - 1, by omega⟩
                    have hnext : lfL m (chain m (n - (i + 1))) = chain m (n - i) := by
                      rw [show n - i = (n - (i + 1)) + 1 by omega]; rfl
                    have htx : (textOf m)[i]?.getD 0 = sy m (chain m (n - (i + 1))) - 1 := by
                      rw [textOf_get (by omega), Option.getD_some, show m.length - 2 - i = n - (i + 1) by omega]
                    have hno1 : sy m (chain m (n - (i + 1))) = 0 → ∀ t, ¬ IsLast t m := fun e t h => by
                      have h1 := h.len
                      have h2 := h.sym (k := n - (i + 1)) (by omega)
                      rw [e] at h2
                      have h3 := h.1 _ (List.getElem_mem (show t.length - 1 - (n - (i + 1)) < t.length by omega))
                      omega
                    have hno2 : 0 < seenC m (n - (i + 1)) (chain m (n - (i + 1))) → ∀ t, ¬ IsLast t m := fun e t h => by
                      obtain ⟨y, hy, he⟩ := seenC_pos e
                      have h1 := h.len
                      exact h.ne (j := y) (k := n - (i + 1)) (by omega) (by omega) (by omega) he
                    have hsle := seenC_le m (n - (i + 1)) (chain m (n - (i + 1)))
                    obtain ⟨d1, d2, _, d4, _, _⟩ := hst.cells
                    have e2 := d1 (chain m (n - (i + 1))) hcl
                    have e3 := d2 (chain m (n - (i + 1))) hcl
                    have e4 := d4 (chain m (n - (i + 1)))
                    have e5 := vec_cell hqr (show i < n by omega)
                    rw [if_neg (by omega)] at e5
                    have e6 : wr.frozen? ⟨qx, i, none⟩ = false := frozen_of_row wr qx i _ _ hqr
                    rw [hnext] at e3
                    have hss : ∀ z, seenC m (n - i) z = seenC m (n - (i + 1)) z + (if chain m (n - (i + 1)) = z then 1 else 0) := fun z => by
                      rw [show n - i = (n - (i + 1)) + 1 by omega, seenC_succ]
                    have HSS := Lib.hid hss
                    have HTX := Lib.hid htx
                    have HNO1 := Lib.hid hno1
                    have HNO2 := Lib.hid hno2
                    have hqx := HQX.out
                    have hlo := hst.lo
                    clear hn hnext htx hno1 hno2 hss d1 d2 d4 hst hqr hbs
                    generalize hce : chain m (n - (i + 1)) = ρ at *
                    generalize hsv : seenC m (n - (i + 1)) ρ = sv at *
                    generalize hxe : sy m ρ = x at *
                    generalize hze : chain m (n - i) = ζ at *
                    have HCE := Lib.hid hce
                    have HSV := Lib.hid hsv
                    have HXE := Lib.hid hxe
                    have HZE := Lib.hid hze
                    clear hce hsv hxe hze
                    by_cases hx1 : 1 ≤ x
                    · have hby := fun w => symByte_yes x w hx1 hxm.2
                      have HBY := Lib.hid hby
                      clear hby
                      by_cases hs0 : sv = 0
                      · rw [hs0, show ((0 : Nat) : Int) = 0 from rfl] at e2
                        rw [hs0] at HSV
                        clear HNO2 hsle hs0
                        have hba : BackSt w.heap.size ((wr.setCell ⟨qs, ρ, none⟩ (.int .i64 1)).setCell ⟨qx, i, none⟩ (.int .u8 (x - 1))) p qs qt Q m.length (Tl.of m) (fun z => (seenC m (n - i) z : Int)) (fun i => (lfL m i : Int)) (fun s => ((belowL m (s : Int) + cnt (m.take m.length) (s : Int) : Nat) : Int)) := by
                          have h1 := HST.out.setSeen ρ 1
                          have h2 := h1.chg (Chg.refl.setCell (S := fun b => b = qx) ⟨qx, i, none⟩ (Or.inl rfl) (.int .u8 (x - 1))) (fun e => by have e : p = qx := e; omega) (fun e => by have e : qs = qx := e; omega) (fun e => by have e : qt = qx := e; omega) (fun e => by have e : Q = qx := e; omega)
                          refine h2.congr (fun z _ => ?_) (fun _ _ => rfl) (fun _ _ => rfl)
                          rw [HSS.out z]
                          by_cases e : z = ρ
                          · subst e; rw [if_pos rfl, if_pos rfl, HSV.out]; rfl
                          · rw [if_neg e, if_neg (fun h => e h.symm)]; rfl
                        have hqq : ((wr.setCell ⟨qs, ρ, none⟩ (.int .i64 1)).setCell ⟨qx, i, none⟩ (.int .u8 (x - 1))).heap[qx]? = some (.cells (vecL (fun z => .int .u8 (if i ≤ z then (textOf m)[z]?.getD 0 else 0)) n).toArray 5 (0, 0)) := by
                          have h0 := (Chg.refl.setCell (S := fun b => b = qs) (w := wr) ⟨qs, ρ, none⟩ (Or.inl rfl) (.int .i64 1)).heap HQR.out (fun e => by have e : qx = qs := e; omega)
                          rw [vec_set h0, vecL_congr]
                          intro z hz
                          by_cases e : z = i
                          · subst e; rw [if_pos rfl, if_pos (Nat.le_refl _), HTX.out]
                          · rw [if_neg e]
                            by_cases e2 : i ≤ z
                            · rw [if_pos e2, if_pos (by omega)]
                            · rw [if_neg e2, if_neg (by omega)]
                        have hbb : Below w.heap.size w ((wr.setCell ⟨qs, ρ, none⟩ (.int .i64 1)).setCell ⟨qx, i, none⟩ (.int .u8 (x - 1))) := below_setQ (below_setQ hbw hs hlo.2.1 _) (by simp [World.setCell]; exact hs) (by omega) _
                        have HBA := Lib.hid hba
                        have HQQ := Lib.hid hqq
                        have HBB := Lib.hid hbb
                        have hne : qx ≠ qs := by omega
                        have hne2 : qt ≠ qs := fun e => HST.out.ne.1 e.symm
                        have hne3 : qt ≠ qx := by omega
                        clear hba hqq hbb
                        go_wp2_with (go_at_call 39; refine (HBY.out _).mono ?_; rintro e w' ⟨rfl, rfl⟩)
                        go_roundw
                        case rel =>
                          refine ⟨i, by omega, by go_num, by rw [HZE.out], HBA.out, HQQ.out, fun j hj => ?_, HBB.out⟩
                          by_cases e : j < n - (i + 1)
                          · exact HBS.out j e
                          · obtain rfl : j = n - (i + 1) := by omega
                            rw [HCE.out, HXE.out]; exact hx1
                        case measure => simp [intOf]
                      · have d1 : decide (0 < sv) = true := by simp; omega
                        have d2 : 0 < sv := by omega
                        have HNO : Hid (∀ t, ¬ IsLast t m) := HNO2.out (by omega)
                        clear hs0
                        go_wp2_with (go_at_call 39; refine (HBY.out _).mono ?_; rintro e w' ⟨rfl, rfl⟩)
                        go_ret2
                        exact back_no HNO.out hbw
                    · have hby := fun w => symByte_no x w (by omega)
                      have HBY := Lib.hid hby
                      have HNO : Hid (∀ t, ¬ IsLast t m) := HNO1.out (by omega)
                      clear hby
                      go_wp2_with (go_at_call 39; refine (HBY.out _).mono ?_; rintro e w' ⟨rfl, rfl⟩)
                      go_ret2
                      exact back_no HNO.out hbw
    · have d1 : ((cnt m 0 : Int) != 1) = true := by rw [bne_iff_ne]; omega
      have HNO : Hid (∀ t, ¬ IsLast t m) := fun t h => h1 h.zero
      clear h1
      generalize (cnt m 0 : Int) = z at *
      go_wp2_with (go_at_call 57; refine HOF.out.mono ?_; rintro e w' ⟨rfl, rfl⟩)
      go_ret2
      exact back_no HNO.out HB1.out
  · have HNO : Hid (∀ t, ¬ IsLast t m) := fun t h => hsy h.range
    obtain ⟨k0, hk0, h1, h2⟩ := first_bad hsy
    have hnew := tNew_fail (c := c) hr hk0 h1 h2 (by omega)
    have HNEW := Lib.hid hnew
    clear hnew h1 h2 hsy
    go_enter Tryz.func36, Tryz.ntmps36
    go_wp2_with fail
    refine HNEW.out.mono ?_
    rintro e w1 ⟨rfl, hb1⟩
    go_wp2_with fail
    go_ret2
    exact back_no HNO.out hb1

end Go.Proofs.YtacoeohmdngnkaaGreatDoor

namespace Go.Proofs.YtacoeohmdngnkaaGreatDoor
open Go.RowKit

end Go.Proofs.YtacoeohmdngnkaaGreatDoor

namespace Go.Proofs.YtacoeohmdngnkaaGreatDoor
open Go.RowKit

end Go.Proofs.YtacoeohmdngnkaaGreatDoor

namespace Go.Proofs.YtacoeohmdngnkaaGreatDoor
set_option linter.unusedVariables false
open Go.RowKit

/-- 'string(x)' of a row that came in. -/
theorem conv_str {P : Program} {src dst e : TypeId} {w : World} {a : Option Addr} {c : Nat} {xs : List Int} (hs : P.underlying src = some (.slice e)) (he : P.underlying e = some (.int .u8)) (hd : P.underlying dst = some .string) (h : Reads w .u8 a xs) :
    (convert src dst (.slice a xs.length c)).run P w = .ok (.string (strOfNums xs)) w := by
  by_cases h0 : xs.length = 0
  · have hx : xs = [] := List.eq_nil_of_length_eq_zero h0
    subst hx
    cases a with
    | none => exact run_convert_bytes_nil w src e hs he _ _ dst hd
    | some ad =>
      have := run_convert_bytes_back w src dst e ad c [] hs he hd (fun j hj => absurd hj (by simp))
      exact this
  · obtain ⟨b, off, rfl, _, hc⟩ := h.some (by omega)
    exact run_convert_bytes_arg w src e hs he b off xs.length c xs rfl (fun i hi => by rw [hc i hi, List.getD_eq_getElem?_getD]) dst hd

end Go.Proofs.YtacoeohmdngnkaaGreatDoor

namespace Go.Proofs.YtacoeohmdngnkaaGreatDoor
set_option linter.unusedVariables false
set_option linter.unusedSimpArgs false
open Go.RowKit

def LastAt (B : Nat) (w : World) (t : List Int) (e : Ending) (w' : World) : Prop := ∃ a c m, e = .returned (.slice a (t.length + 1) c) ∧ IsLast t m ∧ w'.ownsRow B 3 1 (.slice a (t.length + 1) c) (t.length + 1) (m.map (Value.int .i64)) ∧ Below B w w'
theorem last_at {n : Nat} {w : World} (a : Option Addr) (c : Nat) (t : List Int) (hn : n = t.length) (hr : Reads w .u8 a t) (hb : Bytes t) (hl : t.length ≤ 1000000) :
    Calls Tryz.prog 27 #[.slice a n c] w (LastAt w.heap.size w t) := by
  subst hn
  refine (last_any a c t w hr hb hl).mono ?_
  rintro e w' ⟨m, hm, v, rfl, hown, hb'⟩
  rw [hm.len] at hown
  obtain ⟨a', c', rfl, _, _⟩ := own_slice hown
  exact ⟨a', c', m, rfl, hm, hown, hb'⟩
/-- Back, where there is a text; where there is none. -/
def BackYes (B : Nat) (w : World) (t : List Int) (e : Ending) (w' : World) : Prop := ∃ a c, e = .returned (.tuple #[.slice a t.length c, .bool true]) ∧ w'.ownsRow B 5 1 (.slice a t.length c) t.length (t.map (Value.int .u8)) ∧ Below B w w'
theorem back_yes {n : Nat} {w : World} {t m : List Int} (h : IsLast t m) (a : Option Addr) (c : Nat) (hn : n = m.length) (hr : Reads w .i64 a m) (hl : m.length ≤ 1000000) :
    Calls Tryz.prog 36 #[.slice a n c] w (BackYes w.heap.size w t) := by
  subst hn
  refine (back_any a c m w hr hl).mono ?_
  rintro e w' ⟨v, ok, rfl, hb', hy, hno⟩
  cases ok with
  | false => exact absurd h ((hno rfl).2 t)
  | true =>
    obtain ⟨_, hown⟩ := hy rfl
    rw [← h.text] at hown
    obtain ⟨a', c', rfl, _, _⟩ := own_slice hown
    exact ⟨a', c', rfl, hown, hb'⟩
theorem back_none {n : Nat} {w : World} {m : List Int} (h : ∀ t, ¬ IsLast t m) (a : Option Addr) (c : Nat) (hn : n = m.length) (hr : Reads w .i64 a m) (hl : m.length ≤ 1000000) :
    Calls Tryz.prog 36 #[.slice a n c] w fun e w' => e = .returned (.tuple #[.slice none 0 0, .bool false]) ∧ Below w.heap.size w w' := by
  subst hn
  refine (back_any a c m w hr hl).mono ?_
  rintro e w' ⟨v, ok, rfl, hb', hy, hno⟩
  cases ok with
  | true => exact absurd (hy rfl).1 (h _)
  | false =>
    obtain ⟨rfl, _⟩ := hno rfl
    exact ⟨rfl, hb'⟩

/-- What is returned is some row of bytes of the call's own. -/
def SomeT (B : Nat) (w : World) (most : Nat) (e : Ending) (w' : World) : Prop := ∃ a c t, e = .returned (.slice a t.length c) ∧ Bytes t ∧ t.length ≤ most ∧ w'.ownsRow B 5 1 (.slice a t.length c) t.length (t.map (Value.int .u8)) ∧ Below B w w'
theorem bytes_snoc {t : List Int} {x : Int} (h : Bytes t) (h0 : 0 ≤ x) (h1 : x < 256) : Bytes (t ++ [x]) := by
  intro i hi
  rw [List.getElem?_append]
  split
  · exact h i (by assumption)
  · rw [List.length_append] at hi
    have : i - t.length = 0 := by simp at hi; omega
    rw [this]; exact ⟨h0, h1⟩
theorem wrap_u8 (x : Int) : ∃ y : Int, IntKind.u8.wrap x = y ∧ 0 ≤ y ∧ y < 256 := by
  refine ⟨_, rfl, ?_, ?_⟩ <;> · simp [IntKind.wrap, IntKind.bits, IntKind.signed]; omega

set_option maxHeartbeats 1600000 in
theorem lawText_any (a : Option Addr) (c : Nat) (z : List Int) (most : Nat) (few : Bool) (w : World) (hr : Reads w .i64 a z) (hm : most ≤ 1000) (hz : z.length ≤ maxLen) :
    Calls Tryz.prog 7 #[.slice a z.length c, .int .i64 most, .bool few] w (SomeT w.heap.size w most) := by
  unfold maxLen at hz
  go_enter Tryz.func7, Tryz.ntmps7
  go_wp2_with fail
  go_loopw [7, 8] (fun v i wr => ∃ (k : Nat) (t : List Int), k ≤ z.length ∧ t.length = k ∧ k ≤ most ∧ i = .int .i64 k ∧ Bytes t ∧ wr.ownsRow w.heap.size 5 1 v k (t.map (Value.int .u8)) ∧ Below w.heap.size w wr) (fun _ i _ => z.length - (intOf i).toNat)
  case atStart => exact ⟨0, [], Nat.zero_le _, rfl, Nat.zero_le _, rfl, bytes_nil, World.ownsRow_nil _ _ _ _, Below.refl _ _⟩
  case round =>
    obtain ⟨k, t, hk, ht, hkm, rfl, hbt, hown, hb⟩ := hrel
    have hs := hb.size
    obtain ⟨a4, c4, rfl, _, _⟩ := own_slice hown
    by_cases hlt : k < z.length ∧ k < most
    · obtain ⟨hlt, hlm⟩ := hlt
      obtain ⟨b, off, rfl, hbl, hcells⟩ := hr.some (by omega)
      have hc0 := (hb.cell (p := ⟨b, off + k, none⟩) hbl).trans (hcells k hlt)
      generalize z[k]?.getD 0 = x at *
      have HBT := Lib.hid hbt
      have HT := Lib.hid ht
      clear hcells hbt ht
      have d1 : decide ((k : Int) < (most : Int)) = true := by simp; omega
      obtain ⟨u, hu0, hu1, hu⟩ : ∃ u : Int, 0 ≤ u ∧ u < 18446744073709551616 ∧ IntKind.u64.wrap x = u := ⟨IntKind.u64.wrap x, by rw [IntKind.wrap_u64]; omega, by rw [IntKind.wrap_u64]; omega, rfl⟩
      obtain ⟨y, hy, hy0, hy1⟩ := wrap_u8 x
      have u30 : 0 ≤ u % 3 := by omega
      have u31 : u % 3 < 3 := by omega
      obtain ⟨V, hV, hV0, hV1⟩ : ∃ V : Int, V = (if few then 97 + u % 3 else y) ∧ 0 ≤ V ∧ V < 256 := ⟨_, rfl, by split <;> omega, by split <;> omega⟩
      cases few
      all_goals
        simp only [if_true, if_false, Bool.false_eq_true] at hV
        have HV := Lib.hid hV
        clear hV
        go_wp2_with (at_builtin; refine wpList_push rfl _ _ 24 rfl w.heap.size 5 Tryz.infoU8 Tryz.underlying24 rfl _ _ _ rfl hown rfl rfl ?c1 ?c2 ?c3 ?_)
        case c1 => unfold maxLen; omega
        case c2 => omega
        case c3 => omega
        intro v' w5 hown' hgrow
        have hch : Below w.heap.size w w5 := hb.grown hgrow hs (fun j hj => (hown.lt j hj).1)
        rw [← HV.out] at hown'
        have HO : Hid (w5.ownsRow w.heap.size 5 1 v' (k + 1) ((t ++ [V]).map (Value.int .u8))) := by
          show w5.ownsRow _ _ _ _ _ _
          rw [List.map_append]; exact hown'
        have HCH := Lib.hid hch
        have HB1 := Lib.hid (bytes_snoc HBT.out hV0 hV1)
        have HLN : Hid ((t ++ [V]).length = k + 1) := by show _ = _; rw [List.length_append, HT.out]; rfl
        generalize t ++ [V] = t' at *
        clear hown hown' hgrow hch hu hy
        go_wp2_with fail
        go_roundw
        case rel => exact ⟨k + 1, t', by omega, HLN.out, by omega, by go_num, HB1.out, HO.out, HCH.out⟩
        case measure => simp [intOf]; omega
    · have hlt' : ¬ k < z.length ∨ ¬ k < most := by omega
      have hres : SomeT w.heap.size w most (.returned (.slice a4 k c4)) wr := ⟨a4, c4, t, by rw [ht], hbt, by omega, by rw [ht]; exact hown, hb⟩
      have HRES := Lib.hid hres
      clear hres
      by_cases h1 : k < z.length
      · have d1 : decide (k < most) = false := by simp; omega
        go_wp2_with fail
        go_ret
        exact HRES.out
      · go_wp2_with fail
        go_ret
        exact HRES.out

theorem bytes_byteL {t : List Int} (h : ByteL t) : Bytes t := fun i hi => by rw [getD_eq hi]; exact h _ (List.getElem_mem hi)
theorem rows_aba : IsRows (symsT [97, 98, 97]) [3, 2, 0, 1] := by
  have e : symsT [97, 98, 97] = [98, 99, 98, 0] := rfl
  rw [e]
  have l1 : ∀ a b, sy [98, 99, 98, 0] a < sy [98, 99, 98, 0] b → sufLt [98, 99, 98, 0] a b := fun a b h => suf_cons.2 (Or.inl h)
  refine ⟨by decide, ?_⟩
  simp only [List.pairwise_cons, List.mem_cons, List.not_mem_nil, or_false, forall_eq_or_imp, forall_eq, List.Pairwise.nil, and_true, false_implies, implies_true]
  refine ⟨⟨l1 _ _ (by decide), l1 _ _ (by decide), l1 _ _ (by decide)⟩, ⟨suf_cons.2 (Or.inr ⟨by decide, l1 _ _ (by decide)⟩), l1 _ _ (by decide)⟩, l1 _ _ (by decide)⟩
theorem last_aba : IsLast [97, 98, 97] [98, 99, 0, 98] := ⟨by intro x hx; simp at hx; omega, _, rows_aba, rfl⟩

end Go.Proofs.YtacoeohmdngnkaaGreatDoor

namespace Go.Proofs.YtacoeohmdngnkaaGreatDoor
set_option linter.unusedVariables false
set_option linter.unusedSimpArgs false
open Go.RowKit

/-- The walk of the transform L, beside a text's row. -/
structure WkL (B : Nat) (X : Nat → Prop) (w0 w : World) (p : Nat) (L : List Nat) (ta : Option Addr) (t : List Int) : Prop where
  k : WkT B X w p L (Tl.of (intL L))
  r : Reads w .u8 ta t
  ra : ∀ ad, ta = some ad → X ad.block
  tab : BitTab w
  tl : 0 < B
  chg : Chg (exT B X) w0 w

theorem reads_vals {w : World} {a : Option Addr} {L : List Nat} (h : ReadsV w a ((intL L).map (Value.int .i64))) : ReadsV w a (L.map wsV) := by
  unfold intL at h
  rw [List.map_map] at h; exact h

set_option maxHeartbeats 1600000 in
set_option maxRecDepth 100000 in
theorem wkNew_any {n : Nat} {w : World} (a : Option Addr) (c : Nat) (t : List Int) (hn : n = t.length) (hr : Reads w .u8 a t) (hb : Bytes t) (hl : t.length ≤ 100000) :
    Calls Tryz.prog 8 #[.slice a n c] w fun e w' => ∃ p r L, e = .returned (.pointer (some ⟨p, 0, none⟩)) ∧ RW t r L ∧ WkT w.heap.size (fun _ => False) w' p L (Tl.of (intL L)) ∧ Below w.heap.size w w' := by
  subst hn
  have HL := Lib.hid (last_at a c t rfl hr hb (by omega))
  clear hr hb
  go_enter Tryz.func8, Tryz.ntmps8
  go_wp2_with fail
  refine HL.out.mono ?_
  rintro e w1 ⟨a1, c1, m, rfl, hm, hown, hb1⟩
  obtain ⟨r, hR, he⟩ := RW.of hm
  generalize m.map Int.toNat = L at *
  subst he
  have HR := Lib.hid hR
  have HB1 := Lib.hid hb1
  have ho := wkOf_any (w := w1) (a := a1) (c := c1) L (reads_vals (readsV_own hown)) hR.syms (by rw [hR.len]; omega)
  rw [hR.len] at ho
  have HO := Lib.hid ho
  clear hm hown hb1 hR ho HL
  go_wp2_with fail
  refine HO.out.mono ?_
  rintro e w2 ⟨p, rfl, hk, hb2⟩
  have HK : Hid (WkT w.heap.size (fun _ => False) w2 p L (Tl.of (intL L))) := Lib.hid ((hk.base HB1.out.size).mono (fun k hk => hk.elim))
  have HB := Lib.hid (HB1.out.trans (hb2.mono HB1.out.size))
  clear hk hb2 HO
  go_wp2_with fail
  go_ret
  exact ⟨p, r, L, rfl, HR.out, HK.out, HB.out⟩

section
variable {B : Nat} {X : Nat → Prop} {w0 w w' : World} {p : Nat} {L : List Nat} {r : List Nat} {ta : Option Addr} {t : List Int}
theorem WkL.step (h : WkL B X w0 w p L ta t) (hk : WkT B X w' p L (Tl.of (intL L))) (hc : Chg (exT B X) w w') : WkL B X w0 w' p L ta t :=
  ⟨hk, hc.reads h.r (fun ad ha hs => hs.2 (h.ra ad ha)), h.ra, h.tab.below (exT_below hc h.k.le) h.tl, h.tl, h.chg.trans hc (fun b hb => Or.inl hb)⟩
theorem WkL.below (h : WkL B X w0 w p L ta t) (hb : Below w.heap.size w w') : WkL B X w0 w' p L ta t := h.step (h.k.below hb) (Chg.of_below hb)
theorem WkL.drewN (h : WkL B X w0 w p L ta t) (m : Nat) : WkL B X w0 (w.drewN m) p L ta t := h.below ⟨rfl, rfl, rfl, Nat.le_refl _, fun _ _ => rfl⟩
/-- A text's walk is laid. -/
theorem WkL.start {w0 w1 w2 : World} {c : Nat} (hown : w1.ownsRow w0.heap.size 5 1 (.slice ta t.length c) t.length (t.map (Value.int .u8))) (hb1 : Below w0.heap.size w0 w1) (hT : BitTab w0) (hk : WkT w1.heap.size (fun _ => False) w2 p L (Tl.of (intL L))) (hb2 : Below w1.heap.size w1 w2) :
    WkL w0.heap.size (fun j => False ∨ (w0.heap.size ≤ j ∧ j < w1.heap.size)) w2 w2 p L ta t := by
  obtain ⟨a', c', hv, _, had⟩ := own_slice hown
  injection hv with e1 _ e3
  subst e1 e3
  exact ⟨hk.base hb1.size, (own_reads hown).below hb2, fun ad h => by obtain ⟨g, rfl, h1, h2, _⟩ := had ad h; exact Or.inr ⟨h1, h2⟩, hT.below' (hb1.trans (hb2.mono hb1.size)), hT.lt, Chg.refl⟩

theorem wlLen (h : WkL B X w0 w p L ta t) (hR : RW t r L) : Calls Tryz.prog 24 #[.pointer (some ⟨p, 0, none⟩)] w fun e w' => e = .returned (.int .i64 (t.length + 1 : Nat)) ∧ w = w' := by
  have := wkLen h.k
  rw [hR.len] at this; exact this
theorem wlBack (h : WkL B X w0 w p L ta t) (hR : RW t r L) (hl : t.length ≤ 100000) {i : Nat} (hi : i ≤ t.length) :
    Calls Tryz.prog 16 #[.pointer (some ⟨p, 0, none⟩), .int .i64 i] w fun e w' => ∃ j : Nat, e = .returned (.int .i64 j) ∧ j ≤ t.length ∧ ro r j = (ro r i + t.length) % (t.length + 1) ∧ WkL B X w0 w' p L ta t := by
  obtain ⟨s, hs, hs257⟩ := hR.get hi
  obtain ⟨b1, b2⟩ := hR.back hs
  refine (wkBack_yes h.k hs (by rw [hR.len]; omega)).mono ?_
  rintro e w' ⟨rfl, hk, hc⟩
  refine ⟨_, ?_, b1, b2, h.step hk hc⟩
  rw [tBelow_of L (by omega)]
  rfl
theorem wlFirst (h : WkL B X w0 w p L ta t) (hR : RW t r L) (hl : t.length ≤ 100000) {i : Nat} (hi : i ≤ t.length) :
    Calls Tryz.prog 20 #[.pointer (some ⟨p, 0, none⟩), .int .i64 i] w fun e w' => e = .returned (.int .i64 (frow t r i : Nat)) ∧ w = w' := by
  refine (wkFirst_yes (i := (i : Int)) h.k (by omega) (by rw [hR.len]; omega) (by rw [hR.len]; omega)).mono ?_
  rintro e w' ⟨⟨x, rfl, hx⟩, rfl⟩
  exact ⟨by rw [IsWhich.unique h.k.ok hx (hR.which hi)], rfl⟩
theorem wlOn (h : WkL B X w0 w p L ta t) (hR : RW t r L) (hl : t.length ≤ 100000) {i : Nat} (hi : i ≤ t.length) :
    Calls Tryz.prog 18 #[.pointer (some ⟨p, 0, none⟩), .int .i64 i] w fun e w' => ∃ j : Nat, e = .returned (.int .i64 j) ∧ j ≤ t.length ∧ ro r j = (ro r i + 1) % (t.length + 1) ∧ L[j]? = some (frow t r i) ∧ WkL B X w0 w' p L ta t := by
  obtain ⟨j, h1, h2, h3, h4⟩ := hR.onSel hi
  refine (wkOn_yes h.k h.tab h.tl (by rw [hR.len]; omega) (hR.frowI hi).2 (hR.which hi) (by rw [hR.len]; omega)).mono ?_
  rintro e w' ⟨rfl, hk, hc⟩
  refine ⟨j, ?_, h1, h2, h3, h.step hk hc⟩
  rw [tBelow_of L (by have := (hR.frowI hi).2; omega), h4]
end

end Go.Proofs.YtacoeohmdngnkaaGreatDoor

namespace Go.Proofs.YtacoeohmdngnkaaGreatDoor
set_option linter.unusedVariables false
set_option linter.unusedSimpArgs false
open Go.RowKit

def slen : Value → Nat
  | .slice _ n _ => n
  | _ => 0
/-- The bytes of a text from its end. -/
def backV (t : List Int) (k : Nat) : List Value := vecL (fun i => .int .u8 (t[t.length - 1 - i]?.getD 0)) k
theorem backV_succ (t : List Int) (k : Nat) : backV t (k + 1) = backV t k ++ [.int .u8 (t[t.length - 1 - k]?.getD 0)] := by
  unfold backV vecL
  rw [List.range_succ, List.map_append]; rfl
theorem backV_done (t : List Int) : vecL (fun i => Value.int .u8 ((fun i => t[t.length - 1 - i]?.getD 0) (t.length - 1 - i))) t.length = t.map (Value.int .u8) := by
  apply List.ext_getElem?
  intro i
  by_cases hi : i < t.length
  · rw [vecL_get hi, List.getElem?_map]
    show some (Value.int .u8 (t[t.length - 1 - (t.length - 1 - i)]?.getD 0)) = _
    rw [show t.length - 1 - (t.length - 1 - i) = i by omega, List.getElem?_eq_getElem hi]; rfl
  · rw [List.getElem?_eq_none (by rw [vecL_len]; omega), List.getElem?_eq_none (by simp; omega)]

section
variable {B : Nat} {X : Nat → Prop} {w w' : World} {p : Nat} {L r : List Nat} {t : List Int}
theorem wtBack (h : WkT B X w p L (Tl.of (intL L))) (hR : RW t r L) (hl : t.length ≤ 100000) {i : Nat} (hi : i ≤ t.length) :
    Calls Tryz.prog 16 #[.pointer (some ⟨p, 0, none⟩), .int .i64 i] w fun e w' => ∃ j : Nat, e = .returned (.int .i64 j) ∧ j ≤ t.length ∧ ro r j = (ro r i + t.length) % (t.length + 1) ∧ WkT B X w' p L (Tl.of (intL L)) ∧ Chg (exT B X) w w' := by
  obtain ⟨s, hs, hs257⟩ := hR.get hi
  obtain ⟨b1, b2⟩ := hR.back hs
  refine (wkBack_yes h hs (by rw [hR.len]; omega)).mono ?_
  rintro e w' ⟨rfl, hk, hc⟩
  refine ⟨_, ?_, b1, b2, hk, hc⟩
  rw [tBelow_of L (by omega)]
  rfl
/-- A row of the call's own grows beside a walk. -/
theorem WkT.push {T : Tl} {v : Value} {g n cap : Nat} (h : WkT B (fun k => X k ∨ obk v k) w p L T) (hg : w.grownBy w' v.ownBlock) (hor : v.ownBlock = some g ∨ w.heap.size ≤ g) (hlt : g < w'.heap.size) : WkT B (fun k => X k ∨ obk (.slice (some ⟨g, 0, none⟩) n cap) k) w' p L T := by
  have hc : Chg (fun b => v.ownBlock = some b) w w' := Chg.refl.grown hg (fun k hk => Or.inl hk)
  refine (h.aside hc (fun k hk _ hz => hk.2 (Or.inr hz))).mono (fun k hk => ?_)
  rcases hk with hk | hk
  · exact Or.inl (Or.inl hk)
  · have e : g = k := by simpa [obk, Value.ownBlock] using hk
    subst e
    rcases hor with hor | hor
    · exact Or.inl (Or.inr hor)
    · exact Or.inr ⟨hor, hlt⟩

set_option maxHeartbeats 6400000 in
set_option maxRecDepth 100000 in
theorem wkText (h : WkT B X w p L (Tl.of (intL L))) (hR : RW t r L) (hl : t.length ≤ 100000) :
    Calls Tryz.prog 15 #[.pointer (some ⟨p, 0, none⟩)] w fun e w' => ∃ a c, e = .returned (.slice a t.length c) ∧ w'.ownsRow w.heap.size 5 1 (.slice a t.length c) t.length (t.map (Value.int .u8)) ∧ WkT B (fun k => X k ∨ obk (.slice a t.length c) k) w' p L (Tl.of (intL L)) ∧ Chg (exT B X) w w' := by
  have HK := Lib.hid h
  have HR := Lib.hid hR
  have hB := h.le
  clear h hR
  go_enter Tryz.func15, Tryz.ntmps15
  go_wp2_with fail
  go_loopw [3, 4] (fun v x wr => ∃ k j : Nat, k ≤ t.length ∧ j ≤ t.length ∧ x = .int .i64 j ∧ ro r j = t.length - k ∧ wr.ownsRow w.heap.size 5 1 v k (backV t k) ∧ WkT B (fun i => X i ∨ obk v i) wr p L (Tl.of (intL L)) ∧ Chg (exT B X) w wr) (fun v _ _ => t.length - slen v)
  case atStart => exact ⟨0, 0, Nat.zero_le _, Nat.zero_le _, rfl, by rw [HR.out.zero]; rfl, World.ownsRow_nil _ _ _ _, HK.out.mono (fun k hk => hk.elim id (fun h => by simp [obk, Value.ownBlock] at h)), Chg.refl⟩
  case round => as_aux_lemma =>
    clear HK
    obtain ⟨k, j, hk, hj, rfl, hro, hown, hkt, hc⟩ := hrel
    obtain ⟨s, hs, hs257⟩ := HR.out.get hj
    have hsy := HR.out.sym hs
    rw [hro] at hsy
    have hsz := hc.size
    obtain ⟨pw, pt, hp⟩ := hkt
    obtain ⟨c0, c1⟩ := hp.cells
    have HG := Lib.hid (wpGet hp (by rw [HR.out.len]; omega) hs)
    have HO := Lib.hid hown
    have HC := Lib.hid hc
    have HS := Lib.hid hs
    have HRO := Lib.hid hro
    obtain ⟨va, vc, rfl, _, _⟩ := own_slice hown
    clear hp hown hc hs hro c1
    go_wp2_with fail
    refine HG.out.mono ?_
    rintro e w1 ⟨rfl, hp1, hc1⟩
    have HP1 := Lib.hid hp1
    have HO1 : Hid (w1.ownsRow w.heap.size 5 1 (.slice va k vc) k (backV t k)) := Lib.hid (hc1.own HO.out (fun b hb hs => hs.2 (Or.inr hb)))
    have HC1 : Hid (Chg (exT B X) w w1) := Lib.hid (HC.out.trans hc1 (fun b hb => Or.inl ⟨hb.1, fun hx => hb.2 (Or.inl hx)⟩))
    clear hp1 hc1 HO HC HG c0
    by_cases hkn : k < t.length
    · have e1 : (t.length - k + t.length) % (t.length + 1) = t.length - 1 - k := by
        rw [show t.length - k + t.length = t.length - 1 - k + (t.length + 1) by omega, Nat.add_mod_right, Nat.mod_eq_of_lt (by omega)]
      rw [e1, symsT_sy (by omega)] at hsy
      have hbt := HR.out.byte _ (List.getElem_mem (show t.length - 1 - k < t.length by omega))
      have hbv : t[t.length - 1 - k]?.getD 0 = (s : Int) - 1 := by rw [List.getElem?_eq_getElem (by omega), Option.getD_some]; omega
      have HBV := Lib.hid (backV_succ t k)
      rw [hbv] at HBV
      have s0 : (1 : Int) ≤ (s : Int) := by omega
      have s1 : (s : Int) < 257 := by omega
      have HE1 := Lib.hid e1
      clear hsy hbt hbv e1
      go_wp2_with fail
      refine (symByte_yes (s : Int) w1 s0 s1).mono ?_
      rintro e w' ⟨rfl, rfl⟩
      have hs1 := HC1.out.size
      go_wp2_with (at_builtin; refine wpList_pushL rfl _ _ 24 rfl w.heap.size 5 Tryz.infoU8 Tryz.underlying24 rfl _ _ _ rfl HO1.out rfl rfl ?c1 ?c2 ?c3 ?_)
      case c1 => unfold maxLen; omega
      case c2 => omega
      case c3 => omega
      intro g cap w2 hown2 hgrow2 hor2 hlt2
      rw [← HBV.out] at hown2
      have HO2 := Lib.hid hown2
      have hk2 : WkT B (fun i => X i ∨ obk (.slice (some ⟨g, 0, none⟩) (k + 1) cap) i) w2 p L (Tl.of (intL L)) := WkT.push ⟨pw, pt, HP1.out⟩ hgrow2 hor2 hlt2
      have HC2 : Hid (Chg (exT B X) w w2) := Lib.hid (HC1.out.grown hgrow2 (fun b hb => Or.inr ((own_lt HO1.out hb).1)))
      have HBK := Lib.hid (wtBack hk2 HR.out hl hj)
      rw [HRO.out, HE1.out] at HBK
      clear hown2 hgrow2 hor2 hlt2 hk2 HP1 HO1 HC1 HBV
      go_wp2_with fail
      refine HBK.out.mono ?_
      rintro e w3 ⟨j', rfl, hj', hro', hk3, hc3⟩
      have HK3 := Lib.hid hk3
      have HO3 : Hid (w3.ownsRow w.heap.size 5 1 (.slice (some ⟨g, 0, none⟩) (k + 1) cap) (k + 1) (backV t (k + 1))) := Lib.hid (hc3.own HO2.out (fun b hb hs => hs.2 (Or.inr hb)))
      have HC3 : Hid (Chg (exT B X) w w3) := Lib.hid (HC2.out.trans hc3 (fun b hb => Or.inl ⟨hb.1, fun hx => hb.2 (Or.inl hx)⟩))
      have HRO' := Lib.hid hro'
      clear hk3 hc3 hro' HO2 HC2 HBK
      go_wp2_with fail
      go_roundw
      case rel => exact ⟨k + 1, j', by omega, hj', rfl, by have := HRO'.out; omega, HO3.out, HK3.out, HC3.out⟩
      case measure => simp [slen]; omega
    · obtain rfl : k = t.length := by omega
      rw [Nat.sub_self, Nat.zero_add, Nat.mod_eq_of_lt (by omega), symsT_end] at hsy
      have s0 : ¬ ((1 : Int) ≤ (s : Int) ∧ (s : Int) < 257) := by omega
      have HS0 := Lib.hid s0
      clear hsy s0
      go_wp2_with fail
      refine (symByte_no (s : Int) w1 HS0.out).mono ?_
      rintro e w' ⟨rfl, rfl⟩
      by_cases h0 : 0 < t.length
      · obtain ⟨g, cap, hv, hgb, hgl, _, _, _, _⟩ := own_some HO1.out h0
        injection hv with q1 _ q3
        subst q1 q3
        have hrv := rev_any (F := fun i => t[t.length - 1 - i]?.getD 0) HO1.out h0 (by omega)
        rw [backV_done] at hrv
        have HRV := Lib.hid hrv
        have HGB := Lib.hid hgb
        clear hrv hgb
        go_wp2_with fail
        refine HRV.out.mono ?_
        rintro e w2 ⟨rfl, hown2, hc2⟩
        have HO2 := Lib.hid hown2
        have HK2 : Hid (WkT B (fun k => X k ∨ obk (.slice (some ⟨g, 0, none⟩) t.length vc) k) w2 p L (Tl.of (intL L))) := Lib.hid ((WkP.aside HP1.out hc2 (fun k hk _ hz => hk.2 (Or.inr (by subst hz; rfl)))).mono (fun k hk => Or.inl hk) |> fun h => ⟨pw, pt, h⟩)
        have HC2 : Hid (Chg (exT B X) w w2) := Lib.hid (HC1.out.trans hc2 (fun b hb => Or.inr (by subst hb; exact HGB.out)))
        clear hown2 hc2 HRV HP1 HC1
        go_wp2_with fail
        go_ret
        exact ⟨_, _, rfl, HO2.out, HK2.out, HC2.out⟩
      · have e0 : t.length = 0 := by omega
        have hnil : t = [] := List.eq_nil_of_length_eq_zero e0
        have HO2 : Hid (w1.ownsRow w.heap.size 5 1 (.slice va t.length vc) t.length (t.map (Value.int .u8))) := Lib.hid (by have := HO1.out; rw [hnil] at this ⊢; exact this)
        have hrn := rev_nil va vc w1
        rw [← e0] at hrn
        have HRN := Lib.hid hrn
        clear hrn hnil e0 h0
        go_wp2_with fail
        refine HRN.out.mono ?_
        rintro e w' ⟨rfl, rfl⟩
        go_wp2_with fail
        go_ret
        exact ⟨_, _, rfl, HO2.out, ⟨pw, pt, HP1.out⟩, HC1.out⟩
end

set_option maxHeartbeats 1600000 in
set_option maxRecDepth 100000 in
theorem wkOfT_yes {n : Nat} {w : World} {L r : List Nat} {t : List Int} (hR : RW t r L) (a : Option Addr) (c : Nat) (hn : n = L.length) (hr : ReadsV w a (L.map wsV)) (hl : t.length ≤ 100000) :
    Calls Tryz.prog 13 #[.slice a n c] w fun e w' => ∃ p, e = .returned (.tuple #[.pointer (some ⟨p, 0, none⟩), .int .i64 0]) ∧ WkT w.heap.size (fun _ => False) w' p L (Tl.of (intL L)) ∧ Below w.heap.size w w' := by
  subst hn
  have hL := Lib.hid hR.len
  have hLm : L.length ≤ 1000000 := by have := hL.out; omega
  have HB := Lib.hid (back_yes hR.isLast a c (by rw [intL_len]) (readsN hr) (by rw [intL_len]; exact hLm))
  have HR := Lib.hid hr
  have HSY := Lib.hid hR.syms
  clear hr hR
  go_enter Tryz.func13, Tryz.ntmps13
  go_wp2_with fail
  refine HB.out.mono ?_
  rintro e w1 ⟨a1, c1, rfl, _, hb1⟩
  have HB1 := Lib.hid hb1
  have HO := Lib.hid (wkOf_any (w := w1) (a := a) (c := c) L (HR.out.below' hb1) HSY.out hLm)
  clear hb1 HB
  go_wp2_with fail
  refine HO.out.mono ?_
  rintro e w2 ⟨p, rfl, hk, hb2⟩
  have HK : Hid (WkT w.heap.size (fun _ => False) w2 p L (Tl.of (intL L))) := Lib.hid ((hk.base HB1.out.size).mono (fun k hk => hk.elim))
  have HBB := Lib.hid (HB1.out.trans (hb2.mono HB1.out.size))
  clear hk hb2 HO
  go_wp2_with fail
  go_ret2
  exact ⟨p, rfl, HK.out, HBB.out⟩
set_option maxRecDepth 100000 in
theorem wkOfT_no {n : Nat} {w : World} {m : List Int} (h : ∀ t, ¬ IsLast t m) (a : Option Addr) (c : Nat) (hn : n = m.length) (hr : Reads w .i64 a m) (hl : m.length ≤ 1000000) :
    Calls Tryz.prog 13 #[.slice a n c] w fun e w' => e = .returned (.tuple #[.pointer none, .int .i64 1]) ∧ Below w.heap.size w w' := by
  subst hn
  have HB := Lib.hid (back_none h a c rfl hr hl)
  clear hr h
  go_enter Tryz.func13, Tryz.ntmps13
  go_wp2_with fail
  refine HB.out.mono ?_
  rintro e w1 ⟨rfl, hb1⟩
  have HB1 := Lib.hid hb1
  clear hb1 HB
  go_wp2_with fail
  go_ret2
  exact ⟨rfl, HB1.out⟩

end Go.Proofs.YtacoeohmdngnkaaGreatDoor

namespace Go.Proofs.YtacoeohmdngnkaaGreatDoor
set_option linter.unusedVariables false
set_option linter.unusedSimpArgs false
open Go.RowKit

/-- Two walks, apart from one another. -/
def WK2 (B : Nat) (w : World) (p : Nat) (L : List Nat) (q : Nat) (M : List Nat) : Prop :=
  ∃ X Y : Nat → Prop, WkT B X w p L (Tl.of (intL L)) ∧ WkT B Y w q M (Tl.of (intL M)) ∧ ∀ k, B ≤ k → k < w.heap.size → X k ∨ Y k
section
variable {B : Nat} {w w' : World} {p q : Nat} {L M : List Nat}
theorem WK2.le (h : WK2 B w p L q M) : B ≤ w.heap.size := by obtain ⟨X, Y, h1, _⟩ := h; exact h1.le
theorem WK2.rot (h : WK2 B w p L q M) : WK2 B w q M p L := by
  obtain ⟨X, Y, h1, h2, h3⟩ := h; exact ⟨Y, X, h2, h1, fun k a b => (h3 k a b).symm⟩
theorem WK2.first {f : FuncId} {args : Array Value} {R : Ending → World → Prop} (h : WK2 B w p L q M)
    (hf : ∀ X, WkT B X w p L (Tl.of (intL L)) → Calls Tryz.prog f args w fun e w' => R e w' ∧ WkT B X w' p L (Tl.of (intL L)) ∧ Chg (exT B X) w w') :
    Calls Tryz.prog f args w fun e w' => R e w' ∧ WK2 B w' p L q M ∧ Below B w w' := by
  obtain ⟨X, Y, h1, h2, h3⟩ := h
  refine (hf X h1).mono ?_
  rintro e w' ⟨hr, hk, hc⟩
  refine ⟨hr, ⟨X, _, hk, h2.aside hc (fun k g1 g2 g3 => (h3 k g1.1 g2).elim g3.2 g1.2), fun k g1 g2 => ?_⟩, exT_below hc h1.le⟩
  by_cases hlt : k < w.heap.size
  · exact (h3 k g1 hlt).elim Or.inl (fun h => Or.inr (Or.inl h))
  · exact Or.inr (Or.inr ⟨by omega, g2⟩)
theorem WK2.below (h : WK2 B w p L q M) (hb : Below w.heap.size w w') : WK2 B w' p L q M := by
  obtain ⟨X, Y, h1, h2, h3⟩ := h
  have hc : Chg (fun _ => False) w w' := Chg.of_below hb
  refine ⟨_, _, h1.aside hc (fun _ _ _ h => h), h2.aside hc (fun _ _ _ h => h), fun k g1 g2 => ?_⟩
  by_cases hlt : k < w.heap.size
  · exact (h3 k g1 hlt).elim (fun h => Or.inl (Or.inl h)) (fun h => Or.inr (Or.inl h))
  · exact Or.inl (Or.inr ⟨by omega, g2⟩)
end

section
variable {B : Nat} {X : Nat → Prop} {w w' : World} {p : Nat} {L r : List Nat} {t : List Int}
theorem wtFirst (h : WkT B X w p L (Tl.of (intL L))) (hR : RW t r L) (hl : t.length ≤ 100000) {i : Nat} (hi : i ≤ t.length) :
    Calls Tryz.prog 20 #[.pointer (some ⟨p, 0, none⟩), .int .i64 i] w fun e w' => e = .returned (.int .i64 (frow t r i : Nat)) ∧ w = w' := by
  refine (wkFirst_yes (i := (i : Int)) h (by omega) (by rw [hR.len]; omega) (by rw [hR.len]; omega)).mono ?_
  rintro e w' ⟨⟨x, rfl, hx⟩, rfl⟩
  exact ⟨by rw [IsWhich.unique h.ok hx (hR.which hi)], rfl⟩
theorem wtOn (h : WkT B X w p L (Tl.of (intL L))) (hR : RW t r L) (hl : t.length ≤ 100000) (hT : BitTab w) (htl : 0 < B) {i : Nat} (hi : i ≤ t.length) :
    Calls Tryz.prog 18 #[.pointer (some ⟨p, 0, none⟩), .int .i64 i] w fun e w' => (∃ j : Nat, e = .returned (.int .i64 j) ∧ j ≤ t.length ∧ ro r j = (ro r i + 1) % (t.length + 1)) ∧ WkT B X w' p L (Tl.of (intL L)) ∧ Chg (exT B X) w w' := by
  obtain ⟨j, h1, h2, h3, h4⟩ := hR.onSel hi
  refine (wkOn_yes h hT htl (by rw [hR.len]; omega) (hR.frowI hi).2 (hR.which hi) (by rw [hR.len]; omega)).mono ?_
  rintro e w' ⟨rfl, hk, hc⟩
  refine ⟨⟨j, ?_, h1, h2⟩, hk, hc⟩
  rw [tBelow_of L (by have := (hR.frowI hi).2; omega), h4]
end

theorem rw_aba : RW [97, 98, 97] [3, 2, 0, 1] [98, 99, 0, 98] := ⟨last_aba.1, rows_aba, rfl⟩
theorem rw_aba_one {r L : List Nat} (h : RW [97, 98, 97] r L) : r = [3, 2, 0, 1] ∧ L = [98, 99, 0, 98] := by
  obtain rfl := rows_unique h.rows rows_aba
  exact ⟨rfl, intL_inj (h.last.symm.trans rw_aba.last)⟩
def abaL : List Nat := [98, 99, 0, 98]
def abaR : List Nat := [3, 2, 0, 1]
def abaT : List Int := [97, 98, 97]

section
variable {B : Nat} {w : World} {p q : Nat} {M : List Nat}
theorem a10Back (h : WK2 B w p abaL q M) (i j : Nat) (hi : i ≤ 3) (hj : j ≤ 3) (he : ro abaR j = (ro abaR i + 3) % 4) :
    Calls Tryz.prog 16 #[.pointer (some ⟨p, 0, none⟩), .int .i64 i] w fun e w' => e = .returned (.int .i64 j) ∧ WK2 B w' p abaL q M ∧ Below B w w' := by
  refine h.first (R := fun e _ => e = .returned (.int .i64 j)) (fun X hk => ?_)
  refine (wtBack hk rw_aba (by decide) hi).mono ?_
  rintro e w' ⟨k, rfl, h1, h2, h3, h4⟩
  obtain rfl := rw_aba.inj (i := k) (j := j) h1 hj (h2.trans he.symm)
  exact ⟨rfl, h3, h4⟩
theorem a10On (h : WK2 B w p abaL q M) (hT : BitTab w) (htl : 0 < B) (i j : Nat) (hi : i ≤ 3) (hj : j ≤ 3) (he : ro abaR j = (ro abaR i + 1) % 4) :
    Calls Tryz.prog 18 #[.pointer (some ⟨p, 0, none⟩), .int .i64 i] w fun e w' => e = .returned (.int .i64 j) ∧ WK2 B w' p abaL q M ∧ Below B w w' := by
  refine h.first (R := fun e _ => e = .returned (.int .i64 j)) (fun X hk => ?_)
  refine (wtOn hk rw_aba (by decide) hT htl hi).mono ?_
  rintro e w' ⟨⟨k, rfl, h1, h2⟩, h3, h4⟩
  obtain rfl := rw_aba.inj (i := k) (j := j) h1 hj (h2.trans he.symm)
  exact ⟨rfl, h3, h4⟩
theorem a10Nar (h : WK2 B w p abaL q M) (lo hi s x y : Nat) (hs : s < 257) (h1 : lo ≤ hi) (h2 : hi ≤ 4) (hx : nar abaL lo s = x) (hy : nar abaL hi s = y) :
    Calls Tryz.prog 11 #[.pointer (some ⟨p, 0, none⟩), .int .i64 lo, .int .i64 hi, .int .i64 s] w fun e w' => e = .returned (.tuple #[.int .i64 x, .int .i64 y]) ∧ WK2 B w' p abaL q M ∧ Below B w w' := by
  subst hx hy
  refine h.first (R := fun e _ => e = .returned (.tuple #[.int .i64 (nar abaL lo s : Nat), .int .i64 (nar abaL hi s : Nat)])) (fun X hk => ?_)
  have hl : abaL.length = 4 := rfl
  refine (wkNarrow_any (lo := (lo : Int)) (hi := (hi : Int)) (lo' := lo) (hi' := hi) hk hs (by rw [hl]; omega) (by rw [hl]; omega) (by rw [hl]; omega)).mono ?_
  rintro e w' ⟨rfl, hk, hc⟩
  refine ⟨?_, hk, hc⟩
  rw [tBelow_of _ (by omega)]
  rfl
theorem a10Text (h : WK2 B w p abaL q M) :
    Calls Tryz.prog 15 #[.pointer (some ⟨p, 0, none⟩)] w fun e w' => (∃ a c, e = .returned (.slice a 3 c) ∧ Reads w' .u8 a abaT) ∧ WK2 B w' p abaL q M ∧ Below B w w' := by
  refine h.first (R := fun e w' => ∃ a c, e = .returned (.slice a 3 c) ∧ Reads w' .u8 a abaT) (fun X hk => ?_)
  refine (wkText hk rw_aba (by decide)).mono ?_
  rintro e w' ⟨a, c, rfl, h1, h2, h3⟩
  exact ⟨⟨a, c, rfl, own_reads h1⟩, h2.mono (fun k hk => Or.inl hk), h3⟩
theorem a10All (h : WK2 B w p abaL q M) :
    Calls Tryz.prog 23 #[.pointer (some ⟨p, 0, none⟩)] w fun e w' => (∃ a c, e = .returned (.slice a 4 c)) ∧ WK2 B w' p abaL q M ∧ Below B w w' := by
  refine h.first (R := fun e w' => ∃ a c, e = .returned (.slice a 4 c)) (fun X hk => ?_)
  refine (wkAll hk (by decide)).mono ?_
  rintro e w' ⟨g, rfl, _, _, h2, h3⟩
  exact ⟨⟨_, _, rfl⟩, h2.mono (fun k hk => Or.inl hk), h3⟩
end

set_option maxHeartbeats 6400000 in
set_option maxRecDepth 100000 in
theorem told10_any (w : World) (hT : BitTab w) : Calls Tryz.prog 6 #[] w fun e w' => e = .returned (.bool true) ∧ Below w.heap.size w w' := by
  have HTL := Lib.hid hT.lt
  have HT := Lib.hid hT
  have hby : Bytes [97, 98, 97] := bytes_byteL last_aba.1
  have kc := fun (w : World) (C : Array Value) (n c : Nat) => Lib.run_convert_bytes_const (P := Tryz.prog) w 24 5 C n c Tryz.underlying24 Tryz.underlying5
  have hrd : ∀ (W : World) fr, Reads (W.alloc (.cells #[.int .u8 97, .int .u8 98, .int .u8 97] 5 fr)) .u8 (some ⟨W.heap.size, 0, none⟩) [97, 98, 97] := fun W fr i hi => ⟨_, _, rfl, by simp, fun j hj => by
    rw [Nat.zero_add, cell_of_row _ W.heap.size j _ _ _ (heap_alloc_new W _)]
    match j, hj with
    | 0, _ => rfl
    | 1, _ => rfl
    | 2, _ => rfl⟩
  have HRD := Lib.hid hrd
  have HCV : Hid (∀ (W : World) (a : Option Addr) (c : Nat), Reads W .u8 a abaT → (convert 24 9 (.slice a 3 c)).run Tryz.prog W = .ok (.string { data := #[97, 98, 97] }) W) := Lib.hid (fun W a c h => by
    have := conv_str (P := Tryz.prog) (xs := abaT) (c := c) Tryz.underlying24 Tryz.underlying5 Tryz.underlying9 h
    rw [show strOfNums abaT = { data := #[97, 98, 97] } by decide] at this
    exact this)
  clear hT hrd
  go_enter Tryz.func6, Tryz.ntmps6
  go_wp2_with fail
  have hb0 := below_al w (.cells #[.int .u8 97, .int .u8 98, .int .u8 97] 5 (3, 4))
  refine (wkNew_any _ _ [97, 98, 97] rfl (HRD.out w _) hby (by simp)).mono ?_
  rintro e w1 ⟨p, r, L, rfl, hR, hk, hb1⟩
  obtain ⟨rfl, rfl⟩ := rw_aba_one hR
  have HB1 := Lib.hid (hb0.trans (hb1.mono hb0.size))
  have HK1 : Hid (WkT w.heap.size (fun _ => False) w1 p abaL (Tl.of (intL abaL))) := Lib.hid ((hk.base hb0.size).mono (fun k hk => hk.elim))
  clear hR hk hb0 hb1 hby kc HRD
  go_wp2_with fail
  have hb2 := below_al w1 (.cells #[.int .i64 98, .int .i64 99, .int .i64 0, .int .i64 98] 3)
  have hr2 : ReadsV (w1.alloc (.cells #[.int .i64 98, .int .i64 99, .int .i64 0, .int .i64 98] 3)) (some ⟨w1.heap.size, 0, none⟩) ([98, 99, 0, 98].map wsV) := readsV_block (heap_alloc_new w1 _)
  refine (wkOfT_yes rw_aba _ _ rfl hr2 (by decide)).mono ?_
  rintro e w2 ⟨q, rfl, hk, hb3⟩
  have hb12 := hb2.trans (hb3.mono hb2.size)
  have HB2 := Lib.hid (HB1.out.trans (hb12.mono HB1.out.size))
  have HW2 : Hid (WK2 w.heap.size w2 p abaL q abaL) := Lib.hid ⟨fun k => w1.heap.size ≤ k ∧ k < w2.heap.size, fun k => w.heap.size ≤ k ∧ k < w1.heap.size, HK1.out.less hb12 (fun k hk => Or.inr hk), ((hk.base hb2.size).base HB1.out.size).mono (fun k hk => Or.inr hk), fun k g1 g2 => by
    by_cases hlt : k < w1.heap.size
    · exact Or.inr ⟨g1, hlt⟩
    · exact Or.inl ⟨by omega, g2⟩⟩
  clear hb2 hr2 hk hb3 hb12 HK1 HB1
  go_wp2_with fail
  have hb4 := below_al w2 (.cells #[.int .i64 98] 3)
  have hno : ∀ t, ¬ IsLast t [98] := fun t h => by
    have := h.zero
    cases this
  refine (wkOfT_no hno _ _ rfl (by exact own_reads (xs := [98]) (own_vecG (f := fun _ => .int .i64 98) (n := 1) (base := 0) (e := 3) (heap_alloc_new w2 _) (Nat.zero_le _) (by unfold maxLen; omega))) (by simp)).mono ?_
  rintro e w3 ⟨rfl, hb5⟩
  have hb45 := hb4.trans (hb5.mono hb4.size)
  have HB3 := Lib.hid (HB2.out.trans (hb45.mono HB2.out.size))
  have HW3 := Lib.hid (HW2.out.below hb45)
  clear hno hb4 hb5 hb45 HB2 HW2
  go_wp2_with fail
  refine (a10Nar HW3.out 0 4 98 1 3 (by decide) (by decide) (by decide) (by decide) (by decide)).mono ?_
  rintro e w4 ⟨rfl, hw, hb⟩
  have HB4 := Lib.hid (HB3.out.trans hb)
  have HW4 := Lib.hid hw
  clear hw hb HB3 HW3
  go_wp2_with fail
  refine (a10Nar HW4.out 1 3 99 3 4 (by decide) (by decide) (by decide) (by decide) (by decide)).mono ?_
  rintro e w5 ⟨rfl, hw, hb⟩
  have HB5 := Lib.hid (HB4.out.trans hb)
  have HW5 := Lib.hid hw
  clear hw hb HB4 HW4
  go_wp2_with fail
  obtain ⟨X5, Y5, hx5, _, _⟩ := HW5.out
  refine (wkNarrow_bad hx5 0 4 (s := 300) (by decide)).mono ?_
  rintro e w' ⟨rfl, rfl⟩
  clear hx5
  go_wp2_with fail
  refine (a10Back HW5.out 2 0 (by decide) (by decide) (by decide)).mono ?_
  rintro e w6 ⟨rfl, hw, hb⟩
  have HB6 := Lib.hid (HB5.out.trans hb)
  have HW6 := Lib.hid hw
  clear hw hb HB5 HW5
  go_wp2_with fail
  refine (a10On HW6.out (HT.out.below' HB6.out) HTL.out 0 2 (by decide) (by decide) (by decide)).mono ?_
  rintro e w7 ⟨rfl, hw, hb⟩
  have HB7 := Lib.hid (HB6.out.trans hb)
  have HW7 := Lib.hid hw
  clear hw hb HB6 HW6
  go_wp2_with fail
  refine (a10Back HW7.out 0 1 (by decide) (by decide) (by decide)).mono ?_
  rintro e w8 ⟨rfl, hw, hb⟩
  have HB8 := Lib.hid (HB7.out.trans hb)
  have HW8 := Lib.hid hw
  clear hw hb HB7 HW7
  obtain ⟨X8, Y8, hx8, _, _⟩ := HW8.out
  have HF3 := Lib.hid (wtFirst hx8 rw_aba (by decide) (i := 3) (by decide))
  have HF4 := Lib.hid (wkFirst_no hx8 (i := 4) (Or.inr (by decide)))
  have HLE := Lib.hid (wkLen hx8)
  rw [show frow [97, 98, 97] [3, 2, 0, 1] 3 = 99 by decide] at HF3
  clear hx8
  go_wp2_with fail
  refine HF3.out.mono ?_
  rintro e w' ⟨rfl, rfl⟩
  go_wp2_with fail
  refine HF4.out.mono ?_
  rintro e w' ⟨rfl, rfl⟩
  clear HF3 HF4 HLE
  go_wp2_with fail
  refine (a10Text HW8.out).mono ?_
  rintro e w9 ⟨⟨ta, tc, rfl, hr⟩, hw, hb⟩
  have hcv := HCV.out w9 ta tc hr
  have HB9 := Lib.hid (HB8.out.trans hb)
  have HW9 := Lib.hid hw
  clear hr hw hb HB8 HW8
  go_wp2_with fail
  clear hcv
  refine (a10Text HW9.out.rot).mono ?_
  rintro e w10 ⟨⟨ta, tc, rfl, hr⟩, hw, hb⟩
  have hcv := HCV.out w10 ta tc hr
  have HB10 := Lib.hid (HB9.out.trans hb)
  have HW10 := Lib.hid hw.rot
  clear hr hw hb HB9 HW9
  obtain ⟨X10, Y10, hx10, _, _⟩ := HW10.out
  have HLE := Lib.hid (wkLen hx10)
  rw [show abaL.length = 4 from rfl] at HLE
  clear hx10
  go_wp2_with fail
  clear hcv
  refine HLE.out.mono ?_
  rintro e w' ⟨rfl, rfl⟩
  go_wp2_with fail
  refine (a10All HW10.out).mono ?_
  rintro e w11 ⟨⟨ta, tc, rfl⟩, hw, hb⟩
  have HB11 := Lib.hid (HB10.out.trans hb)
  clear hw hb HB10 HW10
  go_wp2_with fail
  refine (wkNil_back _ _).mono ?_
  rintro e w' ⟨rfl, rfl⟩
  go_wp2_with fail
  refine (wkNil_len _).mono ?_
  rintro e w' ⟨rfl, rfl⟩
  go_wp2_with fail
  go_ret
  exact ⟨rfl, HB11.out⟩

end Go.Proofs.YtacoeohmdngnkaaGreatDoor

namespace Go.Proofs.YtacoeohmdngnkaaGreatDoor
set_option linter.unusedVariables false
set_option linter.unusedSimpArgs false
open Go.RowKit

section
variable {B : Nat} {X : Nat → Prop} {w0 w w' : World} {p : Nat} {L r : List Nat} {ta : Option Addr} {t : List Int}
/-- A block of the call's own is kept aside. -/
theorem WkL.keep (h : WkL B X w0 w p L ta t) {q : Nat} (hb : Below w.heap.size w w') (hq : w.heap.size ≤ q) (hlt : q < w'.heap.size) : WkL B (fun k => X k ∨ k = q) w' w' p L ta t := by
  exact ⟨h.k.less hb (fun k hk => hk.elim Or.inl (fun e => Or.inr (by subst e; exact ⟨hq, hlt⟩))), h.r.below hb, fun ad ha => Or.inl (h.ra ad ha), h.tab.below' hb, h.tl, Chg.refl⟩
theorem WkL.store (h : WkL B X w0 w p L ta t) {q : Nat} (hX : X q) (hc : Chg (fun b => b = q) w w') (hr : Reads w' .u8 ta t) (hB : B ≤ q) : WkL B X w' w' p L ta t :=
  ⟨(h.k.aside hc (fun k hk _ e => hk.2 (by subst e; exact hX))).mono (fun k hk => Or.inl hk), hr, h.ra, h.tab.below (hc.below (fun b hb => by subst hb; exact hB) h.k.le) h.tl, h.tl, Chg.refl⟩
end

end Go.Proofs.YtacoeohmdngnkaaGreatDoor

namespace Go.Proofs.YtacoeohmdngnkaaGreatDoor
set_option linter.unusedVariables false
set_option linter.unusedSimpArgs false
open Go.RowKit

set_option maxHeartbeats 1600000 in
theorem ref6In_any (a : Option Addr) (c : Nat) (l : List Int) (k : Nat) (b : Int) (w : World) (hr : ReadsV w a (l.map (Value.int .i64))) (hk : k ≤ l.length) (hc : l.length ≤ c) (hcm : c ≤ maxLen) (hl : l.length ≤ 1000000) (hnil : a = none → l.length = 0 ∧ c = 0) :
    Calls Tryz.prog 29 #[.slice a l.length c, .int .i64 k, (.int .i64 b)] w (GivesI w.heap.size w (insA l k b)) := by
  have hs1 := fun (w : World) => run_sliceTo (P := Tryz.prog) (w := w) (t := 22) (a := a) (len := l.length) (cap := c) (k := k) Tryz.underlying22 (by kernel_rfl) (by omega)
  have hs2 := fun (w : World) => run_sliceFrom (P := Tryz.prog) (w := w) (t := 22) (a := a) (len := l.length) (cap := c) (k := k) Tryz.underlying22 (by kernel_rfl) (by omega)
  have HNIL := Lib.hid (offA_nil (k := k) hnil)
  have HN0 : Hid (a = none → k = 0 ∧ c = 0) := fun h => by have := hnil h; omega
  have hrt : ReadsV w a ((l.take k).map (Value.int .i64)) := by rw [List.map_take]; exact hr.take k
  have HRT : Hid (∀ w', Below w.heap.size w w' → ReadsV w' a ((l.take k).map (Value.int .i64))) := fun w' hb => hrt.below' hb
  have HRD : Hid (∀ w', Below w.heap.size w w' → ReadsV w' (offA a k c) ((l.drop k).map (Value.int .i64))) := fun w' hb => by rw [List.map_drop]; exact (hr.below' hb).drop (by simpa using hc)
  have hb0 := below_al w (.cells #[] 3)
  have hown0 : (w.alloc (.cells #[] 3)).ownsRow w.heap.size 3 1 (.slice (some ⟨w.heap.size, 0, none⟩) 0 0) 0 [] := own_zero (Nat.le_refl _) (heap_alloc_new _ _)
  have HL := Lib.hid hl
  have HO0 := Lib.hid hown0
  have HB0 := Lib.hid hb0
  clear hnil hr hrt hown0 hb0
  go_enter Tryz.func29, Tryz.ntmps29
  go_wp2_with (at_builtin; refine wpList_appendL rfl _ _ 22 rfl w.heap.size 3 Tryz.infoIntG Tryz.underlying22 rfl _ 0 _ rfl HO0.out a k c ((l.take k).map (Value.int .i64)) rfl (by simp; omega) HN0.out (HRT.out _ HB0.out).hnews (oneI .i64 _) (by unfold maxLen; omega) (by omega) HB0.out.size ?_)
  intro a1 c1 w1 hown hgrow _
  have hb1 : Below w.heap.size w w1 := HB0.out.grown hgrow HB0.out.size (fun j hj => by simp [Value.ownBlock] at hj; omega)
  have hown1 : w1.ownsRow w.heap.size 3 1 (.slice a1 k c1) k ((l.take k).map (Value.int .i64)) := by simpa using hown
  have HB1 := Lib.hid hb1
  have HOWN := Lib.hid hown1
  clear hown hown1 hgrow hb1
  go_wp2_with fail
  have hs1b := HB1.out.drew.size
  have HB1A : Hid (Below w.heap.size w (w1.drew.alloc (.cells #[(.int .i64 b)] 3))) := HB1.out.drew.alloc hs1b _
  have HOWN2 : Hid ((w1.drew.alloc (.cells #[(.int .i64 b)] 3)).ownsRow w.heap.size 3 1 (.slice a1 k c1) k ((l.take k).map (Value.int .i64))) := World.ownsRow.alloc (w := w1.drew) HOWN.out _
  have HNEW : Hid (∀ p, some (⟨w1.heap.size, 0, none⟩ : Addr) = some p → ∀ j u, [(Value.int .i64) b][j]? = some u → (w1.drew.alloc (.cells #[(.int .i64 b)] 3)).cell? (p.add j) = some u) :=
    (readsV_block (xs := [(.int .i64 b)]) (heap_alloc_new w1.drew _)).hnews
  refine reg_start (fun _ => True) (by kernel_rfl) (trivial) (fun hHeld => ?_)
  refine rt 0 hHeld ?_
  refine rt 1 hHeld ?_
  refine rt 4 hHeld ?_
  refine rt 5 hHeld ?_
  refine rt 6 hHeld ?_
  refine reg_loud (i := 2) rfl (by kernel_rfl) rfl (fun K hK => ?_)
  go_simp
  refine hK.out _ _ (trivial) (fun hNew => ?_)
  clear hK K hHeld
  have hHeld := hNew
  clear hNew
  try simp only [Act.put, List.setIfInBounds_toArray, List.set_cons_zero, List.set_cons_succ]
  refine reg_loud (i := 3) rfl (by kernel_rfl) rfl (fun K hK => ?_)
  refine wp_appendL _ _ 22 rfl w.heap.size 3 Tryz.infoIntG Tryz.underlying22 rfl _ k _ rfl HOWN2.out (some ⟨w1.heap.size, 0, none⟩) 1 1 [(.int .i64 b)] rfl rfl (fun h => by cases h) HNEW.out (oneI .i64 [b]) (by unfold maxLen; omega) (by omega) HB1A.out.size ?_
  intro a2 c2 w2 hown2 hgrow2 _
  have hb2 : Below w.heap.size w w2 := HB1A.out.grown hgrow2 HB1A.out.size (fun j hj => (own_lt HOWN2.out hj).1)
  have HB2 := Lib.hid hb2
  have HO2 := Lib.hid hown2
  clear hown2 hgrow2 hb2
  refine hK.out _ _ (trivial) (fun hNew => ?_)
  clear hK K hHeld
  have hHeld := hNew
  clear hNew
  try simp only [Act.put, List.setIfInBounds_toArray, List.set_cons_zero, List.set_cons_succ]
  refine reg_loud (i := 7) rfl (by kernel_rfl) rfl (fun K hK => ?_)
  refine wp_appendL _ _ 22 rfl w.heap.size 3 Tryz.infoIntG Tryz.underlying22 rfl _ (k + 1) _ rfl HO2.out (offA a k c) (l.length - k) (c - k) ((l.drop k).map (Value.int .i64)) rfl (by simp) HNIL.out (HRD.out w2 (HB2.out)).hnews (oneI .i64 _) (by unfold maxLen; omega) (by omega) HB2.out.size ?_
  intro a3 c3 w3 hown3 hgrow3 _
  have hb3 : Below w.heap.size w w3 := HB2.out.grown hgrow3 HB2.out.size (fun j hj => (own_lt HO2.out hj).1)
  have HB3 := Lib.hid hb3
  have HO3 := Lib.hid hown3
  clear hown3 hgrow3 hb3
  refine hK.out _ _ (trivial) (fun hNew => ?_)
  clear hK K hHeld
  have hHeld := hNew
  clear hNew
  try simp only [Act.put, List.setIfInBounds_toArray, List.set_cons_zero, List.set_cons_succ]
  refine rt 8 hHeld ?_
  refine reg_done (by kernel_rfl) ?_ _
  go_wp2_with fail
  go_ret
  refine ⟨_, rfl, ?_, HB3.out⟩
  have := HO3.out
  rw [show (insA l k b).map (Value.int .i64) = (l.take k).map (Value.int .i64) ++ [(.int .i64 b)] ++ (l.drop k).map (Value.int .i64) by simp [insA]]
  rw [show (insA l k b).length = k + 1 + (l.length - k) by rw [insA_len hk]; omega]
  exact this


set_option maxHeartbeats 800000 in
theorem ref6Rank_any (a : Option Addr) (c n : Nat) (l : List Int) (k : Nat) (x : Int) (w : World) (hn : n = l.length) (hr : Reads w .i64 a l) (hl : l.length ≤ 1000000) (hk : k ≤ 1000000000) :
    Calls Tryz.prog 35 #[.slice a n c, .int .i64 k, .int .i64 x] w fun e w' => e = .returned (.int .i64 (cnt (l.take k) x : Int)) ∧ w = w' := by
  subst hn
  go_enter Tryz.func35, Tryz.ntmps35
  go_wp2_with fail
  go_loop [7, 8] (fun v i => ∃ j : Nat, j ≤ k ∧ j ≤ l.length ∧ i = .int .i64 j ∧ v = .int .i64 (cnt (l.take j) x : Int)) (fun _ i => l.length - (intOf i).toNat)
  case atStart => exact ⟨0, Nat.zero_le _, Nat.zero_le _, rfl, rfl⟩
  case round =>
    obtain ⟨j, hj, hj2, rfl, rfl⟩ := hrel
    by_cases hlt : j < k ∧ j < l.length
    · obtain ⟨h1, h2⟩ := hlt
      obtain ⟨b, off, rfl, _, hc⟩ := hr.some (by omega)
      have e1 := hc j h2
      have hs : cnt (l.take (j + 1)) x = cnt (l.take j) x + (if l[j]?.getD 0 = x then 1 else 0) := by
        rw [List.take_succ_eq_append_getElem h2, cnt_snoc, List.getElem?_eq_getElem h2]; rfl
      have hle : cnt (l.take j) x ≤ j := by
        unfold cnt
        have := List.countP_le_length (p := fun y => y == x) (l := l.take j)
        rw [List.length_take] at this; omega
      have HS := Lib.hid hs
      have d1 : decide (j < l.length) = true := decide_eq_true h2
      clear hc hs
      generalize l[j]?.getD 0 = y at *
      generalize cnt (l.take j) x = q at *
      by_cases hy : y = x
      · subst hy
        have HS2 := HS.out
        rw [if_pos rfl] at HS2
        have HS2 := Lib.hid HS2
        go_wp2_with fail
        go_round
        case rel => exact ⟨j + 1, by omega, by omega, by go_num, by rw [HS2.out]; go_num⟩
        case measure => simp [intOf]; omega
      · have HS2 := HS.out
        rw [if_neg hy] at HS2
        have HS2 := Lib.hid HS2
        go_wp2_with fail
        go_round
        case rel => exact ⟨j + 1, by omega, by omega, by go_num, by rw [HS2.out]; rfl⟩
        case measure => simp [intOf]; omega
    · have he : l.take j = l.take k := by
        rcases Nat.lt_or_ge j k with h | h
        · rw [List.take_of_length_le (by omega), List.take_of_length_le (by omega)]
        · obtain rfl : j = k := by omega
          rfl
      have HE : Hid ((cnt (l.take j) x : Int) = (cnt (l.take k) x : Int)) := by show _ = _; rw [he]
      clear he
      generalize (cnt (l.take j) x : Int) = q at *
      by_cases h1 : j < k
      · have d1 : decide (j < l.length) = false := decide_eq_false (by omega)
        go_wp2_with fail
        go_ret
        exact ⟨ret_int HE.out, rfl⟩
      · have d1 : decide (j < k) = false := decide_eq_false (by omega)
        go_wp2_with fail
        go_ret
        exact ⟨ret_int HE.out, rfl⟩

set_option maxHeartbeats 800000 in
theorem ref6Below_any (a : Option Addr) (c n : Nat) (l : List Int) (x : Int) (w : World) (hn : n = l.length) (hr : Reads w .i64 a l) (hl : l.length ≤ 1000000) :
    Calls Tryz.prog 34 #[.slice a n c, .int .i64 x] w fun e w' => e = .returned (.int .i64 (belowL l x : Int)) ∧ w = w' := by
  subst hn
  go_enter Tryz.func34, Tryz.ntmps34
  go_wp2_with fail
  go_loop [5, 6] (fun v i => ∃ j : Nat, j ≤ l.length ∧ i = .int .i64 j ∧ v = .int .i64 (belowL (l.take j) x : Int)) (fun _ i => l.length - (intOf i).toNat)
  case atStart => exact ⟨0, Nat.zero_le _, rfl, rfl⟩
  case round =>
    obtain ⟨j, hj2, rfl, rfl⟩ := hrel
    by_cases h2 : j < l.length
    · obtain ⟨b, off, rfl, _, hc⟩ := hr.some (by omega)
      have e1 := hc j h2
      have hs : belowL (l.take (j + 1)) x = belowL (l.take j) x + (if l[j]?.getD 0 < x then 1 else 0) := by
        unfold belowL
        rw [List.take_succ_eq_append_getElem h2, List.countP_append, List.countP_singleton, List.getElem?_eq_getElem h2]
        simp
      have hle : belowL (l.take j) x ≤ j := by
        unfold belowL
        have := List.countP_le_length (p := fun y => decide (y < x)) (l := l.take j)
        rw [List.length_take] at this; omega
      have HS := Lib.hid hs
      clear hc hs
      generalize l[j]?.getD 0 = y at *
      generalize belowL (l.take j) x = q at *
      by_cases hy : y < x
      · have HS2 := HS.out
        rw [if_pos hy] at HS2
        have HS2 := Lib.hid HS2
        go_wp2_with fail
        go_round
        case rel => exact ⟨j + 1, by omega, by go_num, by rw [HS2.out]; go_num⟩
        case measure => simp [intOf]; omega
      · have HS2 := HS.out
        rw [if_neg hy] at HS2
        have HS2 := Lib.hid HS2
        have d2 : decide (y < x) = false := decide_eq_false hy
        go_wp2_with fail
        go_round
        case rel => exact ⟨j + 1, by omega, by go_num, by rw [HS2.out]; rfl⟩
        case measure => simp [intOf]; omega
    · obtain rfl : j = l.length := by omega
      have HE : Hid ((belowL (l.take l.length) x : Int) = (belowL l x : Int)) := by show _ = _; rw [List.take_length]
      generalize (belowL (l.take l.length) x : Int) = q at *
      go_wp2_with fail
      go_ret
      exact ⟨ret_int HE.out, rfl⟩

set_option maxHeartbeats 800000 in
theorem ref6Good_yes (a : Option Addr) (c n : Nat) (l : List Int) (w : World) (hn : n = l.length) (hr : Reads w .i64 a l) (hl : l.length ≤ 1000000) (hs : ∀ x ∈ l, 0 ≤ x ∧ x < 257) :
    Calls Tryz.prog 37 #[.slice a n c] w fun e w' => e = .returned (.bool true) ∧ w = w' := by
  subst hn
  go_enter Tryz.func37, Tryz.ntmps37
  go_wp2_with fail
  go_loop [3] (fun i => ∃ j : Nat, j ≤ l.length ∧ i = .int .i64 j) (fun i => l.length - (intOf i).toNat)
  case atStart => exact ⟨0, Nat.zero_le _, rfl⟩
  case round =>
    obtain ⟨j, hj2, rfl⟩ := hrel
    by_cases h2 : j < l.length
    · obtain ⟨b, off, rfl, _, hc⟩ := hr.some (by omega)
      have e1 := hc j h2
      have hx := hs _ (List.getElem_mem h2)
      rw [List.getElem?_eq_getElem h2, Option.getD_some] at e1
      clear hc
      generalize l[j] = y at *
      have hi := symIs_true hx.1 hx.2
      go_wp2_with (go_at_call 33; refine (refIs_any _ _).mono ?_; rintro e w' ⟨rfl, rfl⟩)
      go_round
      case rel => exact ⟨j + 1, by omega, by go_num⟩
      case measure => simp [intOf]; omega
    · obtain rfl : j = l.length := by omega
      go_wp2_with fail
      go_ret
      exact ⟨rfl, rfl⟩
set_option maxHeartbeats 800000 in
theorem ref6Good_no (a : Option Addr) (c n k0 : Nat) (l : List Int) (w : World) (hn : n = l.length) (hr : Reads w .i64 a l) (hl : l.length ≤ 1000000) (hk : k0 < l.length) (hs : ∀ i (hi : i < k0), 0 ≤ l[i]'(by omega) ∧ l[i]'(by omega) < 257) (hx : ¬ (0 ≤ l[k0] ∧ l[k0] < 257)) :
    Calls Tryz.prog 37 #[.slice a n c] w fun e w' => e = .returned (.bool false) ∧ w = w' := by
  subst hn
  go_enter Tryz.func37, Tryz.ntmps37
  go_wp2_with fail
  go_loop [3] (fun i => ∃ j : Nat, j ≤ k0 ∧ i = .int .i64 j) (fun i => l.length - (intOf i).toNat)
  case atStart => exact ⟨0, Nat.zero_le _, rfl⟩
  case round =>
    obtain ⟨j, hj2, rfl⟩ := hrel
    have h2 : j < l.length := by omega
    obtain ⟨b, off, rfl, _, hc⟩ := hr.some (by omega)
    have e1 := hc j h2
    rw [List.getElem?_eq_getElem h2, Option.getD_some] at e1
    by_cases h3 : j < k0
    · have hx' := hs j h3
      clear hc hs hx
      generalize l[j] = y at *
      have hi := symIs_true hx'.1 hx'.2
      go_wp2_with (go_at_call 33; refine (refIs_any _ _).mono ?_; rintro e w' ⟨rfl, rfl⟩)
      go_round
      case rel => exact ⟨j + 1, by omega, by go_num⟩
      case measure => simp [intOf]; omega
    · obtain rfl : j = k0 := by omega
      have hi := symIs_false hx
      clear hc hs hx
      generalize l[j] = y at *
      go_wp2_with (go_at_call 33; refine (refIs_any _ _).mono ?_; rintro e w' ⟨rfl, rfl⟩)
      go_ret
      exact ⟨rfl, rfl⟩

end Go.Proofs.YtacoeohmdngnkaaGreatDoor

namespace Go.Proofs.YtacoeohmdngnkaaGreatDoor
set_option linter.unusedVariables false
set_option linter.unusedSimpArgs false
open Go.RowKit

def natL (r : List Nat) : List Int := r.map fun x : Nat => (x : Int)
theorem natL_len (r : List Nat) : (natL r).length = r.length := by simp [natL]
theorem natV_natL (r : List Nat) : r.map natV = (natL r).map (Value.int .i64) := by simp [natL, natV, Function.comp]
/-- A literal of the call's own. -/
theorem own_lit {e : TypeId} {base n : Nat} (xs : List Value) (W : World) (hn : n = xs.length) (hb : base ≤ W.heap.size) (hm : n ≤ maxLen) : (W.alloc (.cells xs.toArray e)).ownsRow base e 1 (.slice (some ⟨W.heap.size, 0, none⟩) n n) n xs :=
  ⟨by omega, .inr ⟨W.heap.size, n, xs.toArray, rfl, hb, heap_alloc_new W _, Nat.le_refl _, hm, by simp [hn], by simp [hn]⟩⟩
/-- The row of a slice that the call owns, as one that is read. -/
theorem own_readsN {w : World} {base n c : Nat} {a : Option Addr} {r : List Nat} (h : w.ownsRow base 3 1 (.slice a n c) n (r.map natV)) : Reads w .i64 a (natL r) := by
  rw [natV_natL] at h; exact own_reads h

end Go.Proofs.YtacoeohmdngnkaaGreatDoor

namespace Go.Proofs.YtacoeohmdngnkaaGreatDoor
set_option linter.unusedVariables false
set_option linter.unusedSimpArgs false
open Go.RowKit

theorem sufB_of {l : List Int} {a b : Nat} (h : sufLt l a b) : sufB l a b = true := sufB_iff.2 h
theorem sufB_not {l : List Int} {a b : Nat} (h : ¬ sufLt l a b) : sufB l a b = false := by rw [← Bool.not_eq_true]; exact fun e => h (sufB_iff.1 e)

set_option maxHeartbeats 1600000 in
theorem ref6Less_any (s : ByteArray) (a b : Nat) (w : World) (ha : a ≤ s.size) (hb : b ≤ s.size) (hs : s.size ≤ 1000000) :
    Calls Tryz.prog 28 #[.string s, .int .i64 a, .int .i64 b] w fun e w' => e = .returned (.bool (sufB (symsT (tOfS s)) a b)) ∧ ∃ n, w' = w.drewN n := by
  go_enter Tryz.func28, Tryz.ntmps28
  go_wp2_with fail
  go_loopw [1, 2] (fun v1 v2 wr => ∃ d : Nat, a + d ≤ s.size ∧ b + d ≤ s.size ∧ v1 = .int .i64 (a + d : Nat) ∧ v2 = .int .i64 (b + d : Nat) ∧ eqK (symsT (tOfS s)) d a b ∧ ∃ n, wr = w.drewN n) (fun v1 _ _ => s.size - (intOf v1).toNat)
  case atStart => exact ⟨0, by omega, by omega, rfl, rfl, fun x hx => by omega, 0, rfl⟩
  case round =>
    obtain ⟨d, h1, h2, rfl, rfl, heq, nd, rfl⟩ := hrel
    have hsh := suf_shift heq
    by_cases hin : a + d < s.size ∧ b + d < s.size
    · obtain ⟨k1, k2⟩ := hin
      have e1 := tOfS_sy k1
      have e2 := tOfS_sy k2
      have HSH : Hid (sufLt (symsT (tOfS s)) a b ↔ sy (symsT (tOfS s)) (a + d) < sy (symsT (tOfS s)) (b + d) ∨ (sy (symsT (tOfS s)) (a + d) = sy (symsT (tOfS s)) (b + d) ∧ sufLt (symsT (tOfS s)) (a + d + 1) (b + d + 1))) := hsh.trans suf_cons
      have HEQ := Lib.hid heq
      have HE1 := Lib.hid e1
      have HE2 := Lib.hid e2
      clear hsh heq e1 e2
      obtain ⟨x, hx⟩ : ∃ x, a + d = x := ⟨_, rfl⟩
      obtain ⟨y, hy⟩ : ∃ y, b + d = y := ⟨_, rfl⟩
      rw [hx] at k1
      rw [hy] at k2
      rw [hx, hy]
      have HX := Lib.hid hx
      have HY := Lib.hid hy
      clear hx hy
      have i0 : (0 : Int) ≤ (x : Int) := by omega
      have i1 : (x : Int) < (s.size : Int) := by omega
      have j0 : (0 : Int) ≤ (y : Int) := by omega
      have j1 : (y : Int) < (s.size : Int) := by omega
      have hE1 : sy (symsT (tOfS s)) (a + d) = (s[x].toNat : Int) + 1 := by
        have h1 := HE1.out
        have h2 := HX.out
        subst h2; exact h1
      have hE2 : sy (symsT (tOfS s)) (b + d) = (s[y].toNat : Int) + 1 := by
        have h1 := HE2.out
        have h2 := HY.out
        subst h2; exact h1
      have E1 := Lib.hid hE1
      have E2 := Lib.hid hE2
      clear hE1 hE2
      by_cases he : s[x].toNat = s[y].toNat
      · have hne : (s[x].toNat != s[y].toNat) = false := by simp [he]
        have HE := Lib.hid he
        clear he
        go_wp2_with fail
        go_quiet (fail)
        go_wp2_with fail
        go_roundw
        case rel =>
          have h1 := HX.out
          have h2 := HY.out
          exact ⟨d + 1, by omega, by omega, by congr 1; omega, by congr 1; omega, eqK_succ HEQ.out (by rw [E1.out, E2.out, HE.out]), _, rfl⟩
        case measure => simp [intOf]; omega
      · have hne : (s[x].toNat != s[y].toNat) = true := by simp [he]
        have HR : Hid (decide (s[x].toNat < s[y].toNat) = sufB (symsT (tOfS s)) a b) := by
          show _ = _
          by_cases hl : s[x].toNat < s[y].toNat
          · rw [decide_eq_true hl, sufB_of (HSH.out.2 (Or.inl (by rw [E1.out, E2.out]; omega)))]
          · rw [decide_eq_false hl, sufB_not (fun h => by
              rcases HSH.out.1 h with k | ⟨k, _⟩
              · rw [E1.out, E2.out] at k; omega
              · rw [E1.out, E2.out] at k; omega)]
        clear he
        go_wp2_with fail
        go_quiet (fail)
        go_wp2_with fail
        go_quiet (fail)
        go_wp2_with fail
        go_ret
        exact ⟨ret_bool HR.out, _, by rw [World.drewN_drewN, World.drewN_drewN]⟩
    · have HR : Hid (decide (b + d < a + d) = sufB (symsT (tOfS s)) a b) := by
        show _ = _
        have e0 := tOfS_end s
        have hn := (symsT_is (tOfS_byte s)).nn
        by_cases hl : b + d < a + d
        · have e1 : a + d = s.size := by omega
          have h1 := hn (b + d) (by rw [symsT_len, tOfS_len]; omega)
          have h2 := tOfS_sy (show b + d < s.size by omega)
          rw [decide_eq_true hl, sufB_of (hsh.2 (suf_cons.2 (Or.inl (by rw [e1, e0, h2]; omega))))]
        · rw [decide_eq_false hl, sufB_not (fun h => by
            have h3 := hsh.1 h
            rcases Nat.lt_or_ge (a + d) s.size with k | k
            · have e1 : b + d = s.size := by omega
              have h2 := tOfS_sy k
              rw [e1] at h3
              rcases suf_cons.1 h3 with q | ⟨q, _⟩ <;> rw [e0, h2] at q <;> omega
            · have e1 : a + d = b + d := by omega
              rw [e1] at h3
              exact sufLt.irrefl h3)]
      have hor : ¬ a + d < s.size ∨ (a + d < s.size ∧ ¬ b + d < s.size) := by omega
      clear hsh heq
      generalize a + d = x at *
      generalize b + d = y at *
      rcases hor with h | ⟨h, h'⟩
      · have d1 : decide (x < s.size) = false := decide_eq_false h
        go_wp2_with fail
        go_ret
        exact ⟨ret_bool HR.out, _, rfl⟩
      · have d2 : decide (y < s.size) = false := decide_eq_false h'
        go_wp2_with fail
        go_ret
        exact ⟨ret_bool HR.out, _, rfl⟩

theorem natV_insA (r : List Nat) (k p : Nat) : (insA (natL r) k (p : Int)) = natL (insA r k p) := by simp [insA, natL, List.map_take, List.map_drop]

set_option maxHeartbeats 3200000 in
theorem ref6Rows_any (s : ByteArray) (w : World) (hs : s.size ≤ 100000) : Calls Tryz.prog 9 #[.string s] w (RowsPost w.heap.size w (symsT (tOfS s))) := by
  go_enter Tryz.func9, Tryz.ntmps9
  go_wp2_with fail
  go_loopw [3, 4] (fun v3 v4 wr => ∃ (q : Nat) (r : List Nat), q ≤ s.size + 1 ∧ v4 = .int .i64 ((q : Int) - 1) ∧ r.Perm (List.range' q (s.size + 1 - q)) ∧ r.Pairwise (sufLt (symsT (tOfS s))) ∧ wr.ownsRow w.heap.size 3 1 v3 r.length (r.map natV) ∧ Below w.heap.size w wr) (fun _ v4 _ => (intOf v4 + 1).toNat)
  case atStart => exact ⟨s.size + 1, [], Nat.le_refl _, by congr 1; omega, by simp, List.Pairwise.nil, World.ownsRow_nil _ _ _ _, Below.refl _ _⟩
  case round =>
    obtain ⟨q, r, hq, rfl, hperm, hsort, hown, hb⟩ := hrel
    have hs1 := hb.size
    have hlen : r.length = s.size + 1 - q := by have := hperm.length_eq; simpa using this
    rcases Nat.eq_zero_or_pos q with rfl | hq0
    · have hrows : IsRows (symsT (tOfS s)) r := ⟨by rw [symsT_len, tOfS_len, List.range_eq_range']; exact hperm, hsort⟩
      have HRW := Lib.hid hrows
      have HOW := Lib.hid hown
      clear hrows hown hperm hsort
      go_wp2_with fail
      go_ret
      exact ⟨r, HRW.out, _, rfl, HOW.out, hb⟩
    · obtain ⟨p, rfl⟩ : ∃ p, q = p + 1 := ⟨q - 1, by omega⟩
      obtain ⟨a, c, rfl, hnil, _⟩ := own_slice hown
      have hcap : r.length ≤ c ∧ c ≤ maxLen := by
        rcases hown.2 with ⟨hv, h0⟩ | ⟨g, cap, cur, hv, _, _, h1, h2, _⟩
        · injection hv with _ _ e3; subst e3; rw [h0]; exact ⟨Nat.le_refl _, by unfold maxLen; omega⟩
        · injection hv with _ _ e3; subst e3; exact ⟨h1, h2⟩
      have hmem : ∀ i (hi : i < r.length), p < r[i] ∧ r[i] ≤ s.size := fun i hi => by
        have := List.mem_range'_1.1 (hperm.mem_iff.1 (List.getElem_mem hi))
        omega
      have HMEM := Lib.hid hmem
      have HPERM := Lib.hid hperm
      have HSORT := Lib.hid hsort
      have HOW := Lib.hid hown
      have HNIL := Lib.hid hnil
      have HCAP := Lib.hid hcap
      have HLEN := Lib.hid hlen
      have hrl : r.length ≤ 100001 := by omega
      have HB := Lib.hid hb
      clear hperm hsort hown hnil hcap hmem hlen hb
      have ecast : ((p + 1 : Nat) : Int) - 1 = (p : Int) := by omega
      rw [ecast]
      clear ecast
      go_wp2_with fail
      obtain ⟨wo, rfl⟩ : ∃ wo : World, wo = wr := ⟨_, rfl⟩
      go_loopw [5, 6] (fun v5 v6 wx => ∃ lo hi : Nat, lo ≤ hi ∧ hi ≤ r.length ∧ v5 = .int .i64 lo ∧ v6 = .int .i64 hi ∧ (∀ i (h : i < r.length), i < lo → sufLt (symsT (tOfS s)) r[i] p) ∧ (∀ i (h : i < r.length), hi ≤ i → ¬ sufLt (symsT (tOfS s)) r[i] p) ∧ ∃ n, wx = wo.drewN n) (fun v5 v6 _ => (intOf v6).toNat - (intOf v5).toNat)
      case atStart => exact ⟨0, r.length, by omega, Nat.le_refl _, rfl, rfl, fun i h h' => by omega, fun i h h' => by omega, 0, rfl⟩
      case round =>
        obtain ⟨lo, hi, h1, h2, rfl, rfl, hlo, hhi, nd, rfl⟩ := hrel
        have HLO := Lib.hid hlo
        have HHI := Lib.hid hhi
        clear hlo hhi
        by_cases hlt : lo < hi
        · obtain ⟨m, hm⟩ : ∃ m, (lo + hi) / 2 = m := ⟨_, rfl⟩
          have hm1 : lo ≤ m := by omega
          have hm2 : m < hi := by omega
          have hmr : m < r.length := by omega
          have hmi : ((lo : Int) + (hi : Int)) / 2 = (m : Int) := by omega
          obtain ⟨g, cap, hv, _, _, _, _, hcell, _⟩ := own_some HOW.out (by omega)
          injection hv with ha hb1 hc1
          subst ha
          clear hb1 hc1
          have e1 : (wo.drewN nd).cell? ⟨g, m, none⟩ = some (.int .i64 (r[m] : Int)) := by
            show wo.cell? _ = _
            rw [hcell m hmr, List.getElem?_map, List.getElem?_eq_getElem hmr]; rfl
          have hx := HMEM.out m hmr
          have hless := ref6Less_any s r[m] p (wo.drewN nd) hx.2 (by omega) (by omega)
          have HT : Hid (sufLt (symsT (tOfS s)) r[m] p → ∀ i (h : i < r.length), i < m + 1 → sufLt (symsT (tOfS s)) r[i] p) := fun hs i h hi' => by
            rcases Nat.lt_or_ge i m with k | k
            · exact (List.pairwise_iff_getElem.1 HSORT.out i m h hmr k : sufLt _ _ _).trans hs
            · obtain rfl : i = m := by omega
              exact hs
          have HF : Hid (¬ sufLt (symsT (tOfS s)) r[m] p → ∀ i (h : i < r.length), m ≤ i → ¬ sufLt (symsT (tOfS s)) r[i] p) := fun hs i h hi' hc => by
            rcases Nat.lt_or_ge m i with k | k
            · exact hs ((List.pairwise_iff_getElem.1 HSORT.out m i hmr h k : sufLt _ _ _).trans hc)
            · obtain rfl : i = m := by omega
              exact hs hc
          have HLESS := Lib.hid hless
          have HM := Lib.hid hm
          clear hcell hless hm
          generalize r[m] = x at *
          by_cases hsf : sufLt (symsT (tOfS s)) x p
          · have HLS := HLESS.out
            rw [sufB_of hsf] at HLS
            have HLS := Lib.hid HLS
            have HT2 := Lib.hid (HT.out hsf)
            clear hsf HLESS
            go_wp2_with fail
            refine HLS.out.mono ?_
            rintro e w' ⟨rfl, nq, rfl⟩
            go_wp2_with fail
            go_roundw
            case rel => exact ⟨m + 1, hi, by omega, h2, by go_num, rfl, HT2.out, HHI.out, _, rfl⟩
            case measure => simp [intOf]; omega
          · have HLS := HLESS.out
            rw [sufB_not hsf] at HLS
            have HLS := Lib.hid HLS
            have HF2 := Lib.hid (HF.out hsf)
            clear hsf HLESS
            go_wp2_with fail
            refine HLS.out.mono ?_
            rintro e w' ⟨rfl, nq, rfl⟩
            go_wp2_with fail
            go_roundw
            case rel => exact ⟨lo, m, by omega, by omega, rfl, rfl, HLO.out, HF2.out, _, rfl⟩
            case measure => simp [intOf]; omega
        · obtain rfl : lo = hi := by omega
          have hown : (wo.drewN nd).ownsRow w.heap.size 3 1 (.slice a r.length c) r.length (r.map natV) := HOW.out
          have hln : (natL r).length = r.length := natL_len r
          have hrv : ReadsV (wo.drewN nd) a ((natL r).map (Value.int .i64)) := by
            rw [← natV_natL]; exact readsV_own hown
          have hin := ref6In_any a c (natL r) lo (p : Int) (wo.drewN nd) hrv (by omega) (by rw [hln]; exact HCAP.out.1) HCAP.out.2 (by omega) (fun h => by rw [hln]; exact HNIL.out h)
          rw [hln, natV_insA] at hin
          have HIN := Lib.hid hin
          have HB2 := Lib.hid (below_dN HB.out nd)
          have hrp : (insA r lo p).Perm (List.range' p (s.size + 1 - p)) := by
            refine (insA_perm r lo p).trans ?_
            rw [show s.size + 1 - p = (s.size + 1 - (p + 1)) + 1 by omega, List.range'_succ]
            exact HPERM.out.cons p
          have hrs : (insA r lo p).Pairwise (sufLt (symsT (tOfS s))) := by
            refine insA_sorted (by omega) HSORT.out (fun i hi h => HLO.out i hi h) (fun i hi h => ?_)
            have hm := HMEM.out i hi
            have hl : (symsT (tOfS s)).length = s.size + 1 := by rw [symsT_len, tOfS_len]
            rcases suf_tri (symsT_is (tOfS_byte s)).nn (a := p) (b := r[i]) (by omega) (by omega) (by omega) with k | k
            · exact k
            · exact absurd k (HHI.out i hi h)
          have HRP := Lib.hid hrp
          have HRS := Lib.hid hrs
          have hs2 := HB2.out.size
          clear hown hln hrv hin hrp hrs
          go_wp2_with fail
          refine HIN.out.mono ?_
          rintro e w' ⟨v, rfl, hov, hb'⟩
          rw [natL_len, ← natV_natL] at hov
          have HOV := Lib.hid (own_mono hov hs2)
          have HB3 := Lib.hid (HB2.out.trans (hb'.mono hs2))
          clear hov hb'
          go_wp2_with fail
          go_roundw
          case rel => exact ⟨p, insA r lo p, by omega, rfl, HRP.out, HRS.out, HOV.out, HB3.out⟩
          case measure => simp [intOf]

end Go.Proofs.YtacoeohmdngnkaaGreatDoor

namespace Go.Proofs.YtacoeohmdngnkaaGreatDoor
set_option linter.unusedVariables false
set_option linter.unusedSimpArgs false
open Go.RowKit

set_option maxHeartbeats 1600000 in
theorem ref6Last_any (s : ByteArray) (w : World) (hs : s.size ≤ 100000) : Calls Tryz.prog 10 #[.string s] w (LastPost w.heap.size w (tOfS s)) := by
  go_enter Tryz.func10, Tryz.ntmps10
  have hrows := ref6Rows_any s w hs
  have HROWS := Lib.hid hrows
  clear hrows
  go_wp2_with fail
  refine HROWS.out.mono ?_
  rintro e w3 ⟨r, hrw, v, rfl, hown, hb3⟩
  have hls : (symsT (tOfS s)).length = s.size + 1 := by rw [symsT_len, tOfS_len]
  have hrl : r.length = s.size + 1 := by rw [hrw.len]; exact hls
  obtain ⟨n, hn⟩ : ∃ n, s.size + 1 = n := ⟨_, rfl⟩
  rw [hn] at hrl hls
  rw [hrl] at hown
  have hn0 : 0 < n := by omega
  have hnm : n ≤ 100001 := by omega
  obtain ⟨g3, cap3, rfl, hg3a, hg3b, _, _, hc3, _⟩ := own_some hown hn0
  have HC3 : Hid (∀ W, Below w3.heap.size w3 W → ∀ j, j < n → W.cell? ⟨g3, j, none⟩ = some (.int .i64 ((r[j]?.getD 0 : Nat) : Int))) := by
    intro W hW j hj
    refine (hW.cell (p := ⟨g3, j, none⟩) hg3b).trans ?_
    rw [hc3 j hj, List.getElem?_map, List.getElem?_eq_getElem (by omega)]
    rfl
  have hrlt : ∀ k, k < n → r[k]?.getD 0 < n := by
    intro k hk
    have h1 : k < r.length := by omega
    have h2 := hrw.lt h1
    rw [getD_eq h1]; omega
  have HLM : Hid (∀ k, k < n → (lastL (symsT (tOfS s)) r)[k]? = some (if r[k]?.getD 0 = 0 then 0 else sy (symsT (tOfS s)) (r[k]?.getD 0 - 1))) := by
    intro k hk
    have h0 := hrlt k hk
    unfold lastL
    rw [List.getElem?_map, List.getElem?_eq_getElem (show k < r.length by omega), hls]
    rw [List.getElem?_eq_getElem (show k < r.length by omega), Option.getD_some] at h0
    simp only [Option.map_some, Option.getD_some]
    congr 1
    by_cases e : r[k] = 0
    · rw [if_pos e, e, show (0 + n - 1) % n = s.size by rw [← hn]; simp]
      exact tOfS_end s
    · rw [if_neg e]
      congr 1
      rw [show r[k] + n - 1 = (r[k] - 1) + n by omega, Nat.add_mod_right, Nat.mod_eq_of_lt (by omega)]
  have HIS : Hid (IsLast (tOfS s) (lastL (symsT (tOfS s)) r)) := ⟨tOfS_byte s, r, hrw, rfl⟩
  have hml : (lastL (symsT (tOfS s)) r).length = n := by rw [lastL_len]; exact hrl
  have HML := Lib.hid hml
  have HRL := Lib.hid hrlt
  have HN := Lib.hid hn
  have HB3 := Lib.hid hb3
  clear hown hb3 hrw hc3 hrl hml hrlt hls hn HROWS
  generalize lastL (symsT (tOfS s)) r = m at *
  go_wp2_with fail
  go_loopw [4, 5] (fun v i wr => ∃ k : Nat, k ≤ n ∧ i = .int .i64 k ∧ wr.ownsRow w3.heap.size 3 1 v k ((m.take k).map (Value.int .i64)) ∧ Below w3.heap.size w3 wr) (fun _ i _ => n - (intOf i).toNat)
  case atStart => exact ⟨0, Nat.zero_le _, rfl, World.ownsRow_nil _ _ _ _, Below.refl _ _⟩
  case round =>
    obtain ⟨k, hk, rfl, hown, hbw⟩ := hrel
    have hs' := hbw.size
    by_cases hlt : k < n
    · have e1 := HC3.out wr hbw k hlt
      have hx := HRL.out k hlt
      have hm := HLM.out k hlt
      have hol := Lib.hid (fun j hj => own_lt hown (k := j) hj)
      by_cases h0 : r[k]?.getD 0 = 0
      · rw [if_pos h0] at hm
        rw [h0] at e1
        rw [show ((0 : Nat) : Int) = 0 from rfl] at e1
        have htk : (m.take (k + 1)).map (Value.int .i64) = (m.take k).map (Value.int .i64) ++ [.int .i64 0] := by
          rw [List.take_add_one, hm, List.map_append]; rfl
        have HTK := Lib.hid htk
        clear htk hm h0
        generalize (m.take k).map (Value.int .i64) = row at *
        go_wp2_with (at_builtin; refine wpList_push rfl _ _ 22 rfl w3.heap.size 3 Tryz.infoIntG Tryz.underlying22 rfl _ _ _ rfl hown rfl rfl (by unfold maxLen; omega) (by omega) (by omega) ?_)
        intro v' w1 hown' hgrow
        have hnx' : Below w3.heap.size w3 w1 := hbw.grown hgrow hs' (fun j hj => (hol.out j hj).1)
        go_wp2_with fail
        go_roundw
        case rel => exact ⟨k + 1, by omega, by go_num, by rw [HTK.out]; exact hown', hnx'⟩
        case measure => simp [intOf]; omega
      · rw [if_neg h0] at hm
        obtain ⟨p, hp⟩ : ∃ p, r[k]?.getD 0 = p + 1 := ⟨r[k]?.getD 0 - 1, by omega⟩
        rw [hp] at e1 hx hm
        have hps : p < s.size := by have := HN.out; omega
        rw [show p + 1 - 1 = p from rfl, tOfS_sy hps] at hm
        have htk : (m.take (k + 1)).map (Value.int .i64) = (m.take k).map (Value.int .i64) ++ [.int .i64 ((s[p].toNat : Int) + 1)] := by
          rw [List.take_add_one, hm, List.map_append]; rfl
        have HTK := Lib.hid htk
        have hb : s[p].toNat < 256 := s[p].toNat_lt
        have i0 : (0 : Int) ≤ (p : Int) := by omega
        have i1 : (p : Int) < (s.size : Int) := by omega
        have ep : ((p + 1 : Nat) : Int) = (p : Int) + 1 := rfl
        rw [ep] at e1
        have d0 : ((p : Int) + 1 == 0) = false := by rw [beq_eq_false_iff_ne]; omega
        have d1 : (p : Int) + 1 - 1 = (p : Int) := by omega
        clear htk hm h0 hp ep
        generalize (m.take k).map (Value.int .i64) = row at *
        go_wp2_with (at_builtin; refine wpList_push rfl _ _ 22 rfl w3.heap.size 3 Tryz.infoIntG Tryz.underlying22 rfl _ _ _ rfl hown rfl rfl (by unfold maxLen; omega) (by omega) (by omega) ?_)
        intro v' w1 hown' hgrow
        have hnx' : Below w3.heap.size w3 w1 := hbw.grown hgrow hs' (fun j hj => (hol.out j hj).1)
        go_wp2_with fail
        go_roundw
        case rel => exact ⟨k + 1, by omega, by go_num, by rw [HTK.out]; exact hown', hnx'⟩
        case measure => simp [intOf]; omega
    · obtain rfl : k = n := by omega
      rw [List.take_of_length_le (by rw [HML.out]; exact Nat.le_refl _)] at hown
      have h3 := HB3.out.size
      go_wp2_with fail
      go_ret
      exact ⟨m, HIS.out, _, rfl, by rw [HML.out]; exact own_mono hown h3, HB3.out.trans (hbw.mono h3)⟩

end Go.Proofs.YtacoeohmdngnkaaGreatDoor

namespace Go.Proofs.YtacoeohmdngnkaaGreatDoor
set_option linter.unusedVariables false
set_option linter.unusedSimpArgs false
open Go.RowKit

/-- What the document's Back tells. -/
def RBackPost (B : Nat) (w : World) (m : List Int) (e : Ending) (w' : World) : Prop := ∃ s ok, e = .returned (.tuple #[.string s, .bool ok]) ∧ Below B w w' ∧
  (ok = true → IsLast (textOf m) m ∧ s = strOfNums (textOf m)) ∧ (ok = false → s = { data := #[] } ∧ ∀ t, ¬ IsLast t m)
theorem rback_no {B : Nat} {w w' : World} {m : List Int} (h : ∀ t, ¬ IsLast t m) (hb : Below B w w') : RBackPost B w m (.returned (.tuple #[.string { data := #[] }, .bool false])) w' :=
  ⟨_, _, rfl, hb, (fun h => by cases h), fun _ => ⟨rfl, h⟩⟩

theorem textOf_drop {m : List Int} {j : Nat} (h : j + 1 < m.length) : (textOf m).drop (m.length - 1 - (j + 1)) = (sy m (chain m j) - 1) :: (textOf m).drop (m.length - 1 - j) := by
  have hl := textOf_len m
  have h1 : m.length - 1 - (j + 1) < (textOf m).length := by omega
  rw [List.drop_eq_getElem_cons h1]
  have h2 := textOf_get (m := m) (i := m.length - 1 - (j + 1)) (by omega)
  rw [List.getElem?_eq_getElem h1] at h2
  injection h2 with h2
  rw [h2, show m.length - 2 - (m.length - 1 - (j + 1)) = j by omega, show m.length - 1 - (j + 1) + 1 = m.length - 1 - j by omega]

set_option maxHeartbeats 3200000 in
set_option maxRecDepth 100000 in
theorem ref6Back_any (a : Option Addr) (c n : Nat) (m : List Int) (w : World) (hn : n = m.length) (hr : Reads w .i64 a m) (hl : m.length ≤ 100000) :
    Calls Tryz.prog 14 #[.slice a n c] w (RBackPost w.heap.size w m) := by
  subst hn
  by_cases hsy : ∀ x ∈ m, 0 ≤ x ∧ x < 257
  · have HSY := Lib.hid hsy
    have hgood := ref6Good_yes a c m.length m w rfl hr (by omega) hsy
    have HGOOD := Lib.hid hgood
    clear hgood hsy
    go_enter Tryz.func14, Tryz.ntmps14
    go_wp2_with fail
    refine HGOOD.out.mono ?_
    rintro e w1 ⟨rfl, rfl⟩
    rcases Nat.eq_zero_or_pos m.length with h0 | hn0
    · have e2 : m = [] := List.eq_nil_of_length_eq_zero h0
      subst e2
      go_wp2_with fail
      go_ret2
      exact rback_no (fun t h => by have := h.len; simp at this) (Below.refl _ _)
    · have hne : ((m.length : Int) == 0) = false := by rw [beq_eq_false_iff_ne]; omega
      go_wp2_with fail
      clear hne
      obtain ⟨b, off, rfl, hbl, hcs⟩ := hr.some hn0
      have HRD : Hid (∀ W, Below w.heap.size w W → ∀ j, j < m.length → W.cell? ⟨b, off + j, none⟩ = some (.int .i64 (sy m j))) := by
        intro W hW j hj
        rw [(hW.cell (p := ⟨b, off + j, none⟩) hbl).trans (hcs j hj), sy_in hj]
        simp [hj]
      have HRM : Hid (∀ W, Below w.heap.size w W → Reads W .i64 (some ⟨b, off, none⟩) m) := by
        intro W hW i hi
        refine ⟨b, off, rfl, by have := hW.size; omega, fun j hj => (hW.cell (p := ⟨b, off + j, none⟩) hbl).trans (hcs j hj)⟩
      clear hcs hr HGOOD
      go_loopw [4, 5, 6] (fun v4 v5 v6 wr => ∃ j : Nat, j + 1 ≤ m.length ∧ v6 = .int .i64 ((j : Int) + 1) ∧ v5 = .int .i64 (chain m j : Int) ∧ wr.ownsRow w.heap.size 5 1 v4 j (((textOf m).drop (m.length - 1 - j)).map (Value.int .u8)) ∧ (∀ x, x < j → 1 ≤ sy m (chain m x)) ∧ Below w.heap.size w wr) (fun _ _ v6 _ => m.length - (intOf v6).toNat)
      case atStart =>
        refine ⟨0, by omega, rfl, rfl, ?_, (fun x hx => by omega), Below.refl _ _⟩
        rw [List.drop_eq_nil_of_le (by rw [textOf_len]; omega)]
        exact World.ownsRow_nil _ _ _ _
      case round => as_aux_lemma =>
        obtain ⟨j, hj, rfl, rfl, hown, hbs, hbw⟩ := hrel
        have hs' := hbw.size
        have HBS := Lib.hid hbs
        have HOWN := Lib.hid hown
        obtain ⟨a4, c4, rfl, hnil4, _⟩ := own_slice hown
        have HNIL := Lib.hid hnil4
        by_cases hlt : j + 1 < m.length
        · have hcl := chain_lt hn0 j
          have e1 := HRD.out wr hbw (chain m j) hcl
          have hxm := HSY.out (sy m (chain m j)) (by rw [sy_in hcl]; exact List.getElem_mem _)
          have hd0 : decide ((j : Int) + 1 < (m.length : Int)) = true := decide_eq_true (by omega)
          by_cases hx0 : sy m (chain m j) = 0
          · have HNO : Hid (∀ t, ¬ IsLast t m) := fun t h => by
              have h1 := h.len
              have h2 := h.sym (k := j) (by omega)
              have h3 := h.1 _ (List.getElem_mem (show t.length - 1 - j < t.length by omega))
              omega
            rw [hx0] at e1
            clear hbs hown hx0 hxm
            go_wp2_with fail
            go_ret2
            exact rback_no HNO.out hbw
          · have htd := textOf_drop hlt
            have hrk := ref6Rank_any (some ⟨b, off, none⟩) c m.length m (chain m j) (sy m (chain m j))
            have hbe := ref6Below_any (some ⟨b, off, none⟩) c m.length m (sy m (chain m j))
            have hch : ((belowL m (sy m (chain m j)) : Nat) : Int) + ((cnt (m.take (chain m j)) (sy m (chain m j)) : Nat) : Int) = (chain m (j + 1) : Int) := by
              show _ = ((lfL m (chain m j) : Nat) : Int)
              unfold lfL; omega
            have hb1 : belowL m (sy m (chain m j)) ≤ 100000 := by
              have := below_cnt_le m (sy m (chain m j)); omega
            have hb2 : cnt (m.take (chain m j)) (sy m (chain m j)) ≤ 100000 := by
              have := below_cnt_le m (sy m (chain m j))
              have := cnt_take_lt hcl
              omega
            have hsy1 : ∀ x, x < j + 1 → 1 ≤ sy m (chain m x) := fun x hx => by
              rcases Nat.lt_or_ge x j with k | k
              · exact hbs x k
              · obtain rfl : x = j := by omega
                omega
            have HS1 := Lib.hid hsy1
            have HTD := Lib.hid htd
            have HCH := Lib.hid hch
            have hk9 : chain m j ≤ 1000000000 := by omega
            have HRK : Hid (∀ W, Below w.heap.size w W → Calls Tryz.prog 35 #[.slice (some ⟨b, off, none⟩) m.length c, .int .i64 (chain m j : Int), .int .i64 (sy m (chain m j))] W fun e w' => e = .returned (.int .i64 (cnt (m.take (chain m j)) (sy m (chain m j)) : Int)) ∧ W = w') :=
              fun W hW => hrk W rfl (HRM.out W hW) (by omega) hk9
            have HBE : Hid (∀ W, Below w.heap.size w W → Calls Tryz.prog 34 #[.slice (some ⟨b, off, none⟩) m.length c, .int .i64 (sy m (chain m j))] W fun e w' => e = .returned (.int .i64 (belowL m (sy m (chain m j)) : Int)) ∧ W = w') :=
              fun W hW => hbe W rfl (HRM.out W hW) (by omega)
            clear hbs hown hsy1 htd hch hrk hbe hk9 HBS
            generalize cnt (m.take (chain m j)) (sy m (chain m j)) = z1 at *
            generalize belowL m (sy m (chain m j)) = z2 at *
            generalize sy m (chain m j) = x at *
            generalize chain m j = ρ at *
            have hw8 : IntKind.u8.wrap (x - 1) = x - 1 := by simp [IntKind.wrap, IntKind.bits, IntKind.signed]; omega
            have HLIT : Hid ((wr.alloc (.cells #[.int .u8 (x - 1)] 5)).ownsRow w.heap.size 5 1 (.slice (some ⟨wr.heap.size, 0, none⟩) 1 1) 1 [.int .u8 (x - 1)]) := own_lit [.int .u8 (x - 1)] wr rfl hs' (by unfold maxLen; omega)
            have HRV : Hid (ReadsV (wr.alloc (.cells #[.int .u8 (x - 1)] 5)) a4 (((textOf m).drop (m.length - 1 - j)).map (Value.int .u8))) := readsV_own (World.ownsRow.alloc HOWN.out _)
            have hnl : (((textOf m).drop (m.length - 1 - j)).map (Value.int .u8)).length = j := by simp [textOf_len]; omega
            have hone := oneI .u8 ((textOf m).drop (m.length - 1 - j))
            have HBA : Hid (Below w.heap.size w (wr.alloc (.cells #[.int .u8 (x - 1)] 5))) := hbw.alloc hs' _
            have HNL := Lib.hid hnl
            have HONE := Lib.hid hone
            clear hnl hone hnil4 HOWN
            go_wp2_with (at_builtin; refine wpList_appendL rfl _ _ 24 rfl w.heap.size 5 Tryz.infoU8 Tryz.underlying24 rfl _ 1 _ rfl HLIT.out a4 j c4 (((textOf m).drop (m.length - 1 - j)).map (Value.int .u8)) rfl HNL.out HNIL.out HRV.out.hnews HONE.out (by unfold maxLen; omega) (by omega) HBA.out.size ?_)
            intro a5 c5 w5 hown5 hgrow5 _
            have hb5 : Below w.heap.size w w5 := HBA.out.grown hgrow5 HBA.out.size (fun j hj => (own_lt HLIT.out hj).1)
            have HB5 := Lib.hid hb5
            have HO5 : Hid (w5.ownsRow w.heap.size 5 1 (.slice a5 (j + 1) c5) (j + 1) (((textOf m).drop (m.length - 1 - (j + 1))).map (Value.int .u8))) := by
              show w5.ownsRow _ _ _ _ _ _
              rw [HTD.out, List.map_cons, Nat.add_comm j 1]
              simpa using hown5
            have hs5 := hb5.size
            have hbe5 := HBE.out w5 hb5
            have hrk5 := HRK.out w5 hb5
            clear hown5 hgrow5 hb5 e1 HRK HBE HTD HLIT HRV HBA
            rw [Nat.add_comm 1 j]
            go_wp2_with fail
            refine hbe5.mono ?_
            rintro e w' ⟨rfl, rfl⟩
            go_wp2_with fail
            refine hrk5.mono ?_
            rintro e w' ⟨rfl, rfl⟩
            go_wp2_with fail
            go_roundw
            case rel =>
              refine ⟨j + 1, by omega, by go_num, ?_, HO5.out, HS1.out, HB5.out⟩
              rw [HCH.out]
            case measure => simp [intOf]; omega
        · obtain rfl : j = m.length - 1 := by omega
          have hn1 : m.length - 1 + 1 = m.length := by omega
          have hd0 : decide (((m.length - 1 : Nat) : Int) + 1 < (m.length : Int)) = false := decide_eq_false (by omega)
          rw [Nat.sub_self, List.drop_zero] at hown
          have htl : (textOf m).length = m.length - 1 := textOf_len m
          have hbyt : ByteL (textOf m) := by
            intro x hx
            obtain ⟨z, hz, rfl⟩ := List.getElem_of_mem hx
            rw [htl] at hz
            have hg := textOf_get (m := m) (i := z) hz
            rw [List.getElem?_eq_getElem (by omega)] at hg
            injection hg with hg
            rw [hg]
            have h1 := hbs (m.length - 2 - z) (by omega)
            have h2 := chain_lt hn0 (m.length - 2 - z)
            have h3 := HSY.out (sy m (chain m (m.length - 2 - z))) (by rw [sy_in h2]; exact List.getElem_mem _)
            omega
          have hrd : Reads wr .u8 a4 (textOf m) := own_reads hown
          have hcv : (convert 24 9 (.slice a4 (m.length - 1) c4)).run Tryz.prog wr = .ok (.string (strOfNums (textOf m))) wr := by
            have := conv_str (P := Tryz.prog) (w := wr) (xs := textOf m) (c := c4) Tryz.underlying24 Tryz.underlying5 Tryz.underlying9 hrd
            rwa [htl] at this
          have hcv2 : ∀ W, Below wr.heap.size wr W → (convert 24 9 (.slice a4 (m.length - 1) c4)).run Tryz.prog W = .ok (.string (strOfNums (textOf m))) W := fun W hW => by
            have := conv_str (P := Tryz.prog) (w := W) (xs := textOf m) (c := c4) Tryz.underlying24 Tryz.underlying5 Tryz.underlying9 (hrd.below hW)
            rwa [htl] at this
          have hls := ref6Last_any (strOfNums (textOf m)) wr (by rw [← tOfS_len, tOfS_of hbyt]; omega)
          rw [tOfS_of hbyt] at hls
          have HLS := Lib.hid hls
          have HCV2 := Lib.hid hcv2
          have HTL := Lib.hid htl
          have HN1 := Lib.hid hn1
          clear hls hcv2 htl hn1 hbs hown hrd hbyt hnil4 HNIL
          generalize hst : strOfNums (textOf m) = st at *
          have HST := Lib.hid hst
          clear hst
          go_wp2_with fail
          refine HLS.out.mono ?_
          rintro e w5 ⟨m', hm', v, rfl, hown5, hb5⟩
          obtain ⟨a5, c5, rfl, _, _⟩ := own_slice hown5
          have hr5 := own_reads hown5
          have hb6 := hbw.trans (hb5.mono hs')
          have hrm := HRM.out w5 hb6
          have hl5 : m'.length = m.length := by rw [hm'.len, HTL.out, HN1.out]
          have hsame := refSame_len a5 (some ⟨b, off, none⟩) m'.length m.length c5 c m' m w5 hr5 hrm rfl rfl (by omega)
          have HSAME := Lib.hid hsame
          have HM' := Lib.hid hm'
          have HB6 := Lib.hid hb6
          have HB5 := Lib.hid hb5
          clear hown5 hr5 hrm hl5 hsame hm' hb5 hb6 HLS
          go_wp2_with fail
          refine HSAME.out.mono ?_
          rintro e w6 ⟨rfl, nd, rfl⟩
          have hcv5 := HCV2.out _ (below_dN HB5.out nd)
          have HB6 := Lib.hid (below_dN HB6.out nd)
          by_cases hmm : m' = m
          · have dd : sameI m' m = true := decide_eq_true hmm
            rw [dd]
            have HMM := Lib.hid hmm
            clear hmm dd
            go_wp2_with fail
            go_ret2
            refine ⟨_, _, rfl, HB6.out, fun _ => ⟨?_, HST.out.symm⟩, fun h => by cases h⟩
            have := HM'.out
            rwa [HMM.out] at this
          · have dd : sameI m' m = false := decide_eq_false hmm
            rw [dd]
            have HNO : Hid (∀ t, ¬ IsLast t m) := fun t h => hmm (by
              have h2 := h.text
              rw [h2] at h
              exact HM'.out.same h)
            clear hmm dd
            go_wp2_with fail
            go_ret2
            exact rback_no HNO.out HB6.out
  · obtain ⟨k0, hk0, hs, hx⟩ := first_bad hsy
    have hbad := ref6Good_no a c m.length k0 m w rfl hr (by omega) hk0 hs hx
    have HBAD := Lib.hid hbad
    clear hbad hs hx hr
    go_enter Tryz.func14, Tryz.ntmps14
    go_wp2_with fail
    refine HBAD.out.mono ?_
    rintro e w1 ⟨rfl, rfl⟩
    go_wp2_with fail
    go_ret2
    exact rback_no (fun t h => hsy h.range) (Below.refl _ _)

end Go.Proofs.YtacoeohmdngnkaaGreatDoor

namespace Go.Proofs.YtacoeohmdngnkaaGreatDoor
set_option linter.unusedVariables false
set_option linter.unusedSimpArgs false
open Go.RowKit

end Go.Proofs.YtacoeohmdngnkaaGreatDoor
