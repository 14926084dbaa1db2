/- The contract of sorted.Back. -/
import Derived.Test.YtpbmhdkhkbhgnaaSortedL
import Derived.Test.YtpbmhdkhkbhgnaaSortedT
import Derived.Test.YtpbmhdkhkbhgnaaTallyA
namespace Go.Proofs.Ytpbmhdkhkbhgnaa
set_option linter.unusedVariables false
set_option linter.unusedSimpArgs false
open Go.RowKit

/-- tally.New of numbers of which one is no symbol. -/
theorem tNew_fail {w : World} {a : Option Addr} {c k0 : Nat} {l : List Int} (hl : Reads w .i64 a l) (hk0 : k0 < l.length) (hs : ∀ i (hi : i < k0), 0 ≤ l[i]'(by omega) ∧ l[i]'(by omega) < 257) (hx : ¬ (0 ≤ l[k0] ∧ l[k0] < 257)) (hlen : l.length ≤ 2147483648) :
    Calls Try.prog 59 #[.slice a l.length c] w fun e w' => e = .returned (.tuple #[.pointer none, .int .i64 1]) ∧ Below w.heap.size w w' := by
  have hz := tzero
  have h0 : IsTally (w.alloc (.cells (tlV Tl.zero) 97)) w.heap.size Tl.zero := ⟨Tl.zero_ok, heap_alloc_new w _⟩
  generalize hV : tlV Tl.zero = V at *
  have H0 := Lib.hid h0
  clear h0 hV
  go_enter Try.func59, Try.ntmps59
  go_wp2_with fail
  go_loopw [12] (fun i wr => ∃ k : Nat, k ≤ k0 ∧ i = .int .i64 k ∧ IsTally wr w.heap.size (Tl.of (l.take k)) ∧ Below w.heap.size w wr) (fun i _ => l.length - (intOf i).toNat)
  case atStart => exact ⟨0, by omega, rfl, H0.out, (Below.refl _ _).alloc (Nat.le_refl _) _⟩
  case round =>
    obtain ⟨k, hk, rfl, hT, hb⟩ := hrel
    have hs1 := hb.size
    have hlt : k < l.length := by omega
    obtain ⟨b, off, rfl, hbl, hcells⟩ := hl.some (by omega)
    have hcx := (hb.cell (p := ⟨b, off + k, none⟩) hbl).trans (hcells k hlt)
    rw [List.getElem?_eq_getElem hlt, Option.getD_some] at hcx
    by_cases hlt0 : k < k0
    · have hx' := hs k hlt0
      have e : l.take (k + 1) = l.take k ++ [((l[k].toNat : Nat) : Int)] := by
        rw [List.take_succ_eq_append_getElem hlt, Int.toNat_of_nonneg hx'.1]
      have e2 : Tl.of (l.take (k + 1)) = (Tl.of (l.take k)).add l[k].toNat 1 := by rw [e, Tl.of_snoc]
      have h1 := hT.ok.pos l[k].toNat (by omega)
      have h2 : (1 : Int) ≤ 2147483648 - (Tl.of (l.take k)).all := by
        show (1 : Int) ≤ 2147483648 - ((l.take k).length : Int)
        rw [List.length_take]; omega
      have hadd := tAdd_good hT hx'.1 hx'.2 (n := 1) (by omega) h2
      rw [← e2] at hadd
      have HADD := Lib.hid hadd
      have HX := Lib.hid hx
      have HS := Lib.hid hs
      clear hx hs hx'
      generalize l[k] = x at *
      clear hcells e e2 h1 h2 hadd
      go_wp2_with fail
      refine HADD.out.mono ?_
      rintro e w2 ⟨rfl, hT2, hc2⟩
      have hb2 : Below w.heap.size w w2 := hb.trans (hc2.below (fun b hb => by subst hb; exact Nat.le_refl _) hs1)
      clear hT
      go_wp2_with fail
      go_roundw
      case rel => exact ⟨k + 1, by omega, by simp, hT2, hb2⟩
      case measure => simp [intOf]; omega
    · obtain rfl : k = k0 := by omega
      have HX := Lib.hid hx
      clear hx hs hcells
      generalize l[k] = x at *
      go_wp2_with fail
      refine (tAdd_bad HX.out).mono ?_
      rintro e w2 ⟨rfl, rfl⟩
      go_wp2_with fail
      go_ret2
      exact ⟨rfl, hb⟩

/-- What Back tells: the text whose transform it is; nothing, if there is none. -/
def BackPost (B : Nat) (w : World) (m : List Int) (e : Ending) (w' : World) : Prop := ∃ v ok, e = .returned (.tuple #[v, .bool ok]) ∧ Below B w w' ∧
  (ok = true → IsLast (textOf m) m ∧ w'.ownsRow B 5 1 v (textOf m).length ((textOf m).map (Value.int .u8))) ∧ (ok = false → v = .slice none 0 0 ∧ ∀ t, ¬ IsLast t m)
theorem back_no {B : Nat} {w w' : World} {m : List Int} (h : ∀ t, ¬ IsLast t m) (hb : Below B w w') : BackPost B w m (.returned (.tuple #[.slice none 0 0, .bool false])) w' :=
  ⟨_, _, rfl, hb, (fun h => by cases h), fun _ => ⟨rfl, h⟩⟩

theorem zero257 (w : World) : (zeroValue 37).run Try.prog w = .ok (.agg (vecL (fun _ => .int .i64 0) 257).toArray) w := by kernel_rfl

/-- What Back keeps: the tally, what was seen, where the rows lead, the first rows of the symbols. -/
structure BackSt (B : Nat) (w : World) (p qs qt Q n : Nat) (T : Tl) (fs ft ff : Nat → Int) : Prop where
  tally : IsTally w p T
  seen : w.heap[qs]? = some (.cells (vecL (fun i => .int .i64 (fs i)) n).toArray 3 (0, 0))
  lead : w.heap[qt]? = some (.cells (vecL (fun i => .int .i64 (ft i)) n).toArray 3 (0, 0))
  first : w.heap[Q]? = some (.cells (vecL (fun i => .int .i64 (ff i)) 257).toArray 37 (0, 0))
  ne : qs ≠ qt ∧ qs ≠ Q ∧ qt ≠ Q ∧ p ≠ qs ∧ p ≠ qt ∧ p ≠ Q
  lo : B ≤ p ∧ B ≤ qs ∧ B ≤ qt ∧ B ≤ Q
section
variable {B : Nat} {w w' : World} {p qs qt Q n : Nat} {T : Tl} {fs ft ff : Nat → Int}
theorem BackSt.chg (h : BackSt B w p qs qt Q n T fs ft ff) {S : Nat → Prop} (hc : Chg S w w') (h1 : ¬ S p) (h2 : ¬ S qs) (h3 : ¬ S qt) (h4 : ¬ S Q) : BackSt B w' p qs qt Q n T fs ft ff :=
  ⟨h.tally.chg hc h1, hc.heap h.seen h2, hc.heap h.lead h3, hc.heap h.first h4, h.ne, h.lo⟩
theorem BackSt.still (h : BackSt B w p qs qt Q n T fs ft ff) (hb : Below w.heap.size w w') : BackSt B w' p qs qt Q n T fs ft ff := h.chg (Chg.of_below (S := fun _ => False) hb) id id id id
theorem vec_ifG {f : Nat → Int} {j n : Nat} {x : Int} {k : IntKind} : vecL (fun i => if i = j then Value.int k x else Value.int k (f i)) n = vecL (fun i => Value.int k (if i = j then x else f i)) n :=
  vecL_congr (fun i _ => by split <;> rfl)
theorem BackSt.setSeen (h : BackSt B w p qs qt Q n T fs ft ff) (j : Nat) (x : Int) : BackSt B (w.setCell ⟨qs, j, none⟩ (.int .i64 x)) p qs qt Q n T (fun i => if i = j then x else fs i) ft ff := by
  have hc : Chg (fun b => b = qs) w (w.setCell ⟨qs, j, none⟩ (.int .i64 x)) := Chg.refl.setCell (S := fun b => b = qs) ⟨qs, j, none⟩ (Or.inl rfl) _
  obtain ⟨a1, a2, a3, a4, a5, a6⟩ := h.ne
  have ho := vec_set (s := j) h.seen (.int .i64 x)
  rw [vec_ifG] at ho
  exact ⟨h.tally.chg hc a4, ho, hc.heap h.lead (fun e => a1 e.symm), hc.heap h.first (fun e => a2 e.symm), h.ne, h.lo⟩
theorem BackSt.setTo (h : BackSt B w p qs qt Q n T fs ft ff) (j : Nat) (x : Int) : BackSt B (w.setCell ⟨qt, j, none⟩ (.int .i64 x)) p qs qt Q n T fs (fun i => if i = j then x else ft i) ff := by
  have hc : Chg (fun b => b = qt) w (w.setCell ⟨qt, j, none⟩ (.int .i64 x)) := Chg.refl.setCell (S := fun b => b = qt) ⟨qt, j, none⟩ (Or.inl rfl) _
  obtain ⟨a1, a2, a3, a4, a5, a6⟩ := h.ne
  have ho := vec_set (s := j) h.lead (.int .i64 x)
  rw [vec_ifG] at ho
  exact ⟨h.tally.chg hc a5, hc.heap h.seen a1, ho, hc.heap h.first (fun e => a3 e.symm), h.ne, h.lo⟩
theorem BackSt.setFirst (h : BackSt B w p qs qt Q n T fs ft ff) (j : Nat) (x : Int) : BackSt B (w.setCell ⟨Q, j, none⟩ (.int .i64 x)) p qs qt Q n T fs ft (fun i => if i = j then x else ff i) := by
  have hc : Chg (fun b => b = Q) w (w.setCell ⟨Q, j, none⟩ (.int .i64 x)) := Chg.refl.setCell (S := fun b => b = Q) ⟨Q, j, none⟩ (Or.inl rfl) _
  obtain ⟨a1, a2, a3, a4, a5, a6⟩ := h.ne
  have ho := vec_set (s := j) h.first (.int .i64 x)
  rw [vec_ifG] at ho
  exact ⟨h.tally.chg hc a6, hc.heap h.seen a2, hc.heap h.lead a3, ho, h.ne, h.lo⟩
theorem BackSt.congr (h : BackSt B w p qs qt Q n T fs ft ff) {fs' ft' ff' : Nat → Int} (e1 : ∀ i, i < n → fs i = fs' i) (e2 : ∀ i, i < n → ft i = ft' i) (e3 : ∀ i, i < 257 → ff i = ff' i) : BackSt B w p qs qt Q n T fs' ft' ff' :=
  ⟨h.tally, by rw [vecL_congr (g := fun i => .int .i64 (fs i)) (fun i hi => by rw [e1 i hi])]; exact h.seen, by rw [vecL_congr (g := fun i => .int .i64 (ft i)) (fun i hi => by rw [e2 i hi])]; exact h.lead, by rw [vecL_congr (g := fun i => .int .i64 (ff i)) (fun i hi => by rw [e3 i hi])]; exact h.first, h.ne, h.lo⟩
theorem BackSt.cells (h : BackSt B w p qs qt Q n T fs ft ff) : (∀ j, j < n → w.cell? ⟨qs, j, none⟩ = some (.int .i64 (fs j))) ∧ (∀ j, j < n → w.cell? ⟨qt, j, none⟩ = some (.int .i64 (ft j))) ∧ (∀ j, j < 257 → w.cell? ⟨Q, j, none⟩ = some (.int .i64 (ff j))) ∧
    (∀ j, w.frozen? ⟨qs, j, none⟩ = false) ∧ (∀ j, w.frozen? ⟨qt, j, none⟩ = false) ∧ (∀ j, w.frozen? ⟨Q, j, none⟩ = false) :=
  ⟨fun j hj => vec_cell h.seen hj, fun j hj => vec_cell h.lead hj, fun j hj => vec_cell h.first hj, fun j => frozen_of_row w qs j _ _ h.seen, fun j => frozen_of_row w qt j _ _ h.lead, fun j => frozen_of_row w Q j _ _ h.first⟩
end
theorem Try.infoU8 : (Try.prog.info? 5).map (fun i => (i.zero, i.size, i.bytes)) = some (some (.int .u8 0), 1, 1) := by kernel_rfl
theorem make_bytes (n : Nat) (h : n ≤ 1000000000) (w : World) : (Instr.makeSlice 23 (.int .i64 (n : Int)) (.int .i64 (n : Int))).run Try.prog w = .ok (.slice (some ⟨w.heap.size, 0, none⟩) n n) (w.alloc (.cells (vecL (fun _ => .int .u8 0) n).toArray 5)) :=
  run_makeG Try.infoU8 Try.underlying23 rfl n (by omega) (by unfold maxLen; omega) w

set_option maxHeartbeats 4000000 in
set_option maxRecDepth 100000 in
theorem back_any (a : Option Addr) (c : Nat) (m : List Int) (w : World) (hr : Reads w .i64 a m) (hl : m.length ≤ 1000000) :
    Calls Try.prog 20 #[.slice a m.length c] w (BackPost w.heap.size w m) := by
  by_cases hsy : ∀ x ∈ m, 0 ≤ x ∧ x < 257
  · have HSY := Lib.hid hsy
    have hnew := tNew_good (c := c) hr hsy (by omega)
    have HNEW := Lib.hid hnew
    clear hnew hsy
    go_enter Try.func20, Try.ntmps20
    go_wp2_with fail
    refine HNEW.out.mono ?_
    rintro e w1 ⟨rfl, hT, hb1⟩
    have HT := Lib.hid hT
    have HB1 := Lib.hid hb1
    have hs1 := hb1.size
    have hzl := hT.lt
    have hof : tOf (Tl.of m) 0 = (cnt m 0 : Int) := rfl
    have hofc := tOf_any hT 0
    rw [hof] at hofc
    have HOF := Lib.hid hofc
    obtain ⟨p, hp⟩ : ∃ p, w.heap.size = p := ⟨_, rfl⟩
    rw [hp] at HT HOF hzl ⊢
    have HP := Lib.hid hp
    clear hT hb1 hof hofc HNEW hp
    by_cases h1 : cnt m 0 = 1
    · have HH1 := Lib.hid h1
      rw [h1] at HOF
      have hn0 : 0 < m.length := by
        rcases Nat.eq_zero_or_pos m.length with e | e
        · have e2 : m = [] := List.eq_nil_of_length_eq_zero e
          rw [e2] at h1; cases h1
        · exact e
      clear h1
      go_upto_region 4 with (go_at_call 60; refine HOF.out.mono ?_; rintro e w' ⟨rfl, rfl⟩)
      have hmk := make_ints m.length (by omega)
      obtain ⟨b, off, rfl, hbl, hcs⟩ := hr.some hn0
      have HRD : Hid (∀ W, Below w.heap.size w W → ∀ j, j < m.length → W.cell? ⟨b, off + j, none⟩ = some (.int .i64 (sy m j))) := by
        intro W hW j hj
        rw [(hW.cell (p := ⟨b, off + j, none⟩) hbl).trans (hcs j hj), sy_in hj]
        simp [hj]
      have HB0 : Hid (Below w1.heap.size w1 w1.drew) := (Below.refl _ _).drew
      clear hcs hr HOF
      go_cut [6, 7] (fun r6 r7 wx => ∃ qs qt, r6 = .slice (some ⟨qs, 0, none⟩) m.length m.length ∧ r7 = .slice (some ⟨qt, 0, none⟩) m.length m.length ∧ wx.heap[qs]? = some (.cells (vecL (fun _ => .int .i64 0) m.length).toArray 3 (0, 0)) ∧
        wx.heap[qt]? = some (.cells (vecL (fun _ => .int .i64 0) m.length).toArray 3 (0, 0)) ∧ qs ≠ qt ∧ w1.heap.size ≤ qs ∧ w1.heap.size ≤ qt ∧ Below w1.heap.size w1 wx)
      case first => as_aux_lemma =>
    -- REGION 4
        refine reg_start (fun _ => True) (by kernel_rfl) trivial (fun hHeld => ?_)
        generalize w1.drew = x0 at *
        refine reg_take (i := 0) (v := ?mv1) rfl (by kernel_rfl) rfl hHeld ?my1 ?mr1
        case my1 => (intro w hSw; (try dsimp only at hSw); go_simp; all_goals with_reducible rfl)
        try simp only [Act.put, List.setIfInBounds_toArray, List.set_cons_zero, List.set_cons_succ]
        refine reg_take (i := 1) (v := ?mv2) rfl (by kernel_rfl) rfl hHeld ?my2 ?mr2
        case my2 => (intro w hSw; (try dsimp only at hSw); go_simp; all_goals with_reducible rfl)
        try simp only [Act.put, List.setIfInBounds_toArray, List.set_cons_zero, List.set_cons_succ]
        refine reg_take (i := 3) (v := ?mv3) rfl (by kernel_rfl) rfl hHeld ?my3 ?mr3
        case my3 => (intro w hSw; (try dsimp only at hSw); go_simp; all_goals with_reducible rfl)
        try simp only [Act.put, List.setIfInBounds_toArray, List.set_cons_zero, List.set_cons_succ]
        refine reg_take (i := 4) (v := ?mv4) rfl (by kernel_rfl) rfl hHeld ?my4 ?mr4
        case my4 => (intro w hSw; (try dsimp only at hSw); go_simp; all_goals with_reducible rfl)
        try simp only [Act.put, List.setIfInBounds_toArray, List.set_cons_zero, List.set_cons_succ]
        refine wpAnyH_ready (rs := [2, 5]) (by kernel_rfl) (by simp) (all_cons rfl rfl (fun K hK => ?_) (all_cons rfl rfl (fun K hK => ?_) (AllReadyH.nil)))
        · go_simp
          obtain ⟨x1, qs, hx, hq, HB1, HO2, HC1, z1a, z1b, z1c⟩ := mk_step HB0.out (.cells (vecL (fun _ => .int .i64 0) m.length).toArray 3)
          rw [hx, hq]
          clear hx hq
          refine hK.out _ _ trivial (fun hHeld => ?_)
          clear hK K
          try simp only [Act.put, List.setIfInBounds_toArray, List.set_cons_zero, List.set_cons_succ]
          refine reg_take (i := 6) (v := ?mv5) rfl (by kernel_rfl) rfl hHeld ?my5 ?mr5
          case my5 => (intro w hSw; (try dsimp only at hSw); go_simp; all_goals with_reducible rfl)
          try simp only [Act.put, List.setIfInBounds_toArray, List.set_cons_zero, List.set_cons_succ]
          refine wpAnyH_ready (rs := [5]) (by kernel_rfl) (by simp) (all_cons rfl rfl (fun K hK => ?_) (AllReadyH.nil))
          · go_simp
            obtain ⟨x2, qt, hx, hq, HB2, HO5, HC2, z2a, z2b, z2c⟩ := mk_step HB1.out (.cells (vecL (fun _ => .int .i64 0) m.length).toArray 3)
            rw [hx, hq]
            clear hx hq
            refine hK.out _ _ trivial (fun hHeld => ?_)
            clear hK K
            try simp only [Act.put, List.setIfInBounds_toArray, List.set_cons_zero, List.set_cons_succ]
            refine reg_take (i := 7) (v := ?mv6) rfl (by kernel_rfl) rfl hHeld ?my6 ?mr6
            case my6 => (intro w hSw; (try dsimp only at hSw); go_simp; all_goals with_reducible rfl)
            try simp only [Act.put, List.setIfInBounds_toArray, List.set_cons_zero, List.set_cons_succ]
            refine reg_done (by kernel_rfl) ?_ _
            go_wp2_with fail
            go_meet
            case rel => exact ⟨qs, qt, rfl, rfl, (HC2.out (fun _ => False)).heap HO2.out (fun h => h), (Chg.refl (S := (fun _ => False))).heap HO5.out (fun h => h), by omega, by omega, by omega, HB2.out⟩
        · go_simp
          obtain ⟨x1, qt, hx, hq, HB1, HO5, HC1, z1a, z1b, z1c⟩ := mk_step HB0.out (.cells (vecL (fun _ => .int .i64 0) m.length).toArray 3)
          rw [hx, hq]
          clear hx hq
          refine hK.out _ _ trivial (fun hHeld => ?_)
          clear hK K
          try simp only [Act.put, List.setIfInBounds_toArray, List.set_cons_zero, List.set_cons_succ]
          refine wpAnyH_ready (rs := [2]) (by kernel_rfl) (by simp) (all_cons rfl rfl (fun K hK => ?_) (AllReadyH.nil))
          · go_simp
            obtain ⟨x2, qs, hx, hq, HB2, HO2, HC2, z2a, z2b, z2c⟩ := mk_step HB1.out (.cells (vecL (fun _ => .int .i64 0) m.length).toArray 3)
            rw [hx, hq]
            clear hx hq
            refine hK.out _ _ trivial (fun hHeld => ?_)
            clear hK K
            try simp only [Act.put, List.setIfInBounds_toArray, List.set_cons_zero, List.set_cons_succ]
            refine reg_take (i := 6) (v := ?mv7) rfl (by kernel_rfl) rfl hHeld ?my7 ?mr7
            case my7 => (intro w hSw; (try dsimp only at hSw); go_simp; all_goals with_reducible rfl)
            try simp only [Act.put, List.setIfInBounds_toArray, List.set_cons_zero, List.set_cons_succ]
            refine reg_take (i := 7) (v := ?mv8) rfl (by kernel_rfl) rfl hHeld ?my8 ?mr8
            case my8 => (intro w hSw; (try dsimp only at hSw); go_simp; all_goals with_reducible rfl)
            try simp only [Act.put, List.setIfInBounds_toArray, List.set_cons_zero, List.set_cons_succ]
            refine reg_done (by kernel_rfl) ?_ _
            go_wp2_with fail
            go_meet
            case rel => exact ⟨qs, qt, rfl, rfl, (Chg.refl (S := (fun _ => False))).heap HO2.out (fun h => h), (HC2.out (fun _ => False)).heap HO5.out (fun h => h), by omega, by omega, by omega, HB2.out⟩
    -- END OF REGION 4
      case rest => as_aux_lemma =>
        obtain ⟨qs, qt, rfl, rfl, hqs, hqt, hne, hl1, hl2, hbc⟩ := hcut
        have hz := zero257
        have hst : BackSt w.heap.size (wc.alloc (.cells (vecL (fun _ => .int .i64 0) 257).toArray 37)) p qs qt wc.heap.size m.length (Tl.of m) (fun _ => 0) (fun _ => 0) (fun _ => 0) := by
          have hba := below_al wc (.cells (vecL (fun _ => .int .i64 0) 257).toArray 37)
          have z1 := (Array.getElem?_eq_some_iff.1 hqs).1
          have z2 := (Array.getElem?_eq_some_iff.1 hqt).1
          have z3 := hbc.size
          have z4 := HP.out
          exact ⟨(HT.out.chg (Chg.of_below (S := fun _ => False) hbc) id).chg (Chg.of_below (S := fun _ => False) hba) id, below_heap hba hqs, below_heap hba hqt, heap_alloc_new wc _, ⟨hne, by omega, by omega, by omega, by omega, by omega⟩, ⟨by omega, by omega, by omega, by omega⟩⟩
        have hbw : Below w.heap.size w (wc.alloc (.cells (vecL (fun _ => .int .i64 0) 257).toArray 37)) := (HB1.out.trans (hbc.mono hs1)).alloc (by have := hbc.size; omega) _
        have HSTA := Lib.hid hst
        have HBWA := Lib.hid hbw
        generalize hV : vecL (fun _ => Value.int .i64 0) 257 = V at *
        clear hqs hqt hne hl1 hl2 hst hbw hV hmk HT
        go_wp2_with fail
        generalize wc.alloc (.cells V.toArray 37) = wa at *
        generalize wc.heap.size = Q at *
        go_loopw [35, 9] (fun v35 _ wr => ∃ k : Nat, k ≤ 257 ∧ v35 = .int .i64 k ∧ BackSt w.heap.size wr p qs qt Q m.length (Tl.of m) (fun _ => 0) (fun _ => 0) (fun s => if s < k then (belowL m (s : Int) : Int) else 0) ∧ Below w.heap.size w wr) (fun v35 _ _ => 257 - (intOf v35).toNat)
        case atStart => exact ⟨0, by omega, rfl, HSTA.out.congr (fun _ _ => rfl) (fun _ _ => rfl) (fun i _ => by simp), HBWA.out⟩
        case round =>
          clear hbc hz
          obtain ⟨k, hk, rfl, hst, hbw⟩ := hrel
          have hs := hbw.size
          by_cases hlt : k < 257
          · have hbel := tBelow_any hst.tally (k : Int)
            have hnn : ∀ x ∈ m, 0 ≤ x := fun x hx => (HSY.out x hx).1
            have e : tBelow (Tl.of m) (k : Int) = (belowL m (k : Int) : Int) := by
              rw [← belowL_bl hnn k]
              unfold tBelow clamp
              congr 1; omega
            rw [e] at hbel
            have HBEL := Lib.hid hbel
            obtain ⟨_, _, d3, _, _, d6⟩ := hst.cells
            have e1 := d3 k hlt
            have e2 := d6 k
            simp only [Nat.lt_irrefl, if_false] at e1
            have HST := Lib.hid (hst.setFirst k (belowL m (k : Int) : Int))
            have hlo := hst.lo.2.2.2
            clear hbel e hnn d3 d6 hst
            generalize hy : (belowL m (k : Int) : Int) = y at *
            have HY := Lib.hid hy
            clear hy
            go_wp2_with (go_at_call 61; refine HBEL.out.mono ?_; rintro e w' ⟨rfl, rfl⟩)
            go_roundw
            case rel =>
              refine ⟨k + 1, by omega, by go_num, HST.out.congr (fun _ _ => rfl) (fun _ _ => rfl) (fun i _ => ?_), below_setQ hbw hs hlo _⟩
              by_cases e : i = k
              · subst e; rw [if_pos rfl, if_pos (by omega)]; exact HY.out.symm
              · rw [if_neg e]
                by_cases e2 : i < k
                · rw [if_pos e2, if_pos (by omega)]
                · rw [if_neg e2, if_neg (by omega)]
            case measure => simp [intOf]; omega
          · obtain rfl : k = 257 := by omega
            rw [show ((257 : Nat) : Int) = 257 from rfl]
            have HST := Lib.hid (hst.congr (fs' := fun _ => 0) (ft' := fun i => if i < 0 then (lfL m i : Int) else 0) (ff' := fun s => ((belowL m (s : Int) + cnt (m.take 0) (s : Int) : Nat) : Int)) (fun _ _ => rfl) (fun i _ => by simp) (fun i hi => by rw [if_pos hi]; simp [cnt]))
            have HBW := Lib.hid hbw
            clear hst hbw hs hk hlt
            go_wp2_with fail
            go_loopw [46] (fun v46 wr => ∃ k : Nat, k ≤ m.length ∧ v46 = .int .i64 k ∧ BackSt w.heap.size wr p qs qt Q m.length (Tl.of m) (fun _ => 0) (fun i => if i < k then (lfL m i : Int) else 0) (fun s => ((belowL m (s : Int) + cnt (m.take k) (s : Int) : Nat) : Int)) ∧ Below w.heap.size w wr) (fun v46 _ => m.length - (intOf v46).toNat)
            case atStart => exact ⟨0, by omega, rfl, HST.out, HBW.out⟩
            case round =>
              clear HST HBW
              obtain ⟨k, hk, rfl, hst, hbw⟩ := hrel
              have hs := hbw.size
              by_cases hlt : k < m.length
              · have hx := HSY.out m[k] (List.getElem_mem _)
                obtain ⟨x, hxe⟩ := Int.eq_ofNat_of_zero_le hx.1
                have hsk : sy m k = (x : Int) := by rw [sy_in hlt, hxe]
                have e1 := HRD.out wr hbw k hlt
                rw [hsk] at e1
                have hx257 : x < 257 := by omega
                have hlf : lfL m k = belowL m (x : Int) + cnt (m.take k) (x : Int) := by unfold lfL; rw [hsk]
                have hlfl := lfL_lt hlt
                have htk : ∀ s : Nat, cnt (m.take (k + 1)) (s : Int) = cnt (m.take k) (s : Int) + (if s = x then 1 else 0) := by
                  intro s
                  rw [List.take_succ_eq_append_getElem hlt, cnt_snoc, hxe]
                  by_cases e : s = x
                  · subst e; simp
                  · rw [if_neg e, if_neg (by omega)]
                obtain ⟨_, d2, d3, _, d5, d6⟩ := hst.cells
                have e2 := d2 k hlt
                have e3 := d3 x hx257
                have e4 := d5 k
                have e5 := d6 x
                simp only [Nat.lt_irrefl, if_false] at e2
                rw [← hlf] at e3
                have hlo := hst.lo
                have hqq := hst.ne.2.2.1
                have hst2 := (hst.setTo k (lfL m k : Int)).setFirst x ((lfL m k : Int) + 1)
                have HST2 := Lib.hid hst2
                have HTK := Lib.hid htk
                have HLF := Lib.hid hlf
                clear hx hxe hsk hlf htk d2 d3 d5 d6 hst hst2
                generalize hy : lfL m k = y at *
                have HY := Lib.hid hy
                clear hy
                go_wp2_with fail
                go_roundw
                case rel =>
                  refine ⟨k + 1, by omega, by go_num, HST2.out.congr (fun _ _ => rfl) (fun i _ => ?_) (fun i _ => ?_), ?_⟩
                  · by_cases e : i = k
                    · subst e; rw [if_pos rfl, if_pos (by omega), HY.out]
                    · rw [if_neg e]
                      by_cases e2 : i < k
                      · rw [if_pos e2, if_pos (by omega)]
                      · rw [if_neg e2, if_neg (by omega)]
                  · have h1 := HTK.out i
                    by_cases e : i = x
                    · subst e
                      rw [if_pos rfl] at h1 ⊢
                      have := HLF.out
                      omega
                    · rw [if_neg e] at h1 ⊢
                      rw [h1]; rfl
                  · exact below_setQ (below_setQ hbw hs hlo.2.2.1 _) (by simp [World.setCell]; exact hs) hlo.2.2.2 _
                case measure => simp [intOf]; omega
              · obtain rfl : k = m.length := by omega
                have HST := Lib.hid (hst.congr (fs' := fun i => (seenC m 0 i : Int)) (ft' := fun i => (lfL m i : Int)) (ff' := fun s => ((belowL m (s : Int) + cnt (m.take m.length) (s : Int) : Nat) : Int)) (fun i _ => by simp [seenC]) (fun i hi => by rw [if_pos hi]) (fun _ _ => rfl))
                have HBW := Lib.hid hbw
                obtain ⟨n, hn⟩ : ∃ n, m.length = n + 1 := ⟨m.length - 1, by omega⟩
                have hmb := make_bytes n (by omega)
                have hn2 : (n : Int) ≤ 1000000 := by omega
                have HN := Lib.hid hn
                clear hst hbw hs hk hlt
                have ecast : ((m.length : Nat) : Int) = (n : Int) + 1 := by have := HN.out; omega
                have HEC := Lib.hid ecast
                rw [show (n : Int) = (m.length : Int) - 1 by omega] at hmb
                clear ecast hn
                go_wp2_with fail
                clear hmb
                have HST2 := Lib.hid (HST.out.still (below_al wr (.cells (vecL (fun _ => .int .u8 0) n).toArray 5)))
                have hq := heap_alloc_new wr (.cells (vecL (fun _ => .int .u8 0) n).toArray 5)
                have HBW2 := Lib.hid (HBW.out.alloc HBW.out.size (.cells (vecL (fun _ => .int .u8 0) n).toArray 5))
                have hqx : qs < wr.heap.size ∧ qt < wr.heap.size ∧ Q < wr.heap.size ∧ p < wr.heap.size ∧ w.heap.size ≤ wr.heap.size :=
                  ⟨(Array.getElem?_eq_some_iff.1 HST.out.seen).1, (Array.getElem?_eq_some_iff.1 HST.out.lead).1, (Array.getElem?_eq_some_iff.1 HST.out.first).1, HST.out.tally.lt, HBW.out.size⟩
                generalize wr.alloc (.cells (vecL (fun _ => .int .u8 0) n).toArray 5) = wb at *
                generalize wr.heap.size = qx at *
                have HQ := Lib.hid hq
                have HQX := Lib.hid hqx
                clear hq hqx HST HBW
                go_loopw [13, 14] (fun v13 v14 wr => ∃ r : Nat, r ≤ n ∧ v14 = .int .i64 ((r : Int) - 1) ∧ v13 = .int .i64 (chain m (n - r) : Int) ∧ BackSt w.heap.size wr p qs qt Q m.length (Tl.of m) (fun i => (seenC m (n - r) i : Int)) (fun i => (lfL m i : Int)) (fun s => ((belowL m (s : Int) + cnt (m.take m.length) (s : Int) : Nat) : Int)) ∧
                  wr.heap[qx]? = some (.cells (vecL (fun i => .int .u8 (if r ≤ i then (textOf m)[i]?.getD 0 else 0)) n).toArray 5 (0, 0)) ∧ (∀ j, j < n - r → 1 ≤ sy m (chain m j)) ∧ Below w.heap.size w wr) (fun _ v14 _ => (intOf v14 + 1).toNat)
                case atStart =>
                  refine ⟨n, Nat.le_refl _, ?_, ?_, ?_, ?_, ?_, HBW2.out⟩
                  · rfl
                  · rw [Nat.sub_self]; rfl
                  · rw [Nat.sub_self]; exact HST2.out
                  · rw [HQ.out, vecL_congr (fun i hi => ?_)]
                    rw [if_neg (by omega)]
                  · intro j hj; omega
                case round =>
                  clear HST2 HQ HBW2
                  obtain ⟨r, hrn, rfl, rfl, hst, hqr, hbs, hbw⟩ := hrel
                  have hs := hbw.size
                  have hcl := chain_lt hn0 (n - r)
                  have e1 := HRD.out wr hbw (chain m (n - r)) hcl
                  have hxm := HSY.out (sy m (chain m (n - r))) (by rw [sy_in hcl]; exact List.getElem_mem _)
                  have HST := Lib.hid hst
                  have HBS := Lib.hid hbs
                  have HQR := Lib.hid hqr
                  have hn := HN.out
                  rcases Nat.eq_zero_or_pos r with rfl | hr0
                  · rw [Nat.sub_zero] at *
                    have hsl : sy m (chain m n) = 0 ∨ ∀ t, ¬ IsLast t m := by
                      by_cases e : sy m (chain m n) = 0
                      · exact Or.inl e
                      · refine Or.inr (fun t h => e ?_)
                        have h1 := h.len
                        have h2 := h.stop
                        rwa [show t.length = n by omega] at h2
                    have htl : (textOf m).length = n := by rw [textOf_len]; omega
                    have hown : wr.ownsRow w.heap.size 5 1 (.slice (some ⟨qx, 0, none⟩) n n) n ((textOf m).map (Value.int .u8)) := by
                      have e : (textOf m).map (Value.int .u8) = vecL (fun i => .int .u8 (if 0 ≤ i then (textOf m)[i]?.getD 0 else 0)) n := by
                        apply List.ext_getElem?
                        intro z
                        by_cases hz : z < n
                        · rw [vecL_get hz, List.getElem?_map, List.getElem?_eq_getElem (by omega)]; simp
                        · rw [List.getElem?_eq_none (by simp; omega), List.getElem?_eq_none (by rw [vecL_len]; omega)]
                      rw [e]
                      exact own_vecG hqr (by have := HQX.out; omega) (by unfold maxLen; omega)
                    have hbyt : Bytes (textOf m) := by
                      intro z hz
                      have hz2 : z < m.length - 1 := by omega
                      rw [textOf_get hz2, Option.getD_some]
                      have h1 := hbs (m.length - 2 - z) (by omega)
                      have h2 := chain_lt hn0 (m.length - 2 - z)
                      have h3 := HSY.out (sy m (chain m (m.length - 2 - z))) (by rw [sy_in h2]; exact List.getElem_mem _)
                      omega
                    have hrd : Reads wr .u8 (some ⟨qx, 0, none⟩) (textOf m) := by
                      have h1 := own_reads hown
                      exact h1
                    have HSL := Lib.hid hsl
                    have HTL := Lib.hid htl
                    have HOWN := Lib.hid hown
                    have HBYT := Lib.hid hbyt
                    have HRT := Lib.hid hrd
                    clear hn hsl htl hown hbyt hrd hqr hbs hst hxm
                    generalize hce : chain m n = ρ at *
                    have HCE := Lib.hid hce
                    clear hce
                    generalize hx : sy m ρ = x at *
                    have HX := Lib.hid hx
                    clear hx
                    by_cases hx0 : x = 0
                    · subst hx0
                      have hla := last_any (some ⟨qx, 0, none⟩) n (textOf m) wr HRT.out HBYT.out (by have := HTL.out; omega)
                      rw [HTL.out] at hla
                      have HLA := Lib.hid hla
                      clear hla
                      go_wp2_with fail
                      refine HLA.out.mono ?_
                      rintro e w5 ⟨m', hm', v, rfl, hown5, hb5⟩
                      obtain ⟨a5, c5, rfl, _, _⟩ := own_slice hown5
                      have hr5 := own_reads hown5
                      have hrm : Reads w5 .i64 (some ⟨b, off, none⟩) m := by
                        intro z hz
                        refine ⟨b, off, rfl, by have := hb5.size; omega, fun j hj => ?_⟩
                        rw [HRD.out w5 (hbw.trans (hb5.mono hs)) j hj, sy_in hj, List.getElem?_eq_getElem hj]; rfl
                      have hl5 : m'.length = m.length := by rw [hm'.len, HTL.out, HN.out]
                      have hsame := same_ints a5 (some ⟨b, off, none⟩) m'.length m.length c5 c m' m w5 hr5 hrm rfl rfl (by omega) (by omega)
                      have HSAME := Lib.hid hsame
                      have HM' := Lib.hid hm'
                      have HB5 := Lib.hid (hbw.trans (hb5.mono hs))
                      have HO5 := Lib.hid (own_below HOWN.out hb5 (fun k hk => (own_lt HOWN.out hk).2))
                      clear hown5 hr5 hrm hl5 hsame hm' hb5
                      go_wp2_with fail
                      refine HSAME.out.mono ?_
                      rintro e w6 ⟨rfl, nd, rfl⟩
                      by_cases hmm : m' = m
                      · have dd : decide (m' = m) = true := decide_eq_true hmm
                        rw [dd]
                        have HMM := Lib.hid hmm
                        clear hmm dd
                        go_wp2_with fail
                        go_ret2
                        refine ⟨_, _, rfl, below_dN HB5.out nd, fun _ => ⟨?_, ?_⟩, fun h => by cases h⟩
                        · have := HM'.out
                          rwa [HMM.out] at this
                        · rw [HTL.out]; exact HO5.out
                      · have dd : decide (m' = m) = false := decide_eq_false hmm
                        rw [dd]
                        have HNO : Hid (∀ t, ¬ IsLast t m) := fun t h => hmm (by
                          have e := h.text
                          subst e
                          exact HM'.out.same h)
                        clear hmm dd
                        go_wp2_with fail
                        go_ret2
                        exact back_no HNO.out (below_dN HB5.out nd)
                    · have d1 : (x != 0) = true := by simp [hx0]
                      have HNO : Hid (∀ t, ¬ IsLast t m) := (HSL.out).resolve_left hx0
                      clear hx0
                      go_wp2_with fail
                      go_ret2
                      exact back_no HNO.out hbw
                  · obtain ⟨i, rfl⟩ : ∃ i, r = i + 1 := ⟨r - 1, by omega⟩
                    have hnext : lfL m (chain m (n - (i + 1))) = chain m (n - i) := by
                      rw [show n - i = (n - (i + 1)) + 1 by omega]; rfl
                    have htx : (textOf m)[i]?.getD 0 = sy m (chain m (n - (i + 1))) - 1 := by
                      rw [textOf_get (by omega), Option.getD_some, show m.length - 2 - i = n - (i + 1) by omega]
                    have hno1 : sy m (chain m (n - (i + 1))) = 0 → ∀ t, ¬ IsLast t m := fun e t h => by
                      have h1 := h.len
                      have h2 := h.sym (k := n - (i + 1)) (by omega)
                      rw [e] at h2
                      have h3 := h.1 _ (List.getElem_mem (show t.length - 1 - (n - (i + 1)) < t.length by omega))
                      omega
                    have hno2 : 0 < seenC m (n - (i + 1)) (chain m (n - (i + 1))) → ∀ t, ¬ IsLast t m := fun e t h => by
                      obtain ⟨y, hy, he⟩ := seenC_pos e
                      have h1 := h.len
                      exact h.ne (j := y) (k := n - (i + 1)) (by omega) (by omega) (by omega) he
                    have hsle := seenC_le m (n - (i + 1)) (chain m (n - (i + 1)))
                    obtain ⟨d1, d2, _, d4, _, _⟩ := hst.cells
                    have e2 := d1 (chain m (n - (i + 1))) hcl
                    have e3 := d2 (chain m (n - (i + 1))) hcl
                    have e4 := d4 (chain m (n - (i + 1)))
                    have e5 := vec_cell hqr (show i < n by omega)
                    rw [if_neg (by omega)] at e5
                    have e6 : wr.frozen? ⟨qx, i, none⟩ = false := frozen_of_row wr qx i _ _ hqr
                    rw [hnext] at e3
                    have hss : ∀ z, seenC m (n - i) z = seenC m (n - (i + 1)) z + (if chain m (n - (i + 1)) = z then 1 else 0) := fun z => by
                      rw [show n - i = (n - (i + 1)) + 1 by omega, seenC_succ]
                    have HSS := Lib.hid hss
                    have HTX := Lib.hid htx
                    have HNO1 := Lib.hid hno1
                    have HNO2 := Lib.hid hno2
                    have hqx := HQX.out
                    have hlo := hst.lo
                    clear hn hnext htx hno1 hno2 hss d1 d2 d4 hst hqr hbs
                    generalize hce : chain m (n - (i + 1)) = ρ at *
                    generalize hsv : seenC m (n - (i + 1)) ρ = sv at *
                    generalize hxe : sy m ρ = x at *
                    generalize hze : chain m (n - i) = ζ at *
                    have HCE := Lib.hid hce
                    have HSV := Lib.hid hsv
                    have HXE := Lib.hid hxe
                    have HZE := Lib.hid hze
                    clear hce hsv hxe hze
                    by_cases hx1 : 1 ≤ x
                    · have hby := fun w => symByte_yes x w hx1 hxm.2
                      have HBY := Lib.hid hby
                      clear hby
                      by_cases hs0 : sv = 0
                      · rw [hs0, show ((0 : Nat) : Int) = 0 from rfl] at e2
                        rw [hs0] at HSV
                        clear HNO2 hsle hs0
                        have hba : BackSt w.heap.size ((wr.setCell ⟨qs, ρ, none⟩ (.int .i64 1)).setCell ⟨qx, i, none⟩ (.int .u8 (x - 1))) p qs qt Q m.length (Tl.of m) (fun z => (seenC m (n - i) z : Int)) (fun i => (lfL m i : Int)) (fun s => ((belowL m (s : Int) + cnt (m.take m.length) (s : Int) : Nat) : Int)) := by
                          have h1 := HST.out.setSeen ρ 1
                          have h2 := h1.chg (Chg.refl.setCell (S := fun b => b = qx) ⟨qx, i, none⟩ (Or.inl rfl) (.int .u8 (x - 1))) (fun e => by have e : p = qx := e; omega) (fun e => by have e : qs = qx := e; omega) (fun e => by have e : qt = qx := e; omega) (fun e => by have e : Q = qx := e; omega)
                          refine h2.congr (fun z _ => ?_) (fun _ _ => rfl) (fun _ _ => rfl)
                          rw [HSS.out z]
                          by_cases e : z = ρ
                          · subst e; rw [if_pos rfl, if_pos rfl, HSV.out]; rfl
                          · rw [if_neg e, if_neg (fun h => e h.symm)]; rfl
                        have hqq : ((wr.setCell ⟨qs, ρ, none⟩ (.int .i64 1)).setCell ⟨qx, i, none⟩ (.int .u8 (x - 1))).heap[qx]? = some (.cells (vecL (fun z => .int .u8 (if i ≤ z then (textOf m)[z]?.getD 0 else 0)) n).toArray 5 (0, 0)) := by
                          have h0 := (Chg.refl.setCell (S := fun b => b = qs) (w := wr) ⟨qs, ρ, none⟩ (Or.inl rfl) (.int .i64 1)).heap HQR.out (fun e => by have e : qx = qs := e; omega)
                          rw [vec_set h0, vecL_congr]
                          intro z hz
                          by_cases e : z = i
                          · subst e; rw [if_pos rfl, if_pos (Nat.le_refl _), HTX.out]
                          · rw [if_neg e]
                            by_cases e2 : i ≤ z
                            · rw [if_pos e2, if_pos (by omega)]
                            · rw [if_neg e2, if_neg (by omega)]
                        have hbb : Below w.heap.size w ((wr.setCell ⟨qs, ρ, none⟩ (.int .i64 1)).setCell ⟨qx, i, none⟩ (.int .u8 (x - 1))) := below_setQ (below_setQ hbw hs hlo.2.1 _) (by simp [World.setCell]; exact hs) (by omega) _
                        have HBA := Lib.hid hba
                        have HQQ := Lib.hid hqq
                        have HBB := Lib.hid hbb
                        have hne : qx ≠ qs := by omega
                        have hne2 : qt ≠ qs := fun e => HST.out.ne.1 e.symm
                        have hne3 : qt ≠ qx := by omega
                        clear hba hqq hbb
                        go_wp2_with (go_at_call 62; refine (HBY.out _).mono ?_; rintro e w' ⟨rfl, rfl⟩)
                        go_roundw
                        case rel =>
                          refine ⟨i, by omega, by go_num, by rw [HZE.out], HBA.out, HQQ.out, fun j hj => ?_, HBB.out⟩
                          by_cases e : j < n - (i + 1)
                          · exact HBS.out j e
                          · obtain rfl : j = n - (i + 1) := by omega
                            rw [HCE.out, HXE.out]; exact hx1
                        case measure => simp [intOf]
                      · have d1 : decide (0 < sv) = true := by simp; omega
                        have d2 : 0 < sv := by omega
                        have HNO : Hid (∀ t, ¬ IsLast t m) := HNO2.out (by omega)
                        clear hs0
                        go_wp2_with (go_at_call 62; refine (HBY.out _).mono ?_; rintro e w' ⟨rfl, rfl⟩)
                        go_ret2
                        exact back_no HNO.out hbw
                    · have hby := fun w => symByte_no x w (by omega)
                      have HBY := Lib.hid hby
                      have HNO : Hid (∀ t, ¬ IsLast t m) := HNO1.out (by omega)
                      clear hby
                      go_wp2_with (go_at_call 62; refine (HBY.out _).mono ?_; rintro e w' ⟨rfl, rfl⟩)
                      go_ret2
                      exact back_no HNO.out hbw
    · have d1 : ((cnt m 0 : Int) != 1) = true := by rw [bne_iff_ne]; omega
      have HNO : Hid (∀ t, ¬ IsLast t m) := fun t h => h1 h.zero
      clear h1
      generalize (cnt m 0 : Int) = z at *
      go_wp2_with (go_at_call 60; refine HOF.out.mono ?_; rintro e w' ⟨rfl, rfl⟩)
      go_ret2
      exact back_no HNO.out HB1.out
  · have HNO : Hid (∀ t, ¬ IsLast t m) := fun t h => hsy h.range
    obtain ⟨k0, hk0, h1, h2⟩ := first_bad hsy
    have hnew := tNew_fail (c := c) hr hk0 h1 h2 (by omega)
    have HNEW := Lib.hid hnew
    clear hnew h1 h2 hsy
    go_enter Try.func20, Try.ntmps20
    go_wp2_with fail
    refine HNEW.out.mono ?_
    rintro e w1 ⟨rfl, hb1⟩
    go_wp2_with fail
    go_ret2
    exact back_no HNO.out hb1

end Go.Proofs.Ytpbmhdkhkbhgnaa
