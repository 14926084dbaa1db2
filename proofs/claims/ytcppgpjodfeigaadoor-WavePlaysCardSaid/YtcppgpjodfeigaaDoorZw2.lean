/- Lemmas and contracts under the claims of this seat: Contracts of block.Rank and block.Select. Arrays whose cells are told by a function of the place; of no program. Contracts of package block that write: New, set, Insert, Delete. Contracts of block.All, Split, Join. Plain lemmas on arenas, of no program: which nodes are taken, which are free. Contracts of package arena: New, Take, Free, Is, Live, Made. Contracts of arena.Take. Contracts of arena.Free. -/
import Derived.Test.YtcppgpjodfeigaaDoorZw1
import Derived.Deep.DeepCutAuto
import Derived.Deep.CutBlock
import Derived.Deep.CutRange
import Derived.Laws.MakeOwn
import Derived.LaidEqlPtr
import Derived.Deep.QuietTactic
import Derived.BigQuiet
import Derived.Below

namespace Go.Proofs.YtcppgpjodfeigaaDoor
set_option linter.unusedVariables false
set_option linter.unusedSimpArgs false
open Go.RowKit
theorem blkRank_nil (w : World) (k : Int) : Calls Tryd.prog 65 #[.pointer none, .int .i64 k] w fun e w' => e = .returned (.int .i64 0) ∧ w = w' := by
  go_enter Tryd.func65, Tryd.ntmps65
  go_wp2_with fail
  go_ret
  exact ⟨rfl, rfl⟩
theorem rank_two {l : List Bool} {K : Nat} (h : K ≤ l.length) (h128 : l.length ≤ 128) : pc (loW l) (min K 64) + pc (hiW l) (min (K - 64) 64) = rankL l K true := by
  by_cases h64 : K ≤ 64
  · rw [Nat.min_eq_left h64, pc_lo h64, show min (K - 64) 64 = 0 by omega]; rfl
  · rw [Nat.min_eq_right (by omega), pc_lo (Nat.le_refl _), Nat.min_eq_left (by omega), pc_hi (by omega), show 64 + (K - 64) = K by omega]
theorem idx0 (a b : Value) (w : World) : (Instr.index 112 (.agg #[a, b]) (.int .i64 0)).run Tryd.prog w = .ok a w := by kernel_rfl
theorem idx1 (a b : Value) (w : World) : (Instr.index 112 (.agg #[a, b]) (.int .i64 1)).run Tryd.prog w = .ok b w := by kernel_rfl

set_option maxHeartbeats 1600000 in
theorem blkRank_core {w : World} {p : Nat} {l : List Bool} (h : IsBlock w p l) (k : Int) (K : Nat) (hk : (k < 0 ∧ K = 0) ∨ (0 ≤ k ∧ k ≤ l.length ∧ k = K) ∨ ((l.length : Int) < k ∧ K = l.length)) :
    Calls Tryd.prog 65 #[.pointer (some ⟨p, 0, none⟩), .int .i64 k] w fun e w' => e = .returned (.int .i64 (rankL l K true)) ∧ Below w.heap.size w w' := by
  obtain ⟨h0, h1, h2, _⟩ := h.cells
  have hl := h.1
  have hR : pc (loW l) (min K 64) + pc (hiW l) (min (K - 64) 64) = rankL l K true := rank_two (by omega) hl
  have hx := loW_lt l
  have hy := hiW_lt l
  have q1 := pc_le (loW l) (min K 64)
  have q2 := pc_le (hiW l) (min (K - 64) 64)
  have q1' : pc (loW l) (min K 64) ≤ 64 := by omega
  have q2' : pc (hiW l) (min (K - 64) 64) ≤ 64 := by omega
  have R1 : Hid (∀ (a : Int) (w : World), a = (K : Int) → Calls Tryd.prog 95 #[.int .u64 (loW l), .int .i64 a] w fun e w' => e = .returned (.int .i64 (pc (loW l) (min K 64))) ∧ Below w.heap.size w w') :=
    fun a w ha => rank_lit (loW l) w hx rfl (by rw [ha, Int.toNat_natCast])
  have R2 : Hid (∀ (a : Int) (w : World), a = (K : Int) - 64 → Calls Tryd.prog 95 #[.int .u64 (hiW l), .int .i64 a] w fun e w' => e = .returned (.int .i64 (pc (hiW l) (min (K - 64) 64))) ∧ Below w.heap.size w w') :=
    fun a w ha => rank_lit (hiW l) w hy rfl (by rw [ha]; congr 2; omega)
  have HR := Lib.hid hR
  have HB := Lib.hid h
  have I0 := idx0 (.int .u64 (loW l)) (.int .u64 (hiW l))
  have I1 := idx1 (.int .u64 (loW l)) (.int .u64 (hiW l))
  clear q1 q2 hR h hx hy
  generalize pc (loW l) (min K 64) = A at *
  generalize pc (hiW l) (min (K - 64) 64) = B at *
  rcases hk with ⟨hk, rfl⟩ | ⟨hk1, hk2, rfl⟩ | ⟨hk, rfl⟩
  all_goals
    go_enter Tryd.func65, Tryd.ntmps65
    go_wp2_with fail
    refine wp_loop_rounds 3 ?_
    rw [rounds_succ]
    go_wp2_with fail
    refine (R1.out _ _ (by omega)).mono ?_
    rintro e w1 ⟨rfl, hb⟩
    obtain ⟨g0, _⟩ := (HB.out.below' hb).cells
    go_wp2_with fail
    rw [rounds_succ]
    go_wp2_with fail
    refine (R2.out _ _ (by omega)).mono ?_
    rintro e w2 ⟨rfl, hb2⟩
    have hb3 := hb.trans (hb2.mono hb.size)
    clear hb hb2
    go_wp2_with fail
    rw [rounds_succ]
    go_wp2_with fail
    go_ret
    exact ⟨ret_int (by rw [← HR.out]; simp), hb3⟩

/-- Rank, whatever is asked. -/
theorem blkRank {w : World} {p : Nat} {l : List Bool} (h : IsBlock w p l) (k : Int) :
    Calls Tryd.prog 65 #[.pointer (some ⟨p, 0, none⟩), .int .i64 k] w fun e w' => e = .returned (.int .i64 (rankL l k.toNat true)) ∧ Below w.heap.size w w' := by
  by_cases h1 : k < 0
  · have := blkRank_core h k 0 (Or.inl ⟨h1, rfl⟩)
    rwa [show k.toNat = 0 by omega]
  · by_cases h2 : k ≤ l.length
    · exact blkRank_core h k k.toNat (Or.inr (Or.inl ⟨by omega, h2, by omega⟩))
    · have := blkRank_core h k l.length (Or.inr (Or.inr ⟨by omega, rfl⟩))
      rwa [rankL_over true (Nat.le_refl _), ← rankL_over (k := k.toNat) true (by omega)] at this

theorem blkSelect_none (w : World) (j : Int) (b : Bool) : Calls Tryd.prog 66 #[.pointer none, .int .i64 j, .bool b] w fun e w' => e = .returned (.int .i64 (-1)) ∧ w = w' := by
  go_enter Tryd.func66, Tryd.ntmps66
  go_wp2_with fail
  go_ret
  exact ⟨rfl, rfl⟩
theorem blkSelect_neg (w : World) (p : Nat) (j : Int) (b : Bool) (hj : j < 0) : Calls Tryd.prog 66 #[.pointer (some ⟨p, 0, none⟩), .int .i64 j, .bool b] w fun e w' => e = .returned (.int .i64 (-1)) ∧ w = w' := by
  go_enter Tryd.func66, Tryd.ntmps66
  go_wp2_with fail
  go_ret
  exact ⟨rfl, rfl⟩


set_option maxHeartbeats 3200000 in
theorem blkSelect_true {w : World} {p : Nat} {l : List Bool} (h : IsBlock w p l) (hT : BitTab w) (j : Nat) (hjm : (j : Int) ≤ 9223372036854775807) :
    Calls Tryd.prog 66 #[.pointer (some ⟨p, 0, none⟩), .int .i64 j, .bool true] w fun e w' => e = .returned (.int .i64 (selL l j true)) ∧ Below w.heap.size w w' := by
  obtain ⟨h0, h1, h2, _⟩ := h.cells
  have hl := h.1
  have hx := loW_lt l
  have hy := hiW_lt l
  have I0 := idx0 (.int .u64 (loW l)) (.int .u64 (hiW l))
  have I1 := idx1 (.int .u64 (loW l)) (.int .u64 (hiW l))
  have LX : Hid (loW l < 2 ^ 64) := likeW_lt hx true
  have LY : Hid (hiW l < 2 ^ 64) := likeW_lt hy true
  have p1 : pc (loW l) 64 ≤ 64 := pc_le _ 64
  have p2 : pc (hiW l) 64 ≤ 64 := pc_le _ 64
  have S1 : Hid (j < pc (loW l) 64 → ∃ k : Nat, k < 64 ∧ sel (loW l) j = k ∧ selL l j true = if k < l.length then (k : Int) else -1) := sel_lo (l := l) (j := j) (b := true)
  have S2 : Hid (pc (loW l) 64 ≤ j → j - pc (loW l) 64 < pc (hiW l) 64 → ∃ k : Nat, k < 64 ∧ sel (hiW l) ((j : Int) - (pc (loW l) 64 : Nat)) = k ∧ selL l j true = if 64 + k < l.length then ((64 + k : Nat) : Int) else -1) :=
    fun a b => sel_hi (l := l) (j := j) (b := true) a b hl
  have S3 : Hid (pc (loW l) 64 + pc (hiW l) 64 ≤ j → selL l j true = -1) := fun a => sel_no (l := l) (j := j) (b := true) a hl
  have C0 : Hid (∀ (w : World) (b off c : Nat), w.cell? ⟨b, off, none⟩ = some (.int .u64 (loW l)) → Calls Tryd.prog 96 #[.slice (some ⟨b, off, none⟩) 1 c] w fun e w' => e = .returned (.int .i64 (pc (loW l) 64)) ∧ w = w') :=
    fun w b off c hc => count_one _ w b off c hc LX.out
  have C1 : Hid (∀ (w : World) (b off c : Nat), w.cell? ⟨b, off, none⟩ = some (.int .u64 (hiW l)) → Calls Tryd.prog 96 #[.slice (some ⟨b, off, none⟩) 1 c] w fun e w' => e = .returned (.int .i64 (pc (hiW l) 64)) ∧ w = w') :=
    fun w b off c hc => count_one _ w b off c hc LY.out
  have HT := Lib.hid hT
  have HB := Lib.hid h
  clear hT h hx hy
  generalize pc (loW l) 64 = n0 at *
  generalize pc (hiW l) 64 = n1 at *
  by_cases hj0 : j < n0
  · obtain ⟨k, hk, hs, hr⟩ := S1.out hj0
    have HS := Lib.hid hs
    have HR := Lib.hid hr
    clear hs hr S1 S2 S3 C1
    by_cases hkl : k < l.length
    all_goals
      go_enter Tryd.func66, Tryd.ntmps66
      go_wp2_with fail
      refine wp_loop_rounds 3 ?_
      rw [rounds_succ]
      go_wp2_with fail
      refine (C0.out _ _ _ _ (by simp [go_sem])).mono ?_
      rintro e w' ⟨rfl, rfl⟩
      have hb := below_alloc w (.cells #[.int .u64 (loW l)] 111)
      have hs1 := hb.size
      generalize w.alloc (.cells #[.int .u64 (loW l)] 111) = w1 at *
      go_wp2_with fail
      refine (select_lit (Y := (k : Int)) (loW l) _ LX.out (HT.out.below' hb) rfl HS.out).mono ?_
      rintro e w2 ⟨rfl, hb2⟩
      have hb := hb.trans (hb2.mono hs1)
      obtain ⟨g0, _⟩ := (HB.out.below' hb).cells
      clear hb2
      go_wp2_with fail
      go_ret
      exact ⟨ret_int (by rw [HR.out]; simp [hkl]), hb⟩
  · by_cases hj1 : j < n0 + n1
    · obtain ⟨k, hk, hs, hr⟩ := S2.out (by omega) (by omega)
      have HS := Lib.hid hs
      have HR := Lib.hid hr
      clear hs hr S1 S2 S3
      by_cases hkl : 64 + k < l.length
      all_goals
        go_enter Tryd.func66, Tryd.ntmps66
        go_wp2_with fail
        refine wp_loop_rounds 3 ?_
        rw [rounds_succ]
        go_wp2_with fail
        refine (C0.out _ _ _ _ (by simp [go_sem])).mono ?_
        rintro e w' ⟨rfl, rfl⟩
        have hb := below_alloc w (.cells #[.int .u64 (loW l)] 111)
        have hs1 := hb.size
        generalize w.alloc (.cells #[.int .u64 (loW l)] 111) = w1 at *
        go_wp2_with fail
        rw [rounds_succ]
        go_wp2_with fail
        refine (C1.out _ _ _ _ (by simp [go_sem])).mono ?_
        rintro e w' ⟨rfl, rfl⟩
        have hb := hb.alloc hs1 (.cells #[.int .u64 (hiW l)] 111)
        have hs1 := hb.size
        generalize w1.alloc (.cells #[.int .u64 (hiW l)] 111) = w2 at *
        go_wp2_with fail
        refine (select_lit (Y := (k : Int)) (hiW l) _ LY.out (HT.out.below' hb) rfl HS.out).mono ?_
        rintro e w3 ⟨rfl, hb2⟩
        have hb := hb.trans (hb2.mono hs1)
        obtain ⟨g0, _⟩ := (HB.out.below' hb).cells
        clear hb2
        go_wp2_with fail
        go_ret
        exact ⟨ret_int (by rw [HR.out]; simp [hkl]), hb⟩
    · have hr := S3.out (by omega)
      have HR := Lib.hid hr
      clear hr S1 S2 S3
      go_enter Tryd.func66, Tryd.ntmps66
      go_wp2_with fail
      refine wp_loop_rounds 3 ?_
      rw [rounds_succ]
      go_wp2_with fail
      refine (C0.out _ _ _ _ (by simp [go_sem])).mono ?_
      rintro e w' ⟨rfl, rfl⟩
      have hb := below_alloc w (.cells #[.int .u64 (loW l)] 111)
      have hs1 := hb.size
      generalize w.alloc (.cells #[.int .u64 (loW l)] 111) = w1 at *
      go_wp2_with fail
      rw [rounds_succ]
      go_wp2_with fail
      refine (C1.out _ _ _ _ (by simp [go_sem])).mono ?_
      rintro e w' ⟨rfl, rfl⟩
      have hb := hb.alloc hs1 (.cells #[.int .u64 (hiW l)] 111)
      generalize w1.alloc (.cells #[.int .u64 (hiW l)] 111) = w2 at *
      go_wp2_with fail
      rw [rounds_succ]
      go_wp2_with fail
      go_ret
      exact ⟨ret_int HR.out.symm, hb⟩

set_option maxHeartbeats 3200000 in
theorem blkSelect_false {w : World} {p : Nat} {l : List Bool} (h : IsBlock w p l) (hT : BitTab w) (j : Nat) (hjm : (j : Int) ≤ 9223372036854775807) :
    Calls Tryd.prog 66 #[.pointer (some ⟨p, 0, none⟩), .int .i64 j, .bool false] w fun e w' => e = .returned (.int .i64 (selL l j false)) ∧ Below w.heap.size w w' := by
  obtain ⟨h0, h1, h2, _⟩ := h.cells
  have hl := h.1
  have hx := loW_lt l
  have hy := hiW_lt l
  have N1 := not_run hx
  have N2 := not_run hy
  have I0 := idx0 (.int .u64 (loW l)) (.int .u64 (hiW l))
  have I1 := idx1 (.int .u64 (loW l)) (.int .u64 (hiW l))
  have LX : Hid (notW (loW l) < 2 ^ 64) := likeW_lt hx false
  have LY : Hid (notW (hiW l) < 2 ^ 64) := likeW_lt hy false
  have p1 : pc (notW (loW l)) 64 ≤ 64 := pc_le _ 64
  have p2 : pc (notW (hiW l)) 64 ≤ 64 := pc_le _ 64
  have S1 : Hid (j < pc (notW (loW l)) 64 → ∃ k : Nat, k < 64 ∧ sel (notW (loW l)) j = k ∧ selL l j false = if k < l.length then (k : Int) else -1) := sel_lo (l := l) (j := j) (b := false)
  have S2 : Hid (pc (notW (loW l)) 64 ≤ j → j - pc (notW (loW l)) 64 < pc (notW (hiW l)) 64 → ∃ k : Nat, k < 64 ∧ sel (notW (hiW l)) ((j : Int) - (pc (notW (loW l)) 64 : Nat)) = k ∧ selL l j false = if 64 + k < l.length then ((64 + k : Nat) : Int) else -1) :=
    fun a b => sel_hi (l := l) (j := j) (b := false) a b hl
  have S3 : Hid (pc (notW (loW l)) 64 + pc (notW (hiW l)) 64 ≤ j → selL l j false = -1) := fun a => sel_no (l := l) (j := j) (b := false) a hl
  have C0 : Hid (∀ (w : World) (b off c : Nat), w.cell? ⟨b, off, none⟩ = some (.int .u64 (notW (loW l))) → Calls Tryd.prog 96 #[.slice (some ⟨b, off, none⟩) 1 c] w fun e w' => e = .returned (.int .i64 (pc (notW (loW l)) 64)) ∧ w = w') :=
    fun w b off c hc => count_one _ w b off c hc LX.out
  have C1 : Hid (∀ (w : World) (b off c : Nat), w.cell? ⟨b, off, none⟩ = some (.int .u64 (notW (hiW l))) → Calls Tryd.prog 96 #[.slice (some ⟨b, off, none⟩) 1 c] w fun e w' => e = .returned (.int .i64 (pc (notW (hiW l)) 64)) ∧ w = w') :=
    fun w b off c hc => count_one _ w b off c hc LY.out
  have HT := Lib.hid hT
  have HB := Lib.hid h
  clear hT h hx hy
  generalize pc (notW (loW l)) 64 = n0 at *
  generalize pc (notW (hiW l)) 64 = n1 at *
  by_cases hj0 : j < n0
  · obtain ⟨k, hk, hs, hr⟩ := S1.out hj0
    have HS := Lib.hid hs
    have HR := Lib.hid hr
    clear hs hr S1 S2 S3 C1
    by_cases hkl : k < l.length
    all_goals
      go_enter Tryd.func66, Tryd.ntmps66
      go_wp2_with fail
      refine wp_loop_rounds 3 ?_
      rw [rounds_succ]
      go_wp2_with fail
      refine (C0.out _ _ _ _ (by simp [go_sem])).mono ?_
      rintro e w' ⟨rfl, rfl⟩
      have hb := below_alloc w (.cells #[.int .u64 (notW (loW l))] 111)
      have hs1 := hb.size
      generalize w.alloc (.cells #[.int .u64 (notW (loW l))] 111) = w1 at *
      go_wp2_with fail
      refine (select_lit (Y := (k : Int)) (notW (loW l)) _ LX.out (HT.out.below' hb) rfl HS.out).mono ?_
      rintro e w2 ⟨rfl, hb2⟩
      have hb := hb.trans (hb2.mono hs1)
      obtain ⟨g0, _⟩ := (HB.out.below' hb).cells
      clear hb2
      go_wp2_with fail
      go_ret
      exact ⟨ret_int (by rw [HR.out]; simp [hkl]), hb⟩
  · by_cases hj1 : j < n0 + n1
    · obtain ⟨k, hk, hs, hr⟩ := S2.out (by omega) (by omega)
      have HS := Lib.hid hs
      have HR := Lib.hid hr
      clear hs hr S1 S2 S3
      by_cases hkl : 64 + k < l.length
      all_goals
        go_enter Tryd.func66, Tryd.ntmps66
        go_wp2_with fail
        refine wp_loop_rounds 3 ?_
        rw [rounds_succ]
        go_wp2_with fail
        refine (C0.out _ _ _ _ (by simp [go_sem])).mono ?_
        rintro e w' ⟨rfl, rfl⟩
        have hb := below_alloc w (.cells #[.int .u64 (notW (loW l))] 111)
        have hs1 := hb.size
        generalize w.alloc (.cells #[.int .u64 (notW (loW l))] 111) = w1 at *
        go_wp2_with fail
        rw [rounds_succ]
        go_wp2_with fail
        refine (C1.out _ _ _ _ (by simp [go_sem])).mono ?_
        rintro e w' ⟨rfl, rfl⟩
        have hb := hb.alloc hs1 (.cells #[.int .u64 (notW (hiW l))] 111)
        have hs1 := hb.size
        generalize w1.alloc (.cells #[.int .u64 (notW (hiW l))] 111) = w2 at *
        go_wp2_with fail
        refine (select_lit (Y := (k : Int)) (notW (hiW l)) _ LY.out (HT.out.below' hb) rfl HS.out).mono ?_
        rintro e w3 ⟨rfl, hb2⟩
        have hb := hb.trans (hb2.mono hs1)
        obtain ⟨g0, _⟩ := (HB.out.below' hb).cells
        clear hb2
        go_wp2_with fail
        go_ret
        exact ⟨ret_int (by rw [HR.out]; simp [hkl]), hb⟩
    · have hr := S3.out (by omega)
      have HR := Lib.hid hr
      clear hr S1 S2 S3
      go_enter Tryd.func66, Tryd.ntmps66
      go_wp2_with fail
      refine wp_loop_rounds 3 ?_
      rw [rounds_succ]
      go_wp2_with fail
      refine (C0.out _ _ _ _ (by simp [go_sem])).mono ?_
      rintro e w' ⟨rfl, rfl⟩
      have hb := below_alloc w (.cells #[.int .u64 (notW (loW l))] 111)
      have hs1 := hb.size
      generalize w.alloc (.cells #[.int .u64 (notW (loW l))] 111) = w1 at *
      go_wp2_with fail
      rw [rounds_succ]
      go_wp2_with fail
      refine (C1.out _ _ _ _ (by simp [go_sem])).mono ?_
      rintro e w' ⟨rfl, rfl⟩
      have hb := hb.alloc hs1 (.cells #[.int .u64 (notW (hiW l))] 111)
      generalize w1.alloc (.cells #[.int .u64 (notW (hiW l))] 111) = w2 at *
      go_wp2_with fail
      rw [rounds_succ]
      go_wp2_with fail
      go_ret
      exact ⟨ret_int HR.out.symm, hb⟩

/-- Select, whatever is asked. -/
theorem blkSelect {w : World} {p : Nat} {l : List Bool} (h : IsBlock w p l) (hT : BitTab w) (j : Int) (b : Bool) (hjm : j ≤ 9223372036854775807) :
    Calls Tryd.prog 66 #[.pointer (some ⟨p, 0, none⟩), .int .i64 j, .bool b] w fun e w' => e = .returned (.int .i64 (selL l j b)) ∧ Below w.heap.size w w' := by
  by_cases hj : j < 0
  · rw [selL_neg hj]
    refine (blkSelect_neg w p j b hj).mono ?_
    rintro e w' ⟨rfl, rfl⟩
    exact ⟨rfl, Below.refl _ _⟩
  · obtain ⟨n, rfl⟩ := Int.eq_ofNat_of_zero_le (show 0 ≤ j by omega)
    cases b
    · exact blkSelect_false h hT n hjm
    · exact blkSelect_true h hT n hjm

end Go.Proofs.YtcppgpjodfeigaaDoor

namespace Go.Proofs.YtcppgpjodfeigaaDoor
set_option linter.unusedVariables false
set_option linter.unusedSimpArgs false
open Go.RowKit

def vecL (f : Nat → Value) (n : Nat) : List Value := (List.range n).map f
theorem vecL_get {f : Nat → Value} {n i : Nat} (h : i < n) : (vecL f n)[i]? = some (f i) := by simp [vecL, h]
theorem vecL_len (f : Nat → Value) (n : Nat) : (vecL f n).length = n := by simp [vecL]
theorem vecL_set {f : Nat → Value} {n s : Nat} (v : Value) : (vecL f n).set s v = vecL (fun i => if i = s then v else f i) n := by
  apply List.ext_getElem?
  intro i
  rw [List.getElem?_set]
  by_cases hi : i < n
  · rw [vecL_get hi, vecL_get hi, vecL_len]
    by_cases e : s = i
    · subst e; simp [hi]
    · rw [if_neg e, if_neg (fun h => e h.symm)]
  · rw [List.getElem?_eq_none (by rw [vecL_len]; omega), List.getElem?_eq_none (by rw [vecL_len]; omega), vecL_len]
    split
    · rw [if_neg (by omega)]
    · rfl
theorem vecL_congr {f g : Nat → Value} {n : Nat} (h : ∀ i, i < n → f i = g i) : vecL f n = vecL g n := by
  apply List.ext_getElem?
  intro i
  by_cases hi : i < n
  · rw [vecL_get hi, vecL_get hi, h i hi]
  · rw [List.getElem?_eq_none (by rw [vecL_len]; omega), List.getElem?_eq_none (by rw [vecL_len]; omega)]

theorem vec_cell {w : World} {Q n i : Nat} {f : Nat → Value} {T : TypeId} (h : w.heap[Q]? = some (.cells (vecL f n).toArray T (0, 0))) (hi : i < n) : w.cell? ⟨Q, i, none⟩ = some (f i) := by
  rw [cell_of_row w Q i _ _ _ h, List.getElem?_toArray, vecL_get hi]
theorem vec_set {w : World} {Q n s : Nat} {f : Nat → Value} {T : TypeId} (h : w.heap[Q]? = some (.cells (vecL f n).toArray T (0, 0))) (v : Value) :
    (w.setCell ⟨Q, s, none⟩ v).heap[Q]? = some (.cells (vecL (fun i => if i = s then v else f i) n).toArray T (0, 0)) := by
  have h2 := heap_setCell_same w Q s _ _ v h
  rw [List.setIfInBounds_toArray, vecL_set] at h2
  exact h2
theorem below_setQ {B : Nat} {w w' : World} (h : Below B w w') (hB : B ≤ w'.heap.size) {Q s : Nat} (hQ : B ≤ Q) (u : Value) : Below B w (w'.setCell ⟨Q, s, none⟩ u) :=
  h.trans (((Chg.refl (S := fun k => k = Q)).setCell ⟨Q, s, none⟩ (Or.inl rfl) u).below (fun b hb => by rw [hb]; exact hQ) hB)
theorem below_drewQ {B : Nat} {w w' : World} (h : Below B w w') (n : Nat) : Below B w (w'.drewN n) := ⟨h.os, h.tape, h.output, h.size, h.block⟩
theorem below_heap {w w' : World} {Q : Nat} {o : Obj} (h : Below w.heap.size w w') (hq : w.heap[Q]? = some o) : w'.heap[Q]? = some o :=
  (h.block Q (Array.getElem?_eq_some_iff.1 hq).1).trans hq

end Go.Proofs.YtcppgpjodfeigaaDoor

namespace Go.Proofs.YtcppgpjodfeigaaDoor
set_option linter.unusedVariables false
set_option linter.unusedSimpArgs false
open Go.RowKit

/-- Block p: so many bits, two words. -/
def Blk (w : World) (p : Nat) (n : Int) (x y : Nat) : Prop := w.heap[p]? = some (.cells #[.int .i64 n, .int .u64 x, .int .u64 y] 114 (0, 0))
theorem Blk.cells {w : World} {p : Nat} {n : Int} {x y : Nat} (h : Blk w p n x y) : w.cell? ⟨p, 0, none⟩ = some (.int .i64 n) ∧ w.cell? ⟨p, 1, none⟩ = some (.int .u64 x) ∧ w.cell? ⟨p, 2, none⟩ = some (.int .u64 y) ∧ ∀ j, w.frozen? ⟨p, j, none⟩ = false :=
  ⟨by rw [cell_of_row w p 0 _ _ _ h]; rfl, by rw [cell_of_row w p 1 _ _ _ h]; rfl, by rw [cell_of_row w p 2 _ _ _ h]; rfl, fun j => frozen_of_row w p j _ _ h⟩
theorem Blk.set0 {w : World} {p : Nat} {n : Int} {x y : Nat} (h : Blk w p n x y) (n' : Int) : Blk (w.setCell ⟨p, 0, none⟩ (.int .i64 n')) p n' x y := heap_setCell_same w p 0 _ _ (.int .i64 n') h
theorem Blk.set1 {w : World} {p : Nat} {n : Int} {x y : Nat} (h : Blk w p n x y) (x' : Nat) : Blk (w.setCell ⟨p, 1, none⟩ (.int .u64 x')) p n x' y := heap_setCell_same w p 1 _ _ (.int .u64 x') h
theorem Blk.set2 {w : World} {p : Nat} {n : Int} {x y : Nat} (h : Blk w p n x y) (y' : Nat) : Blk (w.setCell ⟨p, 2, none⟩ (.int .u64 y')) p n x y' := heap_setCell_same w p 2 _ _ (.int .u64 y') h
theorem Blk.lt {w : World} {p : Nat} {n : Int} {x y : Nat} (h : Blk w p n x y) : p < w.heap.size := (Array.getElem?_eq_some_iff.1 h).1

theorem pow_u64 {k : Nat} (h : k < 64) : IntKind.u64.wrap ((2 : Int) ^ k) = ((2 ^ k : Nat) : Int) := by
  have h2 := two_pow_lt h
  have h3 := Nat.two_pow_pos k
  rw [int_two_pow]; exact u64w (by omega) (by omega)
theorem bit_in {k m : Nat} (h : k % 64 = m) : IntKind.u64.wrap ((2 : Int) ^ min (IntKind.u64.wrap ((k : Int).tmod 64)).toNat 64) = ((2 ^ m : Nat) : Int) := by
  have h1 : (k : Int).tmod 64 = (m : Int) := by rw [Int.tmod_eq_emod_of_nonneg (by omega)]; omega
  have h2 : IntKind.u64.wrap (m : Int) = (m : Int) := u64w (by omega) (by omega)
  rw [h1, h2, Int.toNat_natCast, Nat.min_eq_left (by omega)]
  exact pow_u64 (by omega)
theorem quo_lo {k : Nat} (h : k < 64) : IntKind.i64.wrap ((k : Int) / 64) = 0 ∧ IntKind.i64.wrap ((k : Int).tmod 64) = k ∧ IntKind.i64.wrap ((k : Int) % 64) = k := by
  refine ⟨?_, ?_, ?_⟩
  · rw [IntWalk.i64_in] <;> omega
  · rw [Int.tmod_eq_emod_of_nonneg (by omega), IntWalk.i64_in] <;> omega
  · rw [IntWalk.i64_in] <;> omega
theorem quo_hi {k : Nat} (h : 64 ≤ k) (h2 : k < 128) : IntKind.i64.wrap ((k : Int) / 64) = 1 ∧ IntKind.i64.wrap ((k : Int).tmod 64) = ((k - 64 : Nat) : Int) ∧ IntKind.i64.wrap ((k : Int) % 64) = ((k - 64 : Nat) : Int) := by
  refine ⟨?_, ?_, ?_⟩
  · rw [IntWalk.i64_in] <;> omega
  · rw [Int.tmod_eq_emod_of_nonneg (by omega), IntWalk.i64_in] <;> omega
  · rw [IntWalk.i64_in] <;> omega

theorem blkNew_full (w : World) (a : Option Addr) (n c : Nat) (h : 128 < n) : Calls Tryd.prog 67 #[.slice a n c] w fun e w' => e = .returned (.tuple #[.pointer none, .int .i64 3]) ∧ w = w' := by
  have hd : decide ((128 : Int) < (n : Int)) = true := by simp; omega
  go_enter Tryd.func67, Tryd.ntmps67
  go_wp2_with fail
  go_ret2
  exact ⟨rfl, rfl⟩

set_option maxHeartbeats 1600000 in
set_option maxRecDepth 100000 in
theorem blkNew (w : World) (a : Option Addr) (c : Nat) (l : List Bool) (hr : ReadsV w a (l.map Value.bool)) (hl : l.length ≤ 128) :
    Calls Tryd.prog 67 #[.slice a l.length c] w fun e w' => e = .returned (.tuple #[.pointer (some ⟨w.heap.size, 0, none⟩), .int .i64 0]) ∧ IsBlock w' w.heap.size l ∧ Below w.heap.size w w' := by
  have hd : decide ((128 : Int) < (l.length : Int)) = false := by simp; omega
  have hb0 := below_alloc w (.cells #[.int .i64 l.length, .int .u64 0, .int .u64 0] 114)
  have hk0 : Blk (w.alloc (.cells #[.int .i64 l.length, .int .u64 0, .int .u64 0] 114)) w.heap.size l.length (loW (l.take 0)) (hiW (l.take 0)) := by
    have e1 : loW (l.take 0) = 0 := by rw [List.take_zero]; exact loW_nil
    have e2 : hiW (l.take 0) = 0 := by rw [List.take_zero]; exact hiW_nil
    rw [e1, e2]; exact heap_alloc_new w _
  have HK0 := Lib.hid hk0
  have HR := Lib.hid hr
  obtain ⟨p, hp⟩ : ∃ p, w.heap.size = p := ⟨_, rfl⟩
  have HP := Lib.hid hp
  clear hk0 hr hp
  go_enter Tryd.func67, Tryd.ntmps67
  go_wp2_with fail
  rw [HP.out]
  go_loopw [16] (fun i wr => ∃ k : Nat, k ≤ l.length ∧ i = .int .i64 k ∧ Blk wr p l.length (loW (l.take k)) (hiW (l.take k)) ∧ Below w.heap.size w wr) (fun i _ => l.length - (intOf i).toNat)
  case atStart => exact ⟨0, Nat.zero_le _, rfl, by have := HK0.out; rw [HP.out] at this; exact this, hb0⟩
  case round =>
    obtain ⟨k, hk, rfl, hbk, hb⟩ := hrel
    clear hb0
    by_cases hlt : k < l.length
    · obtain ⟨b, off, rfl, hbl, hc⟩ := (HR.out.below' hb).some (by rw [List.length_map]; omega)
      have hcell := hc k (.bool (l[k]?.getD false)) (by rw [List.getElem?_map, List.getElem?_eq_getElem hlt]; rfl)
      have ht : l.take (k + 1) = l.take k ++ [l[k]?.getD false] := by rw [List.take_add_one, List.getElem?_eq_getElem hlt]; rfl
      have hlen : (l.take k).length = k := by rw [List.length_take]; omega
      have HT := Lib.hid ht
      have HLEN := Lib.hid hlen
      have hlo := loW_lt (l.take k)
      have hhi := hiW_lt (l.take k)
      generalize hbv : l[k]?.getD false = bv at *
      have HBV := Lib.hid hbv
      clear hc ht hlen hbv
      cases bv
      · have e1 : loW (l.take (k + 1)) = loW (l.take k) := by
          rw [HT.out]
          by_cases h : k < 64
          · rw [lo_snoc (by rw [HLEN.out]; exact h)]; simp
          · rw [lo_snoc2 (by rw [HLEN.out]; omega)]
        have e2 : hiW (l.take (k + 1)) = hiW (l.take k) := by
          rw [HT.out]
          by_cases h : k < 64
          · rw [hi_snoc (by rw [HLEN.out]; exact h)]
          · rw [hi_snoc2 (by rw [HLEN.out]; omega) (by rw [HLEN.out]; omega)]; simp
        have E1 := Lib.hid e1
        have E2 := Lib.hid e2
        have HBK := Lib.hid hbk
        clear e1 e2 hbk
        go_wp2_with fail
        go_roundw
        case rel => exact ⟨k + 1, by omega, by go_num, by rw [E1.out, E2.out]; exact HBK.out, hb⟩
        case measure => simp [intOf]; omega
      · by_cases h64 : k < 64
        · have e1 : loW (l.take (k + 1)) = loW (l.take k) ||| 2 ^ k := by
            rw [HT.out, lo_snoc (by rw [HLEN.out]; exact h64), HLEN.out]; simp
          have e2 : hiW (l.take (k + 1)) = hiW (l.take k) := by rw [HT.out, hi_snoc (by rw [HLEN.out]; exact h64)]
          have h2k := two_pow_lt h64
          have e3 : bits .or .u64 ((loW (l.take k) : Nat) : Int) (IntKind.u64.wrap ((2 : Int) ^ min (IntKind.u64.wrap ((k : Int).tmod 64)).toNat 64)) = ((loW (l.take k) ||| 2 ^ k : Nat) : Int) := by
            rw [bit_in (m := k) (by omega)]; exact or_u64 _ _ hlo (by omega)
          have E1 := Lib.hid e1
          have E2 := Lib.hid e2
          have E3 := Lib.hid e3
          generalize loW (l.take k) = x at *
          generalize hiW (l.take k) = y at *
          obtain ⟨c0, c1, c2, fz⟩ := hbk.cells
          have fz1 := fz 1
          obtain ⟨q1, q2, q3⟩ := quo_lo h64
          have HBK := Lib.hid hbk
          clear e1 e2 e3 hbk fz c0 c2 h2k
          go_wp2_with fail
          refine reg_start (fun _ => True) (by kernel_rfl) (trivial) (fun hHeld => ?_)
          refine reg_take (i := 0) (v := ?v0) rfl (by kernel_rfl) rfl hHeld ?y0 ?r0
          case y0 => (intro w hSw; (try dsimp only at hSw); go_simp; all_goals with_reducible rfl)
          try simp only [Act.put, List.setIfInBounds_toArray, List.set_cons_zero, List.set_cons_succ]
          refine reg_take (i := 1) (v := ?v1) rfl (by kernel_rfl) rfl hHeld ?y1 ?r1
          case y1 => (intro w hSw; (try dsimp only at hSw); go_simp; all_goals with_reducible rfl)
          try simp only [Act.put, List.setIfInBounds_toArray, List.set_cons_zero, List.set_cons_succ]
          refine reg_take (i := 2) (v := ?v2) rfl (by kernel_rfl) rfl hHeld ?y2 ?r2
          case y2 => (intro w hSw; (try dsimp only at hSw); go_simp; all_goals with_reducible rfl)
          try simp only [Act.put, List.setIfInBounds_toArray, List.set_cons_zero, List.set_cons_succ]
          refine reg_take (i := 3) (v := ?v3) rfl (by kernel_rfl) rfl hHeld ?y3 ?r3
          case y3 => (intro w hSw; (try dsimp only at hSw); go_simp; all_goals with_reducible rfl)
          try simp only [Act.put, List.setIfInBounds_toArray, List.set_cons_zero, List.set_cons_succ]
          refine reg_take (i := 4) (v := ?v4) rfl (by kernel_rfl) rfl hHeld ?y4 ?r4
          case y4 => (intro w hSw; (try dsimp only at hSw); go_simp; all_goals with_reducible rfl)
          try simp only [Act.put, List.setIfInBounds_toArray, List.set_cons_zero, List.set_cons_succ]
          refine reg_take (i := 5) (v := ?v5) rfl (by kernel_rfl) rfl hHeld ?y5 ?r5
          case y5 => (intro w hSw; (try dsimp only at hSw); go_simp; all_goals with_reducible rfl)
          try simp only [Act.put, List.setIfInBounds_toArray, List.set_cons_zero, List.set_cons_succ]
          refine reg_take (i := 7) (v := ?v7) rfl (by kernel_rfl) rfl hHeld ?y7 ?r7
          case y7 => (intro w hSw; (try dsimp only at hSw); go_simp; all_goals with_reducible rfl)
          try simp only [Act.put, List.setIfInBounds_toArray, List.set_cons_zero, List.set_cons_succ]
          refine reg_take (i := 8) (v := ?v8) rfl (by kernel_rfl) rfl hHeld ?y8 ?r8
          case y8 => (intro w hSw; (try dsimp only at hSw); go_simp; all_goals with_reducible rfl)
          try simp only [Act.put, List.setIfInBounds_toArray, List.set_cons_zero, List.set_cons_succ]
          refine reg_take (i := 9) (v := ?v9) rfl (by kernel_rfl) rfl hHeld ?y9 ?r9
          case y9 => (intro w hSw; (try dsimp only at hSw); go_simp; all_goals with_reducible rfl)
          try simp only [Act.put, List.setIfInBounds_toArray, List.set_cons_zero, List.set_cons_succ]
          refine reg_take (i := 10) (v := ?v10) rfl (by kernel_rfl) rfl hHeld ?y10 ?r10
          case y10 => (intro w hSw; (try dsimp only at hSw); go_simp; all_goals with_reducible rfl)
          try simp only [Act.put, List.setIfInBounds_toArray, List.set_cons_zero, List.set_cons_succ]
          refine reg_take (i := 12) (v := ?v12) rfl (by kernel_rfl) rfl hHeld ?y12 ?r12
          case y12 => (intro w hSw; (try dsimp only at hSw); go_simp; all_goals with_reducible rfl)
          try simp only [Act.put, List.setIfInBounds_toArray, List.set_cons_zero, List.set_cons_succ]
          refine reg_take (i := 13) (v := ?v13) rfl (by kernel_rfl) rfl hHeld ?y13 ?r13
          case y13 => (intro w hSw; (try dsimp only at hSw); go_simp; all_goals with_reducible rfl)
          try simp only [Act.put, List.setIfInBounds_toArray, List.set_cons_zero, List.set_cons_succ]
          refine reg_loud (i := 6) rfl (by kernel_rfl) rfl (fun K hK => ?_)
          go_simp
          refine hK.out _ _ (trivial) (fun hNew => ?_)
          clear hK K hHeld
          have hHeld := hNew
          clear hNew
          try simp only [Act.put, List.setIfInBounds_toArray, List.set_cons_zero, List.set_cons_succ]
          refine reg_take (i := 11) (v := ?v11) rfl (by kernel_rfl) rfl hHeld ?y11 ?r11
          case y11 => (intro w hSw; (try dsimp only at hSw); go_simp; all_goals with_reducible rfl)
          try simp only [Act.put, List.setIfInBounds_toArray, List.set_cons_zero, List.set_cons_succ]
          refine reg_take (i := 14) (v := ?v14) rfl (by kernel_rfl) rfl hHeld ?y14 ?r14
          case y14 => (intro w hSw; (try dsimp only at hSw); go_simp; all_goals with_reducible rfl)
          try simp only [Act.put, List.setIfInBounds_toArray, List.set_cons_zero, List.set_cons_succ]
          refine reg_loud (i := 15) rfl (by kernel_rfl) rfl (fun K hK => ?_)
          go_simp
          refine hK.out _ _ (trivial) (fun hNew => ?_)
          clear hK K hHeld
          have hHeld := hNew
          clear hNew
          try simp only [Act.put, List.setIfInBounds_toArray, List.set_cons_zero, List.set_cons_succ]
          refine reg_done (by kernel_rfl) ?_ _
          rw [E3.out]
          clear c1 fz1 q1 q2 q3
          go_wp2_with fail
          go_roundw
          case rel => exact ⟨k + 1, by omega, by go_num, by rw [E1.out, E2.out]; exact HBK.out.set1 _, below_setQ hb.drew hb.drew.size (by have := HP.out; omega) _⟩
          case measure => simp [intOf]; omega
        · have e1 : loW (l.take (k + 1)) = loW (l.take k) := by rw [HT.out, lo_snoc2 (by rw [HLEN.out]; omega)]
          have e2 : hiW (l.take (k + 1)) = hiW (l.take k) ||| 2 ^ (k - 64) := by
            rw [HT.out, hi_snoc2 (by rw [HLEN.out]; omega) (by rw [HLEN.out]; omega), HLEN.out]; simp
          have h2k := two_pow_lt (k := k - 64) (by omega)
          have e3 : bits .or .u64 ((hiW (l.take k) : Nat) : Int) (IntKind.u64.wrap ((2 : Int) ^ min (IntKind.u64.wrap ((k : Int).tmod 64)).toNat 64)) = ((hiW (l.take k) ||| 2 ^ (k - 64) : Nat) : Int) := by
            rw [bit_in (m := k - 64) (by omega)]; exact or_u64 _ _ hhi (by omega)
          have E1 := Lib.hid e1
          have E2 := Lib.hid e2
          have E3 := Lib.hid e3
          generalize loW (l.take k) = x at *
          generalize hiW (l.take k) = y at *
          obtain ⟨c0, c1, c2, fz⟩ := hbk.cells
          have fz1 := fz 2
          obtain ⟨q1, q2, q3⟩ := quo_hi (k := k) (by omega) (by omega)
          have HBK := Lib.hid hbk
          clear e1 e2 e3 hbk fz c0 c1 h2k
          go_wp2_with fail
          refine reg_start (fun _ => True) (by kernel_rfl) (trivial) (fun hHeld => ?_)
          refine reg_take (i := 0) (v := ?vb0) rfl (by kernel_rfl) rfl hHeld ?yb0 ?rb0
          case yb0 => (intro w hSw; (try dsimp only at hSw); go_simp; all_goals with_reducible rfl)
          try simp only [Act.put, List.setIfInBounds_toArray, List.set_cons_zero, List.set_cons_succ]
          refine reg_take (i := 1) (v := ?vb1) rfl (by kernel_rfl) rfl hHeld ?yb1 ?rb1
          case yb1 => (intro w hSw; (try dsimp only at hSw); go_simp; all_goals with_reducible rfl)
          try simp only [Act.put, List.setIfInBounds_toArray, List.set_cons_zero, List.set_cons_succ]
          refine reg_take (i := 2) (v := ?vb2) rfl (by kernel_rfl) rfl hHeld ?yb2 ?rb2
          case yb2 => (intro w hSw; (try dsimp only at hSw); go_simp; all_goals with_reducible rfl)
          try simp only [Act.put, List.setIfInBounds_toArray, List.set_cons_zero, List.set_cons_succ]
          refine reg_take (i := 3) (v := ?vb3) rfl (by kernel_rfl) rfl hHeld ?yb3 ?rb3
          case yb3 => (intro w hSw; (try dsimp only at hSw); go_simp; all_goals with_reducible rfl)
          try simp only [Act.put, List.setIfInBounds_toArray, List.set_cons_zero, List.set_cons_succ]
          refine reg_take (i := 4) (v := ?vb4) rfl (by kernel_rfl) rfl hHeld ?yb4 ?rb4
          case yb4 => (intro w hSw; (try dsimp only at hSw); go_simp; all_goals with_reducible rfl)
          try simp only [Act.put, List.setIfInBounds_toArray, List.set_cons_zero, List.set_cons_succ]
          refine reg_take (i := 5) (v := ?vb5) rfl (by kernel_rfl) rfl hHeld ?yb5 ?rb5
          case yb5 => (intro w hSw; (try dsimp only at hSw); go_simp; all_goals with_reducible rfl)
          try simp only [Act.put, List.setIfInBounds_toArray, List.set_cons_zero, List.set_cons_succ]
          refine reg_take (i := 7) (v := ?vb7) rfl (by kernel_rfl) rfl hHeld ?yb7 ?rb7
          case yb7 => (intro w hSw; (try dsimp only at hSw); go_simp; all_goals with_reducible rfl)
          try simp only [Act.put, List.setIfInBounds_toArray, List.set_cons_zero, List.set_cons_succ]
          refine reg_take (i := 8) (v := ?vb8) rfl (by kernel_rfl) rfl hHeld ?yb8 ?rb8
          case yb8 => (intro w hSw; (try dsimp only at hSw); go_simp; all_goals with_reducible rfl)
          try simp only [Act.put, List.setIfInBounds_toArray, List.set_cons_zero, List.set_cons_succ]
          refine reg_take (i := 9) (v := ?vb9) rfl (by kernel_rfl) rfl hHeld ?yb9 ?rb9
          case yb9 => (intro w hSw; (try dsimp only at hSw); go_simp; all_goals with_reducible rfl)
          try simp only [Act.put, List.setIfInBounds_toArray, List.set_cons_zero, List.set_cons_succ]
          refine reg_take (i := 10) (v := ?vb10) rfl (by kernel_rfl) rfl hHeld ?yb10 ?rb10
          case yb10 => (intro w hSw; (try dsimp only at hSw); go_simp; all_goals with_reducible rfl)
          try simp only [Act.put, List.setIfInBounds_toArray, List.set_cons_zero, List.set_cons_succ]
          refine reg_take (i := 12) (v := ?vb12) rfl (by kernel_rfl) rfl hHeld ?yb12 ?rb12
          case yb12 => (intro w hSw; (try dsimp only at hSw); go_simp; all_goals with_reducible rfl)
          try simp only [Act.put, List.setIfInBounds_toArray, List.set_cons_zero, List.set_cons_succ]
          refine reg_take (i := 13) (v := ?vb13) rfl (by kernel_rfl) rfl hHeld ?yb13 ?rb13
          case yb13 => (intro w hSw; (try dsimp only at hSw); go_simp; all_goals with_reducible rfl)
          try simp only [Act.put, List.setIfInBounds_toArray, List.set_cons_zero, List.set_cons_succ]
          refine reg_loud (i := 6) rfl (by kernel_rfl) rfl (fun K hK => ?_)
          go_simp
          refine hK.out _ _ (trivial) (fun hNew => ?_)
          clear hK K hHeld
          have hHeld := hNew
          clear hNew
          try simp only [Act.put, List.setIfInBounds_toArray, List.set_cons_zero, List.set_cons_succ]
          refine reg_take (i := 11) (v := ?vb11) rfl (by kernel_rfl) rfl hHeld ?yb11 ?rb11
          case yb11 => (intro w hSw; (try dsimp only at hSw); go_simp; all_goals with_reducible rfl)
          try simp only [Act.put, List.setIfInBounds_toArray, List.set_cons_zero, List.set_cons_succ]
          refine reg_take (i := 14) (v := ?vb14) rfl (by kernel_rfl) rfl hHeld ?yb14 ?rb14
          case yb14 => (intro w hSw; (try dsimp only at hSw); go_simp; all_goals with_reducible rfl)
          try simp only [Act.put, List.setIfInBounds_toArray, List.set_cons_zero, List.set_cons_succ]
          refine reg_loud (i := 15) rfl (by kernel_rfl) rfl (fun K hK => ?_)
          go_simp
          refine hK.out _ _ (trivial) (fun hNew => ?_)
          clear hK K hHeld
          have hHeld := hNew
          clear hNew
          try simp only [Act.put, List.setIfInBounds_toArray, List.set_cons_zero, List.set_cons_succ]
          refine reg_done (by kernel_rfl) ?_ _
          rw [E3.out]
          clear c2 fz1 q1 q2 q3
          go_wp2_with fail
          go_roundw
          case rel => exact ⟨k + 1, by omega, by go_num, by rw [E1.out, E2.out]; exact HBK.out.set2 _, below_setQ hb.drew hb.drew.size (by have := HP.out; omega) _⟩
          case measure => simp [intOf]; omega
    · have hkl : k = l.length := by omega
      have ht : l.take k = l := by rw [hkl, List.take_length]
      rw [ht] at hbk
      clear ht hkl
      go_wp2_with fail
      go_ret2
      exact ⟨by rw [HP.out]; rfl, ⟨hl, by rw [HP.out]; exact hbk⟩, hb⟩

/-- A block that changes: its own block alone, and new ones. -/
def BlkStep (w w' : World) (p : Nat) (l : List Bool) : Prop := IsBlock w' p l ∧ Chg (fun q => q = p) w w'

set_option maxHeartbeats 1600000 in
theorem blkSet {w : World} {p : Nat} {l0 : List Bool} (h : IsBlock w p l0) (a : Option Addr) (c : Nat) (l : List Bool) (hr : ReadsV w a (l.map Value.bool)) (hl : l.length ≤ 128) :
    Calls Tryd.prog 113 #[.pointer (some ⟨p, 0, none⟩), .slice a l.length c] w fun e w' => e = .returned (.tuple #[]) ∧ BlkStep w w' p l := by
  have HR := Lib.hid hr
  have HB := Lib.hid h
  clear hr h
  go_enter Tryd.func113, Tryd.ntmps113
  go_wp2_with fail
  refine (blkNew w a c l HR.out hl).mono ?_
  rintro e w1 ⟨rfl, hk, hb⟩
  obtain ⟨c0, c1, c2, _⟩ := hk.cells
  have hB := HB.out.below' hb
  obtain ⟨d0, d1, d2, fz⟩ := hB.cells
  have f0 := fz 0
  have f1 := fz 1
  have f2 := fz 2
  have H1 := Lib.hid hB
  have H2 := Lib.hid hk
  have H3 : Hid (Chg (fun q => q = p) w w1) := Chg.of_below hb
  generalize w.heap.size = q at *
  clear hB hk hb fz
  go_wp2_with fail
  go_end0
  exact ⟨rfl, ⟨hl, ((Blk.set0 (x := loW l0) (y := hiW l0) H1.out.2 _).set1 _).set2 _⟩, ((H3.out.setCell _ (Or.inl rfl) _).setCell _ (Or.inl rfl) _).setCell _ (Or.inl rfl) _⟩

theorem blkInsert_nil (w : World) (k : Int) (b : Bool) : Calls Tryd.prog 101 #[.pointer none, .int .i64 k, .bool b] w fun e w' => e = .returned (.int .i64 6) ∧ w = w' := by
  go_enter Tryd.func101, Tryd.ntmps101
  go_wp2_with fail
  go_ret
  exact ⟨rfl, rfl⟩
theorem blkInsert_full {w : World} {p : Nat} {l : List Bool} (h : IsBlock w p l) (hl : l.length = 128) (k : Int) (b : Bool) :
    Calls Tryd.prog 101 #[.pointer (some ⟨p, 0, none⟩), .int .i64 k, .bool b] w fun e w' => e = .returned (.int .i64 3) ∧ w = w' := by
  obtain ⟨h0, _⟩ := h.cells
  rw [hl] at h0
  go_enter Tryd.func101, Tryd.ntmps101
  go_wp2_with fail
  go_ret
  exact ⟨rfl, rfl⟩
theorem blkInsert_range {w : World} {p : Nat} {l : List Bool} (h : IsBlock w p l) (hl : l.length < 128) (k : Int) (hk : k < 0 ∨ (l.length : Int) < k) (b : Bool) :
    Calls Tryd.prog 101 #[.pointer (some ⟨p, 0, none⟩), .int .i64 k, .bool b] w fun e w' => e = .returned (.int .i64 2) ∧ w = w' := by
  obtain ⟨h0, _⟩ := h.cells
  have hd : ((l.length : Int) == 128) = false := by simp; omega
  rcases hk with hk | hk
  · go_enter Tryd.func101, Tryd.ntmps101
    go_wp2_with fail
    go_ret
    exact ⟨rfl, rfl⟩
  · have hd2 : decide (k < 0) = false := by simp; omega
    go_enter Tryd.func101, Tryd.ntmps101
    go_wp2_with fail
    go_ret
    exact ⟨rfl, rfl⟩

set_option maxHeartbeats 3200000 in
set_option maxRecDepth 100000 in
theorem blkInsert_lo {w : World} {p : Nat} {l : List Bool} (h : IsBlock w p l) (hl : l.length < 128) (k : Nat) (hk : k ≤ l.length) (h64 : k < 64) (b : Bool) :
    Calls Tryd.prog 101 #[.pointer (some ⟨p, 0, none⟩), .int .i64 k, .bool b] w fun e w' => e = .returned (.int .i64 0) ∧ BlkStep w w' p (inL l k b) := by
  have hB : Blk w p l.length (loW l) (hiW l) := h.2
  obtain ⟨c0, c1, c2, fz⟩ := hB.cells
  have f0 := fz 0
  have f1 := fz 1
  have f2 := fz 2
  have hd : ((l.length : Int) == 128) = false := by simp; omega
  have hd1 : decide ((k : Int) < 0) = false := by simp
  have hd2 : decide ((l.length : Int) < (k : Int)) = false := by simp; omega
  have q1 : (k : Int) / 64 = 0 := by omega
  have q2 : (k : Int) % 64 = k := by omega
  have hx := loW_lt l
  have hy := hiW_lt l
  have e1 := lo_in b hk h64
  have e2 := hi_in b hk h64
  have e3 := inL_len (b := b) hk
  have E1 := Lib.hid e1
  have E2 := Lib.hid e2
  have E3 := Lib.hid e3
  have HB := Lib.hid hB
  clear e1 e2 e3 hB h fz
  generalize loW l = x at *
  generalize hiW l = y at *
  go_enter Tryd.func101, Tryd.ntmps101
  go_wp2_with fail
  refine wp_loop_rounds 3 ?_
  rw [rounds_succ]
  go_wp2_with fail
  refine reg_start (fun _ => True) (by kernel_rfl) (trivial) (fun hHeld => ?_)
  refine reg_take (i := 0) (v := ?v0) rfl (by kernel_rfl) rfl hHeld ?y0 ?r0
  case y0 => (intro w hSw; (try dsimp only at hSw); go_simp; all_goals with_reducible rfl)
  try simp only [Act.put, List.setIfInBounds_toArray, List.set_cons_zero, List.set_cons_succ]
  refine reg_take (i := 1) (v := ?v1) rfl (by kernel_rfl) rfl hHeld ?y1 ?r1
  case y1 => (intro w hSw; (try dsimp only at hSw); go_simp; all_goals with_reducible rfl)
  try simp only [Act.put, List.setIfInBounds_toArray, List.set_cons_zero, List.set_cons_succ]
  refine reg_take (i := 2) (v := ?v2) rfl (by kernel_rfl) rfl hHeld ?y2 ?r2
  case y2 => (intro w hSw; (try dsimp only at hSw); go_simp; all_goals with_reducible rfl)
  try simp only [Act.put, List.setIfInBounds_toArray, List.set_cons_zero, List.set_cons_succ]
  refine reg_take (i := 3) (v := ?v3) rfl (by kernel_rfl) rfl hHeld ?y3 ?r3
  case y3 => (intro w hSw; (try dsimp only at hSw); go_simp; all_goals with_reducible rfl)
  try simp only [Act.put, List.setIfInBounds_toArray, List.set_cons_zero, List.set_cons_succ]
  refine reg_take (i := 4) (v := ?v4) rfl (by kernel_rfl) rfl hHeld ?y4 ?r4
  case y4 => (intro w hSw; (try dsimp only at hSw); go_simp; all_goals with_reducible rfl)
  try simp only [Act.put, List.setIfInBounds_toArray, List.set_cons_zero, List.set_cons_succ]
  refine reg_take (i := 5) (v := ?v5) rfl (by kernel_rfl) rfl hHeld ?y5 ?r5
  case y5 => (intro w hSw; (try dsimp only at hSw); go_simp; all_goals with_reducible rfl)
  try simp only [Act.put, List.setIfInBounds_toArray, List.set_cons_zero, List.set_cons_succ]
  refine reg_take (i := 6) (v := ?v6) rfl (by kernel_rfl) rfl hHeld ?y6 ?r6
  case y6 => (intro w hSw; (try dsimp only at hSw); go_simp; all_goals with_reducible rfl)
  try simp only [Act.put, List.setIfInBounds_toArray, List.set_cons_zero, List.set_cons_succ]
  refine reg_take (i := 8) (v := ?v8) rfl (by kernel_rfl) rfl hHeld ?y8 ?r8
  case y8 => (intro w hSw; (try dsimp only at hSw); go_simp; all_goals with_reducible rfl)
  try simp only [Act.put, List.setIfInBounds_toArray, List.set_cons_zero, List.set_cons_succ]
  refine reg_take (i := 9) (v := ?v9) rfl (by kernel_rfl) rfl hHeld ?y9 ?r9
  case y9 => (intro w hSw; (try dsimp only at hSw); go_simp; all_goals with_reducible rfl)
  try simp only [Act.put, List.setIfInBounds_toArray, List.set_cons_zero, List.set_cons_succ]
  refine reg_take (i := 14) (v := ?v14) rfl (by kernel_rfl) rfl hHeld ?y14 ?r14
  case y14 => (intro w hSw; (try dsimp only at hSw); go_simp; all_goals with_reducible rfl)
  try simp only [Act.put, List.setIfInBounds_toArray, List.set_cons_zero, List.set_cons_succ]
  refine reg_take (i := 15) (v := ?v15) rfl (by kernel_rfl) rfl hHeld ?y15 ?r15
  case y15 => (intro w hSw; (try dsimp only at hSw); go_simp; all_goals with_reducible rfl)
  try simp only [Act.put, List.setIfInBounds_toArray, List.set_cons_zero, List.set_cons_succ]
  refine reg_loud (i := 7) rfl (by kernel_rfl) rfl (fun K hK => ?_)
  go_simp
  refine hK.out _ _ (trivial) (fun hNew => ?_)
  clear hK K hHeld
  have hHeld := hNew
  clear hNew
  try simp only [Act.put, List.setIfInBounds_toArray, List.set_cons_zero, List.set_cons_succ]
  refine reg_loud (i := 10) rfl (by kernel_rfl) rfl (fun K hK => ?_)
  go_simp
  refine (put_good x k b _ hx h64).mono ?_
  rintro e w' ⟨rfl, rfl⟩
  go_wp2_with fail
  refine hK.out _ _ (trivial) (fun hNew => ?_)
  clear hK K hHeld
  have hHeld := hNew
  clear hNew
  try simp only [Act.put, List.setIfInBounds_toArray, List.set_cons_zero, List.set_cons_succ]
  refine reg_take (i := 11) (v := ?v11) rfl (by kernel_rfl) rfl hHeld ?y11 ?r11
  case y11 => (intro w hSw; (try dsimp only at hSw); go_simp; all_goals with_reducible rfl)
  try simp only [Act.put, List.setIfInBounds_toArray, List.set_cons_zero, List.set_cons_succ]
  refine reg_take (i := 12) (v := ?v12) rfl (by kernel_rfl) rfl hHeld ?y12 ?r12
  case y12 => (intro w hSw; (try dsimp only at hSw); go_simp; all_goals with_reducible rfl)
  try simp only [Act.put, List.setIfInBounds_toArray, List.set_cons_zero, List.set_cons_succ]
  refine reg_take (i := 13) (v := ?v13) rfl (by kernel_rfl) rfl hHeld ?y13 ?r13
  case y13 => (intro w hSw; (try dsimp only at hSw); go_simp; all_goals with_reducible rfl)
  try simp only [Act.put, List.setIfInBounds_toArray, List.set_cons_zero, List.set_cons_succ]
  refine reg_take (i := 16) (v := ?v16) rfl (by kernel_rfl) rfl hHeld ?y16 ?r16
  case y16 => (intro w hSw; (try dsimp only at hSw); go_simp; all_goals with_reducible rfl)
  try simp only [Act.put, List.setIfInBounds_toArray, List.set_cons_zero, List.set_cons_succ]
  refine reg_loud (i := 17) rfl (by kernel_rfl) rfl (fun K hK => ?_)
  go_simp
  refine hK.out _ _ (trivial) (fun hNew => ?_)
  clear hK K hHeld
  have hHeld := hNew
  clear hNew
  try simp only [Act.put, List.setIfInBounds_toArray, List.set_cons_zero, List.set_cons_succ]
  refine reg_take (i := 18) (v := ?v18) rfl (by kernel_rfl) rfl hHeld ?y18 ?r18
  case y18 => (intro w hSw; (try dsimp only at hSw); go_simp; all_goals with_reducible rfl)
  try simp only [Act.put, List.setIfInBounds_toArray, List.set_cons_zero, List.set_cons_succ]
  refine reg_done (by kernel_rfl) ?_ _
  go_wp2_with fail
  rw [rounds_succ]
  go_wp2_with fail
  refine reg_start (fun _ => True) (by kernel_rfl) (trivial) (fun hHeld => ?_)
  refine reg_take (i := 0) (v := ?vb0) rfl (by kernel_rfl) rfl hHeld ?yb0 ?rb0
  case yb0 => (intro w hSw; (try dsimp only at hSw); go_simp; all_goals with_reducible rfl)
  try simp only [Act.put, List.setIfInBounds_toArray, List.set_cons_zero, List.set_cons_succ]
  refine reg_take (i := 1) (v := ?vb1) rfl (by kernel_rfl) rfl hHeld ?yb1 ?rb1
  case yb1 => (intro w hSw; (try dsimp only at hSw); go_simp; all_goals with_reducible rfl)
  try simp only [Act.put, List.setIfInBounds_toArray, List.set_cons_zero, List.set_cons_succ]
  refine reg_take (i := 2) (v := ?vb2) rfl (by kernel_rfl) rfl hHeld ?yb2 ?rb2
  case yb2 => (intro w hSw; (try dsimp only at hSw); go_simp; all_goals with_reducible rfl)
  try simp only [Act.put, List.setIfInBounds_toArray, List.set_cons_zero, List.set_cons_succ]
  refine reg_take (i := 3) (v := ?vb3) rfl (by kernel_rfl) rfl hHeld ?yb3 ?rb3
  case yb3 => (intro w hSw; (try dsimp only at hSw); go_simp; all_goals with_reducible rfl)
  try simp only [Act.put, List.setIfInBounds_toArray, List.set_cons_zero, List.set_cons_succ]
  refine reg_take (i := 4) (v := ?vb4) rfl (by kernel_rfl) rfl hHeld ?yb4 ?rb4
  case yb4 => (intro w hSw; (try dsimp only at hSw); go_simp; all_goals with_reducible rfl)
  try simp only [Act.put, List.setIfInBounds_toArray, List.set_cons_zero, List.set_cons_succ]
  refine reg_take (i := 5) (v := ?vb5) rfl (by kernel_rfl) rfl hHeld ?yb5 ?rb5
  case yb5 => (intro w hSw; (try dsimp only at hSw); go_simp; all_goals with_reducible rfl)
  try simp only [Act.put, List.setIfInBounds_toArray, List.set_cons_zero, List.set_cons_succ]
  refine reg_take (i := 6) (v := ?vb6) rfl (by kernel_rfl) rfl hHeld ?yb6 ?rb6
  case yb6 => (intro w hSw; (try dsimp only at hSw); go_simp; all_goals with_reducible rfl)
  try simp only [Act.put, List.setIfInBounds_toArray, List.set_cons_zero, List.set_cons_succ]
  refine reg_take (i := 8) (v := ?vb8) rfl (by kernel_rfl) rfl hHeld ?yb8 ?rb8
  case yb8 => (intro w hSw; (try dsimp only at hSw); go_simp; all_goals with_reducible rfl)
  try simp only [Act.put, List.setIfInBounds_toArray, List.set_cons_zero, List.set_cons_succ]
  refine reg_take (i := 9) (v := ?vb9) rfl (by kernel_rfl) rfl hHeld ?yb9 ?rb9
  case yb9 => (intro w hSw; (try dsimp only at hSw); go_simp; all_goals with_reducible rfl)
  try simp only [Act.put, List.setIfInBounds_toArray, List.set_cons_zero, List.set_cons_succ]
  refine reg_take (i := 14) (v := ?vb14) rfl (by kernel_rfl) rfl hHeld ?yb14 ?rb14
  case yb14 => (intro w hSw; (try dsimp only at hSw); go_simp; all_goals with_reducible rfl)
  try simp only [Act.put, List.setIfInBounds_toArray, List.set_cons_zero, List.set_cons_succ]
  refine reg_take (i := 15) (v := ?vb15) rfl (by kernel_rfl) rfl hHeld ?yb15 ?rb15
  case yb15 => (intro w hSw; (try dsimp only at hSw); go_simp; all_goals with_reducible rfl)
  try simp only [Act.put, List.setIfInBounds_toArray, List.set_cons_zero, List.set_cons_succ]
  refine reg_loud (i := 7) rfl (by kernel_rfl) rfl (fun K hK => ?_)
  go_simp
  refine hK.out _ _ (trivial) (fun hNew => ?_)
  clear hK K hHeld
  have hHeld := hNew
  clear hNew
  try simp only [Act.put, List.setIfInBounds_toArray, List.set_cons_zero, List.set_cons_succ]
  refine reg_loud (i := 10) rfl (by kernel_rfl) rfl (fun K hK => ?_)
  go_simp
  refine (put_lit (Y := ((putW y 0 (x.testBit 63) : Nat) : Int)) (c := y.testBit 63) y 0 _ hy (by omega) rfl rfl rfl rfl).mono ?_
  rintro e w' ⟨rfl, rfl⟩
  go_wp2_with fail
  refine hK.out _ _ (trivial) (fun hNew => ?_)
  clear hK K hHeld
  have hHeld := hNew
  clear hNew
  try simp only [Act.put, List.setIfInBounds_toArray, List.set_cons_zero, List.set_cons_succ]
  refine reg_take (i := 11) (v := ?vb11) rfl (by kernel_rfl) rfl hHeld ?yb11 ?rb11
  case yb11 => (intro w hSw; (try dsimp only at hSw); go_simp; all_goals with_reducible rfl)
  try simp only [Act.put, List.setIfInBounds_toArray, List.set_cons_zero, List.set_cons_succ]
  refine reg_take (i := 12) (v := ?vb12) rfl (by kernel_rfl) rfl hHeld ?yb12 ?rb12
  case yb12 => (intro w hSw; (try dsimp only at hSw); go_simp; all_goals with_reducible rfl)
  try simp only [Act.put, List.setIfInBounds_toArray, List.set_cons_zero, List.set_cons_succ]
  refine reg_take (i := 13) (v := ?vb13) rfl (by kernel_rfl) rfl hHeld ?yb13 ?rb13
  case yb13 => (intro w hSw; (try dsimp only at hSw); go_simp; all_goals with_reducible rfl)
  try simp only [Act.put, List.setIfInBounds_toArray, List.set_cons_zero, List.set_cons_succ]
  refine reg_take (i := 16) (v := ?vb16) rfl (by kernel_rfl) rfl hHeld ?yb16 ?rb16
  case yb16 => (intro w hSw; (try dsimp only at hSw); go_simp; all_goals with_reducible rfl)
  try simp only [Act.put, List.setIfInBounds_toArray, List.set_cons_zero, List.set_cons_succ]
  refine reg_loud (i := 17) rfl (by kernel_rfl) rfl (fun K hK => ?_)
  go_simp
  refine hK.out _ _ (trivial) (fun hNew => ?_)
  clear hK K hHeld
  have hHeld := hNew
  clear hNew
  try simp only [Act.put, List.setIfInBounds_toArray, List.set_cons_zero, List.set_cons_succ]
  refine reg_take (i := 18) (v := ?vb18) rfl (by kernel_rfl) rfl hHeld ?yb18 ?rb18
  case yb18 => (intro w hSw; (try dsimp only at hSw); go_simp; all_goals with_reducible rfl)
  try simp only [Act.put, List.setIfInBounds_toArray, List.set_cons_zero, List.set_cons_succ]
  refine reg_done (by kernel_rfl) ?_ _
  go_wp2_with fail
  rw [rounds_succ]
  go_wp2_with fail
  go_ret
  refine ⟨rfl, ⟨by rw [E3.out]; omega, ?_⟩, ?_⟩
  · rw [E1.out, E2.out, E3.out]
    exact ((HB.out.set1 _).set2 _).set0 _
  · exact ((((Chg.refl (S := fun q => q = p)).setCell ⟨p, 1, none⟩ (Or.inl rfl) _).setCell ⟨p, 2, none⟩ (Or.inl rfl) _).setCell ⟨p, 0, none⟩ (Or.inl rfl) _).drew.drew

set_option maxHeartbeats 3200000 in
set_option maxRecDepth 100000 in
theorem blkInsert_hi {w : World} {p : Nat} {l : List Bool} (h : IsBlock w p l) (hl : l.length < 128) (k : Nat) (hk : k ≤ l.length) (h64 : 64 ≤ k) (b : Bool) :
    Calls Tryd.prog 101 #[.pointer (some ⟨p, 0, none⟩), .int .i64 k, .bool b] w fun e w' => e = .returned (.int .i64 0) ∧ BlkStep w w' p (inL l k b) := by
  have hB : Blk w p l.length (loW l) (hiW l) := h.2
  obtain ⟨c0, c1, c2, fz⟩ := hB.cells
  have f0 := fz 0
  have f2 := fz 2
  have hd : ((l.length : Int) == 128) = false := by simp; omega
  have hd1 : decide ((k : Int) < 0) = false := by simp
  have hd2 : decide ((l.length : Int) < (k : Int)) = false := by simp; omega
  have q1 : (k : Int) / 64 = 1 := by omega
  have q2 : (k : Int) % 64 = ((k - 64 : Nat) : Int) := by omega
  have hy := hiW_lt l
  have e1 := lo_in2 b hk h64
  have e2 := hi_in2 b hk h64 (by omega)
  have e3 := inL_len (b := b) hk
  have E1 := Lib.hid e1
  have E2 := Lib.hid e2
  have E3 := Lib.hid e3
  have HB := Lib.hid hB
  have hm : k - 64 < 64 := by omega
  clear e1 e2 e3 hB h fz
  generalize loW l = x at *
  generalize hiW l = y at *
  generalize hmm : k - 64 = m at *
  clear hmm
  go_enter Tryd.func101, Tryd.ntmps101
  go_wp2_with fail
  refine wp_loop_rounds 2 ?_
  rw [rounds_succ]
  go_wp2_with fail
  refine reg_start (fun _ => True) (by kernel_rfl) (trivial) (fun hHeld => ?_)
  refine reg_take (i := 0) (v := ?v0) rfl (by kernel_rfl) rfl hHeld ?y0 ?r0
  case y0 => (intro w hSw; (try dsimp only at hSw); go_simp; all_goals with_reducible rfl)
  try simp only [Act.put, List.setIfInBounds_toArray, List.set_cons_zero, List.set_cons_succ]
  refine reg_take (i := 1) (v := ?v1) rfl (by kernel_rfl) rfl hHeld ?y1 ?r1
  case y1 => (intro w hSw; (try dsimp only at hSw); go_simp; all_goals with_reducible rfl)
  try simp only [Act.put, List.setIfInBounds_toArray, List.set_cons_zero, List.set_cons_succ]
  refine reg_take (i := 2) (v := ?v2) rfl (by kernel_rfl) rfl hHeld ?y2 ?r2
  case y2 => (intro w hSw; (try dsimp only at hSw); go_simp; all_goals with_reducible rfl)
  try simp only [Act.put, List.setIfInBounds_toArray, List.set_cons_zero, List.set_cons_succ]
  refine reg_take (i := 3) (v := ?v3) rfl (by kernel_rfl) rfl hHeld ?y3 ?r3
  case y3 => (intro w hSw; (try dsimp only at hSw); go_simp; all_goals with_reducible rfl)
  try simp only [Act.put, List.setIfInBounds_toArray, List.set_cons_zero, List.set_cons_succ]
  refine reg_take (i := 4) (v := ?v4) rfl (by kernel_rfl) rfl hHeld ?y4 ?r4
  case y4 => (intro w hSw; (try dsimp only at hSw); go_simp; all_goals with_reducible rfl)
  try simp only [Act.put, List.setIfInBounds_toArray, List.set_cons_zero, List.set_cons_succ]
  refine reg_take (i := 5) (v := ?v5) rfl (by kernel_rfl) rfl hHeld ?y5 ?r5
  case y5 => (intro w hSw; (try dsimp only at hSw); go_simp; all_goals with_reducible rfl)
  try simp only [Act.put, List.setIfInBounds_toArray, List.set_cons_zero, List.set_cons_succ]
  refine reg_take (i := 6) (v := ?v6) rfl (by kernel_rfl) rfl hHeld ?y6 ?r6
  case y6 => (intro w hSw; (try dsimp only at hSw); go_simp; all_goals with_reducible rfl)
  try simp only [Act.put, List.setIfInBounds_toArray, List.set_cons_zero, List.set_cons_succ]
  refine reg_take (i := 8) (v := ?v8) rfl (by kernel_rfl) rfl hHeld ?y8 ?r8
  case y8 => (intro w hSw; (try dsimp only at hSw); go_simp; all_goals with_reducible rfl)
  try simp only [Act.put, List.setIfInBounds_toArray, List.set_cons_zero, List.set_cons_succ]
  refine reg_take (i := 9) (v := ?v9) rfl (by kernel_rfl) rfl hHeld ?y9 ?r9
  case y9 => (intro w hSw; (try dsimp only at hSw); go_simp; all_goals with_reducible rfl)
  try simp only [Act.put, List.setIfInBounds_toArray, List.set_cons_zero, List.set_cons_succ]
  refine reg_take (i := 14) (v := ?v14) rfl (by kernel_rfl) rfl hHeld ?y14 ?r14
  case y14 => (intro w hSw; (try dsimp only at hSw); go_simp; all_goals with_reducible rfl)
  try simp only [Act.put, List.setIfInBounds_toArray, List.set_cons_zero, List.set_cons_succ]
  refine reg_take (i := 15) (v := ?v15) rfl (by kernel_rfl) rfl hHeld ?y15 ?r15
  case y15 => (intro w hSw; (try dsimp only at hSw); go_simp; all_goals with_reducible rfl)
  try simp only [Act.put, List.setIfInBounds_toArray, List.set_cons_zero, List.set_cons_succ]
  refine reg_loud (i := 7) rfl (by kernel_rfl) rfl (fun K hK => ?_)
  go_simp
  refine hK.out _ _ (trivial) (fun hNew => ?_)
  clear hK K hHeld
  have hHeld := hNew
  clear hNew
  try simp only [Act.put, List.setIfInBounds_toArray, List.set_cons_zero, List.set_cons_succ]
  refine reg_loud (i := 10) rfl (by kernel_rfl) rfl (fun K hK => ?_)
  go_simp
  refine (put_good y m b _ hy hm).mono ?_
  rintro e w' ⟨rfl, rfl⟩
  go_wp2_with fail
  refine hK.out _ _ (trivial) (fun hNew => ?_)
  clear hK K hHeld
  have hHeld := hNew
  clear hNew
  try simp only [Act.put, List.setIfInBounds_toArray, List.set_cons_zero, List.set_cons_succ]
  refine reg_take (i := 11) (v := ?v11) rfl (by kernel_rfl) rfl hHeld ?y11 ?r11
  case y11 => (intro w hSw; (try dsimp only at hSw); go_simp; all_goals with_reducible rfl)
  try simp only [Act.put, List.setIfInBounds_toArray, List.set_cons_zero, List.set_cons_succ]
  refine reg_take (i := 12) (v := ?v12) rfl (by kernel_rfl) rfl hHeld ?y12 ?r12
  case y12 => (intro w hSw; (try dsimp only at hSw); go_simp; all_goals with_reducible rfl)
  try simp only [Act.put, List.setIfInBounds_toArray, List.set_cons_zero, List.set_cons_succ]
  refine reg_take (i := 13) (v := ?v13) rfl (by kernel_rfl) rfl hHeld ?y13 ?r13
  case y13 => (intro w hSw; (try dsimp only at hSw); go_simp; all_goals with_reducible rfl)
  try simp only [Act.put, List.setIfInBounds_toArray, List.set_cons_zero, List.set_cons_succ]
  refine reg_take (i := 16) (v := ?v16) rfl (by kernel_rfl) rfl hHeld ?y16 ?r16
  case y16 => (intro w hSw; (try dsimp only at hSw); go_simp; all_goals with_reducible rfl)
  try simp only [Act.put, List.setIfInBounds_toArray, List.set_cons_zero, List.set_cons_succ]
  refine reg_loud (i := 17) rfl (by kernel_rfl) rfl (fun K hK => ?_)
  go_simp
  refine hK.out _ _ (trivial) (fun hNew => ?_)
  clear hK K hHeld
  have hHeld := hNew
  clear hNew
  try simp only [Act.put, List.setIfInBounds_toArray, List.set_cons_zero, List.set_cons_succ]
  refine reg_take (i := 18) (v := ?v18) rfl (by kernel_rfl) rfl hHeld ?y18 ?r18
  case y18 => (intro w hSw; (try dsimp only at hSw); go_simp; all_goals with_reducible rfl)
  try simp only [Act.put, List.setIfInBounds_toArray, List.set_cons_zero, List.set_cons_succ]
  refine reg_done (by kernel_rfl) ?_ _
  go_wp2_with fail
  rw [rounds_succ]
  go_wp2_with fail
  go_ret
  refine ⟨rfl, ⟨by rw [E3.out]; omega, ?_⟩, ?_⟩
  · rw [E1.out, E2.out, E3.out]
    exact (HB.out.set2 _).set0 _
  · exact (((Chg.refl (S := fun q => q = p)).setCell ⟨p, 2, none⟩ (Or.inl rfl) _).setCell ⟨p, 0, none⟩ (Or.inl rfl) _).drew

theorem blkInsert {w : World} {p : Nat} {l : List Bool} (h : IsBlock w p l) (hl : l.length < 128) (k : Nat) (hk : k ≤ l.length) (b : Bool) :
    Calls Tryd.prog 101 #[.pointer (some ⟨p, 0, none⟩), .int .i64 k, .bool b] w fun e w' => e = .returned (.int .i64 0) ∧ BlkStep w w' p (inL l k b) := by
  by_cases h64 : k < 64
  · exact blkInsert_lo h hl k hk h64 b
  · exact blkInsert_hi h hl k hk (by omega) b

theorem blkDelete_bad {w : World} {p : Nat} {l : List Bool} (h : IsBlock w p l) (k : Int) (hk : k < 0 ∨ (l.length : Int) ≤ k) :
    Calls Tryd.prog 105 #[.pointer (some ⟨p, 0, none⟩), .int .i64 k] w fun e w' => e = .returned (.tuple #[.bool false, .int .i64 2]) ∧ w = w' := by
  have hR : hasL l k = 2 := by unfold hasL; rw [if_neg (by omega)]
  have HR := Lib.hid hR
  clear hR
  go_enter Tryd.func105, Tryd.ntmps105
  go_wp2_with fail
  refine (blkHas h k).mono ?_
  rintro e w' ⟨rfl, rfl⟩
  rw [HR.out]
  go_wp2_with fail
  go_ret2
  exact ⟨rfl, rfl⟩

set_option maxHeartbeats 3200000 in
set_option maxRecDepth 100000 in
theorem blkDelete_lo {w : World} {p : Nat} {l : List Bool} (h : IsBlock w p l) (k : Nat) (hk : k < l.length) (h64 : k < 64) :
    Calls Tryd.prog 105 #[.pointer (some ⟨p, 0, none⟩), .int .i64 k] w fun e w' => e = .returned (.tuple #[.bool (bitAt l k), .int .i64 0]) ∧ BlkStep w w' p (outL l k) := by
  have hB : Blk w p l.length (loW l) (hiW l) := h.2
  obtain ⟨c0, c1, c2, fz⟩ := hB.cells
  have f0 := fz 0
  have f1 := fz 1
  have f2 := fz 2
  have hR : hasL l k = 0 := by unfold hasL; rw [if_pos (by omega)]
  have HR := Lib.hid hR
  have HH := Lib.hid h
  have q1 : (k : Int) / 64 = 0 := by omega
  have q7 : IntKind.i64.wrap 0 = 0 := by decide
  obtain ⟨q3, q4, q5⟩ := quo_lo h64
  have Q6 : Hid ((k : Int).tmod 64 = (k : Int)) := by show _ = _; rw [Int.tmod_eq_emod_of_nonneg (by omega)]; omega
  have hx := loW_lt l
  have hy := hiW_lt l
  have hl := h.1
  have e1 := lo_out hk h64
  have e2 := hi_out hk h64 h.1
  have e3 := outL_len hk
  have e4 := loW_bit (l := l) h64
  obtain ⟨yb, hyb⟩ : ∃ yb, (hiW l).testBit 0 = yb := ⟨_, rfl⟩
  rw [hyb] at e1
  have HYB := Lib.hid hyb
  have E1 := Lib.hid e1
  have E2 := Lib.hid e2
  have E3 := Lib.hid e3
  have E4 := Lib.hid e4
  have HB := Lib.hid hB
  clear e1 e2 e3 e4 hB h fz hR q4 q5 hyb
  generalize loW l = x at *
  generalize hiW l = y at *
  go_enter Tryd.func105, Tryd.ntmps105
  go_wp2_with fail
  refine (blkHas HH.out k).mono ?_
  rintro e w' ⟨rfl, rfl⟩
  rw [HR.out]
  go_wp2_with fail
  refine wp_loop_rounds 2 ?_
  rw [rounds_succ]
  go_wp2_with fail
  refine reg_start (fun _ => True) (by kernel_rfl) (trivial) (fun hHeld => ?_)
  refine reg_take (i := 0) (v := ?v0) rfl (by kernel_rfl) rfl hHeld ?y0 ?r0
  case y0 => (intro w hSw; (try dsimp only at hSw); go_simp; all_goals with_reducible rfl)
  try simp only [Act.put, List.setIfInBounds_toArray, List.set_cons_zero, List.set_cons_succ]
  refine reg_take (i := 1) (v := ?v1) rfl (by kernel_rfl) rfl hHeld ?y1 ?r1
  case y1 => (intro w hSw; (try dsimp only at hSw); go_simp; all_goals with_reducible rfl)
  try simp only [Act.put, List.setIfInBounds_toArray, List.set_cons_zero, List.set_cons_succ]
  refine reg_take (i := 2) (v := ?v2) rfl (by kernel_rfl) rfl hHeld ?y2 ?r2
  case y2 => (intro w hSw; (try dsimp only at hSw); go_simp; all_goals with_reducible rfl)
  try simp only [Act.put, List.setIfInBounds_toArray, List.set_cons_zero, List.set_cons_succ]
  refine reg_take (i := 3) (v := ?v3) rfl (by kernel_rfl) rfl hHeld ?y3 ?r3
  case y3 => (intro w hSw; (try dsimp only at hSw); go_simp; all_goals with_reducible rfl)
  try simp only [Act.put, List.setIfInBounds_toArray, List.set_cons_zero, List.set_cons_succ]
  refine reg_take (i := 4) (v := ?v4) rfl (by kernel_rfl) rfl hHeld ?y4 ?r4
  case y4 => (intro w hSw; (try dsimp only at hSw); go_simp; all_goals with_reducible rfl)
  try simp only [Act.put, List.setIfInBounds_toArray, List.set_cons_zero, List.set_cons_succ]
  refine reg_take (i := 5) (v := ?v5) rfl (by kernel_rfl) rfl hHeld ?y5 ?r5
  case y5 => (intro w hSw; (try dsimp only at hSw); go_simp; all_goals with_reducible rfl)
  try simp only [Act.put, List.setIfInBounds_toArray, List.set_cons_zero, List.set_cons_succ]
  refine reg_take (i := 6) (v := ?v6) rfl (by kernel_rfl) rfl hHeld ?y6 ?r6
  case y6 => (intro w hSw; (try dsimp only at hSw); go_simp; all_goals with_reducible rfl)
  try simp only [Act.put, List.setIfInBounds_toArray, List.set_cons_zero, List.set_cons_succ]
  refine reg_take (i := 8) (v := ?v8) rfl (by kernel_rfl) rfl hHeld ?y8 ?r8
  case y8 => (intro w hSw; (try dsimp only at hSw); go_simp; all_goals with_reducible rfl)
  try simp only [Act.put, List.setIfInBounds_toArray, List.set_cons_zero, List.set_cons_succ]
  refine reg_take (i := 13) (v := ?v13) rfl (by kernel_rfl) rfl hHeld ?y13 ?r13
  case y13 => (intro w hSw; (try dsimp only at hSw); go_simp; all_goals with_reducible rfl)
  try simp only [Act.put, List.setIfInBounds_toArray, List.set_cons_zero, List.set_cons_succ]
  refine reg_take (i := 14) (v := ?v14) rfl (by kernel_rfl) rfl hHeld ?y14 ?r14
  case y14 => (intro w hSw; (try dsimp only at hSw); go_simp; all_goals with_reducible rfl)
  try simp only [Act.put, List.setIfInBounds_toArray, List.set_cons_zero, List.set_cons_succ]
  refine reg_loud (i := 7) rfl (by kernel_rfl) rfl (fun K hK => ?_)
  go_simp
  refine hK.out _ _ (trivial) (fun hNew => ?_)
  clear hK K hHeld
  have hHeld := hNew
  clear hNew
  try simp only [Act.put, List.setIfInBounds_toArray, List.set_cons_zero, List.set_cons_succ]
  refine reg_loud (i := 9) rfl (by kernel_rfl) rfl (fun K hK => ?_)
  go_simp
  refine (cut_lit (Y := ((cutW y 0 false : Nat) : Int)) (c := yb) y 0 _ hy (by omega) rfl rfl rfl HYB.out).mono ?_
  rintro e w' ⟨rfl, rfl⟩
  go_wp2_with fail
  refine hK.out _ _ (trivial) (fun hNew => ?_)
  clear hK K hHeld
  have hHeld := hNew
  clear hNew
  try simp only [Act.put, List.setIfInBounds_toArray, List.set_cons_zero, List.set_cons_succ]
  refine reg_take (i := 10) (v := ?v10) rfl (by kernel_rfl) rfl hHeld ?y10 ?r10
  case y10 => (intro w hSw; (try dsimp only at hSw); go_simp; all_goals with_reducible rfl)
  try simp only [Act.put, List.setIfInBounds_toArray, List.set_cons_zero, List.set_cons_succ]
  refine reg_take (i := 11) (v := ?v11) rfl (by kernel_rfl) rfl hHeld ?y11 ?r11
  case y11 => (intro w hSw; (try dsimp only at hSw); go_simp; all_goals with_reducible rfl)
  try simp only [Act.put, List.setIfInBounds_toArray, List.set_cons_zero, List.set_cons_succ]
  refine reg_take (i := 12) (v := ?v12) rfl (by kernel_rfl) rfl hHeld ?y12 ?r12
  case y12 => (intro w hSw; (try dsimp only at hSw); go_simp; all_goals with_reducible rfl)
  try simp only [Act.put, List.setIfInBounds_toArray, List.set_cons_zero, List.set_cons_succ]
  refine reg_take (i := 15) (v := ?v15) rfl (by kernel_rfl) rfl hHeld ?y15 ?r15
  case y15 => (intro w hSw; (try dsimp only at hSw); go_simp; all_goals with_reducible rfl)
  try simp only [Act.put, List.setIfInBounds_toArray, List.set_cons_zero, List.set_cons_succ]
  refine reg_loud (i := 16) rfl (by kernel_rfl) rfl (fun K hK => ?_)
  go_simp
  refine hK.out _ _ (trivial) (fun hNew => ?_)
  clear hK K hHeld
  have hHeld := hNew
  clear hNew
  try simp only [Act.put, List.setIfInBounds_toArray, List.set_cons_zero, List.set_cons_succ]
  refine reg_take (i := 17) (v := ?v17) rfl (by kernel_rfl) rfl hHeld ?y17 ?r17
  case y17 => (intro w hSw; (try dsimp only at hSw); go_simp; all_goals with_reducible rfl)
  try simp only [Act.put, List.setIfInBounds_toArray, List.set_cons_zero, List.set_cons_succ]
  refine reg_done (by kernel_rfl) ?_ _
  go_wp2_with fail
  rw [rounds_succ]
  go_wp2_with fail
  refine reg_start (fun _ => True) (by kernel_rfl) (trivial) (fun hHeld => ?_)
  refine reg_take (i := 0) (v := ?vb0) rfl (by kernel_rfl) rfl hHeld ?yb0 ?rb0
  case yb0 => (intro w hSw; (try dsimp only at hSw); go_simp; all_goals with_reducible rfl)
  try simp only [Act.put, List.setIfInBounds_toArray, List.set_cons_zero, List.set_cons_succ]
  refine reg_take (i := 1) (v := ?vb1) rfl (by kernel_rfl) rfl hHeld ?yb1 ?rb1
  case yb1 => (intro w hSw; (try dsimp only at hSw); go_simp; all_goals with_reducible rfl)
  try simp only [Act.put, List.setIfInBounds_toArray, List.set_cons_zero, List.set_cons_succ]
  refine reg_take (i := 2) (v := ?vb2) rfl (by kernel_rfl) rfl hHeld ?yb2 ?rb2
  case yb2 => (intro w hSw; (try dsimp only at hSw); go_simp; all_goals with_reducible rfl)
  try simp only [Act.put, List.setIfInBounds_toArray, List.set_cons_zero, List.set_cons_succ]
  refine reg_take (i := 3) (v := ?vb3) rfl (by kernel_rfl) rfl hHeld ?yb3 ?rb3
  case yb3 => (intro w hSw; (try dsimp only at hSw); go_simp; all_goals with_reducible rfl)
  try simp only [Act.put, List.setIfInBounds_toArray, List.set_cons_zero, List.set_cons_succ]
  refine reg_take (i := 4) (v := ?vb4) rfl (by kernel_rfl) rfl hHeld ?yb4 ?rb4
  case yb4 => (intro w hSw; (try dsimp only at hSw); go_simp; all_goals with_reducible rfl)
  try simp only [Act.put, List.setIfInBounds_toArray, List.set_cons_zero, List.set_cons_succ]
  refine reg_take (i := 5) (v := ?vb5) rfl (by kernel_rfl) rfl hHeld ?yb5 ?rb5
  case yb5 => (intro w hSw; (try dsimp only at hSw); go_simp; all_goals with_reducible rfl)
  try simp only [Act.put, List.setIfInBounds_toArray, List.set_cons_zero, List.set_cons_succ]
  refine reg_take (i := 6) (v := ?vb6) rfl (by kernel_rfl) rfl hHeld ?yb6 ?rb6
  case yb6 => (intro w hSw; (try dsimp only at hSw); go_simp; all_goals with_reducible rfl)
  try simp only [Act.put, List.setIfInBounds_toArray, List.set_cons_zero, List.set_cons_succ]
  refine reg_take (i := 7) (v := ?vb7) rfl (by kernel_rfl) rfl hHeld ?yb7 ?rb7
  case yb7 => (intro w hSw; (try dsimp only at hSw); go_simp; all_goals with_reducible rfl)
  try simp only [Act.put, List.setIfInBounds_toArray, List.set_cons_zero, List.set_cons_succ]
  refine reg_take (i := 8) (v := ?vb8) rfl (by kernel_rfl) rfl hHeld ?yb8 ?rb8
  case yb8 => (intro w hSw; (try dsimp only at hSw); go_simp; all_goals with_reducible rfl)
  try simp only [Act.put, List.setIfInBounds_toArray, List.set_cons_zero, List.set_cons_succ]
  refine reg_take (i := 10) (v := ?vb10) rfl (by kernel_rfl) rfl hHeld ?yb10 ?rb10
  case yb10 => (intro w hSw; (try dsimp only at hSw); go_simp; all_goals with_reducible rfl)
  try simp only [Act.put, List.setIfInBounds_toArray, List.set_cons_zero, List.set_cons_succ]
  refine reg_take (i := 11) (v := ?vb11) rfl (by kernel_rfl) rfl hHeld ?yb11 ?rb11
  case yb11 => (intro w hSw; (try dsimp only at hSw); go_simp; all_goals with_reducible rfl)
  try simp only [Act.put, List.setIfInBounds_toArray, List.set_cons_zero, List.set_cons_succ]
  refine reg_take (i := 12) (v := ?vb12) rfl (by kernel_rfl) rfl hHeld ?yb12 ?rb12
  case yb12 => (intro w hSw; (try dsimp only at hSw); go_simp; all_goals with_reducible rfl)
  try simp only [Act.put, List.setIfInBounds_toArray, List.set_cons_zero, List.set_cons_succ]
  refine reg_take (i := 17) (v := ?vb17) rfl (by kernel_rfl) rfl hHeld ?yb17 ?rb17
  case yb17 => (intro w hSw; (try dsimp only at hSw); go_simp; all_goals with_reducible rfl)
  try simp only [Act.put, List.setIfInBounds_toArray, List.set_cons_zero, List.set_cons_succ]
  refine reg_take (i := 18) (v := ?vb18) rfl (by kernel_rfl) rfl hHeld ?yb18 ?rb18
  case yb18 => (intro w hSw; (try dsimp only at hSw); go_simp; all_goals with_reducible rfl)
  try simp only [Act.put, List.setIfInBounds_toArray, List.set_cons_zero, List.set_cons_succ]
  refine reg_loud (i := 9) rfl (by kernel_rfl) rfl (fun K hK => ?_)
  go_simp
  refine hK.out _ _ (trivial) (fun hNew => ?_)
  clear hK K hHeld
  have hHeld := hNew
  clear hNew
  try simp only [Act.put, List.setIfInBounds_toArray, List.set_cons_zero, List.set_cons_succ]
  refine reg_loud (i := 13) rfl (by kernel_rfl) rfl (fun K hK => ?_)
  go_simp
  refine (cut_lit (Y := ((cutW x k yb : Nat) : Int)) (c := bitAt l k) x k _ hx h64 rfl Q6.out rfl E4.out).mono ?_
  rintro e w' ⟨rfl, rfl⟩
  go_wp2_with fail
  refine hK.out _ _ (trivial) (fun hNew => ?_)
  clear hK K hHeld
  have hHeld := hNew
  clear hNew
  try simp only [Act.put, List.setIfInBounds_toArray, List.set_cons_zero, List.set_cons_succ]
  refine reg_take (i := 14) (v := ?vb14) rfl (by kernel_rfl) rfl hHeld ?yb14 ?rb14
  case yb14 => (intro w hSw; (try dsimp only at hSw); go_simp; all_goals with_reducible rfl)
  try simp only [Act.put, List.setIfInBounds_toArray, List.set_cons_zero, List.set_cons_succ]
  refine reg_take (i := 15) (v := ?vb15) rfl (by kernel_rfl) rfl hHeld ?yb15 ?rb15
  case yb15 => (intro w hSw; (try dsimp only at hSw); go_simp; all_goals with_reducible rfl)
  try simp only [Act.put, List.setIfInBounds_toArray, List.set_cons_zero, List.set_cons_succ]
  refine reg_take (i := 16) (v := ?vb16) rfl (by kernel_rfl) rfl hHeld ?yb16 ?rb16
  case yb16 => (intro w hSw; (try dsimp only at hSw); go_simp; all_goals with_reducible rfl)
  try simp only [Act.put, List.setIfInBounds_toArray, List.set_cons_zero, List.set_cons_succ]
  refine reg_take (i := 19) (v := ?vb19) rfl (by kernel_rfl) rfl hHeld ?yb19 ?rb19
  case yb19 => (intro w hSw; (try dsimp only at hSw); go_simp; all_goals with_reducible rfl)
  try simp only [Act.put, List.setIfInBounds_toArray, List.set_cons_zero, List.set_cons_succ]
  refine reg_loud (i := 20) rfl (by kernel_rfl) rfl (fun K hK => ?_)
  go_simp
  refine hK.out _ _ (trivial) (fun hNew => ?_)
  clear hK K hHeld
  have hHeld := hNew
  clear hNew
  try simp only [Act.put, List.setIfInBounds_toArray, List.set_cons_zero, List.set_cons_succ]
  refine reg_take (i := 21) (v := ?vb21) rfl (by kernel_rfl) rfl hHeld ?yb21 ?rb21
  case yb21 => (intro w hSw; (try dsimp only at hSw); go_simp; all_goals with_reducible rfl)
  try simp only [Act.put, List.setIfInBounds_toArray, List.set_cons_zero, List.set_cons_succ]
  refine reg_done (by kernel_rfl) ?_ _
  go_wp2_with fail
  go_ret2
  refine ⟨rfl, ⟨by rw [E3.out]; omega, ?_⟩, ?_⟩
  · rw [E1.out, E2.out, E3.out, show ((l.length - 1 : Nat) : Int) = (l.length : Int) - 1 by omega]
    exact ((HB.out.set2 _).set1 _).set0 _
  · exact ((((Chg.refl (S := fun q => q = p)).setCell ⟨p, 2, none⟩ (Or.inl rfl) _).setCell ⟨p, 1, none⟩ (Or.inl rfl) _).setCell ⟨p, 0, none⟩ (Or.inl rfl) _).drew.drew

set_option maxHeartbeats 3200000 in
set_option maxRecDepth 100000 in
theorem blkDelete_hi {w : World} {p : Nat} {l : List Bool} (h : IsBlock w p l) (k : Nat) (hk : k < l.length) (h64 : 64 ≤ k) :
    Calls Tryd.prog 105 #[.pointer (some ⟨p, 0, none⟩), .int .i64 k] w fun e w' => e = .returned (.tuple #[.bool (bitAt l k), .int .i64 0]) ∧ BlkStep w w' p (outL l k) := by
  have hB : Blk w p l.length (loW l) (hiW l) := h.2
  obtain ⟨c0, c1, c2, fz⟩ := hB.cells
  have f0 := fz 0
  have f2 := fz 2
  have hl := h.1
  have hR : hasL l k = 0 := by unfold hasL; rw [if_pos (by omega)]
  have HR := Lib.hid hR
  have HH := Lib.hid h
  have q1 : (k : Int) / 64 = 1 := by omega
  have q7 : IntKind.i64.wrap 1 = 1 := by decide
  obtain ⟨q3, q4, q5⟩ := quo_hi h64 (by omega)
  have hy := hiW_lt l
  have e1 := lo_out2 hk h64
  have e2 := hi_out2 hk h64 h.1
  have e3 := outL_len hk
  have hm : k - 64 < 64 := by omega
  have e4 := hiW_bit (l := l) hm
  rw [show 64 + (k - 64) = k by omega] at e4
  have Q6 : Hid ((k : Int).tmod 64 = ((k - 64 : Nat) : Int)) := by show _ = _; rw [Int.tmod_eq_emod_of_nonneg (by omega)]; omega
  have E1 := Lib.hid e1
  have E2 := Lib.hid e2
  have E3 := Lib.hid e3
  have E4 := Lib.hid e4
  have HB := Lib.hid hB
  clear e1 e2 e3 e4 hB h fz hR q4 q5
  generalize loW l = x at *
  generalize hiW l = y at *
  generalize hmm : k - 64 = m at *
  clear hmm
  go_enter Tryd.func105, Tryd.ntmps105
  go_wp2_with fail
  refine (blkHas HH.out k).mono ?_
  rintro e w' ⟨rfl, rfl⟩
  rw [HR.out]
  go_wp2_with fail
  refine wp_loop_rounds 1 ?_
  rw [rounds_succ]
  go_wp2_with fail
  refine reg_start (fun _ => True) (by kernel_rfl) (trivial) (fun hHeld => ?_)
  refine reg_take (i := 0) (v := ?v0) rfl (by kernel_rfl) rfl hHeld ?y0 ?r0
  case y0 => (intro w hSw; (try dsimp only at hSw); go_simp; all_goals with_reducible rfl)
  try simp only [Act.put, List.setIfInBounds_toArray, List.set_cons_zero, List.set_cons_succ]
  refine reg_take (i := 1) (v := ?v1) rfl (by kernel_rfl) rfl hHeld ?y1 ?r1
  case y1 => (intro w hSw; (try dsimp only at hSw); go_simp; all_goals with_reducible rfl)
  try simp only [Act.put, List.setIfInBounds_toArray, List.set_cons_zero, List.set_cons_succ]
  refine reg_take (i := 2) (v := ?v2) rfl (by kernel_rfl) rfl hHeld ?y2 ?r2
  case y2 => (intro w hSw; (try dsimp only at hSw); go_simp; all_goals with_reducible rfl)
  try simp only [Act.put, List.setIfInBounds_toArray, List.set_cons_zero, List.set_cons_succ]
  refine reg_take (i := 3) (v := ?v3) rfl (by kernel_rfl) rfl hHeld ?y3 ?r3
  case y3 => (intro w hSw; (try dsimp only at hSw); go_simp; all_goals with_reducible rfl)
  try simp only [Act.put, List.setIfInBounds_toArray, List.set_cons_zero, List.set_cons_succ]
  refine reg_take (i := 4) (v := ?v4) rfl (by kernel_rfl) rfl hHeld ?y4 ?r4
  case y4 => (intro w hSw; (try dsimp only at hSw); go_simp; all_goals with_reducible rfl)
  try simp only [Act.put, List.setIfInBounds_toArray, List.set_cons_zero, List.set_cons_succ]
  refine reg_take (i := 5) (v := ?v5) rfl (by kernel_rfl) rfl hHeld ?y5 ?r5
  case y5 => (intro w hSw; (try dsimp only at hSw); go_simp; all_goals with_reducible rfl)
  try simp only [Act.put, List.setIfInBounds_toArray, List.set_cons_zero, List.set_cons_succ]
  refine reg_take (i := 6) (v := ?v6) rfl (by kernel_rfl) rfl hHeld ?y6 ?r6
  case y6 => (intro w hSw; (try dsimp only at hSw); go_simp; all_goals with_reducible rfl)
  try simp only [Act.put, List.setIfInBounds_toArray, List.set_cons_zero, List.set_cons_succ]
  refine reg_take (i := 7) (v := ?v7) rfl (by kernel_rfl) rfl hHeld ?y7 ?r7
  case y7 => (intro w hSw; (try dsimp only at hSw); go_simp; all_goals with_reducible rfl)
  try simp only [Act.put, List.setIfInBounds_toArray, List.set_cons_zero, List.set_cons_succ]
  refine reg_take (i := 8) (v := ?v8) rfl (by kernel_rfl) rfl hHeld ?y8 ?r8
  case y8 => (intro w hSw; (try dsimp only at hSw); go_simp; all_goals with_reducible rfl)
  try simp only [Act.put, List.setIfInBounds_toArray, List.set_cons_zero, List.set_cons_succ]
  refine reg_take (i := 10) (v := ?v10) rfl (by kernel_rfl) rfl hHeld ?y10 ?r10
  case y10 => (intro w hSw; (try dsimp only at hSw); go_simp; all_goals with_reducible rfl)
  try simp only [Act.put, List.setIfInBounds_toArray, List.set_cons_zero, List.set_cons_succ]
  refine reg_take (i := 11) (v := ?v11) rfl (by kernel_rfl) rfl hHeld ?y11 ?r11
  case y11 => (intro w hSw; (try dsimp only at hSw); go_simp; all_goals with_reducible rfl)
  try simp only [Act.put, List.setIfInBounds_toArray, List.set_cons_zero, List.set_cons_succ]
  refine reg_take (i := 12) (v := ?v12) rfl (by kernel_rfl) rfl hHeld ?y12 ?r12
  case y12 => (intro w hSw; (try dsimp only at hSw); go_simp; all_goals with_reducible rfl)
  try simp only [Act.put, List.setIfInBounds_toArray, List.set_cons_zero, List.set_cons_succ]
  refine reg_take (i := 17) (v := ?v17) rfl (by kernel_rfl) rfl hHeld ?y17 ?r17
  case y17 => (intro w hSw; (try dsimp only at hSw); go_simp; all_goals with_reducible rfl)
  try simp only [Act.put, List.setIfInBounds_toArray, List.set_cons_zero, List.set_cons_succ]
  refine reg_take (i := 18) (v := ?v18) rfl (by kernel_rfl) rfl hHeld ?y18 ?r18
  case y18 => (intro w hSw; (try dsimp only at hSw); go_simp; all_goals with_reducible rfl)
  try simp only [Act.put, List.setIfInBounds_toArray, List.set_cons_zero, List.set_cons_succ]
  refine reg_loud (i := 9) rfl (by kernel_rfl) rfl (fun K hK => ?_)
  go_simp
  refine hK.out _ _ (trivial) (fun hNew => ?_)
  clear hK K hHeld
  have hHeld := hNew
  clear hNew
  try simp only [Act.put, List.setIfInBounds_toArray, List.set_cons_zero, List.set_cons_succ]
  refine reg_loud (i := 13) rfl (by kernel_rfl) rfl (fun K hK => ?_)
  go_simp
  refine (cut_lit (Y := ((cutW y m false : Nat) : Int)) (c := bitAt l k) y m _ hy hm rfl Q6.out rfl E4.out).mono ?_
  rintro e w' ⟨rfl, rfl⟩
  go_wp2_with fail
  refine hK.out _ _ (trivial) (fun hNew => ?_)
  clear hK K hHeld
  have hHeld := hNew
  clear hNew
  try simp only [Act.put, List.setIfInBounds_toArray, List.set_cons_zero, List.set_cons_succ]
  refine reg_take (i := 14) (v := ?v14) rfl (by kernel_rfl) rfl hHeld ?y14 ?r14
  case y14 => (intro w hSw; (try dsimp only at hSw); go_simp; all_goals with_reducible rfl)
  try simp only [Act.put, List.setIfInBounds_toArray, List.set_cons_zero, List.set_cons_succ]
  refine reg_take (i := 15) (v := ?v15) rfl (by kernel_rfl) rfl hHeld ?y15 ?r15
  case y15 => (intro w hSw; (try dsimp only at hSw); go_simp; all_goals with_reducible rfl)
  try simp only [Act.put, List.setIfInBounds_toArray, List.set_cons_zero, List.set_cons_succ]
  refine reg_take (i := 16) (v := ?v16) rfl (by kernel_rfl) rfl hHeld ?y16 ?r16
  case y16 => (intro w hSw; (try dsimp only at hSw); go_simp; all_goals with_reducible rfl)
  try simp only [Act.put, List.setIfInBounds_toArray, List.set_cons_zero, List.set_cons_succ]
  refine reg_take (i := 19) (v := ?v19) rfl (by kernel_rfl) rfl hHeld ?y19 ?r19
  case y19 => (intro w hSw; (try dsimp only at hSw); go_simp; all_goals with_reducible rfl)
  try simp only [Act.put, List.setIfInBounds_toArray, List.set_cons_zero, List.set_cons_succ]
  refine reg_loud (i := 20) rfl (by kernel_rfl) rfl (fun K hK => ?_)
  go_simp
  refine hK.out _ _ (trivial) (fun hNew => ?_)
  clear hK K hHeld
  have hHeld := hNew
  clear hNew
  try simp only [Act.put, List.setIfInBounds_toArray, List.set_cons_zero, List.set_cons_succ]
  refine reg_take (i := 21) (v := ?v21) rfl (by kernel_rfl) rfl hHeld ?y21 ?r21
  case y21 => (intro w hSw; (try dsimp only at hSw); go_simp; all_goals with_reducible rfl)
  try simp only [Act.put, List.setIfInBounds_toArray, List.set_cons_zero, List.set_cons_succ]
  refine reg_done (by kernel_rfl) ?_ _
  go_wp2_with fail
  go_ret2
  refine ⟨rfl, ⟨by rw [E3.out]; omega, ?_⟩, ?_⟩
  · rw [E1.out, E2.out, E3.out, show ((l.length - 1 : Nat) : Int) = (l.length : Int) - 1 by omega]
    exact (HB.out.set2 _).set0 _
  · exact (((Chg.refl (S := fun q => q = p)).setCell ⟨p, 2, none⟩ (Or.inl rfl) _).setCell ⟨p, 0, none⟩ (Or.inl rfl) _).drew

theorem blkDelete {w : World} {p : Nat} {l : List Bool} (h : IsBlock w p l) (k : Nat) (hk : k < l.length) :
    Calls Tryd.prog 105 #[.pointer (some ⟨p, 0, none⟩), .int .i64 k] w fun e w' => e = .returned (.tuple #[.bool (bitAt l k), .int .i64 0]) ∧ BlkStep w w' p (outL l k) := by
  by_cases h64 : k < 64
  · exact blkDelete_lo h k hk h64
  · exact blkDelete_hi h k hk (by omega)

end Go.Proofs.YtcppgpjodfeigaaDoor

namespace Go.Proofs.YtcppgpjodfeigaaDoor
set_option linter.unusedVariables false
set_option linter.unusedSimpArgs false
open Go.RowKit


theorem madeCells_one (z : Value) (n : Nat) : madeCells #[z] n = (vecL (fun _ => z) n).toArray := by
  apply Array.ext
  · simp [madeCells, vecL]
  · intro i h1 h2
    have h0 : ∀ m, m % 1 = 0 := fun m => by omega
    simp [madeCells, vecL, h0]
/-- 'make([]E, n)', an element of one cell. -/
theorem run_makeV {P : Program} {t e : TypeId} {z : Value} {bytes : Nat} (hinfo : (P.info? e).map (fun i => (i.zero, i.size, i.bytes)) = some (some z, 1, bytes)) (ht : P.underlying t = some (.slice e)) (hz : z.cells = #[z]) (n : Nat) (h : (bytes : Int) * (n : Int) ≤ 281474976710656) (hn : n ≤ maxLen) (w : World) :
    (Instr.makeSlice t (.int .i64 (n : Int)) (.int .i64 (n : Int))).run P w = .ok (.slice (some ⟨w.heap.size, 0, none⟩) n n) (w.alloc (.cells (vecL (fun _ => z) n).toArray e)) := by
  obtain ⟨i, hi, hiz, hsz, hby⟩ := info_parts hinfo
  have h2 := run_make (P := P) w t e i z ht hi hiz .i64 .i64 (n : Int) (n : Int) (by omega) (by omega) (by rw [hby]; exact h) (by unfold maxLen at hn; omega)
  rw [h2, hz, hsz, Int.toNat_natCast, Nat.mul_one, madeCells_one]
theorem make_bools (n : Nat) (h : n ≤ 1000000000) (w : World) : (Instr.makeSlice 23 (.int .i64 (n : Int)) (.int .i64 (n : Int))).run Tryd.prog w = .ok (.slice (some ⟨w.heap.size, 0, none⟩) n n) (w.alloc (.cells (vecL (fun _ => .bool false) n).toArray 4)) :=
  run_makeV Tryd.infoBoolR Tryd.underlying23 rfl n (by omega) (by unfold maxLen; omega) w

theorem own_vec {w : World} {q n base : Nat} {f : Nat → Value} {e : TypeId} (h : w.heap[q]? = some (.cells (vecL f n).toArray e (0, 0))) (hb : base ≤ q) (hn : n ≤ maxLen) : w.ownsRow base e 1 (.slice (some ⟨q, 0, none⟩) n n) n (vecL f n) :=
  ⟨by rw [vecL_len]; omega, .inr ⟨q, n, (vecL f n).toArray, rfl, hb, h, Nat.le_refl _, hn, by simp [vecL_len], by rw [Nat.mul_one]; exact List.take_of_length_le (by rw [vecL_len]; exact Nat.le_refl _)⟩⟩

theorem blkAll_nil (w : World) : Calls Tryd.prog 104 #[.pointer none] w fun e w' => e = .returned (.slice none 0 0) ∧ w = w' := by
  go_enter Tryd.func104, Tryd.ntmps104
  go_wp2_with fail
  go_ret
  exact ⟨rfl, rfl⟩

set_option maxHeartbeats 1600000 in
theorem blkAll {w : World} {p : Nat} {l : List Bool} (h : IsBlock w p l) : Calls Tryd.prog 104 #[.pointer (some ⟨p, 0, none⟩)] w (GivesB w.heap.size w l) := by
  obtain ⟨c0, _⟩ := h.cells
  have hl := h.1
  have hmk := make_bools l.length (by omega)
  have hq0 : (w.alloc (.cells (vecL (fun _ => .bool false) l.length).toArray 4)).heap[w.heap.size]? = some (.cells (vecL (fun i => if i < 0 then .bool (bitAt l i) else .bool false) l.length).toArray 4 (0, 0)) := by
    rw [vecL_congr (f := fun i => if i < 0 then .bool (bitAt l i) else .bool false) (g := fun _ => .bool false) (fun i hi => by simp)]
    exact heap_alloc_new w _
  have hb0 := below_alloc w (.cells (vecL (fun _ => .bool false) l.length).toArray 4)
  have HB := Lib.hid h
  have HQ0 := Lib.hid hq0
  obtain ⟨q, hq⟩ : ∃ q, w.heap.size = q := ⟨_, rfl⟩
  have HQ := Lib.hid hq
  have hpq := h.lt
  clear hq0 h hq
  go_enter Tryd.func104, Tryd.ntmps104
  go_wp2_with fail
  rw [HQ.out]
  go_loopw [14] (fun i wr => ∃ k : Nat, k ≤ l.length ∧ i = .int .i64 k ∧ wr.heap[q]? = some (.cells (vecL (fun i => if i < k then .bool (bitAt l i) else .bool false) l.length).toArray 4 (0, 0)) ∧ Below w.heap.size w wr) (fun i _ => l.length - (intOf i).toNat)
  case atStart => exact ⟨0, Nat.zero_le _, rfl, by have := HQ0.out; rw [HQ.out] at this; exact this, hb0⟩
  case round =>
    clear hb0 hmk
    obtain ⟨k, hk, rfl, hqk, hb⟩ := hrel
    have hs := hb.size
    have hB := HB.out.below hb hpq
    have HBW := Lib.hid hB
    have HQK := Lib.hid hqk
    by_cases hlt : k < l.length
    · have hc := vec_cell hqk hlt
      simp only [Nat.lt_irrefl, if_false] at hc
      have hfz : wr.frozen? ⟨q, k, none⟩ = false := frozen_of_row wr q k _ _ hqk
      clear hB hqk
      go_wp2_with (go_at_call 63; refine (blkGet HBW.out k hlt).mono ?_; rintro e w' ⟨rfl, rfl⟩)
      go_roundw
      case rel =>
        refine ⟨k + 1, by omega, by go_num, ?_, below_setQ hb hs (by have := HQ.out; omega) _⟩
        rw [vec_set HQK.out]
        congr 3
        refine vecL_congr (fun i hi => ?_)
        by_cases e : i = k
        · subst e; simp
        · rw [if_neg e]
          by_cases e2 : i < k
          · rw [if_pos e2, if_pos (by omega)]
          · rw [if_neg e2, if_neg (by omega)]
      case measure => simp [intOf]; omega
    · obtain rfl : k = l.length := by omega
      clear hB hqk
      go_wp2_with fail
      go_ret
      refine ⟨_, rfl, ?_, hb⟩
      have := own_vec HQK.out (base := w.heap.size) (by have := HQ.out; omega) (by unfold maxLen; omega)
      rw [show l.map Value.bool = vecL (fun i => if i < l.length then .bool (bitAt l i) else .bool false) l.length from ?_]
      · exact this
      · apply List.ext_getElem?
        intro i
        by_cases hi : i < l.length
        · rw [vecL_get hi, if_pos hi, List.getElem?_map, List.getElem?_eq_getElem hi]
          simp [bitAt, List.getElem?_eq_getElem hi]
        · rw [List.getElem?_eq_none (by simp; omega), List.getElem?_eq_none (by rw [vecL_len]; omega)]

/-- Split: both blocks. -/
def SplitPost (w : World) (p : Nat) (l : List Bool) (e : Ending) (w' : World) : Prop :=
  ∃ q, e = .returned (.pointer (some ⟨q, 0, none⟩)) ∧ w.heap.size ≤ q ∧ IsBlock w' q (l.drop (l.length / 2)) ∧ IsBlock w' p (l.take (l.length / 2)) ∧ Chg (fun b => b = p) w w'

theorem blkSplit_nil (w : World) : Calls Tryd.prog 100 #[.pointer none] w fun e w' => e = .returned (.pointer none) ∧ w = w' := by
  go_enter Tryd.func100, Tryd.ntmps100
  go_wp2_with fail
  go_ret
  exact ⟨rfl, rfl⟩

set_option maxHeartbeats 1600000 in
theorem blkSplit {w : World} {p : Nat} {l : List Bool} (h : IsBlock w p l) : Calls Tryd.prog 100 #[.pointer (some ⟨p, 0, none⟩)] w (SplitPost w p l) := by
  have HB := Lib.hid h
  have hl := h.1
  clear h
  go_enter Tryd.func100, Tryd.ntmps100
  go_wp2_with fail
  refine (blkAll HB.out).mono ?_
  rintro e w1 ⟨v, rfl, hown, hb1⟩
  obtain ⟨a, c, rfl, hnil, hab⟩ := own_slice hown
  have hrd := readsV_own hown
  have hcap : l.length ≤ c := by
    rcases hown.2 with ⟨hv, h0⟩ | ⟨g, cap, cur, hv, _, _, h1, _⟩
    · have := own_len hown; rw [h0] at this; simp at this; omega
    · injection hv with _ _ e3; subst e3; exact h1
  have hB1 := HB.out.below' hb1
  obtain ⟨c0, _⟩ := hB1.cells
  have hs1 := fun (w : World) => run_sliceTo (P := Tryd.prog) (w := w) (t := 23) (a := a) (len := l.length) (cap := c) (k := l.length / 2) Tryd.underlying23 (by kernel_rfl) (by omega)
  have hs2 := fun (w : World) => run_sliceFrom (P := Tryd.prog) (w := w) (t := 23) (a := a) (len := l.length) (cap := c) (k := l.length / 2) Tryd.underlying23 (by kernel_rfl) (by omega)
  have ed : ((l.length / 2 : Nat) : Int) = (l.length : Int) / 2 := by omega
  rw [ed] at hs1 hs2
  have HD : Hid (ReadsV w1 (offA a (l.length / 2) c) ((l.drop (l.length / 2)).map Value.bool)) := by
    have := hrd.drop (k := l.length / 2) (cap := c) (by simpa using hcap)
    rw [← List.map_drop] at this; exact this
  have HTk : Hid (ReadsV w1 a ((l.take (l.length / 2)).map Value.bool)) := by
    have := hrd.take (l.length / 2)
    rw [← List.map_take] at this; exact this
  have HB1 := Lib.hid hB1
  have HC : Hid (Chg (fun b => b = p) w w1) := Chg.of_below hb1
  have hpl := hB1.lt
  have hw1 := hb1.size
  have hl1 : (l.drop (l.length / 2)).length = l.length - l.length / 2 := by simp
  have hl2 : (l.take (l.length / 2)).length = l.length / 2 := by rw [List.length_take]; omega
  have HL1 := Lib.hid hl1
  have HL2 := Lib.hid hl2
  have hap : ∀ ad, a = some ad → ad.block ≠ p := by
    intro ad h e
    obtain ⟨g, rfl, hg, _⟩ := hab ad h
    have hx : g = p := e
    have := HB.out.lt
    omega
  have HAP := Lib.hid hap
  clear hnil hab hrd hcap hB1 hb1 hown ed hl1 hl2 hap
  have hml : l.length / 2 ≤ l.length := Nat.div_le_self _ _
  generalize hm : l.length / 2 = m at *
  have HM := Lib.hid hm
  clear hm
  go_wp2_with fail
  have hnew := blkNew w1 (offA a m c) (c - m) (l.drop m) HD.out (by rw [HL1.out]; omega)
  rw [HL1.out] at hnew
  refine hnew.mono ?_
  rintro e w2 ⟨rfl, hq, hb2⟩
  have hB2 := HB1.out.below' hb2
  obtain ⟨d0, _⟩ := hB2.cells
  have hT2 := HTk.out.below' hb2
  have HQ := Lib.hid hq
  have HB2 := Lib.hid hB2
  have HT2 := Lib.hid hT2
  have HC2 : Hid (Chg (fun b => b = p) w w2) := HC.out.trans (Chg.of_below (S := fun b => b = p) hb2) (fun b hb => Or.inl hb)
  obtain ⟨q, hqe⟩ : ∃ q, w1.heap.size = q := ⟨_, rfl⟩
  have HQE := Lib.hid hqe
  clear hnew hq hB2 hT2 hb2 hs2 hqe
  go_wp2_with fail
  have hset := blkSet HB2.out a c (l.take m) HT2.out (by rw [HL2.out]; omega)
  rw [HL2.out] at hset
  refine hset.mono ?_
  rintro e w3 ⟨rfl, hk3, hc3⟩
  have HK3 := Lib.hid hk3
  have HC3 := Lib.hid hc3
  clear hset hk3 hc3 hs1
  go_wp2_with fail
  go_ret
  rw [HQE.out]
  refine ⟨q, rfl, by have := HQE.out; omega, ?_, ?_, HC2.out.trans HC3.out (fun b hb => Or.inl hb)⟩
  · rw [HM.out]; exact (by rw [HQE.out] at HQ; exact HQ.out : IsBlock w2 q (l.drop m)).chg HC3.out (fun e => by have := HQE.out; omega)
  · rw [HM.out]; exact HK3.out

theorem blkJoin_nil (w : World) (o : Option Addr) : Calls Tryd.prog 122 #[.pointer none, .pointer o] w fun e w' => e = .returned (.int .i64 6) ∧ w = w' := by
  go_enter Tryd.func122, Tryd.ntmps122
  go_wp2_with fail
  go_ret
  exact ⟨rfl, rfl⟩
theorem blkJoin_none (w : World) (p : Nat) : Calls Tryd.prog 122 #[.pointer (some ⟨p, 0, none⟩), .pointer none] w fun e w' => e = .returned (.int .i64 1) ∧ w = w' := by
  go_enter Tryd.func122, Tryd.ntmps122
  go_wp2_with fail
  go_ret
  exact ⟨rfl, rfl⟩
theorem Tryd.infoBlk : ∃ j, Tryd.prog.info? 114 = some j ∧ j.size ≠ 0 := by
  have h : (Tryd.prog.info? 114).map (fun i => decide (i.size ≠ 0)) = some true := by kernel_rfl
  obtain ⟨j, hj, hd⟩ := Option.map_eq_some_iff.1 h
  exact ⟨j, hj, by simpa using hd⟩
theorem blkJoin_self (w : World) (p : Nat) : Calls Tryd.prog 122 #[.pointer (some ⟨p, 0, none⟩), .pointer (some ⟨p, 0, none⟩)] w fun e w' => e = .returned (.int .i64 1) ∧ w = w' := by
  obtain ⟨j, hj, _⟩ := Tryd.infoBlk
  have he := fun (w : World) => run_eql_ptr_same (P := Tryd.prog) w (tp := 86) ⟨p, 0, none⟩ Tryd.underlying86 hj
  go_enter Tryd.func122, Tryd.ntmps122
  go_wp2_with fail
  go_ret
  exact ⟨rfl, rfl⟩

set_option maxHeartbeats 1600000 in
set_option maxRecDepth 10000 in
theorem blkJoin_full {w : World} {p q : Nat} {l m : List Bool} (h : IsBlock w p l) (h2 : IsBlock w q m) (hpq : p ≠ q) (hl : 128 < l.length + m.length) :
    Calls Tryd.prog 122 #[.pointer (some ⟨p, 0, none⟩), .pointer (some ⟨q, 0, none⟩)] w fun e w' => e = .returned (.int .i64 3) ∧ ∃ n, w' = w.drewN n := by
  obtain ⟨c0, _⟩ := h.cells
  obtain ⟨d0, _⟩ := h2.cells
  have k1 := h.1
  have k2 := h2.1
  have hne : (⟨q, 0, none⟩ : Addr) ≠ ⟨p, 0, none⟩ := fun e => hpq (congrArg Addr.block e).symm
  obtain ⟨j, hj, hjs⟩ := Tryd.infoBlk
  have he := run_eql_ptr_other (P := Tryd.prog) w (tp := 86) (a := ⟨q, 0, none⟩) (b := ⟨p, 0, none⟩) Tryd.underlying86 hj hjs hne h2.2 h.2
  clear h h2 hj hjs hne
  go_enter Tryd.func122, Tryd.ntmps122
  go_wp2_with fail
  go_quiet (fail)
  go_wp2_with fail
  go_ret
  exact ⟨rfl, _, rfl⟩

/-- Join: both blocks. -/
def JoinPost (w : World) (p q : Nat) (l m : List Bool) (e : Ending) (w' : World) : Prop :=
  e = .returned (.int .i64 0) ∧ IsBlock w' p (l ++ m) ∧ IsBlock w' q [] ∧ Chg (fun b => b = p ∨ b = q) w w'

set_option maxHeartbeats 1600000 in
set_option maxRecDepth 10000 in
theorem blkJoin {w : World} {p q : Nat} {l m : List Bool} (h : IsBlock w p l) (h2 : IsBlock w q m) (hpq : p ≠ q) (hl : l.length + m.length ≤ 128) :
    Calls Tryd.prog 122 #[.pointer (some ⟨p, 0, none⟩), .pointer (some ⟨q, 0, none⟩)] w (JoinPost w p q l m) := by
  obtain ⟨c0, _⟩ := h.cells
  obtain ⟨d0, _⟩ := h2.cells
  have k1 := h.1
  have k2 := h2.1
  have hne : (⟨q, 0, none⟩ : Addr) ≠ ⟨p, 0, none⟩ := fun e => hpq (congrArg Addr.block e).symm
  obtain ⟨j, hj, hjs⟩ := Tryd.infoBlk
  have he := run_eql_ptr_other (P := Tryd.prog) w (tp := 86) (a := ⟨q, 0, none⟩) (b := ⟨p, 0, none⟩) Tryd.underlying86 hj hjs hne h2.2 h.2
  have HP : Hid (∀ n, IsBlock (w.drewN n) p l) := fun n => h
  have HQ : Hid (∀ n, IsBlock (w.drewN n) q m) := fun n => h2
  have HPQ := Lib.hid hpq
  have HPL := Lib.hid h.lt
  have HQL := Lib.hid h2.lt
  have hd : decide ((128 : Int) < (l.length : Int) + (m.length : Int)) = false := by simp; omega
  clear h h2 hj hjs hpq
  go_enter Tryd.func122, Tryd.ntmps122
  go_wp2_with fail
  go_quiet (fail)
  have HC0 : Hid (Chg (fun b => b = p ∨ b = q) w (w.drewN nq)) := Chg.refl.drewN nq
  have HS0 : Hid ((w.drewN nq).heap.size = w.heap.size) := rfl
  have HP := Lib.hid (HP.out nq)
  have HQ := Lib.hid (HQ.out nq)
  generalize w.drewN nq = w1 at *
  clear c0 d0 he hd
  go_wp2_with fail
  refine (blkAll HP.out).mono ?_
  rintro e w2 ⟨v, rfl, hown, hb1⟩
  have HP2 := Lib.hid (HP.out.below' hb1)
  have HQ2 := Lib.hid (HQ.out.below' hb1)
  have hs2 := hb1.size
  have HC2 : Hid (Chg (fun b => b = p ∨ b = q) w w2) := HC0.out.trans (Chg.of_below (S := fun b => b = p ∨ b = q) hb1) (fun b hb => Or.inl hb)
  have HO2 := Lib.hid hown
  clear hown hb1
  go_wp2_with fail
  refine (blkAll HQ2.out).mono ?_
  rintro e w3 ⟨v3, rfl, hown3, hb3⟩
  have hown := own_below HO2.out hb3 (fun k hk => (own_lt HO2.out hk).2)
  have hown := own_mono hown (show w1.heap.size ≤ w1.heap.size from Nat.le_refl _)
  obtain ⟨a3, c3, rfl, hnil3, _⟩ := own_slice hown3
  have hrd3 := readsV_own hown3
  have hs3 := hb3.size
  have HO3 := Lib.hid hown
  have HR3 := Lib.hid hrd3
  have HN3 := Lib.hid hnil3
  have HP3 := Lib.hid (HP2.out.below' hb3)
  have HQ3 := Lib.hid (HQ2.out.below' hb3)
  have HC3 : Hid (Chg (fun b => b = p ∨ b = q) w w3) := HC2.out.trans (Chg.of_below (S := fun b => b = p ∨ b = q) hb3) (fun b hb => Or.inl hb)
  have HPL1 : Hid (p < w1.heap.size ∧ q < w1.heap.size) := ⟨HP.out.lt, HQ.out.lt⟩
  clear hown3 hown hb3 hrd3 hnil3
  go_wp2_with (at_builtin; refine wpList_appendL rfl _ _ 23 rfl w1.heap.size 4 Tryd.infoBoolR Tryd.underlying23 rfl _ l.length _ rfl HO3.out a3 m.length c3 (m.map Value.bool) rfl (by simp) HN3.out HR3.out.hnews (oneB _) (by unfold maxLen; omega) (by omega) (by omega) ?_)
  intro a4 c4 w4 hown4 hgrow _
  have hb4 : Below w1.heap.size w3 w4 := (Below.refl _ _).grown hgrow (by omega) (fun k hk => (own_lt HO3.out hk).1)
  have HP4 := Lib.hid (HP3.out.below hb4 HPL1.out.1)
  have HQ4 := Lib.hid (HQ3.out.below hb4 HPL1.out.2)
  have HC4 : Hid (Chg (fun b => b = p ∨ b = q) w w4) := by
    have := Below.trans (B := w1.heap.size) (hb4) (Below.refl _ _)
    refine ⟨hb4.os.trans HC3.out.os, hb4.tape.trans HC3.out.tape, hb4.output.trans HC3.out.output, Nat.le_trans HC3.out.size hb4.size, fun k hk hn => ?_⟩
    rw [hb4.block k (by have := HS0.out; omega)]
    exact HC3.out.block k hk hn
  have hrd4 := readsV_own hown4
  rw [← List.map_append] at hrd4
  have HR4 := Lib.hid hrd4
  have hset := blkSet HP4.out a4 c4 (l ++ m) HR4.out (by rw [List.length_append]; exact hl)
  rw [List.length_append] at hset
  have HSET := Lib.hid hset
  clear hown4 hgrow hb4 hrd4 hset
  go_wp2_with fail
  refine HSET.out.mono ?_
  rintro e w5 ⟨rfl, hk5, hc5⟩
  have HK5 := Lib.hid hk5
  have HQ5 : Hid (IsBlock w5 q m) := HQ4.out.chg hc5 (fun e => HPQ.out e.symm)
  have HC5 : Hid (Chg (fun b => b = p ∨ b = q) w w5) := HC4.out.trans hc5 (fun b hb => Or.inl (Or.inl hb))
  clear hk5 hc5 HSET
  have hset2 := blkSet HQ5.out none 0 [] ReadsV.nil (by simp)
  have HSET2 := Lib.hid hset2
  clear hset2
  go_wp2_with fail
  refine HSET2.out.mono ?_
  rintro e w6 ⟨rfl, hk6, hc6⟩
  have HK6 := Lib.hid hk6
  have HC6 := Lib.hid hc6
  clear hk6 hc6
  go_wp2_with fail
  go_ret
  exact ⟨rfl, HK5.out.chg HC6.out HPQ.out, HK6.out, HC5.out.trans HC6.out (fun b hb => Or.inl (Or.inr hb))⟩

end Go.Proofs.YtcppgpjodfeigaaDoor

namespace Go.Proofs.YtcppgpjodfeigaaDoor
set_option linter.unusedVariables false
set_option linter.unusedSimpArgs false

/-- An arena: of each number whether it is taken; those that are free, the last one last; how many there may be. -/
structure Ar where
  T : List Bool
  F : List Nat
  M : Nat

/-- What holds of every arena. -/
structure Ar.Ok (a : Ar) : Prop where
  max : a.M ≤ 268435456
  le : a.T.length ≤ a.M
  cnt : a.T.count false = a.F.length
  nd : a.F.Nodup
  iff : ∀ j, a.T[j]? = some false ↔ j ∈ a.F

def arIs (T : List Bool) (k : Int) : Bool := decide (0 ≤ k) && (T[k.toNat]?.getD false)

theorem arIs_iff {T : List Bool} {k : Int} : arIs T k = true ↔ 0 ≤ k ∧ T[k.toNat]? = some true := by
  unfold arIs
  cases h : T[k.toNat]? with
  | none => simp
  | some b => cases b <;> simp

def Ar.live (a : Ar) : Nat := a.T.length - a.F.length

theorem Ar.Ok.fle {a : Ar} (h : a.Ok) : a.F.length ≤ a.T.length := by rw [← h.cnt]; exact List.count_le_length

def Ar.new (m : Nat) : Ar := ⟨[], [], m⟩
theorem Ar.new_ok {m : Nat} (h : m ≤ 268435456) : (Ar.new m).Ok := ⟨h, by simp [Ar.new], by simp [Ar.new], by simp [Ar.new], by simp [Ar.new]⟩

/-- Take, where one is free. -/
def Ar.pop (a : Ar) (k : Nat) : Ar := ⟨a.T.set k true, a.F.dropLast, a.M⟩
/-- Take, where none is free. -/
def Ar.more (a : Ar) : Ar := ⟨a.T ++ [true], a.F, a.M⟩

theorem Ar.more_ok {a : Ar} (h : a.Ok) (hl : a.T.length < a.M) : a.more.Ok := by
  refine ⟨h.max, by simp [Ar.more]; omega, by simp [Ar.more, h.cnt], h.nd, fun j => ?_⟩
  show (a.T ++ [true])[j]? = some false ↔ j ∈ a.F
  rw [← h.iff j, List.getElem?_append]
  split
  · exact Iff.rfl
  · rename_i hj
    rw [List.getElem?_eq_none (l := a.T) (by omega)]
    rcases Nat.lt_or_ge (j - a.T.length) 1 with h1 | h1
    · have : j - a.T.length = 0 := by omega
      rw [this]; simp
    · rw [List.getElem?_eq_none (by simpa using h1)]

theorem Ar.pop_ok {a : Ar} (h : a.Ok) {k : Nat} (hk : a.F.getLast? = some k) : (a.pop k).Ok := by
  have hne : a.F ≠ [] := by intro e; rw [e] at hk; cases hk
  have hF : a.F = a.F.dropLast ++ [k] := by
    rw [List.getLast?_eq_some_getLast hne] at hk
    injection hk with hk
    rw [← hk, List.dropLast_concat_getLast]
  have hmem : k ∈ a.F := by rw [hF]; simp
  have hf := (h.iff k).2 hmem
  have hlt : k < a.T.length := (List.getElem?_eq_some_iff.1 hf).1
  have hfk : a.T[k] = false := (List.getElem?_eq_some_iff.1 hf).2
  have hnd := h.nd
  rw [hF, List.nodup_append] at hnd
  refine ⟨h.max, by simp [Ar.pop]; exact h.le, ?_, hnd.1, fun j => ?_⟩
  · show (a.T.set k true).count false = a.F.dropLast.length
    rw [List.count_set hlt, hfk, h.cnt, List.length_dropLast]; simp
  · show (a.T.set k true)[j]? = some false ↔ j ∈ a.F.dropLast
    rw [List.getElem?_set]
    have hj := h.iff j
    rw [hF, List.mem_append] at hj
    by_cases e : k = j
    · subst e
      rw [if_pos rfl, if_pos hlt]
      have : k ∉ a.F.dropLast := fun hm => hnd.2.2 k hm k (by simp) rfl
      simp [this]
    · rw [if_neg e, hj]
      have : j ∉ [k] := by simp; exact fun h => e h.symm
      simp [this]

/-- The free ones' numbers are old ones. -/
theorem Ar.Ok.last_lt {a : Ar} (h : a.Ok) {k : Nat} (hk : a.F.getLast? = some k) : k < a.T.length := by
  have hm : k ∈ a.F := List.mem_of_getLast? hk
  exact (List.getElem?_eq_some_iff.1 ((h.iff k).2 hm)).1

/-- Nodes are given back one by one; nothing where one of them is not taken. -/
def clr (T : List Bool) : List Int → Option (List Bool)
  | [] => some T
  | k :: l => if arIs T k = true then clr (T.set k.toNat false) l else none

theorem clr_snoc (T : List Bool) (l : List Int) (k : Int) : clr T (l ++ [k]) = (clr T l).bind fun T' => if arIs T' k = true then some (T'.set k.toNat false) else none := by
  induction l generalizing T with
  | nil => simp [clr]
  | cons x l ih =>
    simp only [List.cons_append, clr]
    split
    · exact ih _
    · rfl

theorem clr_length {T T' : List Bool} {l : List Int} (h : clr T l = some T') : T'.length = T.length := by
  induction l generalizing T with
  | nil => simp [clr] at h; rw [h]
  | cons x l ih =>
    simp only [clr] at h
    split at h
    · rw [ih h]; simp
    · cases h

/-- What was given back is taken again: all is as it was. -/
theorem clr_back {T T' : List Bool} {l : List Int} (h : clr T l = some T') : l.foldl (fun T k => T.set k.toNat true) T' = T := by
  apply List.ext_getElem?
  intro j
  have key : ∀ (l : List Int) (T T' : List Bool), clr T l = some T' → ∀ j : Nat, (l.foldl (fun T k => T.set k.toNat true) T')[j]? = T[j]? := by
    intro l
    induction l with
    | nil => intro T T' h j; simp [clr] at h; rw [h]; rfl
    | cons x l ih =>
      intro T T' h j
      simp only [clr] at h
      split at h
      · rename_i hx
        obtain ⟨hx0, hx1⟩ := arIs_iff.1 hx
        obtain ⟨hlt, hv⟩ := List.getElem?_eq_some_iff.1 hx1
        have comm : ∀ (l : List Int) (U : List Bool) (n : Nat), l.foldl (fun T k => T.set k.toNat true) (U.set n true) = (l.foldl (fun T k => T.set k.toNat true) U).set n true := by
          intro l
          induction l with
          | nil => intro U n; rfl
          | cons y l ih2 =>
            intro U n
            simp only [List.foldl_cons]
            by_cases e : n = y.toNat
            · subst e; rw [ih2]
            · rw [List.set_comm _ _ e, ih2]
        simp only [List.foldl_cons]
        rw [comm, List.getElem?_set, ih _ _ h j]
        have hlen : (l.foldl (fun T k => T.set k.toNat true) T').length = T.length := by
          have : ∀ (l : List Int) (U : List Bool), (l.foldl (fun T k => T.set k.toNat true) U).length = U.length := by
            intro l
            induction l with
            | nil => intro U; rfl
            | cons y l ih3 => intro U; simp only [List.foldl_cons]; rw [ih3]; simp
          rw [this, clr_length h]; simp
        split
        · rename_i e
          subst e
          rw [if_pos (by omega), hx1]
        · rename_i e
          rw [List.getElem?_set, if_neg e]
      · cases h
  exact key l T T' h j

theorem clr_get {T T' : List Bool} {l : List Int} (h : clr T l = some T') : (l.map Int.toNat).Nodup ∧ (∀ k ∈ l, 0 ≤ k ∧ T[k.toNat]? = some true) ∧ T'.count false = T.count false + l.length ∧
    ∀ j, T'[j]? = some false ↔ (T[j]? = some false ∨ j ∈ l.map Int.toNat) := by
  induction l generalizing T with
  | nil => simp [clr] at h; subst h; simp
  | cons x l ih =>
    simp only [clr] at h
    split at h
    · rename_i hx
      obtain ⟨hx0, hx1⟩ := arIs_iff.1 hx
      obtain ⟨hlt, hv⟩ := List.getElem?_eq_some_iff.1 hx1
      obtain ⟨h1, h2, h3, h4⟩ := ih h
      have hnx : x.toNat ∉ l.map Int.toNat := by
        intro hm
        obtain ⟨y, hy, he⟩ := List.mem_map.1 hm
        have := (h2 y hy).2
        rw [he, List.getElem?_set, if_pos rfl, if_pos hlt] at this
        cases this
      refine ⟨List.nodup_cons.2 ⟨hnx, h1⟩, fun k hk => ?_, ?_, fun j => ?_⟩
      · rcases List.mem_cons.1 hk with rfl | hk
        · exact ⟨hx0, hx1⟩
        · obtain ⟨hk0, hk1⟩ := h2 k hk
          refine ⟨hk0, ?_⟩
          rw [List.getElem?_set] at hk1
          split at hk1
          · cases hk1
          · exact hk1
      · rw [h3, List.count_set hlt, hv]; simp; omega
      · rw [h4 j, List.getElem?_set, List.map_cons, List.mem_cons]
        by_cases e : x.toNat = j
        · subst e; rw [if_pos rfl, if_pos hlt]; simp
        · rw [if_neg e]
          have : ¬ j = x.toNat := fun h => e h.symm
          simp [this]
    · cases h

/-- Free, where all are taken. -/
def Ar.push (a : Ar) (T' : List Bool) (l : List Int) : Ar := ⟨T', a.F ++ l.map Int.toNat, a.M⟩

theorem Ar.push_ok {a : Ar} (h : a.Ok) {T' : List Bool} {l : List Int} (hc : clr a.T l = some T') : (a.push T' l).Ok := by
  obtain ⟨h1, h2, h3, h4⟩ := clr_get hc
  refine ⟨h.max, by show T'.length ≤ a.M; rw [clr_length hc]; exact h.le, by show T'.count false = (a.F ++ l.map Int.toNat).length; rw [h3, h.cnt]; simp, ?_, fun j => ?_⟩
  · refine List.nodup_append.2 ⟨h.nd, h1, fun x hx y hy e => ?_⟩
    subst e
    obtain ⟨z, hz, rfl⟩ := List.mem_map.1 hy
    have := (h2 z hz).2
    rw [(h.iff _).2 hx] at this
    cases this
  · show T'[j]? = some false ↔ j ∈ a.F ++ l.map Int.toNat
    rw [h4 j, h.iff j, List.mem_append]

/-- Take: what it answers, and the arena behind it. -/
def Ar.take (a : Ar) : Int × Int × Ar :=
  if a.live = a.M then (-1, 3, a) else match a.F.getLast? with
    | some k => ((k : Int), 0, a.pop k)
    | none => ((a.T.length : Int), 0, a.more)
/-- Free: what it answers, and the arena behind it. -/
def Ar.free (a : Ar) (l : List Int) : Int × Ar := match clr a.T l with
  | some T' => (0, a.push T' l)
  | none => (7, a)

theorem Ar.take_ok {a : Ar} (h : a.Ok) : a.take.2.2.Ok := by
  unfold Ar.take
  split
  · exact h
  · rename_i hl
    split
    · rename_i k hk; exact Ar.pop_ok h hk
    · rename_i hk
      have hF : a.F = [] := List.getLast?_eq_none_iff.1 hk
      refine Ar.more_ok h ?_
      have := h.le
      simp only [Ar.live, hF, List.length_nil] at hl
      omega
theorem Ar.free_ok {a : Ar} (h : a.Ok) (l : List Int) : (a.free l).2.Ok := by
  unfold Ar.free
  split
  · rename_i T' hc; exact Ar.push_ok h hc
  · exact h

end Go.Proofs.YtcppgpjodfeigaaDoor

namespace Go.Proofs.YtcppgpjodfeigaaDoor
set_option linter.unusedVariables false
set_option linter.unusedSimpArgs false
open Go.RowKit

def natA (k : Nat) : Value := .int .i64 k

/-- Block p holds an arena; its own blocks are S. -/
structure IsArena (w : World) (p : Nat) (S : Nat → Prop) (a : Ar) : Prop where
  ok : a.Ok
  ex : ∃ tv fv, w.heap[p]? = some (.cells #[tv, fv, .int .i64 a.M] 110 (0, 0)) ∧ w.ownsRow 0 4 1 tv a.T.length (a.T.map Value.bool) ∧
    w.ownsRow 0 3 1 fv a.F.length (a.F.map natA) ∧ tv.ownBlock ≠ some p ∧ fv.ownBlock ≠ some p ∧ (∀ g, tv.ownBlock = some g → fv.ownBlock ≠ some g) ∧
    (∀ k, S k ↔ k = p ∨ tv.ownBlock = some k ∨ fv.ownBlock = some k)

theorem IsArena.lt {w : World} {p : Nat} {S : Nat → Prop} {a : Ar} (h : IsArena w p S a) : ∀ k, S k → k < w.heap.size := by
  obtain ⟨tv, fv, hp, ht, hf, _, _, _, hS⟩ := h.ex
  intro k hk
  rcases (hS k).1 hk with rfl | h | h
  · exact (Array.getElem?_eq_some_iff.1 hp).1
  · exact (own_lt ht h).2
  · exact (own_lt hf h).2

theorem IsArena.self {w : World} {p : Nat} {S : Nat → Prop} {a : Ar} (h : IsArena w p S a) : S p := by
  obtain ⟨tv, fv, hp, ht, hf, _, _, _, hS⟩ := h.ex
  exact (hS p).2 (Or.inl rfl)

theorem IsArena.chg {w w' : World} {p : Nat} {S S' : Nat → Prop} {a : Ar} (h : IsArena w p S a) (hc : Chg S' w w') (hd : ∀ k, S k → ¬ S' k) : IsArena w' p S a := by
  obtain ⟨hok, tv, fv, hp, ht, hf, n1, n2, n3, hS⟩ := h
  exact ⟨hok, tv, fv, hc.heap hp (hd p ((hS p).2 (Or.inl rfl))), hc.own ht (fun k hk => hd k ((hS k).2 (Or.inr (Or.inl hk)))), hc.own hf (fun k hk => hd k ((hS k).2 (Or.inr (Or.inr hk)))), n1, n2, n3, hS⟩

/-- What a walk sees of an arena. -/
theorem IsArena.see {w : World} {p : Nat} {S : Nat → Prop} {a : Ar} (h : IsArena w p S a) :
    ∃ ta tc fa fc, w.cell? ⟨p, 0, none⟩ = some (.slice ta a.T.length tc) ∧ w.cell? ⟨p, 1, none⟩ = some (.slice fa a.F.length fc) ∧ w.cell? ⟨p, 2, none⟩ = some (.int .i64 a.M) ∧
      (∀ j, w.frozen? ⟨p, j, none⟩ = false) ∧ w.heap[p]? = some (.cells #[.slice ta a.T.length tc, .slice fa a.F.length fc, .int .i64 a.M] 110 (0, 0)) ∧
      w.ownsRow 0 4 1 (.slice ta a.T.length tc) a.T.length (a.T.map Value.bool) ∧ w.ownsRow 0 3 1 (.slice fa a.F.length fc) a.F.length (a.F.map natA) ∧
      (∀ g, ta = some ⟨g, 0, none⟩ → g ≠ p ∧ g < w.heap.size ∧ fa ≠ some ⟨g, 0, none⟩) ∧ (∀ g, fa = some ⟨g, 0, none⟩ → g ≠ p ∧ g < w.heap.size) ∧
      (∀ ad, ta = some ad → ∃ g, ad = ⟨g, 0, none⟩) ∧ (∀ ad, fa = some ad → ∃ g, ad = ⟨g, 0, none⟩) ∧
      (∀ k, S k ↔ k = p ∨ ta = some ⟨k, 0, none⟩ ∨ fa = some ⟨k, 0, none⟩) ∧ p < w.heap.size := by
  obtain ⟨hok, tv, fv, hp, ht, hf, n1, n2, n3, hS⟩ := h
  obtain ⟨ta, tc, rfl, hta, htb⟩ := own_slice ht
  obtain ⟨fa, fc, rfl, hfa, hfb⟩ := own_slice hf
  have ob : ∀ (x : Option Addr) (n c : Nat) (k : Nat), (∀ ad, x = some ad → ∃ g, ad = ⟨g, 0, none⟩ ∧ 0 ≤ g ∧ g < w.heap.size ∧ (Value.slice x n c).ownBlock = some g) → ((Value.slice x n c).ownBlock = some k ↔ x = some ⟨k, 0, none⟩) := by
    intro x n c k h
    cases x with
    | none => simp [Value.ownBlock]
    | some ad =>
      obtain ⟨g, rfl, _⟩ := h ad rfl
      simp [Value.ownBlock]
  refine ⟨ta, tc, fa, fc, by rw [cell_of_row w p 0 _ _ _ hp]; rfl, by rw [cell_of_row w p 1 _ _ _ hp]; rfl, by rw [cell_of_row w p 2 _ _ _ hp]; rfl, fun j => frozen_of_row w p j _ _ hp, hp, ht, hf, ?_, ?_, ?_, ?_, ?_, (Array.getElem?_eq_some_iff.1 hp).1⟩
  · intro g hg
    obtain ⟨g', e, _, hlt, ho⟩ := htb _ hg
    cases e
    exact ⟨fun e => n1 (e ▸ ho), hlt, fun e => n3 g ho ((ob fa _ fc g hfb).2 e)⟩
  · intro g hg
    obtain ⟨g', e, _, hlt, ho⟩ := hfb _ hg
    cases e
    exact ⟨fun e => n2 (e ▸ ho), hlt⟩
  · intro ad h; obtain ⟨g, e, _⟩ := htb ad h; exact ⟨g, e⟩
  · intro ad h; obtain ⟨g, e, _⟩ := hfb ad h; exact ⟨g, e⟩
  · intro k
    rw [hS k, ob ta _ tc k htb, ob fa _ fc k hfb]

theorem arNew_bad (m : Int) (w : World) (h : m < 0 ∨ 268435456 < m) :
    Calls Tryd.prog 60 #[.int .i64 m] w fun e w' => e = .returned (.pointer none) ∧ w = w' := by
  rcases h with h | h
  · go_enter Tryd.func60, Tryd.ntmps60
    go_wp2
    go_ret
    exact ⟨rfl, rfl⟩
  · have hd : decide (m < 0) = false := by simp; omega
    go_enter Tryd.func60, Tryd.ntmps60
    go_wp2
    go_ret
    exact ⟨rfl, rfl⟩

theorem arNew_good (m : Nat) (w : World) (h : m ≤ 268435456) :
    Calls Tryd.prog 60 #[.int .i64 m] w fun e w' => e = .returned (.pointer (some ⟨w.heap.size, 0, none⟩)) ∧ IsArena w' w.heap.size (fun k => k = w.heap.size) (Ar.new m) ∧ Chg (fun _ => False) w w' := by
  have hd : decide ((m : Int) < 0) = false := by simp
  have hd2 : decide ((268435456 : Int) < (m : Int)) = false := by simp; omega
  go_enter Tryd.func60, Tryd.ntmps60
  go_wp2
  go_ret
  refine ⟨rfl, ⟨Ar.new_ok h, .slice none 0 0, .slice none 0 0, heap_alloc_new w _, World.ownsRow_nil _ _ _ _, World.ownsRow_nil _ _ _ _, by simp [Value.ownBlock], by simp [Value.ownBlock], fun g hg => by simp [Value.ownBlock] at hg, fun k => by simp [Value.ownBlock]⟩, Chg.refl.alloc _⟩

theorem arLive_any {w : World} {p : Nat} {S : Nat → Prop} {a : Ar} (h : IsArena w p S a) :
    Calls Tryd.prog 76 #[.pointer (some ⟨p, 0, none⟩)] w fun e w' => e = .returned (.int .i64 a.live) ∧ ∃ n, w' = w.drewN n := by
  obtain ⟨ta, tc, fa, fc, h0, h1, h2, hfz, hp, ht, hf, n1, n2, n3, n4, hS, hpl⟩ := h.see
  have hle := h.ok.fle
  have hl : (a.T.length : Int) - (a.F.length : Int) = (a.live : Int) := by unfold Ar.live; omega
  have hmx := h.ok.max
  have hm2 := h.ok.le
  clear hp ht hf n1 n2 n3 n4 hS hfz
  have HL := Lib.hid hl; clear hl
  go_enter Tryd.func76, Tryd.ntmps76
  go_wp2_with fail
  go_quiet (fail)
  go_wp2
  go_ret
  exact ⟨ret_int HL.out, _, rfl⟩

theorem arMade_any {w : World} {p : Nat} {S : Nat → Prop} {a : Ar} (h : IsArena w p S a) :
    Calls Tryd.prog 77 #[.pointer (some ⟨p, 0, none⟩)] w fun e w' => e = .returned (.int .i64 a.T.length) ∧ w = w' := by
  obtain ⟨ta, tc, fa, fc, h0, h1, h2, hfz, hp, ht, hf, n1, n2, n3, n4, hS, hpl⟩ := h.see
  clear hp ht hf n1 n2 n3 n4 hS hfz
  go_enter Tryd.func77, Tryd.ntmps77
  go_wp2
  go_ret
  exact ⟨rfl, rfl⟩

theorem arIs_any {w : World} {p : Nat} {S : Nat → Prop} {a : Ar} (k : Int) (h : IsArena w p S a) :
    Calls Tryd.prog 107 #[.pointer (some ⟨p, 0, none⟩), .int .i64 k] w fun e w' => e = .returned (.bool (arIs a.T k)) ∧ w = w' := by
  obtain ⟨ta, tc, fa, fc, h0, h1, h2, hfz, hp, ht, hf, n1, n2, n3, n4, hS, hpl⟩ := h.see
  have hmx := h.ok.max
  have hm2 := h.ok.le
  clear hp hf n1 n2 n4 hS hfz
  by_cases hk0 : 0 ≤ k
  · have d0 : decide (0 ≤ k) = true := by simpa using hk0
    by_cases hk1 : k < a.T.length
    · have d1 : decide (k < (a.T.length : Int)) = true := by simpa using hk1
      obtain ⟨g, cap, hv, _, _, _, _, hcell, _⟩ := own_some ht (by omega)
      injection hv with e1 e2 e3
      subst e1; subst e3
      have hc := hcell k.toNat (by omega)
      rw [List.getElem?_map, List.getElem?_eq_getElem (by omega)] at hc
      simp only [Option.map_some] at hc
      have HR : Hid (a.T[k.toNat] = arIs a.T k) := by
        show _ = (decide (0 ≤ k) && _)
        rw [d0, List.getElem?_eq_getElem (by omega)]; simp
      generalize a.T[k.toNat] = b at *
      clear hcell ht
      go_enter Tryd.func107, Tryd.ntmps107
      go_wp2
      go_ret
      exact ⟨ret_bool HR.out, rfl⟩
    · have d1 : decide (k < (a.T.length : Int)) = false := by simpa using hk1
      have HR : Hid (false = arIs a.T k) := by
        show _ = (decide (0 ≤ k) && _)
        rw [List.getElem?_eq_none (by omega)]; simp
      clear ht
      go_enter Tryd.func107, Tryd.ntmps107
      go_wp2
      go_ret
      exact ⟨ret_bool HR.out, rfl⟩
  · have d0 : decide (0 ≤ k) = false := by simpa using hk0
    have HR : Hid (false = arIs a.T k) := by
      show _ = (decide (0 ≤ k) && _)
      rw [d0]; rfl
    clear ht
    go_enter Tryd.func107, Tryd.ntmps107
    go_wp2
    go_ret
    exact ⟨ret_bool HR.out, rfl⟩

end Go.Proofs.YtcppgpjodfeigaaDoor

namespace Go.Proofs.YtcppgpjodfeigaaDoor
set_option linter.unusedVariables false
set_option linter.unusedSimpArgs false
open Go.RowKit

theorem Tryd.infoBool : (Tryd.prog.info? 4).map (fun i => (i.zero, i.size, i.bytes)) = some (some (.bool false), 1, 1) := by kernel_rfl
theorem Tryd.infoInt' : (Tryd.prog.info? 3).map (fun i => (i.zero, i.size, i.bytes)) = some (some (.int .i64 0), 1, 8) := by kernel_rfl

/-- What a step on an arena leaves: the arena, and all blocks outside its own (or new) as they were. -/
def ArStep (w w' : World) (p : Nat) (S : Nat → Prop) (a' : Ar) : Prop := ∃ S', IsArena w' p S' a' ∧ Chg S w w' ∧ ∀ k, S' k → S k ∨ w.heap.size ≤ k

theorem arTake_full {w : World} {p : Nat} {S : Nat → Prop} {a : Ar} (h : IsArena w p S a) (hl : a.live = a.M) :
    Calls Tryd.prog 112 #[.pointer (some ⟨p, 0, none⟩)] w fun e w' => e = .returned (.tuple #[.int .i64 (-1), .int .i64 3]) ∧ ∃ n, w' = w.drewN n := by
  obtain ⟨ta, tc, fa, fc, h0, h1, h2, hfz, hp, ht, hf, n1, n2, n3, n4, hS, hpl⟩ := h.see
  clear hp ht hf n1 n2 n3 n4 hS hfz
  have hlb : ((a.live : Int) == (a.M : Int)) = true := by simp [hl]
  clear hl
  have hlive := fun (wx : World) (hx : IsArena wx p S a) => arLive_any hx
  have HL := Lib.hid hlive; clear hlive
  have hq : ∀ n, IsArena (w.drewN n) p S a := fun n => h.chg (Chg.refl.drewN n) (S' := fun _ => False) (fun k hk hf => hf)
  have HQ := Lib.hid hq; clear hq
  go_enter Tryd.func112, Tryd.ntmps112
  go_wp2_with fail
  go_quiet ((go_at_call 76; exact Calls.quiet_of (HL.out _ (HQ.out _))))
  go_wp2
  go_ret2
  exact ⟨rfl, _, rfl⟩

theorem heap_set_cells {w : World} {p : Nat} {cs : Array Value} {t : TypeId} (h : w.heap[p]? = some (.cells cs t (0, 0))) (j : Nat) (v : Value) : (w.setCell ⟨p, j, none⟩ v).heap[p]? = some (.cells (cs.setIfInBounds j v) t (0, 0)) :=
  heap_setCell_same w p j cs t v h
theorem heap_set_other {w : World} {b p j : Nat} {v : Value} {o : Obj} (h : w.heap[b]? = some o) (hne : b ≠ p) : (w.setCell ⟨p, j, none⟩ v).heap[b]? = some o := by
  rw [heap_setCell_other w ⟨p, j, none⟩ b v hne]; exact h
theorem own_set_other {w : World} {base : Nat} {e : TypeId} {sz n : Nat} {a : Option Addr} {c : Nat} {xs : List Value} (h : w.ownsRow base e sz (.slice a n c) n xs) {p j : Nat} (v : Value) (hne : ∀ g, a = some ⟨g, 0, none⟩ → g ≠ p) (ha : ∀ ad, a = some ad → ∃ g, ad = ⟨g, 0, none⟩) :
    (w.setCell ⟨p, j, none⟩ v).ownsRow base e sz (.slice a n c) n xs := ownsRow_setCell_other h (by
  cases a with
  | none => simp [Value.ownBlock]
  | some ad =>
    obtain ⟨g, rfl⟩ := ha ad rfl
    simpa [Value.ownBlock] using hne g rfl) v

/-- An arena out of its parts. -/
theorem IsArena.of {w : World} {p : Nat} {a : Ar} {ta fa : Option Addr} {tc fc : Nat} (ok : a.Ok) (hp : w.heap[p]? = some (.cells #[.slice ta a.T.length tc, .slice fa a.F.length fc, .int .i64 a.M] 110 (0, 0)))
    (ht : w.ownsRow 0 4 1 (.slice ta a.T.length tc) a.T.length (a.T.map Value.bool)) (hf : w.ownsRow 0 3 1 (.slice fa a.F.length fc) a.F.length (a.F.map natA))
    (n1 : ∀ g, ta = some ⟨g, 0, none⟩ → g ≠ p ∧ fa ≠ some ⟨g, 0, none⟩) (n2 : ∀ g, fa = some ⟨g, 0, none⟩ → g ≠ p) :
    IsArena w p (fun k => k = p ∨ ta = some ⟨k, 0, none⟩ ∨ fa = some ⟨k, 0, none⟩) a := by
  have ob : ∀ (x : Option Addr) (n c : Nat) (k : Nat), (∀ ad, x = some ad → ∃ g, ad = (⟨g, 0, none⟩ : Addr)) → ((Value.slice x n c).ownBlock = some k ↔ x = some ⟨k, 0, none⟩) := by
    intro x n c k h
    cases x with
    | none => simp [Value.ownBlock]
    | some ad =>
      obtain ⟨g, rfl⟩ := h ad rfl
      simp [Value.ownBlock]
  have ha : ∀ ad, ta = some ad → ∃ g, ad = (⟨g, 0, none⟩ : Addr) := by
    obtain ⟨x, c, hv, _, hb⟩ := own_slice ht
    injection hv with e1 e2 e3
    intro ad h; obtain ⟨g, e, _⟩ := hb ad (e1 ▸ h); exact ⟨g, e⟩
  have hb : ∀ ad, fa = some ad → ∃ g, ad = (⟨g, 0, none⟩ : Addr) := by
    obtain ⟨x, c, hv, _, hb⟩ := own_slice hf
    injection hv with e1 e2 e3
    intro ad h; obtain ⟨g, e, _⟩ := hb ad (e1 ▸ h); exact ⟨g, e⟩
  refine ⟨ok, _, _, hp, ht, hf, fun e => (n1 p ((ob ta _ tc p ha).1 e)).1 rfl, fun e => (n2 p ((ob fa _ fc p hb).1 e)) rfl, fun g hg e => (n1 g ((ob ta _ tc g ha).1 hg)).2 ((ob fa _ fc g hb).1 e), fun k => ?_⟩
  rw [ob ta _ tc k ha, ob fa _ fc k hb]

theorem arTake_pop {w : World} {p : Nat} {S : Nat → Prop} {a : Ar} (h : IsArena w p S a) (hl : a.live ≠ a.M) {k : Nat} (hk : a.F.getLast? = some k) :
    Calls Tryd.prog 112 #[.pointer (some ⟨p, 0, none⟩)] w fun e w' => e = .returned (.tuple #[.int .i64 k, .int .i64 0]) ∧ ArStep w w' p S (a.pop k) := by
  obtain ⟨ta, tc, fa, fc, h0, h1, h2, hfz, hp, ht, hf, n1, n2, n3, n4, hS, hpl⟩ := h.see
  have hkl := h.ok.last_lt hk
  have hmx := h.ok.max
  have hm2 := h.ok.le
  have hfl := h.ok.fle
  have hne : a.F ≠ [] := by intro e; rw [e] at hk; cases hk
  have hFn : 0 < a.F.length := List.length_pos_iff.2 hne
  obtain ⟨fb, fcap, hv, _, hfb, hfcap, _, hfcell, _⟩ := own_some hf hFn
  injection hv with e1 _ e3
  subst e1; subst e3
  obtain ⟨tb, tcap, hv, _, htb, htcap, _, htcell, htfz⟩ := own_some ht (by omega)
  injection hv with e1 _ e3
  subst e1; subst e3
  obtain ⟨ntp, _, ntf⟩ := n1 tb rfl
  obtain ⟨nfp, _⟩ := n2 fb rfl
  have hcF := hfcell (a.F.length - 1) (by omega)
  rw [List.getElem?_map, ← List.getLast?_eq_getElem?, hk] at hcF
  have hcT := htcell k hkl
  rw [List.getElem?_map, List.getElem?_eq_getElem hkl] at hcT
  simp only [Option.map_some, natA] at hcT hcF
  have hz0 := htfz k
  have hlb : ((a.live : Int) == (a.M : Int)) = false := by simp; omega
  have hq : ∀ n, IsArena (w.drewN n) p S a := fun n => h.chg (Chg.refl.drewN n) (S' := fun _ => False) (fun k hk hf => hf)
  have HQ := Lib.hid hq; clear hq
  have hpop := Ar.pop_ok h.ok hk
  generalize hb0 : a.T[k] = b0 at *
  have hd0 : decide ((0 : Int) < (a.F.length : Int)) = true := by simp; omega
  have hz1 := hfz 1
  have HF := Lib.hid hfz
  have HP := Lib.hid hp
  have HT := Lib.hid ht
  have HFr := Lib.hid hf
  have HS := Lib.hid hS
  clear hfz hp ht hf hS htcell hfcell htfz n1 n2 n3 n4 hl hb0
  obtain ⟨n, hn⟩ : ∃ n, a.F.length = n + 1 := ⟨a.F.length - 1, by omega⟩
  have HN := Lib.hid hn
  rw [hn] at h1 hfcap hd0 hcF hFn hfl
  rw [show n + 1 - 1 = n from by omega] at hcF
  clear hn
  go_enter Tryd.func112, Tryd.ntmps112
  go_wp2_with fail
  go_quiet ((go_at_call 76; exact Calls.quiet_of (arLive_any (HQ.out _))))
  go_wp2
  go_ret2
  have e1 : (a.pop k).T.length = a.T.length := by simp [Ar.pop]
  have e2 : (a.pop k).F.length = n := by have := HN.out; simp [Ar.pop]; omega
  have hne2 : fb ≠ tb := fun e => ntf (by rw [e])
  refine ⟨rfl, _, IsArena.of (ta := some ⟨tb, 0, none⟩) (tc := tc) (fa := some ⟨fb, 0, none⟩) (fc := fc) hpop ?_ ?_ ?_ ?_ ?_, ?_, ?_⟩
  · rw [e1, e2]
    have := heap_set_other (heap_set_cells (w := w.drewN nq) HP.out 1 (.slice (some ⟨fb, 0, none⟩) n fc)) (p := tb) (j := k) (v := .bool true) (fun e => ntp e.symm)
    exact this
  · rw [e1]
    have := own_set (own_set_other (w := w.drewN nq) HT.out (p := p) (j := 1) (.slice (some ⟨fb, 0, none⟩) n fc) (fun g hg => by cases hg; exact ntp) (fun ad hg => by cases hg; exact ⟨_, rfl⟩)) k (.bool true)
    rw [← List.map_set] at this
    exact this
  · rw [e2]
    have h3 := HFr.out
    rw [HN.out] at h3
    have h4 := own_take h3 (m := n) (by omega)
    have e3 : (a.F.map natA).take n = (a.pop k).F.map natA := by
      rw [← List.map_take]; congr 1; show _ = a.F.dropLast; rw [List.dropLast_eq_take, HN.out]; rfl
    rw [e3] at h4
    exact own_set_other (own_set_other (w := w.drewN nq) h4 _ (fun g hg => by cases hg; exact nfp) (fun ad hg => by cases hg; exact ⟨_, rfl⟩)) _ (fun g hg => by cases hg; exact hne2) (fun ad hg => by cases hg; exact ⟨_, rfl⟩)
  · intro g hg; cases hg; exact ⟨ntp, ntf⟩
  · intro g hg; cases hg; exact nfp
  · exact ((Chg.refl.drewN nq).setCell _ (Or.inl ((HS.out p).2 (Or.inl rfl))) _).setCell _ (Or.inl ((HS.out tb).2 (Or.inr (Or.inl rfl)))) _
  · exact fun x hx => Or.inl ((HS.out x).2 hx)

theorem arTake_more {w : World} {p : Nat} {S : Nat → Prop} {a : Ar} (h : IsArena w p S a) (hl : a.live ≠ a.M) (hk : a.F = []) :
    Calls Tryd.prog 112 #[.pointer (some ⟨p, 0, none⟩)] w fun e w' => e = .returned (.tuple #[.int .i64 a.T.length, .int .i64 0]) ∧ ArStep w w' p S a.more := by
  obtain ⟨ta, tc, fa, fc, h0, h1, h2, hfz, hp, ht, hf, n1, n2, n3, n4, hS, hpl⟩ := h.see
  have hmx := h.ok.max
  have hm2 := h.ok.le
  have hlt : a.T.length < a.M := by
    simp only [Ar.live, hk, List.length_nil] at hl; omega
  have hlb : ((a.live : Int) == (a.M : Int)) = false := by simp; omega
  have hq : ∀ n, IsArena (w.drewN n) p S a := fun n => h.chg (Chg.refl.drewN n) (S' := fun _ => False) (fun k hk hf => hf)
  have HQ := Lib.hid hq; clear hq
  have hmore := Ar.more_ok h.ok hlt
  have hz0 := hfz 0
  have hF0 : a.F.length = 0 := by rw [hk]; rfl
  have HP := Lib.hid hp
  have HFr := Lib.hid hf
  have HS := Lib.hid hS
  have HF0 := Lib.hid hF0
  have HK := Lib.hid hk
  have ob : ∀ x n c, (Value.slice ta n c).ownBlock = some x → ta = some ⟨x, 0, none⟩ := by
    intro x n c hx
    cases ta with
    | none => simp [Value.ownBlock] at hx
    | some ad => obtain ⟨g, rfl⟩ := n3 ad rfl; simp [Value.ownBlock] at hx; rw [hx]
  rw [hF0] at h1
  have HN1 := Lib.hid n1
  have HN2 := Lib.hid n2
  have HN3 := Lib.hid n3
  have HN4 := Lib.hid n4
  have HOB := Lib.hid ob
  clear hfz hp hf hS n1 n2 n3 n4 hl hF0 hk ob
  go_enter Tryd.func112, Tryd.ntmps112
  go_wp2_with fail
  go_quiet ((go_at_call 76; exact Calls.quiet_of (arLive_any (HQ.out _))))
  go_wp2_with (at_builtin; refine wpList_pushL rfl _ _ 23 rfl 0 4 Tryd.infoBool Tryd.underlying23 rfl _ _ _ rfl ht rfl rfl ?c1 ?c2 ?c3 ?_)
  case c1 => unfold maxLen; omega
  case c2 => omega
  case c3 => omega
  intro g cap w1 hown hgrow hor hgl
  have hpn : some p ≠ (Value.slice ta a.T.length tc).ownBlock := fun e => ((HN1.out p (HOB.out p _ _ e.symm)).1 rfl)
  have hp1 : w1.heap[p]? = some (.cells #[.slice ta a.T.length tc, .slice fa a.F.length fc, .int .i64 a.M] 110 (0, 0)) := (hgrow.block p hpl hpn).trans HP.out
  have hc1 : w1.cell? ⟨p, 0, none⟩ = some (.slice ta a.T.length tc) := by rw [cell_of_row w1 p 0 _ _ _ hp1]; rfl
  have hf1 : w1.frozen? ⟨p, 0, none⟩ = false := frozen_of_row w1 p 0 _ _ hp1
  have HP1 := Lib.hid hp1
  have HO := Lib.hid hown
  have HG := Lib.hid hgrow
  have HOR := Lib.hid hor
  clear hp1 hown hgrow hor hpn ht h0 h1
  go_wp2
  go_ret2
  have hgp : g ≠ p := by
    rcases HOR.out with e | e
    · exact fun e2 => (HN1.out g (HOB.out g _ _ e)).1 e2
    · intro e2; subst e2; exact absurd hpl (by have : (w.drewN nq).heap.size = w.heap.size := rfl; omega)
  have hgf : fa ≠ some ⟨g, 0, none⟩ := by
    rcases HOR.out with e | e
    · exact (HN1.out g (HOB.out g _ _ e)).2.2
    · intro e2; have := (HN2.out g e2).2; have h3 : (w.drewN nq).heap.size = w.heap.size := rfl; omega
  have e1 : a.more.T.length = a.T.length + 1 := by simp [Ar.more]
  have hfo : w1.ownsRow 0 3 1 (.slice fa a.F.length fc) a.F.length (a.F.map natA) := by
    refine HFr.out.kept (w := w.drewN nq) HG.out ?_
    cases fa with
    | none => left; rfl
    | some ad =>
      obtain ⟨g2, rfl⟩ := HN4.out ad rfl
      right
      intro e
      have e3 : ta = some ⟨g2, 0, none⟩ := HOB.out g2 _ _ (by rw [← e]; rfl)
      exact (HN1.out g2 e3).2.2 rfl
  refine ⟨by simp, _, IsArena.of (ta := some ⟨g, 0, none⟩) (tc := cap) (fa := fa) (fc := fc) hmore ?_ ?_ ?_ ?_ ?_, ?_, ?_⟩
  · rw [e1]
    exact heap_set_cells HP1.out 0 (.slice (some ⟨g, 0, none⟩) (a.T.length + 1) cap)
  · rw [e1]
    have h3 : a.more.T.map Value.bool = a.T.map Value.bool ++ [.bool true] := by simp [Ar.more]
    rw [h3]
    exact own_set_other HO.out _ (fun g' hg' => by cases hg'; exact hgp) (fun ad hg' => by cases hg'; exact ⟨_, rfl⟩)
  · exact own_set_other hfo _ (fun g' hg' => (HN2.out g' hg').1) (fun ad hg' => HN4.out ad hg')
  · intro g' hg'; cases hg'; exact ⟨hgp, hgf⟩
  · intro g' hg'; exact (HN2.out g' hg').1
  · exact ((Chg.refl.drewN nq).grown HG.out (fun x hx => Or.inl ((HS.out x).2 (Or.inr (Or.inl (HOB.out x _ _ hx)))))).setCell _ (Or.inl ((HS.out p).2 (Or.inl rfl))) _
  · intro x hx
    rcases hx with rfl | hx | hx
    · exact Or.inl ((HS.out _).2 (Or.inl rfl))
    · cases hx
      rcases HOR.out with e | e
      · exact Or.inl ((HS.out _).2 (Or.inr (Or.inl (HOB.out _ _ _ e))))
      · exact Or.inr e
    · exact Or.inl ((HS.out _).2 (Or.inr (Or.inr hx)))

end Go.Proofs.YtcppgpjodfeigaaDoor

namespace Go.Proofs.YtcppgpjodfeigaaDoor
set_option linter.unusedVariables false
set_option linter.unusedSimpArgs false
open Go.RowKit

theorem arIs_raw {w : World} {p n tc : Nat} {ta : Option Addr} {T : List Bool} (k : Int) (h0 : w.cell? ⟨p, 0, none⟩ = some (.slice ta n tc)) (ht : w.ownsRow 0 4 1 (.slice ta n tc) n (T.map Value.bool)) (hn : T.length = n) (hmx : n ≤ 268435456) :
    Calls Tryd.prog 107 #[.pointer (some ⟨p, 0, none⟩), .int .i64 k] w fun e w' => e = .returned (.bool (arIs T k)) ∧ w = w' := by
  by_cases hk0 : 0 ≤ k
  · have d0 : decide (0 ≤ k) = true := by simpa using hk0
    by_cases hk1 : k < n
    · have d1 : decide (k < (n : Int)) = true := by simpa using hk1
      obtain ⟨g, cap, hv, _, _, _, _, hcell, _⟩ := own_some ht (by omega)
      injection hv with e1 e2 e3
      subst e1; subst e3
      have hc := hcell k.toNat (by omega)
      rw [List.getElem?_map, List.getElem?_eq_getElem (by omega)] at hc
      simp only [Option.map_some] at hc
      have HR : Hid (T[k.toNat] = arIs T k) := by
        show _ = (decide (0 ≤ k) && _)
        rw [d0, List.getElem?_eq_getElem (by omega)]; simp
      generalize T[k.toNat] = b at *
      have HN := Lib.hid hn
      clear hcell ht hn
      go_enter Tryd.func107, Tryd.ntmps107
      go_wp2
      go_ret
      exact ⟨ret_bool HR.out, rfl⟩
    · have d1 : decide (k < (n : Int)) = false := by simpa using hk1
      have HR : Hid (false = arIs T k) := by
        show _ = (decide (0 ≤ k) && _)
        rw [List.getElem?_eq_none (by omega)]; simp
      clear ht hn
      go_enter Tryd.func107, Tryd.ntmps107
      go_wp2
      go_ret
      exact ⟨ret_bool HR.out, rfl⟩
  · have d0 : decide (0 ≤ k) = false := by simpa using hk0
    have HR : Hid (false = arIs T k) := by
      show _ = (decide (0 ≤ k) && _)
      rw [d0]; rfl
    clear ht hn
    go_enter Tryd.func107, Tryd.ntmps107
    go_wp2
    go_ret
    exact ⟨ret_bool HR.out, rfl⟩

theorem clr_take_succ {T Ti : List Bool} {l : List Int} {i : Nat} (hi : i < l.length) (h : clr T (l.take i) = some Ti) :
    clr T (l.take (i + 1)) = if arIs Ti (l[i]?.getD 0) = true then some (Ti.set (l[i]?.getD 0).toNat false) else none := by
  rw [List.take_add_one, List.getElem?_eq_getElem hi, Option.toList_some, clr_snoc, h]; rfl

theorem clr_none_of_take {T : List Bool} {l : List Int} {i : Nat} (h : clr T (l.take i) = none) : clr T l = none := by
  have key : ∀ (a b : List Int) (T : List Bool), clr T a = none → clr T (a ++ b) = none := by
    intro a
    induction a with
    | nil => intro b T h; cases h
    | cons x a ih =>
      intro b T h
      simp only [clr, List.cons_append] at *
      split
      · rename_i hx; rw [if_pos hx] at h; exact ih b _ h
      · rfl
  rw [← List.take_append_drop i l]
  exact key _ _ _ h

theorem clr_back_take {T Ti : List Bool} {l : List Int} (h : clr T l = some Ti) : l.foldl (fun T k => T.set k.toNat true) Ti = T := clr_back h

theorem foldl_take_succ (T : List Bool) (l : List Int) (j : Nat) (hj : j < l.length) :
    (l.take (j + 1)).foldl (fun T k => T.set k.toNat true) T = ((l.take j).foldl (fun T k => T.set k.toNat true) T).set (l[j]?.getD 0).toNat true := by
  rw [List.take_add_one, List.getElem?_eq_getElem hj, Option.toList_some, List.foldl_append]; rfl

theorem foldl_len (l : List Int) (U : List Bool) : (l.foldl (fun T k => T.set k.toNat true) U).length = U.length := by
  induction l generalizing U with
  | nil => rfl
  | cons y l ih => simp only [List.foldl_cons]; rw [ih]; simp

theorem arFree_nil (w : World) (la : Option Addr) (n c : Nat) : Calls Tryd.prog 75 #[.pointer none, .slice la n c] w fun e w' => e = .returned (.int .i64 6) ∧ w = w' := by
  go_enter Tryd.func75, Tryd.ntmps75
  go_wp2
  go_ret
  exact ⟨rfl, rfl⟩

set_option maxHeartbeats 3200000 in
set_option maxRecDepth 100000 in
theorem arFree_any {w : World} {p : Nat} {S : Nat → Prop} {a : Ar} (h : IsArena w p S a) (l : List Int) (la : Option Addr) (lc : Nat) (hl : Reads w .i64 la l) (hnil : la = none → l.length = 0 ∧ lc = 0)
    (hsep : ∀ ad, la = some ad → ¬ S ad.block) (hlen : l.length ≤ 1000000000) (hlc : l.length ≤ lc) :
    Calls Tryd.prog 75 #[.pointer (some ⟨p, 0, none⟩), .slice la l.length lc] w fun e w' => e = .returned (.int .i64 (a.free l).1) ∧ ArStep w w' p S (a.free l).2 := by
  obtain ⟨ta, tc, fa, fc, h0, h1, h2, hfz, hp, ht, hf, n1, n2, n3, n4, hS, hpl⟩ := h.see
  have hmx := h.ok.max
  have hm2 := h.ok.le
  have hfl := h.ok.fle
  have HOK := Lib.hid h.ok
  have HP := Lib.hid hp
  have HFr := Lib.hid hf
  have HS := Lib.hid hS
  have HN1 := Lib.hid n1
  have HN2 := Lib.hid n2
  have HN3 := Lib.hid n3
  have HN4 := Lib.hid n4
  have HNIL := Lib.hid hnil
  have HSEP := Lib.hid hsep
  clear hp hf hS n1 n2 n3 n4 h0 h1 h2 hfz hnil hsep
  generalize hnT : a.T.length = nT at *
  have HNT := Lib.hid hnT; clear hnT
  generalize hnF : a.F.length = nF at *
  have HNF := Lib.hid hnF; clear hnF
  go_enter Tryd.func75, Tryd.ntmps75
  go_wp2_with fail
  go_loopw [13] (fun i wr => ∃ k : Nat, k ≤ l.length ∧ i = .int .i64 k ∧ ∃ Ti, clr a.T (l.take k) = some Ti ∧ wr.ownsRow 0 4 1 (.slice ta nT tc) nT (Ti.map Value.bool) ∧
      wr.heap[p]? = some (.cells #[.slice ta nT tc, .slice fa nF fc, .int .i64 a.M] 110 (0, 0)) ∧ wr.ownsRow 0 3 1 (.slice fa nF fc) nF (a.F.map natA) ∧ Chg S w wr)
    (fun i _ => l.length - (intOf i).toNat)
  case atStart => exact ⟨0, by omega, rfl, a.T, rfl, ht, HP.out, HFr.out, Chg.refl⟩
  case round =>
    obtain ⟨k, hk, rfl, Ti, hcl, hown, hpr, hfr, hchg⟩ := hrel
    obtain ⟨wo, rfl⟩ : ∃ wo : World, wo = wr := ⟨_, rfl⟩
    have hTl : Ti.length = nT := by have := own_len hown; simpa using this
    have hc0 : wo.cell? ⟨p, 0, none⟩ = some (.slice ta nT tc) := by rw [cell_of_row wo p 0 _ _ _ hpr]; rfl
    have HCL := Lib.hid hcl
    have HPR := Lib.hid hpr
    have HFR := Lib.hid hfr
    have HCHG := Lib.hid hchg
    clear hcl hpr hfr hchg ht
    by_cases hlt : k < l.length
    · have hrd := HCHG.out.reads hl (fun ad had => HSEP.out ad had)
      obtain ⟨b, off, rfl, hbl, hcells⟩ := hrd.some (by omega)
      have hcx := hcells k hlt
      have hsucc := clr_take_succ hlt HCL.out
      have HSU := Lib.hid hsucc
      generalize hx : l[k]?.getD 0 = x at *
      have HX := Lib.hid hx
      have HCE := Lib.hid hcells
      clear hsucc hx hcells hrd
      have hklc : k ≤ lc := by omega
      cases hIs : arIs Ti x
      · have HIS := Lib.hid hIs
        clear hIs
        go_wp2_with (go_at_call 107; refine (arIs_raw _ hc0 hown hTl (by omega)).mono ?_; rintro e w' ⟨he, rfl⟩; rw [HIS.out] at he; subst he)
        have hval := (clr_get HCL.out).2.1
        have HV := Lib.hid hval; clear hval
        go_loopw [26] (fun i wr => ∃ j : Nat, j ≤ k ∧ i = .int .i64 j ∧ wr.ownsRow 0 4 1 (.slice ta nT tc) nT (((l.take j).foldl (fun T k => T.set k.toNat true) Ti).map Value.bool) ∧
            wr.heap[p]? = some (.cells #[.slice ta nT tc, .slice fa nF fc, .int .i64 a.M] 110 (0, 0)) ∧ wr.ownsRow 0 3 1 (.slice fa nF fc) nF (a.F.map natA) ∧ Chg S w wr)
          (fun i _ => k - (intOf i).toNat)
        case atStart => exact ⟨0, by omega, rfl, hown, HPR.out, HFR.out, HCHG.out⟩
        case round =>
          obtain ⟨j, hj, rfl, hown, hpr, hfr, hchg⟩ := hrel
          have hc0 : wr.cell? ⟨p, 0, none⟩ = some (.slice ta nT tc) := by rw [cell_of_row wr p 0 _ _ _ hpr]; rfl
          have HPR := Lib.hid hpr
          have HFR := Lib.hid hfr
          have HCHG := Lib.hid hchg
          clear hpr hfr hchg
          by_cases hjk : j < k
          · have hrd := HCHG.out.reads hl (fun ad had => HSEP.out ad had)
            obtain ⟨b', off', heq, _, hcells⟩ := hrd.some (by omega)
            cases heq
            have hcy := hcells j (by omega)
            have hstep := foldl_take_succ Ti l j (by omega)
            have hv := HV.out (l[j]?.getD 0) (by
              rw [List.getElem?_eq_getElem (show j < l.length by omega)]
              rw [List.mem_take_iff_getElem]
              exact ⟨j, by omega, rfl⟩)
            generalize l[j]?.getD 0 = y at *
            obtain ⟨hy0, hy1⟩ := hv
            have hyl : y.toNat < nT := by have := (List.getElem?_eq_some_iff.1 hy1).1; have := HNT.out; omega
            have hU : ((l.take j).foldl (fun T k => T.set k.toNat true) Ti).length = nT := by rw [foldl_len]; exact hTl
            generalize (l.take j).foldl (fun T k => T.set k.toNat true) Ti = U at *
            obtain ⟨tb, tcap, hv, _, htb, htcap, _, htcell, htfz⟩ := own_some hown (by omega)
            injection hv with e1 _ e3
            subst e1; subst e3
            obtain ⟨ntp, _, ntf⟩ := HN1.out tb rfl
            have hcT := htcell y.toNat hyl
            rw [List.getElem?_map, List.getElem?_eq_getElem (by omega)] at hcT
            simp only [Option.map_some] at hcT
            have hz0 := htfz y.toNat
            generalize U[y.toNat] = bv at *
            have HO := Lib.hid hown
            have HST := Lib.hid hstep
            have hyn : y < (nT : Int) := by omega
            clear hcells hrd htcell htfz hown hstep hy1 hU hTl
            go_wp2_with fail
            go_roundw
            case rel =>
              refine ⟨j + 1, by omega, by simp, ?_, ?_, ?_, ?_⟩
              · rw [HST.out, List.map_set]; exact own_set HO.out y.toNat (.bool true)
              · exact heap_set_other HPR.out (fun e => ntp e.symm)
              · exact own_set_other HFR.out _ (fun g hg e => ntf (by rw [hg, e])) (fun ad hg => HN4.out ad hg)
              · exact HCHG.out.setCell _ (Or.inl ((HS.out tb).2 (Or.inr (Or.inl rfl)))) _
            case measure => simp [intOf]; omega
          · obtain rfl : j = k := by omega
            have hb := clr_back HCL.out
            rw [hb] at hown
            have HO := Lib.hid hown
            have HFREE : Hid (a.free l = (7, a)) := by
              show Ar.free a l = _
              unfold Ar.free
              rw [clr_none_of_take (l := l) (i := j + 1) (by rw [HSU.out, HIS.out]; rfl)]
            clear hown hb hTl
            go_wp2_with fail
            go_ret
            rw [HFREE.out]
            refine ⟨rfl, _, IsArena.of (ta := ta) (tc := tc) (fa := fa) (fc := fc) HOK.out ?_ ?_ ?_ ?_ ?_, HCHG.out, fun x hx => Or.inl ((HS.out x).2 hx)⟩
            · rw [HNT.out, HNF.out]; exact HPR.out
            · rw [HNT.out]; exact HO.out
            · rw [HNF.out]; exact HFR.out
            · exact fun g hg => ⟨(HN1.out g hg).1, (HN1.out g hg).2.2⟩
            · exact fun g hg => (HN2.out g hg).1
      · obtain ⟨hx0, hx1⟩ := arIs_iff.1 hIs
        obtain ⟨hxl, hxv⟩ := List.getElem?_eq_some_iff.1 hx1
        obtain ⟨tb, tcap, hv, _, htb, htcap, _, htcell, htfz⟩ := own_some hown (by omega)
        injection hv with e1 _ e3
        subst e1; subst e3
        obtain ⟨ntp, _, ntf⟩ := HN1.out tb rfl
        have hcT := htcell x.toNat (by omega)
        rw [List.getElem?_map, List.getElem?_eq_getElem hxl] at hcT
        simp only [Option.map_some] at hcT
        have hz0 := htfz x.toNat
        generalize Ti[x.toNat] = bv at *
        have HO := Lib.hid hown
        have HIS := Lib.hid hIs
        have HTL := Lib.hid hTl
        have hxn : x < (nT : Int) := by omega
        clear htcell htfz hx1 hxv hown hTl
        go_wp2_with (go_at_call 107; refine (arIs_raw _ hc0 HO.out HTL.out (by omega)).mono ?_; rintro e w' ⟨rfl, rfl⟩)
        go_roundw
        case rel =>
          refine ⟨k + 1, by omega, by simp, Ti.set x.toNat false, by rw [HSU.out, HIS.out]; rfl, ?_, ?_, ?_, ?_⟩
          · rw [List.map_set]; exact own_set HO.out x.toNat (.bool false)
          · exact heap_set_other HPR.out (fun e => ntp e.symm)
          · exact own_set_other HFR.out _ (fun g hg e => ntf (by rw [hg, e])) (fun ad hg => HN4.out ad hg)
          · exact HCHG.out.setCell _ (Or.inl ((HS.out tb).2 (Or.inr (Or.inl rfl)))) _
        case measure => simp [intOf]; omega
    · obtain rfl : k = l.length := by omega
      have hcl := HCL.out
      rw [List.take_length] at hcl
      have HFREE : Hid (a.free l = (0, a.push Ti l)) := by
        show Ar.free a l = _
        unfold Ar.free
        rw [hcl]
      have hpush := Ar.push_ok HOK.out hcl
      have hpos := (clr_get hcl).2.1
      have HPOS := Lib.hid hpos
      have hc1 : wo.cell? ⟨p, 1, none⟩ = some (.slice fa nF fc) := by rw [cell_of_row wo p 1 _ _ _ HPR.out]; rfl
      have hrd := HCHG.out.reads hl (fun ad had => HSEP.out ad had)
      have hfr := HFR.out
      have HO := Lib.hid hown
      have hnews : ∀ q, la = some q → ∀ j u, (l.map (Value.int .i64))[j]? = some u → wo.cell? (q.add j) = some u := by
        intro q hq j u hu
        rw [List.getElem?_map] at hu
        by_cases hj : j < l.length
        · obtain ⟨b, off, e, _, hc⟩ := hrd.some (by omega)
          rw [hq] at e; cases e
          rw [Addr.add_lit, hc j hj, List.getElem?_eq_getElem hj]
          rw [List.getElem?_eq_getElem hj] at hu
          simpa using hu
        · rw [List.getElem?_eq_none (by omega)] at hu; cases hu
      have HNEWS := Lib.hid hnews
      clear hcl hpos hrd hown hnews
      go_wp2_with (at_builtin; refine wpList_appendL rfl _ _ 22 rfl 0 3 Tryd.infoInt' Tryd.underlying22 rfl _ _ _ rfl hfr _ _ _ (l.map (Value.int .i64)) rfl (by simp) ?c0 HNEWS.out ?c1 ?c2 ?c3 ?c4 ?_)
      case c0 => intro e; exact HNIL.out e
      case c1 => intro u hu; obtain ⟨z, _, rfl⟩ := List.mem_map.1 hu; rfl
      case c2 => unfold maxLen; omega
      case c3 => omega
      case c4 => omega
      intro a' c' w1 hown' hgrow hor
      have hpn : some p ≠ (Value.slice fa nF fc).ownBlock := by
        intro e
        cases fa with
        | none => simp [Value.ownBlock] at e
        | some ad =>
          obtain ⟨g, rfl⟩ := HN4.out ad rfl
          simp [Value.ownBlock] at e
          exact (HN2.out g rfl).1 e.symm
      have hplo : p < wo.heap.size := (Array.getElem?_eq_some_iff.1 HPR.out).1
      have hp1 : w1.heap[p]? = some (.cells #[.slice ta nT tc, .slice fa nF fc, .int .i64 a.M] 110 (0, 0)) := (hgrow.block p hplo hpn).trans HPR.out
      have hc1 : w1.cell? ⟨p, 1, none⟩ = some (.slice fa nF fc) := by rw [cell_of_row w1 p 1 _ _ _ hp1]; rfl
      have hf1 : w1.frozen? ⟨p, 1, none⟩ = false := frozen_of_row w1 p 1 _ _ hp1
      have HP1 := Lib.hid hp1
      have HO1 := Lib.hid hown'
      have HG := Lib.hid hgrow
      have HOR := Lib.hid hor
      clear hp1 hown' hgrow hor hpn hfr
      go_wp2_with fail
      go_ret
      have obf : ∀ x n c, (Value.slice fa n c).ownBlock = some x → fa = some ⟨x, 0, none⟩ := by
        intro x n c hx
        cases fa with
        | none => simp [Value.ownBlock] at hx
        | some ad => obtain ⟨g, rfl⟩ := HN4.out ad rfl; simp [Value.ownBlock] at hx; rw [hx]
      have hag : ∀ g, a' = some ⟨g, 0, none⟩ → g ≠ p ∧ ta ≠ some ⟨g, 0, none⟩ := by
        intro g hg
        rcases HOR.out g hg with e | e
        · have := obf g _ _ e
          exact ⟨(HN2.out g this).1, fun e2 => (HN1.out g e2).2.2 this⟩
        · refine ⟨fun e2 => by omega, fun e2 => ?_⟩
          have := (HN1.out g e2).2.1
          have := HCHG.out.size
          omega
      have ha' : ∀ ad, a' = some ad → ∃ g, ad = (⟨g, 0, none⟩ : Addr) := by
        obtain ⟨x, c, hv, _, hb⟩ := own_slice HO1.out
        injection hv with e1 e2 e3
        intro ad hh; obtain ⟨g, e, _⟩ := hb ad (e1 ▸ hh); exact ⟨g, e⟩
      rw [HFREE.out]
      have e1 : (a.push Ti l).T.length = nT := by have := own_len HO.out; simpa [Ar.push] using this
      have e2 : (a.push Ti l).F.length = nF + l.length := by have := HNF.out; simp [Ar.push]; omega
      have e3 : (a.push Ti l).F.map natA = a.F.map natA ++ l.map (Value.int .i64) := by
        show (a.F ++ l.map Int.toNat).map natA = _
        rw [List.map_append, List.map_map]
        congr 1
        apply List.map_congr_left
        intro y hy
        have := (HPOS.out y hy).1
        show Value.int .i64 ((y.toNat : Nat) : Int) = _
        rw [Int.toNat_of_nonneg this]
      refine ⟨rfl, _, IsArena.of (ta := ta) (tc := tc) (fa := a') (fc := c') hpush ?_ ?_ ?_ ?_ ?_, ?_, ?_⟩
      · rw [e1, e2]
        exact heap_set_cells HP1.out 1 (.slice a' (nF + l.length) c')
      · rw [e1]
        refine own_set_other (HO.out.kept HG.out ?_) _ (fun g hg => (HN1.out g hg).1) (fun ad hg => HN3.out ad hg)
        cases ta with
        | none => left; rfl
        | some ad =>
          obtain ⟨g2, rfl⟩ := HN3.out ad rfl
          right
          intro e
          exact (HN1.out g2 rfl).2.2 (obf g2 _ _ (by rw [← e]; rfl))
      · rw [e2, e3]
        exact own_set_other HO1.out _ (fun g hg => (hag g hg).1) ha'
      · intro g hg; exact ⟨(HN1.out g hg).1, fun e => (hag g e).2 hg⟩
      · intro g hg; exact (hag g hg).1
      · exact (HCHG.out.grown HG.out (fun x hx => Or.inl ((HS.out x).2 (Or.inr (Or.inr (obf x _ _ hx)))))).setCell _ (Or.inl ((HS.out p).2 (Or.inl rfl))) _
      · intro x hx
        rcases hx with rfl | hx | hx
        · exact Or.inl ((HS.out _).2 (Or.inl rfl))
        · exact Or.inl ((HS.out _).2 (Or.inr (Or.inl hx)))
        · rcases HOR.out x hx with e | e
          · exact Or.inl ((HS.out _).2 (Or.inr (Or.inr (obf x _ _ e))))
          · have := HCHG.out.size
            exact Or.inr (by omega)

end Go.Proofs.YtcppgpjodfeigaaDoor
