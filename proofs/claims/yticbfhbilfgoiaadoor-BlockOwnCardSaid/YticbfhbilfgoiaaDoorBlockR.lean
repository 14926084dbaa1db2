/- Contracts of block.Rank and block.Select. -/
import Derived.Test.YticbfhbilfgoiaaDoorBlock
namespace Go.Proofs.YticbfhbilfgoiaaDoor
set_option linter.unusedVariables false
set_option linter.unusedSimpArgs false
open Go.RowKit
theorem blkRank_nil (w : World) (k : Int) : Calls Tryd.prog 41 #[.pointer none, .int .i64 k] w fun e w' => e = .returned (.int .i64 0) ∧ w = w' := by
  go_enter Tryd.func41, Tryd.ntmps41
  go_wp2_with fail
  go_ret
  exact ⟨rfl, rfl⟩
theorem rank_two {l : List Bool} {K : Nat} (h : K ≤ l.length) (h128 : l.length ≤ 128) : pc (loW l) (min K 64) + pc (hiW l) (min (K - 64) 64) = rankL l K true := by
  by_cases h64 : K ≤ 64
  · rw [Nat.min_eq_left h64, pc_lo h64, show min (K - 64) 64 = 0 by omega]; rfl
  · rw [Nat.min_eq_right (by omega), pc_lo (Nat.le_refl _), Nat.min_eq_left (by omega), pc_hi (by omega), show 64 + (K - 64) = K by omega]
theorem idx0 (a b : Value) (w : World) : (Instr.index 68 (.agg #[a, b]) (.int .i64 0)).run Tryd.prog w = .ok a w := by kernel_rfl
theorem idx1 (a b : Value) (w : World) : (Instr.index 68 (.agg #[a, b]) (.int .i64 1)).run Tryd.prog w = .ok b w := by kernel_rfl

set_option maxHeartbeats 1600000 in
theorem blkRank_core {w : World} {p : Nat} {l : List Bool} (h : IsBlock w p l) (k : Int) (K : Nat) (hk : (k < 0 ∧ K = 0) ∨ (0 ≤ k ∧ k ≤ l.length ∧ k = K) ∨ ((l.length : Int) < k ∧ K = l.length)) :
    Calls Tryd.prog 41 #[.pointer (some ⟨p, 0, none⟩), .int .i64 k] w fun e w' => e = .returned (.int .i64 (rankL l K true)) ∧ Below w.heap.size w w' := by
  obtain ⟨h0, h1, h2, _⟩ := h.cells
  have hl := h.1
  have hR : pc (loW l) (min K 64) + pc (hiW l) (min (K - 64) 64) = rankL l K true := rank_two (by omega) hl
  have hx := loW_lt l
  have hy := hiW_lt l
  have q1 := pc_le (loW l) (min K 64)
  have q2 := pc_le (hiW l) (min (K - 64) 64)
  have q1' : pc (loW l) (min K 64) ≤ 64 := by omega
  have q2' : pc (hiW l) (min (K - 64) 64) ≤ 64 := by omega
  have R1 : Hid (∀ (a : Int) (w : World), a = (K : Int) → Calls Tryd.prog 22 #[.int .u64 (loW l), .int .i64 a] w fun e w' => e = .returned (.int .i64 (pc (loW l) (min K 64))) ∧ Below w.heap.size w w') :=
    fun a w ha => rank_lit (loW l) w hx rfl (by rw [ha, Int.toNat_natCast])
  have R2 : Hid (∀ (a : Int) (w : World), a = (K : Int) - 64 → Calls Tryd.prog 22 #[.int .u64 (hiW l), .int .i64 a] w fun e w' => e = .returned (.int .i64 (pc (hiW l) (min (K - 64) 64))) ∧ Below w.heap.size w w') :=
    fun a w ha => rank_lit (hiW l) w hy rfl (by rw [ha]; congr 2; omega)
  have HR := Lib.hid hR
  have HB := Lib.hid h
  have I0 := idx0 (.int .u64 (loW l)) (.int .u64 (hiW l))
  have I1 := idx1 (.int .u64 (loW l)) (.int .u64 (hiW l))
  clear q1 q2 hR h hx hy
  generalize pc (loW l) (min K 64) = A at *
  generalize pc (hiW l) (min (K - 64) 64) = B at *
  rcases hk with ⟨hk, rfl⟩ | ⟨hk1, hk2, rfl⟩ | ⟨hk, rfl⟩
  all_goals
    go_enter Tryd.func41, Tryd.ntmps41
    go_wp2_with fail
    refine wp_loop_rounds 3 ?_
    rw [rounds_succ]
    go_wp2_with fail
    refine (R1.out _ _ (by omega)).mono ?_
    rintro e w1 ⟨rfl, hb⟩
    obtain ⟨g0, _⟩ := (HB.out.below' hb).cells
    go_wp2_with fail
    rw [rounds_succ]
    go_wp2_with fail
    refine (R2.out _ _ (by omega)).mono ?_
    rintro e w2 ⟨rfl, hb2⟩
    have hb3 := hb.trans (hb2.mono hb.size)
    clear hb hb2
    go_wp2_with fail
    rw [rounds_succ]
    go_wp2_with fail
    go_ret
    exact ⟨ret_int (by rw [← HR.out]; simp), hb3⟩

/-- Rank, whatever is asked. -/
theorem blkRank {w : World} {p : Nat} {l : List Bool} (h : IsBlock w p l) (k : Int) :
    Calls Tryd.prog 41 #[.pointer (some ⟨p, 0, none⟩), .int .i64 k] w fun e w' => e = .returned (.int .i64 (rankL l k.toNat true)) ∧ Below w.heap.size w w' := by
  by_cases h1 : k < 0
  · have := blkRank_core h k 0 (Or.inl ⟨h1, rfl⟩)
    rwa [show k.toNat = 0 by omega]
  · by_cases h2 : k ≤ l.length
    · exact blkRank_core h k k.toNat (Or.inr (Or.inl ⟨by omega, h2, by omega⟩))
    · have := blkRank_core h k l.length (Or.inr (Or.inr ⟨by omega, rfl⟩))
      rwa [rankL_over true (Nat.le_refl _), ← rankL_over (k := k.toNat) true (by omega)] at this

theorem blkSelect_none (w : World) (j : Int) (b : Bool) : Calls Tryd.prog 42 #[.pointer none, .int .i64 j, .bool b] w fun e w' => e = .returned (.int .i64 (-1)) ∧ w = w' := by
  go_enter Tryd.func42, Tryd.ntmps42
  go_wp2_with fail
  go_ret
  exact ⟨rfl, rfl⟩
theorem blkSelect_neg (w : World) (p : Nat) (j : Int) (b : Bool) (hj : j < 0) : Calls Tryd.prog 42 #[.pointer (some ⟨p, 0, none⟩), .int .i64 j, .bool b] w fun e w' => e = .returned (.int .i64 (-1)) ∧ w = w' := by
  go_enter Tryd.func42, Tryd.ntmps42
  go_wp2_with fail
  go_ret
  exact ⟨rfl, rfl⟩


set_option maxHeartbeats 3200000 in
theorem blkSelect_true {w : World} {p : Nat} {l : List Bool} (h : IsBlock w p l) (hT : BitTab w) (j : Nat) (hjm : (j : Int) ≤ 9223372036854775807) :
    Calls Tryd.prog 42 #[.pointer (some ⟨p, 0, none⟩), .int .i64 j, .bool true] w fun e w' => e = .returned (.int .i64 (selL l j true)) ∧ Below w.heap.size w w' := by
  obtain ⟨h0, h1, h2, _⟩ := h.cells
  have hl := h.1
  have hx := loW_lt l
  have hy := hiW_lt l
  have I0 := idx0 (.int .u64 (loW l)) (.int .u64 (hiW l))
  have I1 := idx1 (.int .u64 (loW l)) (.int .u64 (hiW l))
  have LX : Hid (loW l < 2 ^ 64) := likeW_lt hx true
  have LY : Hid (hiW l < 2 ^ 64) := likeW_lt hy true
  have p1 : pc (loW l) 64 ≤ 64 := pc_le _ 64
  have p2 : pc (hiW l) 64 ≤ 64 := pc_le _ 64
  have S1 : Hid (j < pc (loW l) 64 → ∃ k : Nat, k < 64 ∧ sel (loW l) j = k ∧ selL l j true = if k < l.length then (k : Int) else -1) := sel_lo (l := l) (j := j) (b := true)
  have S2 : Hid (pc (loW l) 64 ≤ j → j - pc (loW l) 64 < pc (hiW l) 64 → ∃ k : Nat, k < 64 ∧ sel (hiW l) ((j : Int) - (pc (loW l) 64 : Nat)) = k ∧ selL l j true = if 64 + k < l.length then ((64 + k : Nat) : Int) else -1) :=
    fun a b => sel_hi (l := l) (j := j) (b := true) a b hl
  have S3 : Hid (pc (loW l) 64 + pc (hiW l) 64 ≤ j → selL l j true = -1) := fun a => sel_no (l := l) (j := j) (b := true) a hl
  have C0 : Hid (∀ (w : World) (b off c : Nat), w.cell? ⟨b, off, none⟩ = some (.int .u64 (loW l)) → Calls Tryd.prog 14 #[.slice (some ⟨b, off, none⟩) 1 c] w fun e w' => e = .returned (.int .i64 (pc (loW l) 64)) ∧ w = w') :=
    fun w b off c hc => count_one _ w b off c hc LX.out
  have C1 : Hid (∀ (w : World) (b off c : Nat), w.cell? ⟨b, off, none⟩ = some (.int .u64 (hiW l)) → Calls Tryd.prog 14 #[.slice (some ⟨b, off, none⟩) 1 c] w fun e w' => e = .returned (.int .i64 (pc (hiW l) 64)) ∧ w = w') :=
    fun w b off c hc => count_one _ w b off c hc LY.out
  have HT := Lib.hid hT
  have HB := Lib.hid h
  clear hT h hx hy
  generalize pc (loW l) 64 = n0 at *
  generalize pc (hiW l) 64 = n1 at *
  by_cases hj0 : j < n0
  · obtain ⟨k, hk, hs, hr⟩ := S1.out hj0
    have HS := Lib.hid hs
    have HR := Lib.hid hr
    clear hs hr S1 S2 S3 C1
    by_cases hkl : k < l.length
    all_goals
      go_enter Tryd.func42, Tryd.ntmps42
      go_wp2_with fail
      refine wp_loop_rounds 3 ?_
      rw [rounds_succ]
      go_wp2_with fail
      refine (C0.out _ _ _ _ (by simp [go_sem])).mono ?_
      rintro e w' ⟨rfl, rfl⟩
      have hb := below_alloc w (.cells #[.int .u64 (loW l)] 22)
      have hs1 := hb.size
      generalize w.alloc (.cells #[.int .u64 (loW l)] 22) = w1 at *
      go_wp2_with fail
      refine (select_lit (Y := (k : Int)) (loW l) _ LX.out (HT.out.below' hb) rfl HS.out).mono ?_
      rintro e w2 ⟨rfl, hb2⟩
      have hb := hb.trans (hb2.mono hs1)
      obtain ⟨g0, _⟩ := (HB.out.below' hb).cells
      clear hb2
      go_wp2_with fail
      go_ret
      exact ⟨ret_int (by rw [HR.out]; simp [hkl]), hb⟩
  · by_cases hj1 : j < n0 + n1
    · obtain ⟨k, hk, hs, hr⟩ := S2.out (by omega) (by omega)
      have HS := Lib.hid hs
      have HR := Lib.hid hr
      clear hs hr S1 S2 S3
      by_cases hkl : 64 + k < l.length
      all_goals
        go_enter Tryd.func42, Tryd.ntmps42
        go_wp2_with fail
        refine wp_loop_rounds 3 ?_
        rw [rounds_succ]
        go_wp2_with fail
        refine (C0.out _ _ _ _ (by simp [go_sem])).mono ?_
        rintro e w' ⟨rfl, rfl⟩
        have hb := below_alloc w (.cells #[.int .u64 (loW l)] 22)
        have hs1 := hb.size
        generalize w.alloc (.cells #[.int .u64 (loW l)] 22) = w1 at *
        go_wp2_with fail
        rw [rounds_succ]
        go_wp2_with fail
        refine (C1.out _ _ _ _ (by simp [go_sem])).mono ?_
        rintro e w' ⟨rfl, rfl⟩
        have hb := hb.alloc hs1 (.cells #[.int .u64 (hiW l)] 22)
        have hs1 := hb.size
        generalize w1.alloc (.cells #[.int .u64 (hiW l)] 22) = w2 at *
        go_wp2_with fail
        refine (select_lit (Y := (k : Int)) (hiW l) _ LY.out (HT.out.below' hb) rfl HS.out).mono ?_
        rintro e w3 ⟨rfl, hb2⟩
        have hb := hb.trans (hb2.mono hs1)
        obtain ⟨g0, _⟩ := (HB.out.below' hb).cells
        clear hb2
        go_wp2_with fail
        go_ret
        exact ⟨ret_int (by rw [HR.out]; simp [hkl]), hb⟩
    · have hr := S3.out (by omega)
      have HR := Lib.hid hr
      clear hr S1 S2 S3
      go_enter Tryd.func42, Tryd.ntmps42
      go_wp2_with fail
      refine wp_loop_rounds 3 ?_
      rw [rounds_succ]
      go_wp2_with fail
      refine (C0.out _ _ _ _ (by simp [go_sem])).mono ?_
      rintro e w' ⟨rfl, rfl⟩
      have hb := below_alloc w (.cells #[.int .u64 (loW l)] 22)
      have hs1 := hb.size
      generalize w.alloc (.cells #[.int .u64 (loW l)] 22) = w1 at *
      go_wp2_with fail
      rw [rounds_succ]
      go_wp2_with fail
      refine (C1.out _ _ _ _ (by simp [go_sem])).mono ?_
      rintro e w' ⟨rfl, rfl⟩
      have hb := hb.alloc hs1 (.cells #[.int .u64 (hiW l)] 22)
      generalize w1.alloc (.cells #[.int .u64 (hiW l)] 22) = w2 at *
      go_wp2_with fail
      rw [rounds_succ]
      go_wp2_with fail
      go_ret
      exact ⟨ret_int HR.out.symm, hb⟩

set_option maxHeartbeats 3200000 in
theorem blkSelect_false {w : World} {p : Nat} {l : List Bool} (h : IsBlock w p l) (hT : BitTab w) (j : Nat) (hjm : (j : Int) ≤ 9223372036854775807) :
    Calls Tryd.prog 42 #[.pointer (some ⟨p, 0, none⟩), .int .i64 j, .bool false] w fun e w' => e = .returned (.int .i64 (selL l j false)) ∧ Below w.heap.size w w' := by
  obtain ⟨h0, h1, h2, _⟩ := h.cells
  have hl := h.1
  have hx := loW_lt l
  have hy := hiW_lt l
  have N1 := not_run hx
  have N2 := not_run hy
  have I0 := idx0 (.int .u64 (loW l)) (.int .u64 (hiW l))
  have I1 := idx1 (.int .u64 (loW l)) (.int .u64 (hiW l))
  have LX : Hid (notW (loW l) < 2 ^ 64) := likeW_lt hx false
  have LY : Hid (notW (hiW l) < 2 ^ 64) := likeW_lt hy false
  have p1 : pc (notW (loW l)) 64 ≤ 64 := pc_le _ 64
  have p2 : pc (notW (hiW l)) 64 ≤ 64 := pc_le _ 64
  have S1 : Hid (j < pc (notW (loW l)) 64 → ∃ k : Nat, k < 64 ∧ sel (notW (loW l)) j = k ∧ selL l j false = if k < l.length then (k : Int) else -1) := sel_lo (l := l) (j := j) (b := false)
  have S2 : Hid (pc (notW (loW l)) 64 ≤ j → j - pc (notW (loW l)) 64 < pc (notW (hiW l)) 64 → ∃ k : Nat, k < 64 ∧ sel (notW (hiW l)) ((j : Int) - (pc (notW (loW l)) 64 : Nat)) = k ∧ selL l j false = if 64 + k < l.length then ((64 + k : Nat) : Int) else -1) :=
    fun a b => sel_hi (l := l) (j := j) (b := false) a b hl
  have S3 : Hid (pc (notW (loW l)) 64 + pc (notW (hiW l)) 64 ≤ j → selL l j false = -1) := fun a => sel_no (l := l) (j := j) (b := false) a hl
  have C0 : Hid (∀ (w : World) (b off c : Nat), w.cell? ⟨b, off, none⟩ = some (.int .u64 (notW (loW l))) → Calls Tryd.prog 14 #[.slice (some ⟨b, off, none⟩) 1 c] w fun e w' => e = .returned (.int .i64 (pc (notW (loW l)) 64)) ∧ w = w') :=
    fun w b off c hc => count_one _ w b off c hc LX.out
  have C1 : Hid (∀ (w : World) (b off c : Nat), w.cell? ⟨b, off, none⟩ = some (.int .u64 (notW (hiW l))) → Calls Tryd.prog 14 #[.slice (some ⟨b, off, none⟩) 1 c] w fun e w' => e = .returned (.int .i64 (pc (notW (hiW l)) 64)) ∧ w = w') :=
    fun w b off c hc => count_one _ w b off c hc LY.out
  have HT := Lib.hid hT
  have HB := Lib.hid h
  clear hT h hx hy
  generalize pc (notW (loW l)) 64 = n0 at *
  generalize pc (notW (hiW l)) 64 = n1 at *
  by_cases hj0 : j < n0
  · obtain ⟨k, hk, hs, hr⟩ := S1.out hj0
    have HS := Lib.hid hs
    have HR := Lib.hid hr
    clear hs hr S1 S2 S3 C1
    by_cases hkl : k < l.length
    all_goals
      go_enter Tryd.func42, Tryd.ntmps42
      go_wp2_with fail
      refine wp_loop_rounds 3 ?_
      rw [rounds_succ]
      go_wp2_with fail
      refine (C0.out _ _ _ _ (by simp [go_sem])).mono ?_
      rintro e w' ⟨rfl, rfl⟩
      have hb := below_alloc w (.cells #[.int .u64 (notW (loW l))] 22)
      have hs1 := hb.size
      generalize w.alloc (.cells #[.int .u64 (notW (loW l))] 22) = w1 at *
      go_wp2_with fail
      refine (select_lit (Y := (k : Int)) (notW (loW l)) _ LX.out (HT.out.below' hb) rfl HS.out).mono ?_
      rintro e w2 ⟨rfl, hb2⟩
      have hb := hb.trans (hb2.mono hs1)
      obtain ⟨g0, _⟩ := (HB.out.below' hb).cells
      clear hb2
      go_wp2_with fail
      go_ret
      exact ⟨ret_int (by rw [HR.out]; simp [hkl]), hb⟩
  · by_cases hj1 : j < n0 + n1
    · obtain ⟨k, hk, hs, hr⟩ := S2.out (by omega) (by omega)
      have HS := Lib.hid hs
      have HR := Lib.hid hr
      clear hs hr S1 S2 S3
      by_cases hkl : 64 + k < l.length
      all_goals
        go_enter Tryd.func42, Tryd.ntmps42
        go_wp2_with fail
        refine wp_loop_rounds 3 ?_
        rw [rounds_succ]
        go_wp2_with fail
        refine (C0.out _ _ _ _ (by simp [go_sem])).mono ?_
        rintro e w' ⟨rfl, rfl⟩
        have hb := below_alloc w (.cells #[.int .u64 (notW (loW l))] 22)
        have hs1 := hb.size
        generalize w.alloc (.cells #[.int .u64 (notW (loW l))] 22) = w1 at *
        go_wp2_with fail
        rw [rounds_succ]
        go_wp2_with fail
        refine (C1.out _ _ _ _ (by simp [go_sem])).mono ?_
        rintro e w' ⟨rfl, rfl⟩
        have hb := hb.alloc hs1 (.cells #[.int .u64 (notW (hiW l))] 22)
        have hs1 := hb.size
        generalize w1.alloc (.cells #[.int .u64 (notW (hiW l))] 22) = w2 at *
        go_wp2_with fail
        refine (select_lit (Y := (k : Int)) (notW (hiW l)) _ LY.out (HT.out.below' hb) rfl HS.out).mono ?_
        rintro e w3 ⟨rfl, hb2⟩
        have hb := hb.trans (hb2.mono hs1)
        obtain ⟨g0, _⟩ := (HB.out.below' hb).cells
        clear hb2
        go_wp2_with fail
        go_ret
        exact ⟨ret_int (by rw [HR.out]; simp [hkl]), hb⟩
    · have hr := S3.out (by omega)
      have HR := Lib.hid hr
      clear hr S1 S2 S3
      go_enter Tryd.func42, Tryd.ntmps42
      go_wp2_with fail
      refine wp_loop_rounds 3 ?_
      rw [rounds_succ]
      go_wp2_with fail
      refine (C0.out _ _ _ _ (by simp [go_sem])).mono ?_
      rintro e w' ⟨rfl, rfl⟩
      have hb := below_alloc w (.cells #[.int .u64 (notW (loW l))] 22)
      have hs1 := hb.size
      generalize w.alloc (.cells #[.int .u64 (notW (loW l))] 22) = w1 at *
      go_wp2_with fail
      rw [rounds_succ]
      go_wp2_with fail
      refine (C1.out _ _ _ _ (by simp [go_sem])).mono ?_
      rintro e w' ⟨rfl, rfl⟩
      have hb := hb.alloc hs1 (.cells #[.int .u64 (notW (hiW l))] 22)
      generalize w1.alloc (.cells #[.int .u64 (notW (hiW l))] 22) = w2 at *
      go_wp2_with fail
      rw [rounds_succ]
      go_wp2_with fail
      go_ret
      exact ⟨ret_int HR.out.symm, hb⟩

/-- Select, whatever is asked. -/
theorem blkSelect {w : World} {p : Nat} {l : List Bool} (h : IsBlock w p l) (hT : BitTab w) (j : Int) (b : Bool) (hjm : j ≤ 9223372036854775807) :
    Calls Tryd.prog 42 #[.pointer (some ⟨p, 0, none⟩), .int .i64 j, .bool b] w fun e w' => e = .returned (.int .i64 (selL l j b)) ∧ Below w.heap.size w w' := by
  by_cases hj : j < 0
  · rw [selL_neg hj]
    refine (blkSelect_neg w p j b hj).mono ?_
    rintro e w' ⟨rfl, rfl⟩
    exact ⟨rfl, Below.refl _ _⟩
  · obtain ⟨n, rfl⟩ := Int.eq_ofNat_of_zero_le (show 0 ≤ j by omega)
    cases b
    · exact blkSelect_false h hT n hjm
    · exact blkSelect_true h hT n hjm

end Go.Proofs.YticbfhbilfgoiaaDoor
