/- Contracts of the document's answer for lists of numbers: In, Out, Rank, Below, Good. -/
import Derived.Test.YtpbmhdkhkbhgnaaRef6P
import Derived.Test.YtpbmhdkhkbhgnaaSortedL
import Derived.Test.YtpbmhdkhkbhgnaaRef6
namespace Go.Proofs.Ytpbmhdkhkbhgnaa
set_option linter.unusedVariables false
set_option linter.unusedSimpArgs false
open Go.RowKit

/-- A list without the one at a place. -/
def outA {α : Type} (l : List α) (k : Nat) : List α := l.take k ++ l.drop (k + 1)
theorem outA_len {α : Type} {l : List α} {k : Nat} (h : k < l.length) : (outA l k).length = l.length - 1 := by simp [outA]; omega

set_option maxHeartbeats 1600000 in
theorem ref6Out_any (a : Option Addr) (c : Nat) (l : List Int) (k : Nat) (w : World) (hr : ReadsV w a (l.map (Value.int .i64))) (hk : k < l.length) (hc : l.length ≤ c) (hcm : c ≤ maxLen) (hl : l.length ≤ 1000000) (hnil : a = none → l.length = 0 ∧ c = 0) :
    Calls Try.prog 84 #[.slice a l.length c, .int .i64 k] w (GivesI w.heap.size w (outA l k)) := by
  have hs1 := fun (w : World) => run_sliceTo (P := Try.prog) (w := w) (t := 22) (a := a) (len := l.length) (cap := c) (k := k) Try.underlying22 (by kernel_rfl) (by omega)
  have hs2 : ∀ (w : World), (Instr.slice 22 (.slice a l.length c) (some (.int .i64 ((k : Int) + 1))) none none).run Try.prog w = .ok (.slice (offA a (k + 1) c) (l.length - (k + 1)) (c - (k + 1))) w :=
    fun w => run_sliceFrom (P := Try.prog) (w := w) (t := 22) (a := a) (len := l.length) (cap := c) (k := k + 1) Try.underlying22 (by kernel_rfl) (by omega)
  have HNIL := Lib.hid (offA_nil (k := k + 1) hnil)
  have HN0 : Hid (a = none → k = 0 ∧ c = 0) := fun h => by have := hnil h; omega
  have hrt : ReadsV w a ((l.take k).map (Value.int .i64)) := by rw [List.map_take]; exact hr.take k
  have HRT : Hid (∀ w', Below w.heap.size w w' → ReadsV w' a ((l.take k).map (Value.int .i64))) := fun w' hb => hrt.below' hb
  have HRD : Hid (∀ w', Below w.heap.size w w' → ReadsV w' (offA a (k + 1) c) ((l.drop (k + 1)).map (Value.int .i64))) := fun w' hb => by rw [List.map_drop]; exact (hr.below' hb).drop (by simpa using hc)
  have hb0 := below_al w (.cells #[] 3)
  have hown0 : (w.alloc (.cells #[] 3)).ownsRow w.heap.size 3 1 (.slice (some ⟨w.heap.size, 0, none⟩) 0 0) 0 [] := own_zero (Nat.le_refl _) (heap_alloc_new _ _)
  have HL := Lib.hid hl
  have HO0 := Lib.hid hown0
  have HB0 := Lib.hid hb0
  clear hnil hr hrt hown0 hb0
  go_enter Try.func84, Try.ntmps84
  go_wp2_with (at_builtin; refine wpList_appendL rfl _ _ 22 rfl w.heap.size 3 Try.infoIntG Try.underlying22 rfl _ 0 _ rfl HO0.out a k c ((l.take k).map (Value.int .i64)) rfl (by simp; omega) HN0.out (HRT.out _ HB0.out).hnews (oneI .i64 _) (by unfold maxLen; omega) (by omega) HB0.out.size ?_)
  intro a1 c1 w1 hown hgrow _
  have hb1 : Below w.heap.size w w1 := HB0.out.grown hgrow HB0.out.size (fun j hj => by simp [Value.ownBlock] at hj; omega)
  have HB1 := Lib.hid hb1
  have hown1 : w1.ownsRow w.heap.size 3 1 (.slice a1 k c1) k ((l.take k).map (Value.int .i64)) := by simpa using hown
  have HOWN := Lib.hid hown1
  clear hown hown1 hgrow hb1
  go_wp2_with (at_builtin; refine wpList_appendL rfl _ _ 22 rfl w.heap.size 3 Try.infoIntG Try.underlying22 rfl _ k _ rfl HOWN.out (offA a (k + 1) c) (l.length - (k + 1)) (c - (k + 1)) ((l.drop (k + 1)).map (Value.int .i64)) rfl (by simp) HNIL.out (HRD.out _ HB1.out).hnews (oneI .i64 _) (by unfold maxLen; omega) (by omega) HB1.out.size ?_)
  intro a2 c2 w2 hown2 hgrow2 _
  have hb2 : Below w.heap.size w w2 := HB1.out.grown hgrow2 HB1.out.size (fun j hj => (own_lt HOWN.out hj).1)
  have HB2 := Lib.hid hb2
  have HO2 := Lib.hid hown2
  clear hown2 hgrow2 hb2
  go_wp2_with fail
  go_ret
  refine ⟨_, rfl, ?_, HB2.out⟩
  have := HO2.out
  rw [show (outA l k).map (Value.int .i64) = List.take k (List.map (Value.int .i64) l) ++ List.drop (k + 1) (List.map (Value.int .i64) l) by simp [outA]]
  rw [show (outA l k).length = k + (l.length - (k + 1)) by rw [outA_len hk]; omega]
  exact this

set_option maxHeartbeats 1600000 in
theorem ref6In_any (a : Option Addr) (c : Nat) (l : List Int) (k : Nat) (b : Int) (w : World) (hr : ReadsV w a (l.map (Value.int .i64))) (hk : k ≤ l.length) (hc : l.length ≤ c) (hcm : c ≤ maxLen) (hl : l.length ≤ 1000000) (hnil : a = none → l.length = 0 ∧ c = 0) :
    Calls Try.prog 67 #[.slice a l.length c, .int .i64 k, (.int .i64 b)] w (GivesI w.heap.size w (insA l k b)) := by
  have hs1 := fun (w : World) => run_sliceTo (P := Try.prog) (w := w) (t := 22) (a := a) (len := l.length) (cap := c) (k := k) Try.underlying22 (by kernel_rfl) (by omega)
  have hs2 := fun (w : World) => run_sliceFrom (P := Try.prog) (w := w) (t := 22) (a := a) (len := l.length) (cap := c) (k := k) Try.underlying22 (by kernel_rfl) (by omega)
  have HNIL := Lib.hid (offA_nil (k := k) hnil)
  have HN0 : Hid (a = none → k = 0 ∧ c = 0) := fun h => by have := hnil h; omega
  have hrt : ReadsV w a ((l.take k).map (Value.int .i64)) := by rw [List.map_take]; exact hr.take k
  have HRT : Hid (∀ w', Below w.heap.size w w' → ReadsV w' a ((l.take k).map (Value.int .i64))) := fun w' hb => hrt.below' hb
  have HRD : Hid (∀ w', Below w.heap.size w w' → ReadsV w' (offA a k c) ((l.drop k).map (Value.int .i64))) := fun w' hb => by rw [List.map_drop]; exact (hr.below' hb).drop (by simpa using hc)
  have hb0 := below_al w (.cells #[] 3)
  have hown0 : (w.alloc (.cells #[] 3)).ownsRow w.heap.size 3 1 (.slice (some ⟨w.heap.size, 0, none⟩) 0 0) 0 [] := own_zero (Nat.le_refl _) (heap_alloc_new _ _)
  have HL := Lib.hid hl
  have HO0 := Lib.hid hown0
  have HB0 := Lib.hid hb0
  clear hnil hr hrt hown0 hb0
  go_enter Try.func67, Try.ntmps67
  go_wp2_with (at_builtin; refine wpList_appendL rfl _ _ 22 rfl w.heap.size 3 Try.infoIntG Try.underlying22 rfl _ 0 _ rfl HO0.out a k c ((l.take k).map (Value.int .i64)) rfl (by simp; omega) HN0.out (HRT.out _ HB0.out).hnews (oneI .i64 _) (by unfold maxLen; omega) (by omega) HB0.out.size ?_)
  intro a1 c1 w1 hown hgrow _
  have hb1 : Below w.heap.size w w1 := HB0.out.grown hgrow HB0.out.size (fun j hj => by simp [Value.ownBlock] at hj; omega)
  have hown1 : w1.ownsRow w.heap.size 3 1 (.slice a1 k c1) k ((l.take k).map (Value.int .i64)) := by simpa using hown
  have HB1 := Lib.hid hb1
  have HOWN := Lib.hid hown1
  clear hown hown1 hgrow hb1
  go_wp2_with fail
  have hs1b := HB1.out.drew.size
  have HB1A : Hid (Below w.heap.size w (w1.drew.alloc (.cells #[(.int .i64 b)] 3))) := HB1.out.drew.alloc hs1b _
  have HOWN2 : Hid ((w1.drew.alloc (.cells #[(.int .i64 b)] 3)).ownsRow w.heap.size 3 1 (.slice a1 k c1) k ((l.take k).map (Value.int .i64))) := World.ownsRow.alloc (w := w1.drew) HOWN.out _
  have HNEW : Hid (∀ p, some (⟨w1.heap.size, 0, none⟩ : Addr) = some p → ∀ j u, [(Value.int .i64) b][j]? = some u → (w1.drew.alloc (.cells #[(.int .i64 b)] 3)).cell? (p.add j) = some u) :=
    (readsV_block (xs := [(.int .i64 b)]) (heap_alloc_new w1.drew _)).hnews
  refine reg_start (fun _ => True) (by kernel_rfl) (trivial) (fun hHeld => ?_)
  refine reg_take (i := 0) (v := ?v0) rfl (by kernel_rfl) rfl hHeld ?y0 ?r0
  case y0 => (intro w hSw; (try dsimp only at hSw); go_simp; all_goals with_reducible rfl)
  try simp only [Act.put, List.setIfInBounds_toArray, List.set_cons_zero, List.set_cons_succ]
  refine reg_take (i := 1) (v := ?v1) rfl (by kernel_rfl) rfl hHeld ?y1 ?r1
  case y1 => (intro w hSw; (try dsimp only at hSw); go_simp; all_goals with_reducible rfl)
  try simp only [Act.put, List.setIfInBounds_toArray, List.set_cons_zero, List.set_cons_succ]
  refine reg_take (i := 4) (v := ?v4) rfl (by kernel_rfl) rfl hHeld ?y4 ?r4
  case y4 => (intro w hSw; (try dsimp only at hSw); go_simp; all_goals with_reducible rfl)
  try simp only [Act.put, List.setIfInBounds_toArray, List.set_cons_zero, List.set_cons_succ]
  refine reg_take (i := 5) (v := ?v5) rfl (by kernel_rfl) rfl hHeld ?y5 ?r5
  case y5 => (intro w hSw; (try dsimp only at hSw); go_simp; all_goals with_reducible rfl)
  try simp only [Act.put, List.setIfInBounds_toArray, List.set_cons_zero, List.set_cons_succ]
  refine reg_take (i := 6) (v := ?v6) rfl (by kernel_rfl) rfl hHeld ?y6 ?r6
  case y6 => (intro w hSw; (try dsimp only at hSw); go_simp; all_goals with_reducible rfl)
  try simp only [Act.put, List.setIfInBounds_toArray, List.set_cons_zero, List.set_cons_succ]
  refine reg_loud (i := 2) rfl (by kernel_rfl) rfl (fun K hK => ?_)
  go_simp
  refine hK.out _ _ (trivial) (fun hNew => ?_)
  clear hK K hHeld
  have hHeld := hNew
  clear hNew
  try simp only [Act.put, List.setIfInBounds_toArray, List.set_cons_zero, List.set_cons_succ]
  refine reg_loud (i := 3) rfl (by kernel_rfl) rfl (fun K hK => ?_)
  refine wp_appendL _ _ 22 rfl w.heap.size 3 Try.infoIntG Try.underlying22 rfl _ k _ rfl HOWN2.out (some ⟨w1.heap.size, 0, none⟩) 1 1 [(.int .i64 b)] rfl rfl (fun h => by cases h) HNEW.out (oneI .i64 [b]) (by unfold maxLen; omega) (by omega) HB1A.out.size ?_
  intro a2 c2 w2 hown2 hgrow2 _
  have hb2 : Below w.heap.size w w2 := HB1A.out.grown hgrow2 HB1A.out.size (fun j hj => (own_lt HOWN2.out hj).1)
  have HB2 := Lib.hid hb2
  have HO2 := Lib.hid hown2
  clear hown2 hgrow2 hb2
  refine hK.out _ _ (trivial) (fun hNew => ?_)
  clear hK K hHeld
  have hHeld := hNew
  clear hNew
  try simp only [Act.put, List.setIfInBounds_toArray, List.set_cons_zero, List.set_cons_succ]
  refine reg_loud (i := 7) rfl (by kernel_rfl) rfl (fun K hK => ?_)
  refine wp_appendL _ _ 22 rfl w.heap.size 3 Try.infoIntG Try.underlying22 rfl _ (k + 1) _ rfl HO2.out (offA a k c) (l.length - k) (c - k) ((l.drop k).map (Value.int .i64)) rfl (by simp) HNIL.out (HRD.out w2 (HB2.out)).hnews (oneI .i64 _) (by unfold maxLen; omega) (by omega) HB2.out.size ?_
  intro a3 c3 w3 hown3 hgrow3 _
  have hb3 : Below w.heap.size w w3 := HB2.out.grown hgrow3 HB2.out.size (fun j hj => (own_lt HO2.out hj).1)
  have HB3 := Lib.hid hb3
  have HO3 := Lib.hid hown3
  clear hown3 hgrow3 hb3
  refine hK.out _ _ (trivial) (fun hNew => ?_)
  clear hK K hHeld
  have hHeld := hNew
  clear hNew
  try simp only [Act.put, List.setIfInBounds_toArray, List.set_cons_zero, List.set_cons_succ]
  refine reg_take (i := 8) (v := ?v8) rfl (by kernel_rfl) rfl hHeld ?y8 ?r8
  case y8 => (intro w hSw; (try dsimp only at hSw); go_simp; all_goals with_reducible rfl)
  try simp only [Act.put, List.setIfInBounds_toArray, List.set_cons_zero, List.set_cons_succ]
  refine reg_done (by kernel_rfl) ?_ _
  go_wp2_with fail
  go_ret
  refine ⟨_, rfl, ?_, HB3.out⟩
  have := HO3.out
  rw [show (insA l k b).map (Value.int .i64) = (l.take k).map (Value.int .i64) ++ [(.int .i64 b)] ++ (l.drop k).map (Value.int .i64) by simp [insA]]
  rw [show (insA l k b).length = k + 1 + (l.length - k) by rw [insA_len hk]; omega]
  exact this


set_option maxHeartbeats 800000 in
theorem ref6Rank_any (a : Option Addr) (c n : Nat) (l : List Int) (k : Nat) (x : Int) (w : World) (hn : n = l.length) (hr : Reads w .i64 a l) (hl : l.length ≤ 1000000) (hk : k ≤ 1000000000) :
    Calls Try.prog 65 #[.slice a n c, .int .i64 k, .int .i64 x] w fun e w' => e = .returned (.int .i64 (cnt (l.take k) x : Int)) ∧ w = w' := by
  subst hn
  go_enter Try.func65, Try.ntmps65
  go_wp2_with fail
  go_loop [7, 8] (fun v i => ∃ j : Nat, j ≤ k ∧ j ≤ l.length ∧ i = .int .i64 j ∧ v = .int .i64 (cnt (l.take j) x : Int)) (fun _ i => l.length - (intOf i).toNat)
  case atStart => exact ⟨0, Nat.zero_le _, Nat.zero_le _, rfl, rfl⟩
  case round =>
    obtain ⟨j, hj, hj2, rfl, rfl⟩ := hrel
    by_cases hlt : j < k ∧ j < l.length
    · obtain ⟨h1, h2⟩ := hlt
      obtain ⟨b, off, rfl, _, hc⟩ := hr.some (by omega)
      have e1 := hc j h2
      have hs : cnt (l.take (j + 1)) x = cnt (l.take j) x + (if l[j]?.getD 0 = x then 1 else 0) := by
        rw [List.take_succ_eq_append_getElem h2, cnt_snoc, List.getElem?_eq_getElem h2]; rfl
      have hle : cnt (l.take j) x ≤ j := by
        unfold cnt
        have := List.countP_le_length (p := fun y => y == x) (l := l.take j)
        rw [List.length_take] at this; omega
      have HS := Lib.hid hs
      have d1 : decide (j < l.length) = true := decide_eq_true h2
      clear hc hs
      generalize l[j]?.getD 0 = y at *
      generalize cnt (l.take j) x = q at *
      by_cases hy : y = x
      · subst hy
        have HS2 := HS.out
        rw [if_pos rfl] at HS2
        have HS2 := Lib.hid HS2
        go_wp2_with fail
        go_round
        case rel => exact ⟨j + 1, by omega, by omega, by go_num, by rw [HS2.out]; go_num⟩
        case measure => simp [intOf]; omega
      · have HS2 := HS.out
        rw [if_neg hy] at HS2
        have HS2 := Lib.hid HS2
        go_wp2_with fail
        go_round
        case rel => exact ⟨j + 1, by omega, by omega, by go_num, by rw [HS2.out]; rfl⟩
        case measure => simp [intOf]; omega
    · have he : l.take j = l.take k := by
        rcases Nat.lt_or_ge j k with h | h
        · rw [List.take_of_length_le (by omega), List.take_of_length_le (by omega)]
        · obtain rfl : j = k := by omega
          rfl
      have HE : Hid ((cnt (l.take j) x : Int) = (cnt (l.take k) x : Int)) := by show _ = _; rw [he]
      clear he
      generalize (cnt (l.take j) x : Int) = q at *
      by_cases h1 : j < k
      · have d1 : decide (j < l.length) = false := decide_eq_false (by omega)
        go_wp2_with fail
        go_ret
        exact ⟨ret_int HE.out, rfl⟩
      · have d1 : decide (j < k) = false := decide_eq_false (by omega)
        go_wp2_with fail
        go_ret
        exact ⟨ret_int HE.out, rfl⟩

set_option maxHeartbeats 800000 in
theorem ref6Below_any (a : Option Addr) (c n : Nat) (l : List Int) (x : Int) (w : World) (hn : n = l.length) (hr : Reads w .i64 a l) (hl : l.length ≤ 1000000) :
    Calls Try.prog 64 #[.slice a n c, .int .i64 x] w fun e w' => e = .returned (.int .i64 (belowL l x : Int)) ∧ w = w' := by
  subst hn
  go_enter Try.func64, Try.ntmps64
  go_wp2_with fail
  go_loop [5, 6] (fun v i => ∃ j : Nat, j ≤ l.length ∧ i = .int .i64 j ∧ v = .int .i64 (belowL (l.take j) x : Int)) (fun _ i => l.length - (intOf i).toNat)
  case atStart => exact ⟨0, Nat.zero_le _, rfl, rfl⟩
  case round =>
    obtain ⟨j, hj2, rfl, rfl⟩ := hrel
    by_cases h2 : j < l.length
    · obtain ⟨b, off, rfl, _, hc⟩ := hr.some (by omega)
      have e1 := hc j h2
      have hs : belowL (l.take (j + 1)) x = belowL (l.take j) x + (if l[j]?.getD 0 < x then 1 else 0) := by
        unfold belowL
        rw [List.take_succ_eq_append_getElem h2, List.countP_append, List.countP_singleton, List.getElem?_eq_getElem h2]
        simp
      have hle : belowL (l.take j) x ≤ j := by
        unfold belowL
        have := List.countP_le_length (p := fun y => decide (y < x)) (l := l.take j)
        rw [List.length_take] at this; omega
      have HS := Lib.hid hs
      clear hc hs
      generalize l[j]?.getD 0 = y at *
      generalize belowL (l.take j) x = q at *
      by_cases hy : y < x
      · have HS2 := HS.out
        rw [if_pos hy] at HS2
        have HS2 := Lib.hid HS2
        go_wp2_with fail
        go_round
        case rel => exact ⟨j + 1, by omega, by go_num, by rw [HS2.out]; go_num⟩
        case measure => simp [intOf]; omega
      · have HS2 := HS.out
        rw [if_neg hy] at HS2
        have HS2 := Lib.hid HS2
        have d2 : decide (y < x) = false := decide_eq_false hy
        go_wp2_with fail
        go_round
        case rel => exact ⟨j + 1, by omega, by go_num, by rw [HS2.out]; rfl⟩
        case measure => simp [intOf]; omega
    · obtain rfl : j = l.length := by omega
      have HE : Hid ((belowL (l.take l.length) x : Int) = (belowL l x : Int)) := by show _ = _; rw [List.take_length]
      generalize (belowL (l.take l.length) x : Int) = q at *
      go_wp2_with fail
      go_ret
      exact ⟨ret_int HE.out, rfl⟩

set_option maxHeartbeats 800000 in
theorem ref6Good_yes (a : Option Addr) (c n : Nat) (l : List Int) (w : World) (hn : n = l.length) (hr : Reads w .i64 a l) (hl : l.length ≤ 1000000) (hs : ∀ x ∈ l, 0 ≤ x ∧ x < 257) :
    Calls Try.prog 63 #[.slice a n c] w fun e w' => e = .returned (.bool true) ∧ w = w' := by
  subst hn
  go_enter Try.func63, Try.ntmps63
  go_wp2_with fail
  go_loop [3] (fun i => ∃ j : Nat, j ≤ l.length ∧ i = .int .i64 j) (fun i => l.length - (intOf i).toNat)
  case atStart => exact ⟨0, Nat.zero_le _, rfl⟩
  case round =>
    obtain ⟨j, hj2, rfl⟩ := hrel
    by_cases h2 : j < l.length
    · obtain ⟨b, off, rfl, _, hc⟩ := hr.some (by omega)
      have e1 := hc j h2
      have hx := hs _ (List.getElem_mem h2)
      rw [List.getElem?_eq_getElem h2, Option.getD_some] at e1
      clear hc
      generalize l[j] = y at *
      have hi := symIs_true hx.1 hx.2
      go_wp2_with (go_at_call 91; refine (refIs_any _ _).mono ?_; rintro e w' ⟨rfl, rfl⟩)
      go_round
      case rel => exact ⟨j + 1, by omega, by go_num⟩
      case measure => simp [intOf]; omega
    · obtain rfl : j = l.length := by omega
      go_wp2_with fail
      go_ret
      exact ⟨rfl, rfl⟩
set_option maxHeartbeats 800000 in
theorem ref6Good_no (a : Option Addr) (c n k0 : Nat) (l : List Int) (w : World) (hn : n = l.length) (hr : Reads w .i64 a l) (hl : l.length ≤ 1000000) (hk : k0 < l.length) (hs : ∀ i (hi : i < k0), 0 ≤ l[i]'(by omega) ∧ l[i]'(by omega) < 257) (hx : ¬ (0 ≤ l[k0] ∧ l[k0] < 257)) :
    Calls Try.prog 63 #[.slice a n c] w fun e w' => e = .returned (.bool false) ∧ w = w' := by
  subst hn
  go_enter Try.func63, Try.ntmps63
  go_wp2_with fail
  go_loop [3] (fun i => ∃ j : Nat, j ≤ k0 ∧ i = .int .i64 j) (fun i => l.length - (intOf i).toNat)
  case atStart => exact ⟨0, Nat.zero_le _, rfl⟩
  case round =>
    obtain ⟨j, hj2, rfl⟩ := hrel
    have h2 : j < l.length := by omega
    obtain ⟨b, off, rfl, _, hc⟩ := hr.some (by omega)
    have e1 := hc j h2
    rw [List.getElem?_eq_getElem h2, Option.getD_some] at e1
    by_cases h3 : j < k0
    · have hx' := hs j h3
      clear hc hs hx
      generalize l[j] = y at *
      have hi := symIs_true hx'.1 hx'.2
      go_wp2_with (go_at_call 91; refine (refIs_any _ _).mono ?_; rintro e w' ⟨rfl, rfl⟩)
      go_round
      case rel => exact ⟨j + 1, by omega, by go_num⟩
      case measure => simp [intOf]; omega
    · obtain rfl : j = k0 := by omega
      have hi := symIs_false hx
      clear hc hs hx
      generalize l[j] = y at *
      go_wp2_with (go_at_call 91; refine (refIs_any _ _).mono ?_; rintro e w' ⟨rfl, rfl⟩)
      go_ret
      exact ⟨rfl, rfl⟩

end Go.Proofs.Ytpbmhdkhkbhgnaa
