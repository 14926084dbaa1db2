/- The walk of PermNext. -/
import Derived.Test.YtpbmhdkhkbhgnaaZp5
import Derived.Test.YtpbmhdkhkbhgnaaZp1
namespace Go.Proofs.Ytpbmhdkhkbhgnaa
set_option linter.unusedVariables false
set_option linter.unusedSimpArgs false
open Go.RowKit

theorem bestP_fold (x : Int) : ∀ (l : List (Int × Int)) (b : Int), (∀ y ∈ l, 0 ≤ y.2) →
    (l.foldl (fun b y => bestP x b y.2) b = b ∧ ∀ y ∈ l, ¬ (x ≤ y.2 ∧ (b < 0 ∨ y.2 < b))) ∨
    (∃ y ∈ l, l.foldl (fun b y => bestP x b y.2) b = y.2 ∧ x ≤ y.2 ∧ (b < 0 ∨ y.2 < b) ∧ ∀ z ∈ l, x ≤ z.2 → y.2 ≤ z.2)
  | [], b, _ => Or.inl ⟨rfl, fun y hy => by simp at hy⟩
  | a :: l, b, h => by
    have ha := h a (by simp)
    have hl : ∀ y ∈ l, 0 ≤ y.2 := fun y hy => h y (by simp [hy])
    rw [List.foldl_cons]
    by_cases hc : x ≤ a.2 ∧ (b < 0 ∨ a.2 < b)
    · have e : bestP x b a.2 = a.2 := if_pos hc
      rw [e]
      rcases bestP_fold x l a.2 hl with ⟨h1, h2⟩ | ⟨y, hy, h1, h2, h3, h4⟩
      · refine Or.inr ⟨a, by simp, h1, hc.1, hc.2, fun z hz hxz => ?_⟩
        rcases List.mem_cons.1 hz with rfl | hz
        · exact Int.le_refl _
        · have := h2 z hz
          by_cases q : a.2 ≤ z.2
          · exact q
          · exact absurd ⟨hxz, Or.inr (by omega)⟩ this
      · refine Or.inr ⟨y, by simp [hy], h1, h2, ?_, fun z hz hxz => ?_⟩
        · have := hl y hy
          rcases hc.2 with q | q
          · exact Or.inl q
          · exact Or.inr (by omega)
        · rcases List.mem_cons.1 hz with rfl | hz
          · omega
          · exact h4 z hz hxz
    · have e : bestP x b a.2 = b := if_neg hc
      rw [e]
      rcases bestP_fold x l b hl with ⟨h1, h2⟩ | ⟨y, hy, h1, h2, h3, h4⟩
      · refine Or.inl ⟨h1, fun z hz => ?_⟩
        rcases List.mem_cons.1 hz with rfl | hz
        · exact hc
        · exact h2 z hz
      · refine Or.inr ⟨y, by simp [hy], h1, h2, h3, fun z hz hxz => ?_⟩
        rcases List.mem_cons.1 hz with rfl | hz
        · have := hl y hy
          by_cases q : y.2 ≤ z.2
          · exact q
          · exact absurd ⟨hxz, by omega⟩ hc
        · exact h4 z hz hxz
theorem prL_gL (L : List Int) (y : Int × Int) : y ∈ prL 0 L ↔ gL L y.1 = y.2 ∧ 0 ≤ y.2 := by
  obtain ⟨r, p⟩ := y
  rw [prL_mem]
  constructor
  · rintro ⟨j, h1, h2, h3⟩
    refine ⟨?_, h3⟩
    show gL L r = p
    rw [h1, Nat.zero_add, gL_nat, h2]; rfl
  · rintro ⟨h1, h2⟩
    have h1 : gL L r = p := h1
    have h2 : 0 ≤ p := h2
    obtain ⟨i, rfl, hi⟩ := gL_in (L := L) (r := r) (by omega)
    rw [gL_nat, List.getElem?_eq_getElem hi] at h1
    exact ⟨i, by omega, by rw [List.getElem?_eq_getElem hi]; exact congrArg _ h1, h2⟩
theorem nextP_spec (L : List Int) (k : Int) :
    (nextP k (prL 0 L) = -1 ∧ ∀ x, 0 ≤ x → k ≤ x → ∀ r, gL L r ≠ x) ∨
    (0 ≤ nextP k (prL 0 L) ∧ k ≤ nextP k (prL 0 L) ∧ (∃ r, gL L r = nextP k (prL 0 L)) ∧ ∀ x, 0 ≤ x → k ≤ x → x < nextP k (prL 0 L) → ∀ r, gL L r ≠ x) := by
  rcases bestP_fold k (prL 0 L) (-1) (fun y hy => ((prL_gL L y).1 hy).2) with ⟨h1, h2⟩ | ⟨y, hy, h1, h2, h3, h4⟩
  · refine Or.inl ⟨h1, fun x h0 hk r hr => ?_⟩
    exact h2 (r, x) ((prL_gL L (r, x)).2 ⟨hr, h0⟩) ⟨hk, Or.inl (by omega)⟩
  · obtain ⟨q1, q2⟩ := (prL_gL L y).1 hy
    have e : nextP k (prL 0 L) = y.2 := h1
    rw [e]
    refine Or.inr ⟨q2, h2, ⟨_, q1⟩, fun x h0 hk hlt r hr => ?_⟩
    have := h4 (r, x) ((prL_gL L (r, x)).2 ⟨hr, h0⟩) hk
    have : y.2 ≤ x := this
    omega
theorem aL_no {L : List Int} {x : Int} (h : ∀ r, gL L r ≠ x) : aL L x = -1 := by
  rcases aL_spec L x with ⟨i, _, _, h3, _⟩ | ⟨h1, _⟩
  · exact absurd h3 (h _)
  · exact h1
theorem aL_yes {L : List Int} {x : Int} (h0 : 0 ≤ x) (h : ∃ r, gL L r = x) : 0 ≤ aL L x := (aL_pos h0).2 h

theorem below_dr (w : World) : Below w.heap.size w w.drew := ⟨rfl, rfl, rfl, Nat.le_refl _, fun _ _ => rfl⟩

set_option maxHeartbeats 6400000 in
set_option maxRecDepth 100000 in
theorem walk_PermNext (w : World) (a0 : Option Addr) (c0 : Nat) (z0 : List Int) (w0 : ArgI .i64 w a0 c0 z0) (k : Int) (wk : (Lit.int .i64 k).wf = true) :
    Calls Try.prog 12 #[.slice a0 z0.length c0, .int .i64 k] w fun e w' => e = .returned (.bool true) ∧ Below w.heap.size w w' := by
  have hrd := w0.reads
  have hmx := w0.le
  have hmx2 : c0 ≤ 9223372036854775807 := w0.max
  have HRD := Lib.hid hrd
  clear w0 hrd wk
  go_enter Try.func12, Try.ntmps12
  go_wp2_with fail
  refine (new_o 40 rfl (by omega)).mono ?_
  rintro e w1 ⟨p, rfl, h1, hb1⟩
  have HP := Lib.hid h1
  have HB := Lib.hid hb1
  clear h1 hb1
  go_wp2_with fail
  go_loopw [7] (fun v wr => ∃ (i : Nat) (L : List Int), i ≤ z0.length ∧ i ≤ 20 ∧ v = .int .i64 i ∧ PmO w.heap.size wr p i L 40 ∧ L.length = 40 ∧ Below w.heap.size w wr) (fun v _ => z0.length - (intOf v).toNat)
  case atStart => exact ⟨0, List.replicate 40 (-1), Nat.zero_le _, by omega, rfl, HP.out, by simp, HB.out⟩
  case round => as_aux_lemma =>
    obtain ⟨i, L, hi, hi3, rfl, hp, hL, hb⟩ := hrel
    clear HP HB
    by_cases hlt : i < z0.length ∧ i < 20
    · obtain ⟨hlt, h30⟩ := hlt
      obtain ⟨b, off, rfl, hbl, hcells⟩ := HRD.out.some (by omega)
      have hcx := (hb.cell (p := ⟨b, off + i, none⟩) hbl).trans (hcells i hlt)
      generalize hx : z0[i]?.getD 0 = x at *
      obtain ⟨u, hu0, hu⟩ : ∃ u : Int, 0 ≤ u ∧ IntKind.u64.wrap x = u := ⟨IntKind.u64.wrap x, by rw [IntKind.wrap_u64]; omega, rfl⟩
      have hu1 : u < 18446744073709551616 := by rw [← hu, IntKind.wrap_u64]; omega
      have e5 : IntKind.i64.wrap (u.tmod 40) = u % 40 := by
        rw [Int.tmod_eq_emod_of_nonneg (by omega), IntWalk.i64_in] <;> omega
      have e6 : IntKind.i64.wrap ((IntKind.u64.wrap (u.tdiv 40)).tmod 40) = u / 40 % 40 := by
        rw [Int.tdiv_eq_ediv_of_nonneg (by omega)]
        have : IntKind.u64.wrap (u / 40) = u / 40 := by rw [IntKind.wrap_u64]; omega
        rw [this, Int.tmod_eq_emod_of_nonneg (by omega), IntWalk.i64_in] <;> omega
      have HE5 := Lib.hid e5
      have HE6 := Lib.hid e6
      clear e5 e6
      have hadd := pAdd_v hp.1 hp.2.1 hp.2.2.1 hp.2.2.2.1 (u % 40) (u / 40 % 40)
      have HP := Lib.hid hp
      have HLL := Lib.hid hL
      have HB := Lib.hid hb
      have i0 : (0 : Int) ≤ (i : Int) := by omega
      have i1 : (i : Int) < (z0.length : Int) := by omega
      have d1 : decide ((i : Int) < 20) = true := decide_eq_true (by omega)
      have d2 : decide (i < z0.length) = true := decide_eq_true hlt
      have HADD : Hid (∀ W, Below wr.heap.size wr W → Calls Try.prog 28 #[.pointer (some ⟨p, 0, none⟩), .int .i64 (u % 40), .int .i64 (u / 40 % 40)] W fun e w' => e = .returned (.int .i64 (addC L 40 (u % 40) (u / 40 % 40))) ∧ PmO w.heap.size w' p (i + 1) (addL L 40 (u % 40) (u / 40 % 40)) 40 ∧ Below w.heap.size w w') := by
        intro W hW
        have h2 := add_o (HP.out.below hW) (by omega) (x := u % 40) (y := u / 40 % 40) rfl rfl
        refine h2.mono ?_
        rintro e w' ⟨rfl, h3, h4⟩
        exact ⟨rfl, h3, (HB.out.trans (hW.mono HB.out.size)).trans h4⟩
      have KEEP : Hid (∀ W, Below w.heap.size w W → W.cell? ⟨b, off + i, none⟩ = some (.int .i64 x)) := fun W hW => (hW.cell (p := ⟨b, off + i, none⟩) hbl).trans (by rw [hcells i hlt, hx])
      clear hp hL hb hcells hadd hx
      go_upto_region 7 with fail
      -- REGION
      refine reg_start (fun w' => w'.cell? ⟨b, off + i, none⟩ = some (.int .i64 x)) (by kernel_rfl) (hcx) (fun hHeld => ?_)
      refine reg_take (i := 0) (v := ?v0) rfl (by kernel_rfl) rfl hHeld ?y0 ?r0
      case y0 => (intro w hSw; (try dsimp only at hSw); go_simp; all_goals with_reducible rfl)
      try simp only [Act.put, List.setIfInBounds_toArray, List.set_cons_zero, List.set_cons_succ]
      refine reg_take (i := 1) (v := ?v1) rfl (by kernel_rfl) rfl hHeld ?y1 ?r1
      case y1 => (intro w hSw; (try dsimp only at hSw); go_simp; all_goals with_reducible rfl)
      try simp only [Act.put, List.setIfInBounds_toArray, List.set_cons_zero, List.set_cons_succ]
      refine reg_take (i := 2) (v := ?v2) rfl (by kernel_rfl) rfl hHeld ?y2 ?r2
      case y2 => (intro w hSw; (try dsimp only at hSw); go_simp; all_goals with_reducible rfl)
      try simp only [Act.put, List.setIfInBounds_toArray, List.set_cons_zero, List.set_cons_succ]
      refine reg_take (i := 3) (v := ?v3) rfl (by kernel_rfl) rfl hHeld ?y3 ?r3
      case y3 => (intro w hSw; (try dsimp only at hSw); go_simp; all_goals with_reducible rfl)
      try simp only [Act.put, List.setIfInBounds_toArray, List.set_cons_zero, List.set_cons_succ]
      refine reg_take (i := 4) (v := ?v4) rfl (by kernel_rfl) rfl hHeld ?y4 ?r4
      case y4 => (intro w hSw; (try dsimp only at hSw); go_simp; all_goals with_reducible rfl)
      try simp only [Act.put, List.setIfInBounds_toArray, List.set_cons_zero, List.set_cons_succ]
      refine reg_take (i := 5) (v := ?v5) rfl (by kernel_rfl) rfl hHeld ?y5 ?r5
      case y5 => (intro w hSw; (try dsimp only at hSw); go_simp; all_goals with_reducible rfl)
      try simp only [Act.put, List.setIfInBounds_toArray, List.set_cons_zero, List.set_cons_succ]
      refine reg_take (i := 6) (v := ?v6) rfl (by kernel_rfl) rfl hHeld ?y6 ?r6
      case y6 => (intro w hSw; (try dsimp only at hSw); go_simp; all_goals with_reducible rfl)
      try simp only [Act.put, List.setIfInBounds_toArray, List.set_cons_zero, List.set_cons_succ]
      refine reg_take (i := 7) (v := ?v7) rfl (by kernel_rfl) rfl hHeld ?y7 ?r7
      case y7 => (intro w hSw; (try dsimp only at hSw); go_simp; all_goals with_reducible rfl)
      try simp only [Act.put, List.setIfInBounds_toArray, List.set_cons_zero, List.set_cons_succ]
      refine reg_take (i := 8) (v := ?v8) rfl (by kernel_rfl) rfl hHeld ?y8 ?r8
      case y8 => (intro w hSw; (try dsimp only at hSw); go_simp; all_goals with_reducible rfl)
      try simp only [Act.put, List.setIfInBounds_toArray, List.set_cons_zero, List.set_cons_succ]
      refine reg_take (i := 9) (v := ?v9) rfl (by kernel_rfl) rfl hHeld ?y9 ?r9
      case y9 => (intro w hSw; (try dsimp only at hSw); go_simp; all_goals with_reducible rfl)
      try simp only [Act.put, List.setIfInBounds_toArray, List.set_cons_zero, List.set_cons_succ]
      refine reg_take (i := 10) (v := ?v10) rfl (by kernel_rfl) rfl hHeld ?y10 ?r10
      case y10 => (intro w hSw; (try dsimp only at hSw); go_simp; all_goals with_reducible rfl)
      try simp only [Act.put, List.setIfInBounds_toArray, List.set_cons_zero, List.set_cons_succ]
      refine reg_take (i := 11) (v := ?v11) rfl (by kernel_rfl) rfl hHeld ?y11 ?r11
      case y11 => (intro w hSw; (try dsimp only at hSw); go_simp; all_goals with_reducible rfl)
      try simp only [Act.put, List.setIfInBounds_toArray, List.set_cons_zero, List.set_cons_succ]
      refine reg_take (i := 12) (v := ?v12) rfl (by kernel_rfl) rfl hHeld ?y12 ?r12
      case y12 => (intro w hSw; (try dsimp only at hSw); go_simp; all_goals with_reducible rfl)
      try simp only [Act.put, List.setIfInBounds_toArray, List.set_cons_zero, List.set_cons_succ]
      refine reg_take (i := 13) (v := ?v13) rfl (by kernel_rfl) rfl hHeld ?y13 ?r13
      case y13 => (intro w hSw; (try dsimp only at hSw); go_simp; all_goals with_reducible rfl)
      try simp only [Act.put, List.setIfInBounds_toArray, List.set_cons_zero, List.set_cons_succ]
      refine reg_take (i := 14) (v := ?v14) rfl (by kernel_rfl) rfl hHeld ?y14 ?r14
      case y14 => (intro w hSw; (try dsimp only at hSw); go_simp; all_goals with_reducible rfl)
      try simp only [Act.put, List.setIfInBounds_toArray, List.set_cons_zero, List.set_cons_succ]
      refine reg_take (i := 15) (v := ?v15) rfl (by kernel_rfl) rfl hHeld ?y15 ?r15
      case y15 => (intro w hSw; (try dsimp only at hSw); go_simp; all_goals with_reducible rfl)
      try simp only [Act.put, List.setIfInBounds_toArray, List.set_cons_zero, List.set_cons_succ]
      refine reg_loud (i := 16) rfl (by kernel_rfl) rfl (fun K hK => ?_)
      go_simp
      rw [HE5.out, HE6.out]
      ((with_reducible refine (HADD.out _ (below_dr wr)).mono ?_))
      rintro e w2 ⟨rfl, h2, hb2⟩
      have HP2 := Lib.hid h2
      have HB2 := Lib.hid hb2
      have hcx2 := KEEP.out w2 hb2
      clear h2 hb2
      refine hK.out _ _ (hcx2) (fun hNew => ?_)
      clear hK K hHeld
      have hHeld := hNew
      clear hNew
      try simp only [Act.put, List.setIfInBounds_toArray, List.set_cons_zero, List.set_cons_succ]
      refine reg_done (by kernel_rfl) ?_ _
      -- END
      have hl2 : (addL L 40 (u % 40) (u / 40 % 40)).length = 40 := by rw [addL_len]; exact HLL.out
      have HL2 := Lib.hid hl2
      clear hHeld hcx2 hl2
      go_wp2_with fail
      go_roundw
      case rel => exact ⟨i + 1, _, by omega, by omega, by go_num, HP2.out, HL2.out, HB2.out⟩
      case measure => simp [intOf]; omega
    · have HP := Lib.hid hp
      have HB := Lib.hid hb
      have hsp := nextP_spec L k
      have hrg := hp.1.rng
      have hnext := next_o hp (x := k) rfl
      have HNEXT := Lib.hid hnext
      have hor : ¬ i < z0.length ∨ (i < z0.length ∧ ¬ i < 20) := by omega
      obtain ⟨nx, hnx⟩ : ∃ nx, nextP k (prL 0 L) = nx := ⟨_, rfl⟩
      rw [hnx] at hsp HNEXT
      have HSP := Lib.hid hsp
      have HRG := Lib.hid hrg
      clear hp hL hb hnext HRD hsp hrg hnx
      rcases hor with e1 | ⟨e1, e2⟩
      all_goals
        go_wp2_with fail
        refine HNEXT.out.mono ?_
        rintro e w2 ⟨rfl, h2, hb2⟩
        have HP2 := Lib.hid h2
        have HB2 := Lib.hid (HB.out.trans hb2)
        clear h2 hb2 HNEXT HP HB
        rcases HSP.out with ⟨hn1, hno⟩ | ⟨hn0, hnk, hex, hno⟩
        · subst hn1
          have HNO := Lib.hid hno
          clear hno HSP HRG
          go_wp2_with fail
          obtain ⟨M, hM⟩ : ∃ M, max k 0 = M := ⟨_, rfl⟩
          have hM0 : 0 ≤ M := by omega
          have hMk : k ≤ M := by omega
          rw [hM]
          clear hM
          go_loopw [9] (fun v wr => ∃ j : Int, M ≤ j ∧ (j ≤ 40 ∨ j = M) ∧ v = .int .i64 j ∧ PmO w.heap.size wr p i L 40 ∧ Below w.heap.size w wr) (fun v _ => (40 - intOf v).toNat)
          case atStart => exact ⟨M, by omega, Or.inr rfl, rfl, HP2.out, HB2.out⟩
          case round => as_aux_lemma =>
            obtain ⟨j, hj, hj4, rfl, hp, hb⟩ := hrel
            clear HP2 HB2
            by_cases hlt4 : j < 40
            · have hrow := row_o hp (x := j) (code := -1) (aL_no (HNO.out j (by omega) (by omega)))
              have HROW := Lib.hid hrow
              have HBJ := Lib.hid hb
              have d1 : decide (j < 40) = true := decide_eq_true hlt4
              have hj0 : -9000000000 ≤ j := by omega
              clear hp hb hrow HNO
              go_wp2_with fail
              refine HROW.out.mono ?_
              rintro e w3 ⟨rfl, h3, hb3⟩
              have HP3 := Lib.hid h3
              have HB3 := Lib.hid (HBJ.out.trans hb3)
              clear h3 hb3
              go_wp2_with fail
              go_roundw
              case rel => exact ⟨j + 1, by omega, by omega, rfl, HP3.out, HB3.out⟩
              case measure => simp [intOf]; omega
            · have HBJ := Lib.hid hb
              have d1 : decide (j < 40) = false := decide_eq_false hlt4
              clear hp hb HNO
              go_wp2_with fail
              refine (told11_any _).mono ?_
              rintro e w3 ⟨rfl, hb3⟩
              have HB3 := Lib.hid (HBJ.out.trans (hb3.mono HBJ.out.size))
              clear hb3
              go_wp2_with fail
              go_ret
              exact ⟨rfl, HB3.out⟩
        · have hrr := aL_yes hn0 hex
          obtain ⟨r0, hr0⟩ := hex
          have hn4 : nx < 40 := by have := (HRG.out r0).2; omega
          obtain ⟨rr, hrr2⟩ : ∃ rr, aL L nx = rr := ⟨_, rfl⟩
          rw [hrr2] at hrr
          have HROW0 := Lib.hid (row_o HP2.out hrr2)
          have HNO := Lib.hid hno
          have d1 : decide (nx < 0) = false := decide_eq_false (by omega)
          have d2 : decide (nx < max k 0) = false := decide_eq_false (by omega)
          have d3 : decide (40 ≤ nx) = false := decide_eq_false (by omega)
          have d4 : decide (rr < 0) = false := decide_eq_false (by omega)
          clear hno HSP HRG hr0 hrr2
          go_wp2_with fail
          refine HROW0.out.mono ?_
          rintro e w4 ⟨rfl, h4, hb4⟩
          have HP4 := Lib.hid h4
          have HB4 := Lib.hid (HB2.out.trans hb4)
          clear h4 hb4 HROW0 HP2 HB2
          go_wp2_with fail
          obtain ⟨M, hM⟩ : ∃ M, max k 0 = M := ⟨_, rfl⟩
          have hM0 : 0 ≤ M := by omega
          have hMk : k ≤ M := by omega
          rw [hM]
          clear hM d2
          go_loopw [10] (fun v wr => ∃ j : Int, M ≤ j ∧ (j ≤ 40 ∨ j = M) ∧ v = .int .i64 j ∧ PmO w.heap.size wr p i L 40 ∧ Below w.heap.size w wr) (fun v _ => (40 - intOf v).toNat)
          case atStart => exact ⟨M, by omega, Or.inr rfl, rfl, HP4.out, HB4.out⟩
          case round => as_aux_lemma =>
            obtain ⟨j, hj, hj4, rfl, hp, hb⟩ := hrel
            clear HP4 HB4
            by_cases hlt4 : j < nx
            · have hrow := row_o hp (x := j) (code := -1) (aL_no (HNO.out j (by omega) (by omega) hlt4))
              have HROW := Lib.hid hrow
              have HBJ := Lib.hid hb
              have d5 : decide (j < nx) = true := decide_eq_true hlt4
              clear hp hb hrow HNO
              go_wp2_with fail
              refine HROW.out.mono ?_
              rintro e w3 ⟨rfl, h3, hb3⟩
              have HP3 := Lib.hid h3
              have HB3 := Lib.hid (HBJ.out.trans hb3)
              clear h3 hb3
              go_wp2_with fail
              go_roundw
              case rel => exact ⟨j + 1, by omega, by omega, rfl, HP3.out, HB3.out⟩
              case measure => simp [intOf]; omega
            · have HBJ := Lib.hid hb
              have d5 : decide (j < nx) = false := decide_eq_false hlt4
              clear hp hb HNO
              go_wp2_with fail
              refine (told11_any _).mono ?_
              rintro e w3 ⟨rfl, hb3⟩
              have HB3 := Lib.hid (HBJ.out.trans (hb3.mono HBJ.out.size))
              clear hb3
              go_wp2_with fail
              go_ret
              exact ⟨rfl, HB3.out⟩

end Go.Proofs.Ytpbmhdkhkbhgnaa
