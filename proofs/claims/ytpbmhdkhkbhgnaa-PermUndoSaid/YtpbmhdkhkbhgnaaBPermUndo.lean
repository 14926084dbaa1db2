/- The walk of PermUndo. -/
import Derived.Test.YtpbmhdkhkbhgnaaZp5
import Derived.Test.YtpbmhdkhkbhgnaaZp1
namespace Go.Proofs.Ytpbmhdkhkbhgnaa
set_option linter.unusedVariables false
set_option linter.unusedSimpArgs false
open Go.RowKit

theorem below_dr (w : World) : Below w.heap.size w w.drew := ⟨rfl, rfl, rfl, Nat.le_refl _, fun _ _ => rfl⟩
theorem out_ins {α : Type} {l : List α} {k : Nat} {x : α} (h : k ≤ l.length) : outA (insA l k x) k = l := by
  unfold outA insA
  have hl : (l.take k).length = k := by simp; omega
  rw [List.take_append_of_le_length (by omega), List.take_of_length_le (by omega), List.drop_append, hl, show k + 1 - k = 1 by omega, List.drop_eq_nil_of_le (by omega)]
  simp
theorem outP_upP (x y : Int) : outP x (upP x y) = y := by unfold outP upP; (repeat' split) <;> omega
theorem undoP (L : List Int) (x : Int) : (L.map (upP x)).map (outP x) = L := by
  rw [List.map_map]
  have : (outP x ∘ upP x) = id := by funext y; exact outP_upP x y
  rw [this, List.map_id]
theorem upP_ne (L : List Int) {x : Int} (hx : 0 ≤ x) (r : Int) : gL (L.map (upP x)) r ≠ x := by
  rw [gL_map (upP x) (by unfold upP; rw [if_neg (by omega)])]
  unfold upP
  split <;> omega
theorem mv_inv (L : List Int) {a b : Nat} (ha : a < L.length) (hb : b < L.length) : mvL (mvL L a b) b a = L := by
  have hl := mvL_len ha hb
  refine gL_ext (by rw [mvL_len (by omega) (by omega)]; exact hl) (fun i hi => ?_)
  rw [gL_mv (by omega) (by omega), gL_mv ha hb]
  have e : mvI b a (i : Int) = mvR a b (i : Int) := rfl
  rw [e, mv_back]
theorem aL_no' {L : List Int} {x : Int} (h : ∀ r, gL L r ≠ x) : aL L x = -1 := by
  rcases aL_spec L x with ⟨i, _, _, h3, _⟩ | ⟨h1, _⟩
  · exact absurd h3 (h _)
  · exact h1

set_option maxHeartbeats 6400000 in
set_option maxRecDepth 100000 in
theorem walk_PermUndo (w : World) (a0 : Option Addr) (c0 : Nat) (z0 : List Int) (w0 : ArgI .i64 w a0 c0 z0) (k : Int) (wk : (Lit.int .i64 k).wf = true) (fr : Int) (wf : (Lit.int .i64 fr).wf = true) (tt : Int) (wt : (Lit.int .i64 tt).wf = true) :
    Calls Try.prog 15 #[.slice a0 z0.length c0, .int .i64 k, .int .i64 fr, .int .i64 tt] w fun e w' => e = .returned (.bool true) ∧ Below w.heap.size w w' := by
  have hrd := w0.reads
  have hmx := w0.le
  have hmx2 : c0 ≤ 9223372036854775807 := w0.max
  have HRD := Lib.hid hrd
  clear w0 hrd wk wf wt
  go_enter Try.func15, Try.ntmps15
  go_wp2_with fail
  refine (new_o 30 rfl (by omega)).mono ?_
  rintro e w1 ⟨p, rfl, h1, hb1⟩
  have HP := Lib.hid h1
  have HB := Lib.hid hb1
  clear h1 hb1
  go_wp2_with fail
  go_loopw [11] (fun v wr => ∃ (i : Nat) (L : List Int), i ≤ z0.length ∧ i ≤ 20 ∧ v = .int .i64 i ∧ PmO w.heap.size wr p i L 30 ∧ L.length = 30 ∧ Below w.heap.size w wr) (fun v _ => z0.length - (intOf v).toNat)
  case atStart => exact ⟨0, List.replicate 30 (-1), Nat.zero_le _, by omega, rfl, HP.out, by simp, HB.out⟩
  case round => as_aux_lemma =>
    obtain ⟨i, L, hi, hi3, rfl, hp, hL, hb⟩ := hrel
    clear HP HB
    by_cases hlt : i < z0.length ∧ i < 20
    · obtain ⟨hlt, h30⟩ := hlt
      obtain ⟨b, off, rfl, hbl, hcells⟩ := HRD.out.some (by omega)
      have hcx := (hb.cell (p := ⟨b, off + i, none⟩) hbl).trans (hcells i hlt)
      generalize hx : z0[i]?.getD 0 = x at *
      obtain ⟨u, hu0, hu⟩ : ∃ u : Int, 0 ≤ u ∧ IntKind.u64.wrap x = u := ⟨IntKind.u64.wrap x, by rw [IntKind.wrap_u64]; omega, rfl⟩
      have hu1 : u < 18446744073709551616 := by rw [← hu, IntKind.wrap_u64]; omega
      have e5 : IntKind.i64.wrap (u.tmod 30) = u % 30 := by
        rw [Int.tmod_eq_emod_of_nonneg (by omega), IntWalk.i64_in] <;> omega
      have e6 : IntKind.i64.wrap ((IntKind.u64.wrap (u.tdiv 30)).tmod 30) = u / 30 % 30 := by
        rw [Int.tdiv_eq_ediv_of_nonneg (by omega)]
        have : IntKind.u64.wrap (u / 30) = u / 30 := by rw [IntKind.wrap_u64]; omega
        rw [this, Int.tmod_eq_emod_of_nonneg (by omega), IntWalk.i64_in] <;> omega
      have HE5 := Lib.hid e5
      have HE6 := Lib.hid e6
      clear e5 e6
      have HP := Lib.hid hp
      have HLL := Lib.hid hL
      have HB := Lib.hid hb
      have i0 : (0 : Int) ≤ (i : Int) := by omega
      have i1 : (i : Int) < (z0.length : Int) := by omega
      have d1 : decide ((i : Int) < 20) = true := decide_eq_true (by omega)
      have d2 : decide (i < z0.length) = true := decide_eq_true hlt
      have HADD : Hid (∀ W, Below wr.heap.size wr W → Calls Try.prog 28 #[.pointer (some ⟨p, 0, none⟩), .int .i64 (u % 30), .int .i64 (u / 30 % 30)] W fun e w' => e = .returned (.int .i64 (addC L 30 (u % 30) (u / 30 % 30))) ∧ PmO w.heap.size w' p (i + 1) (addL L 30 (u % 30) (u / 30 % 30)) 30 ∧ Below w.heap.size w w') := by
        intro W hW
        have h2 := add_o (HP.out.below hW) (by omega) (x := u % 30) (y := u / 30 % 30) rfl rfl
        refine h2.mono ?_
        rintro e w' ⟨rfl, h3, h4⟩
        exact ⟨rfl, h3, (HB.out.trans (hW.mono HB.out.size)).trans h4⟩
      have KEEP : Hid (∀ W, Below w.heap.size w W → W.cell? ⟨b, off + i, none⟩ = some (.int .i64 x)) := fun W hW => (hW.cell (p := ⟨b, off + i, none⟩) hbl).trans (by rw [hcells i hlt, hx])
      clear hp hL hb hcells hx
      go_upto_region 7 with fail
      -- REGION
      refine reg_start (fun w' => w'.cell? ⟨b, off + i, none⟩ = some (.int .i64 x)) (by kernel_rfl) (hcx) (fun hHeld => ?_)
      refine reg_take (i := 0) (v := ?v0) rfl (by kernel_rfl) rfl hHeld ?y0 ?r0
      case y0 => (intro w hSw; (try dsimp only at hSw); go_simp; all_goals with_reducible rfl)
      try simp only [Act.put, List.setIfInBounds_toArray, List.set_cons_zero, List.set_cons_succ]
      refine reg_take (i := 1) (v := ?v1) rfl (by kernel_rfl) rfl hHeld ?y1 ?r1
      case y1 => (intro w hSw; (try dsimp only at hSw); go_simp; all_goals with_reducible rfl)
      try simp only [Act.put, List.setIfInBounds_toArray, List.set_cons_zero, List.set_cons_succ]
      refine reg_take (i := 2) (v := ?v2) rfl (by kernel_rfl) rfl hHeld ?y2 ?r2
      case y2 => (intro w hSw; (try dsimp only at hSw); go_simp; all_goals with_reducible rfl)
      try simp only [Act.put, List.setIfInBounds_toArray, List.set_cons_zero, List.set_cons_succ]
      refine reg_take (i := 3) (v := ?v3) rfl (by kernel_rfl) rfl hHeld ?y3 ?r3
      case y3 => (intro w hSw; (try dsimp only at hSw); go_simp; all_goals with_reducible rfl)
      try simp only [Act.put, List.setIfInBounds_toArray, List.set_cons_zero, List.set_cons_succ]
      refine reg_take (i := 4) (v := ?v4) rfl (by kernel_rfl) rfl hHeld ?y4 ?r4
      case y4 => (intro w hSw; (try dsimp only at hSw); go_simp; all_goals with_reducible rfl)
      try simp only [Act.put, List.setIfInBounds_toArray, List.set_cons_zero, List.set_cons_succ]
      refine reg_take (i := 5) (v := ?v5) rfl (by kernel_rfl) rfl hHeld ?y5 ?r5
      case y5 => (intro w hSw; (try dsimp only at hSw); go_simp; all_goals with_reducible rfl)
      try simp only [Act.put, List.setIfInBounds_toArray, List.set_cons_zero, List.set_cons_succ]
      refine reg_take (i := 6) (v := ?v6) rfl (by kernel_rfl) rfl hHeld ?y6 ?r6
      case y6 => (intro w hSw; (try dsimp only at hSw); go_simp; all_goals with_reducible rfl)
      try simp only [Act.put, List.setIfInBounds_toArray, List.set_cons_zero, List.set_cons_succ]
      refine reg_take (i := 7) (v := ?v7) rfl (by kernel_rfl) rfl hHeld ?y7 ?r7
      case y7 => (intro w hSw; (try dsimp only at hSw); go_simp; all_goals with_reducible rfl)
      try simp only [Act.put, List.setIfInBounds_toArray, List.set_cons_zero, List.set_cons_succ]
      refine reg_take (i := 8) (v := ?v8) rfl (by kernel_rfl) rfl hHeld ?y8 ?r8
      case y8 => (intro w hSw; (try dsimp only at hSw); go_simp; all_goals with_reducible rfl)
      try simp only [Act.put, List.setIfInBounds_toArray, List.set_cons_zero, List.set_cons_succ]
      refine reg_take (i := 9) (v := ?v9) rfl (by kernel_rfl) rfl hHeld ?y9 ?r9
      case y9 => (intro w hSw; (try dsimp only at hSw); go_simp; all_goals with_reducible rfl)
      try simp only [Act.put, List.setIfInBounds_toArray, List.set_cons_zero, List.set_cons_succ]
      refine reg_take (i := 10) (v := ?v10) rfl (by kernel_rfl) rfl hHeld ?y10 ?r10
      case y10 => (intro w hSw; (try dsimp only at hSw); go_simp; all_goals with_reducible rfl)
      try simp only [Act.put, List.setIfInBounds_toArray, List.set_cons_zero, List.set_cons_succ]
      refine reg_take (i := 11) (v := ?v11) rfl (by kernel_rfl) rfl hHeld ?y11 ?r11
      case y11 => (intro w hSw; (try dsimp only at hSw); go_simp; all_goals with_reducible rfl)
      try simp only [Act.put, List.setIfInBounds_toArray, List.set_cons_zero, List.set_cons_succ]
      refine reg_take (i := 12) (v := ?v12) rfl (by kernel_rfl) rfl hHeld ?y12 ?r12
      case y12 => (intro w hSw; (try dsimp only at hSw); go_simp; all_goals with_reducible rfl)
      try simp only [Act.put, List.setIfInBounds_toArray, List.set_cons_zero, List.set_cons_succ]
      refine reg_take (i := 13) (v := ?v13) rfl (by kernel_rfl) rfl hHeld ?y13 ?r13
      case y13 => (intro w hSw; (try dsimp only at hSw); go_simp; all_goals with_reducible rfl)
      try simp only [Act.put, List.setIfInBounds_toArray, List.set_cons_zero, List.set_cons_succ]
      refine reg_take (i := 14) (v := ?v14) rfl (by kernel_rfl) rfl hHeld ?y14 ?r14
      case y14 => (intro w hSw; (try dsimp only at hSw); go_simp; all_goals with_reducible rfl)
      try simp only [Act.put, List.setIfInBounds_toArray, List.set_cons_zero, List.set_cons_succ]
      refine reg_take (i := 15) (v := ?v15) rfl (by kernel_rfl) rfl hHeld ?y15 ?r15
      case y15 => (intro w hSw; (try dsimp only at hSw); go_simp; all_goals with_reducible rfl)
      try simp only [Act.put, List.setIfInBounds_toArray, List.set_cons_zero, List.set_cons_succ]
      refine reg_loud (i := 16) rfl (by kernel_rfl) rfl (fun K hK => ?_)
      go_simp
      rw [HE5.out, HE6.out]
      ((with_reducible refine (HADD.out _ (below_dr wr)).mono ?_))
      rintro e w2 ⟨rfl, h2, hb2⟩
      have HP2 := Lib.hid h2
      have HB2 := Lib.hid hb2
      have hcx2 := KEEP.out w2 hb2
      clear h2 hb2
      refine hK.out _ _ (hcx2) (fun hNew => ?_)
      clear hK K hHeld
      have hHeld := hNew
      clear hNew
      try simp only [Act.put, List.setIfInBounds_toArray, List.set_cons_zero, List.set_cons_succ]
      refine reg_done (by kernel_rfl) ?_ _
      -- END
      have hl2 : (addL L 30 (u % 30) (u / 30 % 30)).length = 30 := by rw [addL_len]; exact HLL.out
      have HL2 := Lib.hid hl2
      clear hHeld hcx2 hl2
      go_wp2_with fail
      go_roundw
      case rel => exact ⟨i + 1, _, by omega, by omega, by go_num, HP2.out, HL2.out, HB2.out⟩
      case measure => simp [intOf]; omega
    · have HP := Lib.hid hp
      have HB := Lib.hid hb
      have HALL := Lib.hid (all_o hp (l := prL 0 L) rfl)
      have hor : ¬ i < z0.length ∨ (i < z0.length ∧ ¬ i < 20) := by omega
      have HLL := Lib.hid hL
      obtain ⟨u, hu0, hu⟩ : ∃ u : Int, 0 ≤ u ∧ IntKind.u64.wrap k = u := ⟨IntKind.u64.wrap k, by rw [IntKind.wrap_u64]; omega, rfl⟩
      have hu1 : u < 18446744073709551616 := by rw [← hu, IntKind.wrap_u64]; omega
      obtain ⟨v, hv0, hv⟩ : ∃ u : Int, 0 ≤ u ∧ IntKind.u64.wrap fr = u := ⟨IntKind.u64.wrap fr, by rw [IntKind.wrap_u64]; omega, rfl⟩
      have hv1 : v < 18446744073709551616 := by rw [← hv, IntKind.wrap_u64]; omega
      obtain ⟨t, ht0, ht⟩ : ∃ u : Int, 0 ≤ u ∧ IntKind.u64.wrap tt = u := ⟨IntKind.u64.wrap tt, by rw [IntKind.wrap_u64]; omega, rfl⟩
      have ht1 : t < 18446744073709551616 := by rw [← ht, IntKind.wrap_u64]; omega
      obtain ⟨kk, hkk⟩ : ∃ n : Nat, u % 31 = n := ⟨(u % 31).toNat, by omega⟩
      obtain ⟨x, hx⟩ : ∃ n : Nat, v % 30 = n := ⟨(v % 30).toNat, by omega⟩
      obtain ⟨y, hy⟩ : ∃ n : Nat, t % 30 = n := ⟨(t % 30).toNat, by omega⟩
      have hk31 : kk ≤ 30 := by omega
      have hx30 : x < 30 := by omega
      have hy30 : y < 30 := by omega
      have HKK := Lib.hid hkk
      have HX := Lib.hid hx
      have HY := Lib.hid hy
      clear hp hL hb HRD hkk hx hy
      rcases hor with e1 | ⟨e1, e2⟩
      all_goals as_aux_lemma =>
        go_wp2_with fail
        refine HALL.out.mono ?_
        rintro e w2 hg
        obtain ⟨qa, qc, rfl, hown, hb2⟩ := hg
        have hln : (prL 0 L).length ≤ 30 := by
          have : ∀ (l : List Int) (i : Nat), (prL i l).length ≤ l.length := by
            intro l
            induction l with
            | nil => intro i; exact Nat.le_refl _
            | cons y l ih => intro i; unfold prL; split <;> simp <;> have := ih (i + 1) <;> omega
          have := this L 0
          have := HLL.out
          omega
        have hqs := own_slice hown
        have hrw := rdp_own hown rfl
        obtain ⟨la, lc, hlv, _, hlb⟩ := hqs
        injection hlv with ea _ ec
        subst ea
        have hp2 : PmE w.heap.size (fun b => ∃ o, qa = some ⟨b, o, none⟩) w2 p i L 30 := (PmE.of_own HP.out).less hb2 (fun b hb => by
            obtain ⟨o, ho⟩ := hb
            obtain ⟨g, e, hg1, _⟩ := hlb _ ho
            injection e with e _ _
            exact Or.inr (by omega)) (fun b hb => by
            obtain ⟨o, ho⟩ := hb
            obtain ⟨g, e, _, hg2, _⟩ := hlb _ ho
            injection e with e _ _
            omega)
        have hqn : ∀ ad, qa = some ad → ¬ exS w.heap.size (fun b => ∃ o, qa = some ⟨b, o, none⟩) ad.block := fun ad had h => by
          obtain ⟨g, e, _⟩ := hlb ad had
          exact h.2 ⟨0, by rw [had, e]⟩
        generalize hX : (fun b => ∃ o, qa = some (⟨b, o, none⟩ : Addr)) = X at *
        have HQN := Lib.hid hqn
        have HP2 := Lib.hid hp2
        have HRW := Lib.hid hrw
        have HB2 := Lib.hid (HB.out.trans (hb2.mono HB.out.size))
        obtain ⟨ln, hlen⟩ : ∃ ln, (prL 0 L).length = ln := ⟨_, rfl⟩
        have HLEN := Lib.hid hlen
        rw [hlen]
        have hln30 : ln ≤ 30 := by omega
        clear hown hb2 hlb hrw hp2 hqn hX HP HB HALL hlen hln ec
        go_wp2_with fail
        rw [HKK.out, HX.out, HY.out]
        have hL30 : L.length = 30 := HLL.out
        obtain ⟨g0, hg0⟩ : ∃ g0, gL L x = g0 := ⟨_, rfl⟩
        have D1 : Hid (gL L x = g0) := hg0
        have A1 : Hid (okC (rowInB L kk) = 0) := by
          show okC (rowInB L kk) = 0
          have : rowInB L kk = true := by unfold rowInB; simp; omega
          rw [this]; rfl
        have A2 : Hid (rowInL L kk = insA L kk (-1)) := by
          show rowInL L kk = insA L kk (-1)
          have : rowInB L kk = true := by unfold rowInB; simp; omega
          unfold rowInL; rw [this]; rfl
        have A3 : Hid ((insA L kk (-1)).length ≤ 1000000) := by
          show (insA L kk (-1)).length ≤ 1000000
          rw [insA_len (by omega)]; omega
        have A4 : Hid (gL (insA L kk (-1)) kk = -1) := by
          show gL (insA L kk (-1)) kk = -1
          rw [gL_ins (by omega), if_neg (by omega), if_pos rfl]
        have A5 : Hid (okC (rowB (insA L kk (-1)) kk) = 0) := by
          show okC (rowB (insA L kk (-1)) kk) = 0
          have : rowB (insA L kk (-1)) kk = true := by unfold rowB; rw [insA_len (by omega)]; simp; omega
          rw [this]; rfl
        have A6 : Hid (rowOutL (insA L kk (-1)) kk = L) := by
          show rowOutL (insA L kk (-1)) kk = L
          have : rowB (insA L kk (-1)) kk = true := by unfold rowB; rw [insA_len (by omega)]; simp; omega
          unfold rowOutL; rw [this]; exact out_ins (by omega)
        have C1 : Hid (okC (posInB 30 kk) = 0) := by
          show okC (posInB 30 kk) = 0
          have : posInB 30 kk = true := by unfold posInB; simp; omega
          rw [this]; rfl
        have C2 : Hid (posInL L 30 kk = L.map (upP kk)) := by
          show posInL L 30 kk = L.map (upP kk)
          have : posInB 30 kk = true := by unfold posInB; simp; omega
          unfold posInL; rw [this]; rfl
        have C3 : Hid (posInN 30 kk = 31) := by
          show posInN 30 kk = 31
          have : posInB 30 kk = true := by unfold posInB; simp; omega
          unfold posInN; rw [this]; rfl
        have C4 : Hid (aL (L.map (upP kk)) kk = -1) := by
          show aL (L.map (upP kk)) kk = -1
          exact aL_no' (upP_ne L (by omega))
        have C5 : Hid (okC (posB 31 kk) = 0) := by
          show okC (posB 31 kk) = 0
          have : posB 31 kk = true := by unfold posB; simp; omega
          rw [this]; rfl
        have C6 : Hid (posOutL (L.map (upP kk)) 31 kk = L) := by
          show posOutL (L.map (upP kk)) 31 kk = L
          have : posB 31 kk = true := by unfold posB; simp; omega
          unfold posOutL; rw [this]; exact undoP L kk
        have C7 : Hid (posOutN 31 kk = 30) := by
          show posOutN 31 kk = 30
          have : posB 31 kk = true := by unfold posB; simp; omega
          unfold posOutN; rw [this]; rfl
        have D2 : Hid (okC (rowB L x && rowB L y) = 0) := by
          show okC (rowB L x && rowB L y) = 0
          have e1 : rowB L x = true := by unfold rowB; simp; omega
          have e2 : rowB L y = true := by unfold rowB; simp; omega
          rw [e1, e2]; rfl
        have D3 : Hid (moveL L x y = mvL L x y) := by
          show moveL L x y = mvL L x y
          have e1 : rowB L x = true := by unfold rowB; simp; omega
          have e2 : rowB L y = true := by unfold rowB; simp; omega
          unfold moveL; rw [e1, e2]; rfl
        have D4 : Hid (gL (mvL L x y) y = g0) := by
          show gL (mvL L x y) y = g0
          rw [gL_mv (by omega) (by omega)]
          have e : mvI x y y = x := by unfold mvI; rw [if_pos rfl]
          rw [e]; exact hg0
        have D5 : Hid (okC (rowB (mvL L x y) y && rowB (mvL L x y) x) = 0) := by
          show okC (rowB (mvL L x y) y && rowB (mvL L x y) x) = 0
          have hl := mvL_len (L := L) (a := x) (b := y) (by omega) (by omega)
          have e1 : rowB (mvL L x y) x = true := by unfold rowB; simp; omega
          have e2 : rowB (mvL L x y) y = true := by unfold rowB; simp; omega
          rw [e1, e2]; rfl
        have D6 : Hid (moveL (mvL L x y) y x = L) := by
          show moveL (mvL L x y) y x = L
          have hl := mvL_len (L := L) (a := x) (b := y) (by omega) (by omega)
          have e1 : rowB (mvL L x y) x = true := by unfold rowB; simp; omega
          have e2 : rowB (mvL L x y) y = true := by unfold rowB; simp; omega
          unfold moveL; rw [e1, e2]; exact mv_inv L (by omega) (by omega)
        have dg : (g0 != g0) = false := by simp
        clear hL30 hg0
        have HRW2 := HRW
        clear HRW
        go_wp2_with fail
        refine (rowIn_e HP2.out A1.out A2.out A3.out).mono ?_
        rintro e w3 ⟨rfl, h3, hc3⟩
        have HP3 := Lib.hid h3
        have HRW3 := Lib.hid (HRW2.out.chg hc3 HQN.out)
        have HB3 := Lib.hid (HB2.out.trans (exS_below hc3 HP2.out.le))
        clear h3 hc3 HP2 HRW2 HB2
        go_wp2_with fail
        refine (pos_e HP3.out A4.out).mono ?_
        rintro e w4 ⟨rfl, h4, hc4⟩
        have HP4 := Lib.hid h4
        have HRW4 := Lib.hid (HRW3.out.chg hc4 HQN.out)
        have HB4 := Lib.hid (HB3.out.trans (exS_below hc4 HP3.out.le))
        clear h4 hc4 HP3 HRW3 HB3
        go_wp2_with fail
        refine (rowOut_e HP4.out A5.out A6.out).mono ?_
        rintro e w5 ⟨rfl, h5, hc5⟩
        have HP5 := Lib.hid h5
        have HRW5 := Lib.hid (HRW4.out.chg hc5 HQN.out)
        have HB5 := Lib.hid (HB4.out.trans (exS_below hc5 HP4.out.le))
        clear h5 hc5 HP4 HRW4 HB4
        go_wp2_with fail
        refine (all_e HP5.out (l := prL 0 L) rfl).mono ?_
        rintro e w6 hg
        obtain ⟨qb, qd, rfl, hown, hb6⟩ := hg
        have hr2 := rdp_own hown rfl
        have HPAIR := Lib.hid (pairs_true (c := qd) (d := qc) (n := (prL 0 L).length) (m := ln) (prL 0 L) rfl HLEN.out.symm hr2 (HRW5.out.below hb6) (by have := HLEN.out; omega))
        have HP6 := Lib.hid (HP5.out.below hb6)
        have HRW6 := Lib.hid (HRW5.out.below hb6)
        have HB6 := Lib.hid (HB5.out.trans (hb6.mono HP5.out.le))
        clear hown hb6 hr2 HP5 HRW5 HB5
        go_wp2_with fail
        refine HPAIR.out.mono ?_
        rintro e w7 ⟨rfl, hb7⟩
        have HP7 := Lib.hid (HP6.out.below hb7)
        have HRW7 := Lib.hid (HRW6.out.below hb7)
        have HB7 := Lib.hid (HB6.out.trans (hb7.mono HP6.out.le))
        clear hb7 HPAIR HP6 HRW6 HB6
        go_wp2_with fail
        refine (posIn_e HP7.out C1.out C2.out C3.out (by omega)).mono ?_
        rintro e w8 ⟨rfl, h8, hc8⟩
        have HP8 := Lib.hid h8
        have HRW8 := Lib.hid (HRW7.out.chg hc8 HQN.out)
        have HB8 := Lib.hid (HB7.out.trans (exS_below hc8 HP7.out.le))
        clear h8 hc8 HP7 HRW7 HB7
        go_wp2_with fail
        refine (row_e HP8.out C4.out).mono ?_
        rintro e w9 ⟨rfl, h9, hc9⟩
        have HP9 := Lib.hid h9
        have HRW9 := Lib.hid (HRW8.out.chg hc9 HQN.out)
        have HB9 := Lib.hid (HB8.out.trans (exS_below hc9 HP8.out.le))
        clear h9 hc9 HP8 HRW8 HB8
        go_wp2_with fail
        refine (posOut_e HP9.out C5.out C6.out C7.out).mono ?_
        rintro e w10 ⟨rfl, h10, hc10⟩
        have HP10 := Lib.hid h10
        have HRW10 := Lib.hid (HRW9.out.chg hc10 HQN.out)
        have HB10 := Lib.hid (HB9.out.trans (exS_below hc10 HP9.out.le))
        clear h10 hc10 HP9 HRW9 HB9
        go_wp2_with fail
        refine (all_e HP10.out (l := prL 0 L) rfl).mono ?_
        rintro e w11 hg
        obtain ⟨qb, qd, rfl, hown, hb11⟩ := hg
        have hr2 := rdp_own hown rfl
        have HPAIR := Lib.hid (pairs_true (c := qd) (d := qc) (n := (prL 0 L).length) (m := ln) (prL 0 L) rfl HLEN.out.symm hr2 (HRW10.out.below hb11) (by have := HLEN.out; omega))
        have HP11 := Lib.hid (HP10.out.below hb11)
        have HRW11 := Lib.hid (HRW10.out.below hb11)
        have HB11 := Lib.hid (HB10.out.trans (hb11.mono HP10.out.le))
        clear hown hb11 hr2 HP10 HRW10 HB10
        go_wp2_with fail
        refine HPAIR.out.mono ?_
        rintro e w12 ⟨rfl, hb12⟩
        have HP12 := Lib.hid (HP11.out.below hb12)
        have HRW12 := Lib.hid (HRW11.out.below hb12)
        have HB12 := Lib.hid (HB11.out.trans (hb12.mono HP11.out.le))
        clear hb12 HPAIR HP11 HRW11 HB11
        go_wp2_with fail
        refine (pos_e HP12.out D1.out).mono ?_
        rintro e w13 ⟨rfl, h13, hc13⟩
        have HP13 := Lib.hid h13
        have HRW13 := Lib.hid (HRW12.out.chg hc13 HQN.out)
        have HB13 := Lib.hid (HB12.out.trans (exS_below hc13 HP12.out.le))
        clear h13 hc13 HP12 HRW12 HB12
        go_wp2_with fail
        refine (rowMove_e HP13.out D2.out D3.out).mono ?_
        rintro e w14 ⟨rfl, h14, hc14⟩
        have HP14 := Lib.hid h14
        have HRW14 := Lib.hid (HRW13.out.chg hc14 HQN.out)
        have HB14 := Lib.hid (HB13.out.trans (exS_below hc14 HP13.out.le))
        clear h14 hc14 HP13 HRW13 HB13
        go_wp2_with fail
        refine (pos_e HP14.out D4.out).mono ?_
        rintro e w15 ⟨rfl, h15, hc15⟩
        have HP15 := Lib.hid h15
        have HRW15 := Lib.hid (HRW14.out.chg hc15 HQN.out)
        have HB15 := Lib.hid (HB14.out.trans (exS_below hc15 HP14.out.le))
        clear h15 hc15 HP14 HRW14 HB14
        go_wp2_with fail
        refine (rowMove_e HP15.out D5.out D6.out).mono ?_
        rintro e w16 ⟨rfl, h16, hc16⟩
        have HP16 := Lib.hid h16
        have HRW16 := Lib.hid (HRW15.out.chg hc16 HQN.out)
        have HB16 := Lib.hid (HB15.out.trans (exS_below hc16 HP15.out.le))
        clear h16 hc16 HP15 HRW15 HB15
        go_wp2_with fail
        refine (told11_any _).mono ?_
        rintro e w17 ⟨rfl, hb17⟩
        have HP17 := Lib.hid (HP16.out.below hb17)
        have HRW17 := Lib.hid (HRW16.out.below hb17)
        have HB17 := Lib.hid (HB16.out.trans (hb17.mono HP16.out.le))
        clear hb17 HP16 HRW16 HB16
        go_wp2_with fail
        refine (all_e HP17.out (l := prL 0 L) rfl).mono ?_
        rintro e w18 hg
        obtain ⟨qb, qd, rfl, hown, hb18⟩ := hg
        have hr2 := rdp_own hown rfl
        have HPAIR := Lib.hid (pairs_true (c := qd) (d := qc) (n := (prL 0 L).length) (m := ln) (prL 0 L) rfl HLEN.out.symm hr2 (HRW17.out.below hb18) (by have := HLEN.out; omega))
        have HP18 := Lib.hid (HP17.out.below hb18)
        have HRW18 := Lib.hid (HRW17.out.below hb18)
        have HB18 := Lib.hid (HB17.out.trans (hb18.mono HP17.out.le))
        clear hown hb18 hr2 HP17 HRW17 HB17
        go_wp2_with fail
        refine HPAIR.out.mono ?_
        rintro e w19 ⟨rfl, hb19⟩
        have HP19 := Lib.hid (HP18.out.below hb19)
        have HRW19 := Lib.hid (HRW18.out.below hb19)
        have HB19 := Lib.hid (HB18.out.trans (hb19.mono HP18.out.le))
        clear hb19 HPAIR HP18 HRW18 HB18
        go_wp2_with fail
        go_ret
        exact ⟨rfl, HB19.out⟩

end Go.Proofs.Ytpbmhdkhkbhgnaa
