/- The walk of TallyPlays. -/
import Derived.Test.YteapkoomingdfaaRefRank
import Derived.Test.YteapkoomingdfaaArgsP
import Derived.Test.YteapkoomingdfaaRef6
import Derived.Deep.DeepCutAuto
import Derived.Deep.CutBlock
import Derived.Deep.CutRange
namespace Go.Proofs.Yteapkoomingdfaa
set_option linter.unusedVariables false
set_option linter.unusedSimpArgs false
open Go.RowKit

theorem ofzero (w : World) : (zeroValue 63).run Try.prog w = .ok (.agg (ofV (fun _ => 0)).toArray) w := by kernel_rfl

/-- The reference's array, behind a store. -/
theorem of_set {w : World} {Q s : Nat} {N : Nat → Int} {T : TypeId} (hq : w.heap[Q]? = some (.cells (ofV N).toArray T (0, 0))) (hs : s < 257) (v : Int) :
    (w.setCell ⟨Q, s, none⟩ (.int .i64 v)).heap[Q]? = some (.cells (ofV (upd N s v)).toArray T (0, 0)) := by
  have h := heap_setCell_same w Q s _ _ (.int .i64 v) hq
  rw [List.setIfInBounds_toArray, ofV_set _ hs] at h
  exact h
theorem TAt.set {B : Nat} {w : World} {p : Nat} {t : Tl} (h : TAt B w p t) {Q s : Nat} (hne : ¬ Q = p) (u : Value) : TAt B (w.setCell ⟨Q, s, none⟩ u) p t :=
  ⟨h.1.chg (S := fun k => k = Q) ((Chg.refl (S := fun k => k = Q)).setCell ⟨Q, s, none⟩ (Or.inl rfl) u) (fun h => hne h.symm), h.2⟩
theorem below_set {B : Nat} {w w' : World} (h : Below B w w') (hB : B ≤ w'.heap.size) {Q s : Nat} (hQ : B ≤ Q) (u : Value) : Below B w (w'.setCell ⟨Q, s, none⟩ u) :=
  h.trans (((Chg.refl (S := fun k => k = Q)).setCell ⟨Q, s, none⟩ (Or.inl rfl) u).below (fun b hb => by rw [hb]; exact hQ) hB)
theorem cnt_upd (l : List Int) {j s : Nat} (h : j < l.length) (hs : l[j]?.getD 0 = (s : Int)) : upd (fun (x : Nat) => ((cnt (l.take j) (x : Int) : Nat) : Int)) s (((cnt (l.take j) (s : Int) : Nat) : Int) + 1) = fun (x : Nat) => ((cnt (l.take (j + 1)) (x : Int) : Nat) : Int) := by
  funext x
  rw [cnt_take_succ h, hs]
  unfold upd
  by_cases e : x = s
  · subst e; simp
  · rw [if_neg e, if_neg (by omega)]; simp

theorem quiet_eq {P : Program} {f : FuncId} {args : Array Value} {w : World} {n : Nat} {v : Value}
    (h : Calls P f args (w.drewN n) fun e w' => e = .returned v ∧ w.drewN n = w') : Calls P f args (w.drewN n) fun e w'' => e = .returned v ∧ ∃ m, w'' = w.drewN m :=
  h.mono fun _ _ ⟨he, hm⟩ => ⟨he, n, hm.symm⟩

theorem refIs_lit {s : Int} {b : Bool} (h : symIs s = b) (w : World) : Calls Try.prog 48 #[.int .i64 s] w fun e w' => e = .returned (.bool b) ∧ w = w' := by
  subst h; exact refIs_any s w

theorem rng64 {q : Int} (h : (Lit.int .i64 q).wf = true) : -9223372036854775808 ≤ q ∧ q ≤ 9223372036854775807 := by
  simp [Lit.wf, IntKind.min, IntKind.max, IntKind.signed, IntKind.bits] at h
  omega

set_option maxHeartbeats 3200000 in
set_option maxRecDepth 100000 in
theorem walk_TallyPlays (w : World) (a0 : Option Addr) (c0 : Nat) (z0 : List Int) (w0 : ArgI .i64 w a0 c0 z0) (few : Bool) (a2 : Option Addr) (c2 : Nat) (z2 : List (Int × Int)) (w2 : ArgP w a2 c2 z2) (q : Int) (w3 : (Lit.int .i64 q).wf = true) :
    Calls Try.prog 15 #[.slice a0 z0.length c0, .bool few, .slice a2 z2.length c2, .int .i64 q] w fun e w' => e = .returned (.bool true) ∧ Below w.heap.size w w' := by
  have hrd := w0.reads
  have hmx := w0.le
  have hmx2 : c0 ≤ 9223372036854775807 := w0.max
  have hrp := w2.reads
  have hmp := w2.le
  have hmp2 : c2 ≤ 9223372036854775807 := w2.max
  have hq := rng64 w3
  obtain ⟨hq0, hq1⟩ := hq
  clear w0 w2 w3
  go_enter Try.func15, Try.ntmps15
  go_upto_block 0 with fail
  go_cut [9] (fun v wx => ∃ ms : List Int, ms.length ≤ 100 ∧ (∀ x ∈ ms, 0 ≤ x ∧ x < 257) ∧ wx.ownsRow w.heap.size 3 1 v ms.length (ms.map (Value.int .i64)) ∧ Below w.heap.size w wx)
  case first => as_aux_lemma =>
    go_wp2_with fail
    go_loopw [9, 10] (fun v i wr => ∃ k : Nat, k ≤ z0.length ∧ k ≤ 100 ∧ i = .int .i64 k ∧ ∃ ms : List Int, ms.length = k ∧ (∀ x ∈ ms, 0 ≤ x ∧ x < 257) ∧ wr.ownsRow w.heap.size 3 1 v k (ms.map (Value.int .i64)) ∧ Below w.heap.size w wr) (fun _ i _ => z0.length - (intOf i).toNat)
    case atStart => exact ⟨0, by omega, by omega, rfl, [], rfl, by simp, World.ownsRow_nil _ _ _ _, Below.refl _ _⟩
    case round => as_aux_lemma =>
      obtain ⟨k, hk, hk6, rfl, ms, hms, hsy, hown, hb⟩ := hrel
      have hs0 := hb.size
      by_cases hlt : k < z0.length ∧ k < 100
      · obtain ⟨hlt, h60⟩ := hlt
        obtain ⟨b, off, rfl, hbl, hcells⟩ := hrd.some (by omega)
        have hcx := (hb.cell (p := ⟨b, off + k, none⟩) hbl).trans (hcells k hlt)
        generalize z0[k]?.getD 0 = x at *
        clear hcells hrp
        obtain ⟨u, hu0, hu⟩ := u64_of2 x
        have push : ∀ y : Int, 0 ≤ y → y < 257 → (∀ x ∈ ms ++ [y], 0 ≤ x ∧ x < 257) ∧ (ms ++ [y]).length = k + 1 ∧ (ms ++ [y]).map (Value.int .i64) = ms.map (Value.int .i64) ++ [Value.int .i64 y] := by
          intro y h0 h1
          refine ⟨?_, by simp [hms], List.map_append⟩
          intro x hx
          rcases List.mem_append.1 hx with h | h
          · exact hsy x h
          · rw [List.mem_singleton.1 h]; exact ⟨h0, h1⟩
        have HP := Lib.hid push
        have e5 : IntKind.i64.wrap ((u % 257).tmod 5) = u % 257 % 5 := by
          rw [Int.tmod_eq_emod_of_nonneg (by omega), IntWalk.i64_in] <;> omega
        generalize ms.map (Value.int .i64) = row at *
        clear hsy hms hrd push
        cases few
        all_goals
          go_wp2_with (at_builtin; refine wpList_push rfl _ _ 32 rfl w.heap.size 3 Try.infoIntU Try.underlying32 rfl _ _ _ rfl hown rfl rfl ?c1 ?c2 ?c3 ?_)
          case c1 => unfold maxLen; omega
          case c2 => omega
          case c3 => omega
          intro v' w1 hown' hgrow
          have hnx' : Below w.heap.size w w1 := hb.grown hgrow hs0 (fun j hj => (hown.lt j hj).1)
          clear hown hgrow e5
          go_wp2_with fail
          go_roundw
          case rel =>
            first
              | exact ⟨k + 1, by omega, by omega, by simp, _, (HP.out (u % 257) (by omega) (by omega)).2.1, (HP.out (u % 257) (by omega) (by omega)).1, by rw [(HP.out (u % 257) (by omega) (by omega)).2.2]; exact hown', hnx'⟩
              | exact ⟨k + 1, by omega, by omega, by simp, _, (HP.out (u % 257 % 5) (by omega) (by omega)).2.1, (HP.out (u % 257 % 5) (by omega) (by omega)).1, by rw [(HP.out (u % 257 % 5) (by omega) (by omega)).2.2]; exact hown', hnx'⟩
          case measure => simp [intOf]; omega
      · have hor : ¬ k < z0.length ∨ (k < z0.length ∧ ¬ k < 100) := by omega
        rcases hor with h1 | ⟨h1, h2⟩
        all_goals
          go_wp2_with fail
          go_meet
          case rel => exact ⟨ms, by omega, hsy, by rw [hms]; exact hown, hb⟩
  case rest => as_aux_lemma =>
    obtain ⟨ms, hms, hsy, hown, hb⟩ := hcut
    have hs0 := hb.size
    obtain ⟨la, lc, rfl, _, hla⟩ := own_slice hown
    have hrd2 := own_reads hown
    have hnew := tnew_at (c := lc) ms hrd2 rfl hsy (by omega)
    have HNEW := Lib.hid hnew
    have HRP := Lib.hid hrp
    clear hown hnew hrp hrd
    go_wp2_with fail
    refine HNEW.out.mono ?_
    rintro e w1 ⟨p, rfl, hT, hb1⟩
    have hT : TAt w.heap.size w1 p (Tl.of ms) := ⟨hT.1, Nat.le_trans hs0 hT.2⟩
    have hb2 := hb.trans (hb1.mono hs0)
    have hs1 := hb2.size
    have hb1s := hb1.size
    have hrd3 := hrd2.below hb1
    clear hb hb1 HNEW hrd2
    by_cases hlen : 60 < z2.length
    · have d1 : decide ((60 : Int) < (z2.length : Int)) = true := by simp; omega
      go_wp2_with fail
      refine (told8_any _).mono ?_
      rintro e w5 ⟨rfl, hb9⟩
      go_wp2_with fail
      go_ret
      exact ⟨rfl, hb2.trans (hb9.mono hs1)⟩
    · have d1 : decide ((60 : Int) < (z2.length : Int)) = false := by simp; omega
      have hz := ofzero
      have hQB : w.heap.size ≤ w1.heap.size := hs1
      have hq0' := heap_alloc_new w1 (.cells (ofV (fun _ => 0)).toArray 63)
      have hT1 := hT.chg (w' := w1.alloc (.cells (ofV (fun _ => 0)).toArray 63)) ((Below.refl _ _).alloc (Nat.le_refl _) _)
      have hb3 := hb2.alloc hs1 (.cells (ofV (fun _ => 0)).toArray 63)
      have hrd4 := hrd3.below (w' := w1.alloc (.cells (ofV (fun _ => 0)).toArray 63)) ((Below.refl _ _).alloc (Nat.le_refl _) _)
      have hqp : ¬ w1.heap.size = p := fun h => by
        have := hT.1.lt
        omega
      have hlaq : ∀ ad, la = some ad → ¬ ad.block = w1.heap.size := fun ad h => by
        obtain ⟨g, rfl, _, hg, _⟩ := hla ad h
        show ¬ g = _
        have := hb1s
        omega
      have HLAQ := Lib.hid hlaq
      have hV0 : (ofV (fun _ => 0)).toArray = (ofV (fun (x : Nat) => ((cnt (ms.take 0) (x : Int) : Nat) : Int))).toArray := rfl
      have HV0 := Lib.hid hV0
      have hle0 := hms
      clear hT hb2 hrd3 hlaq hla hV0
      generalize hV : (ofV (fun _ => 0)).toArray = V at *
      go_wp2_with fail
      generalize w1.alloc (.cells V 63) = w2 at *
      generalize w1.heap.size = Q at *
      rw [HV0.out] at hq0'
      clear hz hV HV0
      go_loopw [15] (fun i wr => ∃ j : Nat, j ≤ ms.length ∧ i = .int .i64 j ∧ wr.heap[Q]? = some (.cells (ofV (fun (x : Nat) => ((cnt (ms.take j) (x : Int) : Nat) : Int))).toArray 63 (0, 0)) ∧ TAt w.heap.size wr p (Tl.of ms) ∧ Reads wr .i64 la ms ∧ Below w.heap.size w wr) (fun i _ => ms.length - (intOf i).toNat)
      case atStart => exact ⟨0, by omega, rfl, hq0', hT1, hrd4, hb3⟩
      case round => as_aux_lemma =>
        clear hq0' hT1 hrd4 hb3
        obtain ⟨j, hj, rfl, hQ, hT, hrd, hb⟩ := hrel
        have hs0 := hb.size
        by_cases hlt : j < ms.length
        · obtain ⟨b, off, rfl, hbl, hcells⟩ := hrd.some (by omega)
          have hcx := hcells j hlt
          have hsx := hsy (ms[j]?.getD 0) (by rw [List.getElem?_eq_getElem hlt]; exact List.getElem_mem _)
          obtain ⟨s, hs⟩ := Int.eq_ofNat_of_zero_le hsx.1
          have hs7 : s < 257 := by omega
          have hup := cnt_upd ms hlt hs
          have HUP := Lib.hid hup
          rw [hs] at hcx
          have hcq : wr.cell? ⟨Q, s, none⟩ = some (.int .i64 ((cnt (ms.take j) (s : Int) : Nat) : Int)) := by
            rw [cell_of_row wr Q s _ _ _ hQ, List.getElem?_toArray, ofV_get _ hs7]
          have hfz : wr.frozen? ⟨Q, s, none⟩ = false := frozen_of_row wr Q s _ _ hQ
          have hcl := cnt_le (ms.take j) (s : Int)
          rw [List.length_take] at hcl
          have hm0 : 0 ≤ ((cnt (ms.take j) (s : Int) : Nat) : Int) := by omega
          have hm1 : ((cnt (ms.take j) (s : Int) : Nat) : Int) ≤ 100 := by omega
          clear hcl
          have HQS := Lib.hid (of_set hQ hs7 (((cnt (ms.take j) (s : Int) : Nat) : Int) + 1))
          have HTS := Lib.hid (hT.set (s := s) hqp (.int .i64 (((cnt (ms.take j) (s : Int) : Nat) : Int) + 1)))
          have HBS := Lib.hid (below_set hb hs0 (s := s) hQB (.int .i64 (((cnt (ms.take j) (s : Int) : Nat) : Int) + 1)))
          have HRS := Lib.hid (((Chg.refl (S := fun k => k = Q)).setCell ⟨Q, s, none⟩ (Or.inl rfl) (.int .i64 (((cnt (ms.take j) (s : Int) : Nat) : Int) + 1))).reads hrd HLAQ.out)
          rw [hup] at HQS
          generalize ((cnt (ms.take j) (s : Int) : Nat) : Int) = m at *
          clear hcells hsx hs hup hQ hT hrd hb hsy
          go_wp2_with fail
          go_roundw
          case rel => exact ⟨j + 1, by omega, by simp, HQS.out, HTS.out, HRS.out, HBS.out⟩
          case measure => simp [intOf]; omega
        · obtain ⟨wo, rfl⟩ : ∃ wo : World, wo = wr := ⟨_, rfl⟩
          have hjm : j = ms.length := by omega
          have hQ1 : wo.heap[Q]? = some (.cells (ofV (Tl.of ms).N).toArray 63 (0, 0)) := by
            rw [hjm, List.take_length] at hQ; exact hQ
          have hall : ((ms.length : Nat) : Int) = (Tl.of ms).all := rfl
          have HALL := Lib.hid hall
          generalize Tl.of ms = t at *
          clear hQ hjm hall hrd hsy
          go_wp2_with fail
          rw [HALL.out]
          go_loopw [16, 17] (fun n i wr => ∃ j : Nat, j ≤ z2.length ∧ i = .int .i64 j ∧ ∃ t : Tl, n = .int .i64 t.all ∧ TAt w.heap.size wr p t ∧ wr.heap[Q]? = some (.cells (ofV t.N).toArray 63 (0, 0)) ∧ Below w.heap.size w wr) (fun _ i _ => z2.length - (intOf i).toNat)
          case atStart => exact ⟨0, by omega, rfl, t, rfl, hT, hQ1, hb⟩
          case round => as_aux_lemma =>
            clear hT hQ1 hb HALL
            obtain ⟨i, hi, rfl, t, rfl, hT, hQ, hb⟩ := hrel
            have hs0 := hb.size
            by_cases hlt : i < z2.length
            · obtain ⟨b, off, rfl, hbl, hcells⟩ := HRP.out i hlt
              have hcx := (hb.cell (p := ⟨b, off + i * 2, none⟩) hbl).trans (hcells i hlt).1
              have hcy := (hb.cell (p := ⟨b, off + i * 2 + 1, none⟩) hbl).trans (hcells i hlt).2
              generalize (z2[i]?.getD (0, 0)).1 = x at *
              generalize (z2[i]?.getD (0, 0)).2 = y at *
              clear hcells
              have KEEP : Hid (∀ n, TAt w.heap.size (wr.drewN n) p t ∧ (wr.drewN n).heap[Q]? = some (.cells (ofV t.N).toArray 63 (0, 0)) ∧ Below w.heap.size w (wr.drewN n)) :=
                fun n => ⟨hT.chg (below_drewN (Below.refl _ _) n), hQ, below_drewN hb n⟩
              go_wp2_with fail
              go_quiet (fail)
              have e8 : IntKind.i64.wrap ((i : Int).tmod 8) = (i : Int) % 8 := by
                rw [Int.tmod_eq_emod_of_nonneg (by omega), IntWalk.i64_in] <;> omega
              go_upto_if 101 with fail
              clear e8
              go_cut [18, 19] from 83 to 221 (fun s k wx => (TAt w.heap.size wx p t ∧ wx.heap[Q]? = some (.cells (ofV t.N).toArray 63 (0, 0)) ∧ Below w.heap.size w wx) ∧ ∃ s' k' : Int, s = .int .i64 s' ∧ k = .int .i64 k')
              case first => as_aux_lemma =>
                obtain ⟨ux, hux, hwx⟩ := u64_of2 x
                obtain ⟨uy, huy, hwy⟩ := u64_of2 y
                by_cases h7 : (i : Int) % 8 < 7
                all_goals
                  clear hcx hcy hT hQ hb
                  go_wp2_with fail
                  go_meet
                  case rel => exact ⟨KEEP.out _, _, _, rfl, rfl⟩
              case rest => as_aux_lemma =>
                clear hT hQ hb hs0 KEEP hcx hcy
                obtain ⟨⟨hT, hQ, hb⟩, s, k, rfl, rfl⟩ := hcut
                have hs0 := hb.size
                go_wp2_with fail
                refine (tAdd_any hT.1 s k).mono ?_
                rintro e w3 ⟨rfl, hT3, hc3⟩
                have hT4 : TAt w.heap.size w3 p (t.step s k).2 := ⟨hT3, hT.2⟩
                have hQ4 := hc3.heap hQ hqp
                have hb4 : Below w.heap.size w w3 := hb.trans (hc3.below (fun b hb => by rw [hb]; exact hT.2) hs0)
                have hok := hT.1.ok
                have hs4 := hb4.size
                clear hT3 hc3 hT hQ hb hs0
                go_upto_block 6 with fail
                go_cut [16, 21] from 83 to 221 (fun n b wx => n = .int .i64 (t.step s k).2.all ∧ b = .int .i64 (t.step s k).1 ∧ TAt w.heap.size wx p (t.step s k).2 ∧ wx.heap[Q]? = some (.cells (ofV (t.step s k).2.N).toArray 63 (0, 0)) ∧ Below w.heap.size w wx)
                case first => as_aux_lemma =>
                  by_cases hs : 0 ≤ s ∧ s < 257
                  · obtain ⟨hsa, hsb⟩ := hs
                    obtain ⟨s, rfl⟩ := Int.eq_ofNat_of_zero_le hsa
                    have hs7 : s < 257 := by omega
                    have e1 : symIs (s : Int) = true := symIs_true hsa hsb
                    have hcq : w3.cell? ⟨Q, s, none⟩ = some (.int .i64 (t.N s)) := by
                      rw [cell_of_row w3 Q s _ _ _ hQ4, List.getElem?_toArray, ofV_get _ hs7]
                    have hfz : w3.frozen? ⟨Q, s, none⟩ = false := frozen_of_row w3 Q s _ _ hQ4
                    have b1 := hok.pos s hs7
                    have b2 := hok.le hs7
                    have b3 := hok.max
                    have b4 := hok.all_pos
                    by_cases hn : k < -t.N s ∨ 2147483648 - t.all < k
                    · have hst := step_range (t := t) hs7 hn
                      have HST := Lib.hid hst
                      have HT4 := Lib.hid hT4
                      have HQ4 := Lib.hid hQ4
                      have HB4 := Lib.hid hb4
                      clear hT4 hQ4 hb4 hst hok
                      have hor : k < -t.N s ∨ (¬ k < -t.N s ∧ 2147483648 - t.all < k) := by omega
                      clear hn
                      generalize hN : t.N s = N at *
                      generalize hA : t.all = A at *
                      have HA := Lib.hid hA
                      clear hA hN
                      rcases hor with h1 | ⟨h1, h2⟩
                      · have d1 : decide (k < -N) = true := decide_eq_true h1
                        go_wp2_with (go_at_call 48; refine (refIs_any _ _).mono ?_; rintro e w' ⟨rfl, rfl⟩)
                        go_meet
                        case rel => exact ⟨by rw [HST.out]; exact congrArg _ HA.out.symm, by rw [HST.out], HT4.out, by rw [HST.out]; exact HQ4.out, HB4.out⟩
                      · have d1 : decide (k < -N) = false := decide_eq_false h1
                        have d2 : decide (2147483648 - A < k) = true := decide_eq_true h2
                        go_wp2_with (go_at_call 48; refine (refIs_any _ _).mono ?_; rintro e w' ⟨rfl, rfl⟩)
                        go_meet
                        case rel => exact ⟨by rw [HST.out]; exact congrArg _ HA.out.symm, by rw [HST.out], HT4.out, by rw [HST.out]; exact HQ4.out, HB4.out⟩
                    · have hst := step_ok (t := t) (n := k) hs7 (by omega) (by omega)
                      have HST := Lib.hid hst
                      have d1 : decide (k < -t.N s) = false := decide_eq_false (by omega)
                      have d2 : decide (2147483648 - t.all < k) = false := decide_eq_false (by omega)
                      have g1 : -t.N s ≤ k := by omega
                      have g2 : k ≤ 2147483648 - t.all := by omega
                      have HQS := Lib.hid (of_set hQ4 hs7 (t.N s + k))
                      have HTS := Lib.hid (hT4.set (s := s) hqp (.int .i64 (t.N s + k)))
                      have HBS := Lib.hid (below_set hb4 hs4 (s := s) hQB (.int .i64 (t.N s + k)))
                      have HE : Hid (t.all + k = (t.add s k).all) := rfl
                      have HE2 : Hid (upd t.N s (t.N s + k) = (t.add s k).N) := rfl
                      clear hT4 hQ4 hb4 hst hok hn
                      rw [HE2.out] at HQS
                      generalize hN : t.N s = N at *
                      generalize hA : t.all = A at *
                      clear hA hN
                      go_wp2_with (go_at_call 48; refine (refIs_any _ _).mono ?_; rintro e w' ⟨rfl, rfl⟩)
                      go_meet
                      case rel => exact ⟨by rw [HST.out]; exact congrArg _ HE.out, by rw [HST.out], HTS.out, by rw [HST.out]; exact HQS.out, HBS.out⟩
                  · have e1 : symIs s = false := symIs_false hs
                    have hst : t.step s k = (1, t) := if_neg hs
                    have HST := Lib.hid hst
                    have HT4 := Lib.hid hT4
                    have HQ4 := Lib.hid hQ4
                    have HB4 := Lib.hid hb4
                    clear hT4 hQ4 hb4 hst hok hs
                    go_wp2_with (go_at_call 48; refine (refIs_any _ _).mono ?_; rintro e w' ⟨rfl, rfl⟩)
                    go_meet
                    case rel => exact ⟨by rw [HST.out], by rw [HST.out], HT4.out, by rw [HST.out]; exact HQ4.out, HB4.out⟩
                case rest => as_aux_lemma =>
                  clear hT4 hQ4 hb4 hs4 hok
                  obtain ⟨rfl, rfl, hT, hQ, hb⟩ := hcut
                  generalize (t.step s k).1 = x at *
                  generalize (t.step s k).2 = t1 at *
                  have hok := hT.1.ok
                  have hpos := hok.pos
                  have hsum := hok.sum
                  have hmax := hok.max
                  have hall0 := hok.all_pos
                  have HQ := Lib.hid hQ
                  have HT := Lib.hid hT
                  have HB := Lib.hid hb
                  have HCQ : Hid (∀ m : Nat, m < 257 → wc.cell? ⟨Q, m, none⟩ = some (.int .i64 (t1.N m))) := fun m hm => by
                    rw [cell_of_row wc Q m _ _ _ hQ, List.getElem?_toArray, ofV_get _ hm]
                  have HPOS := Lib.hid hpos
                  have HSUM := Lib.hid hsum
                  have HOK := Lib.hid hok
                  clear hT hQ hb hok hpos hsum
                  go_wp2_with fail
                  have hcl : min (max q 0) 257 = (clamp q : Int) := by unfold clamp; omega
                  have hc7 := clamp_le q
                  rw [hcl]
                  clear hcl
                  have HR : Hid (tBelow t1 q = bl t1.N (clamp q)) := rfl
                  generalize clamp q = c at *
                  go_loop [23, 25] (fun n i => ∃ m : Nat, m ≤ 257 ∧ i = .int .i64 m ∧ n = .int .i64 (bl t1.N (min m c))) (fun _ i => 257 - (intOf i).toNat)
                  case atStart => exact ⟨0, by omega, rfl, by rw [Nat.zero_min]; rfl⟩
                  case round => as_aux_lemma =>
                    obtain ⟨m, hm, rfl, rfl⟩ := hrel
                    by_cases hm7 : m < 257
                    · have hcm := HCQ.out m hm7
                      by_cases hmc : m < c
                      · have h0 := bl_pos HPOS.out (show m ≤ 257 by omega)
                        have h1 := bl_mono HPOS.out (show m + 1 ≤ 257 by omega) (Nat.le_refl _)
                        rw [HSUM.out] at h1
                        have h3 : bl t1.N (m + 1) = bl t1.N m + t1.N m := rfl
                        have h4 := HPOS.out m hm7
                        have h5 : bl t1.N m + t1.N m ≤ 2147483648 := by omega
                        have H3 := Lib.hid h3
                        have HM1 : Hid (min (m + 1) c = m + 1) := by show min (m + 1) c = m + 1; omega
                        rw [show min m c = m from by omega]
                        clear h1 h3
                        generalize bl t1.N m = L at *
                        generalize t1.N m = N at *
                        go_wp2_with fail
                        go_round
                        case rel => exact ⟨m + 1, by omega, by simp, by rw [HM1.out, H3.out]⟩
                        case measure => simp [intOf]; omega
                      · have HM1 : Hid (min (m + 1) c = min m c) := by show min (m + 1) c = min m c; omega
                        go_wp2_with fail
                        go_round
                        case rel => exact ⟨m + 1, by omega, by simp, by rw [HM1.out]⟩
                        case measure => simp [intOf]; omega
                    · obtain rfl : m = 257 := by omega
                      rw [show min 257 c = c from by omega]
                      rw [← HR.out]
                      clear hc7
                      go_upto_block 9 with fail
                      go_cut [24] from 83 to 221 (fun wh wx => wx = wc ∧ ∃ r, wh = .int .i64 r ∧ IsWhich t1 q r)
                      case first => as_aux_lemma =>
                        go_wp2_with fail
                        go_loop [24, 26, 27] (fun wh left i => ∃ m : Nat, m ≤ 257 ∧ i = .int .i64 m ∧
                            ((wh = .int .i64 (-1) ∧ left = .int .i64 (q - bl t1.N m) ∧ ((0 ≤ q ∧ q < t1.all) → bl t1.N m ≤ q)) ∨
                             (∃ s : Nat, wh = .int .i64 s ∧ IsWhich t1 q s ∧ (0 ≤ q ∧ q < t1.all) ∧ ∃ l, left = .int .i64 l))) (fun _ _ i => 257 - (intOf i).toNat)
                        case atStart => exact ⟨0, by omega, rfl, Or.inl ⟨rfl, by simp [bl], fun h => by simp [bl]; exact h.1⟩⟩
                        case round => as_aux_lemma =>
                          obtain ⟨m, hm, rfl, hrel⟩ := hrel
                          have hb0 := bl_pos HPOS.out (show m ≤ 257 by omega)
                          rcases hrel with ⟨rfl, rfl, hr⟩ | ⟨s, rfl, hw, hin, l, rfl⟩
                          · by_cases hin : 0 ≤ q ∧ q < t1.all
                            · have hrq := hr hin
                              obtain ⟨hin0, hin1⟩ := hin
                              by_cases hm7 : m < 257
                              · have hcm := HCQ.out m hm7
                                have h3 : bl t1.N (m + 1) = bl t1.N m + t1.N m := rfl
                                have h4 := HPOS.out m hm7
                                have h1 := bl_mono HPOS.out (show m + 1 ≤ 257 by omega) (Nat.le_refl _)
                                rw [HSUM.out] at h1
                                have h5 : t1.N m ≤ 2147483648 := by omega
                                by_cases hlt2 : q - bl t1.N m < t1.N m
                                · have HW : Hid (IsWhich t1 q (m : Int)) := ⟨fun h2 => by exfalso; omega, fun _ => ⟨m, hm7, rfl, by omega, by omega⟩⟩
                                  have d1 : decide (q - bl t1.N m < t1.N m) = true := decide_eq_true hlt2
                                  have HIN : Hid (0 ≤ q ∧ q < t1.all) := ⟨hin0, hin1⟩
                                  clear hr h1 h3
                                  generalize bl t1.N m = L at *
                                  generalize t1.N m = N at *
                                  go_wp2_with fail
                                  go_round
                                  case rel => exact ⟨m + 1, by omega, by simp, Or.inr ⟨m, rfl, HW.out, HIN.out, _, rfl⟩⟩
                                  case measure => simp [intOf]; omega
                                · have d1 : decide (q - bl t1.N m < t1.N m) = false := decide_eq_false hlt2
                                  have h6 : 0 ≤ q - bl t1.N m - t1.N m := by omega
                                  have H6 : Hid (bl t1.N (m + 1) ≤ q) := by show bl t1.N (m + 1) ≤ q; omega
                                  have H7 : Hid (q - bl t1.N m - t1.N m = q - bl t1.N (m + 1)) := by show q - bl t1.N m - t1.N m = q - bl t1.N (m + 1); omega
                                  clear hr h1 h3
                                  generalize hL1 : bl t1.N (m + 1) = L1 at H6 H7
                                  have HL1 := Lib.hid hL1
                                  clear hL1
                                  generalize hL : bl t1.N m = L at *
                                  generalize t1.N m = N at *
                                  clear hL
                                  go_wp2_with fail
                                  go_round
                                  case rel => exact ⟨m + 1, by omega, by simp, Or.inl ⟨rfl, by rw [HL1.out, H7.out], fun _ => by rw [HL1.out]; exact H6.out⟩⟩
                                  case measure => simp [intOf]; omega
                              · obtain rfl : m = 257 := by omega
                                exfalso
                                rw [HSUM.out] at hrq
                                omega
                            · have HW : Hid (IsWhich t1 q (-1)) := ⟨fun _ => rfl, fun h2 => absurd h2 hin⟩
                              have hor : q < 0 ∨ (0 ≤ q ∧ t1.all ≤ q) := by omega
                              clear hr hin
                              by_cases hm7 : m < 257
                              · rcases hor with h1 | ⟨h1, h2⟩
                                all_goals
                                  generalize q - bl t1.N m = lf at *
                                  go_wp2_with fail
                                  go_meet
                                  case rel => exact ⟨rfl, _, rfl, HW.out⟩
                              · obtain rfl : m = 257 := by omega
                                generalize q - bl t1.N 257 = lf at *
                                go_wp2_with fail
                                go_meet
                                case rel => exact ⟨rfl, _, rfl, HW.out⟩
                          · have HW := Lib.hid hw
                            obtain ⟨hin0, hin1⟩ := hin
                            clear hw
                            by_cases hm7 : m < 257
                            · go_wp2_with fail
                              go_meet
                              case rel => exact ⟨rfl, _, rfl, HW.out⟩
                            · obtain rfl : m = 257 := by omega
                              go_wp2_with fail
                              go_meet
                              case rel => exact ⟨rfl, _, rfl, HW.out⟩
                      case rest => as_aux_lemma =>
                        obtain ⟨rfl, r, rfl, hW⟩ := hcut
                        have HW := Lib.hid hW
                        have KT := Lib.hid (fun n : Nat => HT.out.chg (below_drewN (Below.refl _ _) n))
                        have KB := Lib.hid (fun n : Nat => below_drewN HB.out n)
                        clear hW
                        by_cases hs : 0 ≤ s ∧ s < 257
                        · obtain ⟨hsa, hsb⟩ := hs
                          have HE1 := Lib.hid (symIs_true hsa hsb)
                          obtain ⟨s, rfl⟩ := Int.eq_ofNat_of_zero_le hsa
                          have hs7 : s < 257 := by omega
                          have hcq := HCQ.out s hs7
                          have HOF := Lib.hid (tOf_nat t1 hs7)
                          go_wp2_with fail
                          go_quiet ((first
                            | (go_at_call 43; exact quiet_eq (tlen_at (KT.out _) rfl))
                            | (go_at_call 46; exact quiet_eq (tbelow_at (KT.out _) rfl))
                            | (go_at_call 45; exact quiet_eq (twhich_at (KT.out _) hq0 hq1 HW.out))
                            | (go_at_call 48; exact quiet_eq (refIs_lit HE1.out _))
                            | (go_at_call 47; exact quiet_eq (tof_at (KT.out _) HOF.out))))
                          go_wp2_with fail
                          go_roundw
                          case rel => exact ⟨i + 1, by omega, by simp, t1, rfl, KT.out _, HQ.out, KB.out _⟩
                          case measure => simp [intOf]; omega
                        · have HE1 := Lib.hid (symIs_false hs)
                          have HOF : Hid (0 = 0) := rfl
                          clear hs
                          go_wp2_with fail
                          go_quiet ((first
                            | (go_at_call 43; exact quiet_eq (tlen_at (KT.out _) rfl))
                            | (go_at_call 46; exact quiet_eq (tbelow_at (KT.out _) rfl))
                            | (go_at_call 45; exact quiet_eq (twhich_at (KT.out _) hq0 hq1 HW.out))
                            | (go_at_call 48; exact quiet_eq (refIs_lit HE1.out _))))
                          go_wp2_with fail
                          go_roundw
                          case rel => exact ⟨i + 1, by omega, by simp, t1, rfl, KT.out _, HQ.out, KB.out _⟩
                          case measure => simp [intOf]; omega
            · have hin : i = z2.length := by omega
              go_wp2_with fail
              refine (told8_any _).mono ?_
              rintro e w5 ⟨rfl, hb9⟩
              go_wp2_with fail
              go_ret
              exact ⟨rfl, hb.trans (hb9.mono hs0)⟩

end Go.Proofs.Yteapkoomingdfaa
