/- Contracts of arena.Free. -/
import Derived.Test.YtilofffnolnokaaArenaT
namespace Go.Proofs.Ytilofffnolnokaa
set_option linter.unusedVariables false
set_option linter.unusedSimpArgs false
open Go.RowKit

theorem arIs_raw {w : World} {p n tc : Nat} {ta : Option Addr} {T : List Bool} (k : Int) (h0 : w.cell? ⟨p, 0, none⟩ = some (.slice ta n tc)) (ht : w.ownsRow 0 4 1 (.slice ta n tc) n (T.map Value.bool)) (hn : T.length = n) (hmx : n ≤ 268435456) :
    Calls Try.prog 14 #[.pointer (some ⟨p, 0, none⟩), .int .i64 k] w fun e w' => e = .returned (.bool (arIs T k)) ∧ w = w' := by
  by_cases hk0 : 0 ≤ k
  · have d0 : decide (0 ≤ k) = true := by simpa using hk0
    by_cases hk1 : k < n
    · have d1 : decide (k < (n : Int)) = true := by simpa using hk1
      obtain ⟨g, cap, hv, _, _, _, _, hcell, _⟩ := own_some ht (by omega)
      injection hv with e1 e2 e3
      subst e1; subst e3
      have hc := hcell k.toNat (by omega)
      rw [List.getElem?_map, List.getElem?_eq_getElem (by omega)] at hc
      simp only [Option.map_some] at hc
      have HR : Hid (T[k.toNat] = arIs T k) := by
        show _ = (decide (0 ≤ k) && _)
        rw [d0, List.getElem?_eq_getElem (by omega)]; simp
      generalize T[k.toNat] = b at *
      have HN := Lib.hid hn
      clear hcell ht hn
      go_enter Try.func14, Try.ntmps14
      go_wp2
      go_ret
      exact ⟨ret_bool HR.out, rfl⟩
    · have d1 : decide (k < (n : Int)) = false := by simpa using hk1
      have HR : Hid (false = arIs T k) := by
        show _ = (decide (0 ≤ k) && _)
        rw [List.getElem?_eq_none (by omega)]; simp
      clear ht hn
      go_enter Try.func14, Try.ntmps14
      go_wp2
      go_ret
      exact ⟨ret_bool HR.out, rfl⟩
  · have d0 : decide (0 ≤ k) = false := by simpa using hk0
    have HR : Hid (false = arIs T k) := by
      show _ = (decide (0 ≤ k) && _)
      rw [d0]; rfl
    clear ht hn
    go_enter Try.func14, Try.ntmps14
    go_wp2
    go_ret
    exact ⟨ret_bool HR.out, rfl⟩

theorem clr_take_succ {T Ti : List Bool} {l : List Int} {i : Nat} (hi : i < l.length) (h : clr T (l.take i) = some Ti) :
    clr T (l.take (i + 1)) = if arIs Ti (l[i]?.getD 0) = true then some (Ti.set (l[i]?.getD 0).toNat false) else none := by
  rw [List.take_add_one, List.getElem?_eq_getElem hi, Option.toList_some, clr_snoc, h]; rfl

theorem clr_none_of_take {T : List Bool} {l : List Int} {i : Nat} (h : clr T (l.take i) = none) : clr T l = none := by
  have key : ∀ (a b : List Int) (T : List Bool), clr T a = none → clr T (a ++ b) = none := by
    intro a
    induction a with
    | nil => intro b T h; cases h
    | cons x a ih =>
      intro b T h
      simp only [clr, List.cons_append] at *
      split
      · rename_i hx; rw [if_pos hx] at h; exact ih b _ h
      · rfl
  rw [← List.take_append_drop i l]
  exact key _ _ _ h

theorem clr_back_take {T Ti : List Bool} {l : List Int} (h : clr T l = some Ti) : l.foldl (fun T k => T.set k.toNat true) Ti = T := clr_back h

theorem foldl_take_succ (T : List Bool) (l : List Int) (j : Nat) (hj : j < l.length) :
    (l.take (j + 1)).foldl (fun T k => T.set k.toNat true) T = ((l.take j).foldl (fun T k => T.set k.toNat true) T).set (l[j]?.getD 0).toNat true := by
  rw [List.take_add_one, List.getElem?_eq_getElem hj, Option.toList_some, List.foldl_append]; rfl

theorem foldl_len (l : List Int) (U : List Bool) : (l.foldl (fun T k => T.set k.toNat true) U).length = U.length := by
  induction l generalizing U with
  | nil => rfl
  | cons y l ih => simp only [List.foldl_cons]; rw [ih]; simp

theorem arFree_nil (w : World) (la : Option Addr) (n c : Nat) : Calls Try.prog 9 #[.pointer none, .slice la n c] w fun e w' => e = .returned (.int .i64 6) ∧ w = w' := by
  go_enter Try.func9, Try.ntmps9
  go_wp2
  go_ret
  exact ⟨rfl, rfl⟩

/-- What is read stays, where an empty row may lie anywhere. -/
theorem readsW {S : Nat → Prop} {w w' : World} {k : IntKind} {a : Option Addr} {xs : List Int} (h : Chg S w w') (hr : Reads w k a xs) (hn : 0 < xs.length → ∀ ad, a = some ad → ¬ S ad.block) : Reads w' k a xs := by
  rcases Nat.eq_zero_or_pos xs.length with h0 | h0
  · intro i hi; omega
  · exact h.reads hr (hn h0)


set_option maxHeartbeats 3200000 in
set_option maxRecDepth 100000 in
theorem arFree_w {w : World} {p : Nat} {S : Nat → Prop} {a : Ar} (h : IsArena w p S a) (l : List Int) (la : Option Addr) (lc : Nat) (hl : Reads w .i64 la l) (hnil : la = none → l.length = 0 ∧ lc = 0)
    (hsep : 0 < l.length → ∀ ad, la = some ad → ¬ S ad.block) (hlen : l.length ≤ 1000000000) (hlc : l.length ≤ lc) :
    Calls Try.prog 9 #[.pointer (some ⟨p, 0, none⟩), .slice la l.length lc] w fun e w' => e = .returned (.int .i64 (a.free l).1) ∧ ArStep w w' p S (a.free l).2 := by
  obtain ⟨ta, tc, fa, fc, h0, h1, h2, hfz, hp, ht, hf, n1, n2, n3, n4, hS, hpl⟩ := h.see
  have hmx := h.ok.max
  have hm2 := h.ok.le
  have hfl := h.ok.fle
  have HOK := Lib.hid h.ok
  have HP := Lib.hid hp
  have HFr := Lib.hid hf
  have HS := Lib.hid hS
  have HN1 := Lib.hid n1
  have HN2 := Lib.hid n2
  have HN3 := Lib.hid n3
  have HN4 := Lib.hid n4
  have HNIL := Lib.hid hnil
  have HSEP := Lib.hid hsep
  clear hp hf hS n1 n2 n3 n4 h0 h1 h2 hfz hnil hsep
  generalize hnT : a.T.length = nT at *
  have HNT := Lib.hid hnT; clear hnT
  generalize hnF : a.F.length = nF at *
  have HNF := Lib.hid hnF; clear hnF
  go_enter Try.func9, Try.ntmps9
  go_wp2_with fail
  go_loopw [13] (fun i wr => ∃ k : Nat, k ≤ l.length ∧ i = .int .i64 k ∧ ∃ Ti, clr a.T (l.take k) = some Ti ∧ wr.ownsRow 0 4 1 (.slice ta nT tc) nT (Ti.map Value.bool) ∧
      wr.heap[p]? = some (.cells #[.slice ta nT tc, .slice fa nF fc, .int .i64 a.M] 42 (0, 0)) ∧ wr.ownsRow 0 3 1 (.slice fa nF fc) nF (a.F.map natA) ∧ Chg S w wr)
    (fun i _ => l.length - (intOf i).toNat)
  case atStart => exact ⟨0, by omega, rfl, a.T, rfl, ht, HP.out, HFr.out, Chg.refl⟩
  case round =>
    obtain ⟨k, hk, rfl, Ti, hcl, hown, hpr, hfr, hchg⟩ := hrel
    obtain ⟨wo, rfl⟩ : ∃ wo : World, wo = wr := ⟨_, rfl⟩
    have hTl : Ti.length = nT := by have := own_len hown; simpa using this
    have hc0 : wo.cell? ⟨p, 0, none⟩ = some (.slice ta nT tc) := by rw [cell_of_row wo p 0 _ _ _ hpr]; rfl
    have HCL := Lib.hid hcl
    have HPR := Lib.hid hpr
    have HFR := Lib.hid hfr
    have HCHG := Lib.hid hchg
    clear hcl hpr hfr hchg ht
    by_cases hlt : k < l.length
    · have hrd := readsW HCHG.out hl HSEP.out
      obtain ⟨b, off, rfl, hbl, hcells⟩ := hrd.some (by omega)
      have hcx := hcells k hlt
      have hsucc := clr_take_succ hlt HCL.out
      have HSU := Lib.hid hsucc
      generalize hx : l[k]?.getD 0 = x at *
      have HX := Lib.hid hx
      have HCE := Lib.hid hcells
      clear hsucc hx hcells hrd
      have hklc : k ≤ lc := by omega
      cases hIs : arIs Ti x
      · have HIS := Lib.hid hIs
        clear hIs
        go_wp2_with (go_at_call 14; refine (arIs_raw _ hc0 hown hTl (by omega)).mono ?_; rintro e w' ⟨he, rfl⟩; rw [HIS.out] at he; subst he)
        have hval := (clr_get HCL.out).2.1
        have HV := Lib.hid hval; clear hval
        go_loopw [26] (fun i wr => ∃ j : Nat, j ≤ k ∧ i = .int .i64 j ∧ wr.ownsRow 0 4 1 (.slice ta nT tc) nT (((l.take j).foldl (fun T k => T.set k.toNat true) Ti).map Value.bool) ∧
            wr.heap[p]? = some (.cells #[.slice ta nT tc, .slice fa nF fc, .int .i64 a.M] 42 (0, 0)) ∧ wr.ownsRow 0 3 1 (.slice fa nF fc) nF (a.F.map natA) ∧ Chg S w wr)
          (fun i _ => k - (intOf i).toNat)
        case atStart => exact ⟨0, by omega, rfl, hown, HPR.out, HFR.out, HCHG.out⟩
        case round =>
          obtain ⟨j, hj, rfl, hown, hpr, hfr, hchg⟩ := hrel
          have hc0 : wr.cell? ⟨p, 0, none⟩ = some (.slice ta nT tc) := by rw [cell_of_row wr p 0 _ _ _ hpr]; rfl
          have HPR := Lib.hid hpr
          have HFR := Lib.hid hfr
          have HCHG := Lib.hid hchg
          clear hpr hfr hchg
          by_cases hjk : j < k
          · have hrd := readsW HCHG.out hl HSEP.out
            obtain ⟨b', off', heq, _, hcells⟩ := hrd.some (by omega)
            cases heq
            have hcy := hcells j (by omega)
            have hstep := foldl_take_succ Ti l j (by omega)
            have hv := HV.out (l[j]?.getD 0) (by
              rw [List.getElem?_eq_getElem (show j < l.length by omega)]
              rw [List.mem_take_iff_getElem]
              exact ⟨j, by omega, rfl⟩)
            generalize l[j]?.getD 0 = y at *
            obtain ⟨hy0, hy1⟩ := hv
            have hyl : y.toNat < nT := by have := (List.getElem?_eq_some_iff.1 hy1).1; have := HNT.out; omega
            have hU : ((l.take j).foldl (fun T k => T.set k.toNat true) Ti).length = nT := by rw [foldl_len]; exact hTl
            generalize (l.take j).foldl (fun T k => T.set k.toNat true) Ti = U at *
            obtain ⟨tb, tcap, hv, _, htb, htcap, _, htcell, htfz⟩ := own_some hown (by omega)
            injection hv with e1 _ e3
            subst e1; subst e3
            obtain ⟨ntp, _, ntf⟩ := HN1.out tb rfl
            have hcT := htcell y.toNat hyl
            rw [List.getElem?_map, List.getElem?_eq_getElem (by omega)] at hcT
            simp only [Option.map_some] at hcT
            have hz0 := htfz y.toNat
            generalize U[y.toNat] = bv at *
            have HO := Lib.hid hown
            have HST := Lib.hid hstep
            have hyn : y < (nT : Int) := by omega
            clear hcells hrd htcell htfz hown hstep hy1 hU hTl
            go_wp2_with fail
            go_roundw
            case rel =>
              refine ⟨j + 1, by omega, by simp, ?_, ?_, ?_, ?_⟩
              · rw [HST.out, List.map_set]; exact own_set HO.out y.toNat (.bool true)
              · exact heap_set_other HPR.out (fun e => ntp e.symm)
              · exact own_set_other HFR.out _ (fun g hg e => ntf (by rw [hg, e])) (fun ad hg => HN4.out ad hg)
              · exact HCHG.out.setCell _ (Or.inl ((HS.out tb).2 (Or.inr (Or.inl rfl)))) _
            case measure => simp [intOf]; omega
          · obtain rfl : j = k := by omega
            have hb := clr_back HCL.out
            rw [hb] at hown
            have HO := Lib.hid hown
            have HFREE : Hid (a.free l = (7, a)) := by
              show Ar.free a l = _
              unfold Ar.free
              rw [clr_none_of_take (l := l) (i := j + 1) (by rw [HSU.out, HIS.out]; rfl)]
            clear hown hb hTl
            go_wp2_with fail
            go_ret
            rw [HFREE.out]
            refine ⟨rfl, _, IsArena.of (ta := ta) (tc := tc) (fa := fa) (fc := fc) HOK.out ?_ ?_ ?_ ?_ ?_, HCHG.out, fun x hx => Or.inl ((HS.out x).2 hx)⟩
            · rw [HNT.out, HNF.out]; exact HPR.out
            · rw [HNT.out]; exact HO.out
            · rw [HNF.out]; exact HFR.out
            · exact fun g hg => ⟨(HN1.out g hg).1, (HN1.out g hg).2.2⟩
            · exact fun g hg => (HN2.out g hg).1
      · obtain ⟨hx0, hx1⟩ := arIs_iff.1 hIs
        obtain ⟨hxl, hxv⟩ := List.getElem?_eq_some_iff.1 hx1
        obtain ⟨tb, tcap, hv, _, htb, htcap, _, htcell, htfz⟩ := own_some hown (by omega)
        injection hv with e1 _ e3
        subst e1; subst e3
        obtain ⟨ntp, _, ntf⟩ := HN1.out tb rfl
        have hcT := htcell x.toNat (by omega)
        rw [List.getElem?_map, List.getElem?_eq_getElem hxl] at hcT
        simp only [Option.map_some] at hcT
        have hz0 := htfz x.toNat
        generalize Ti[x.toNat] = bv at *
        have HO := Lib.hid hown
        have HIS := Lib.hid hIs
        have HTL := Lib.hid hTl
        have hxn : x < (nT : Int) := by omega
        clear htcell htfz hx1 hxv hown hTl
        go_wp2_with (go_at_call 14; refine (arIs_raw _ hc0 HO.out HTL.out (by omega)).mono ?_; rintro e w' ⟨rfl, rfl⟩)
        go_roundw
        case rel =>
          refine ⟨k + 1, by omega, by simp, Ti.set x.toNat false, by rw [HSU.out, HIS.out]; rfl, ?_, ?_, ?_, ?_⟩
          · rw [List.map_set]; exact own_set HO.out x.toNat (.bool false)
          · exact heap_set_other HPR.out (fun e => ntp e.symm)
          · exact own_set_other HFR.out _ (fun g hg e => ntf (by rw [hg, e])) (fun ad hg => HN4.out ad hg)
          · exact HCHG.out.setCell _ (Or.inl ((HS.out tb).2 (Or.inr (Or.inl rfl)))) _
        case measure => simp [intOf]; omega
    · obtain rfl : k = l.length := by omega
      have hcl := HCL.out
      rw [List.take_length] at hcl
      have HFREE : Hid (a.free l = (0, a.push Ti l)) := by
        show Ar.free a l = _
        unfold Ar.free
        rw [hcl]
      have hpush := Ar.push_ok HOK.out hcl
      have hpos := (clr_get hcl).2.1
      have HPOS := Lib.hid hpos
      have hc1 : wo.cell? ⟨p, 1, none⟩ = some (.slice fa nF fc) := by rw [cell_of_row wo p 1 _ _ _ HPR.out]; rfl
      have hrd := readsW HCHG.out hl HSEP.out
      have hfr := HFR.out
      have HO := Lib.hid hown
      have hnews : ∀ q, la = some q → ∀ j u, (l.map (Value.int .i64))[j]? = some u → wo.cell? (q.add j) = some u := by
        intro q hq j u hu
        rw [List.getElem?_map] at hu
        by_cases hj : j < l.length
        · obtain ⟨b, off, e, _, hc⟩ := hrd.some (by omega)
          rw [hq] at e; cases e
          rw [Addr.add_lit, hc j hj, List.getElem?_eq_getElem hj]
          rw [List.getElem?_eq_getElem hj] at hu
          simpa using hu
        · rw [List.getElem?_eq_none (by omega)] at hu; cases hu
      have HNEWS := Lib.hid hnews
      clear hcl hpos hrd hown hnews
      go_wp2_with (at_builtin; refine wpList_appendL rfl _ _ 28 rfl 0 3 Try.infoInt' Try.underlying28 rfl _ _ _ rfl hfr _ _ _ (l.map (Value.int .i64)) rfl (by simp) ?c0 HNEWS.out ?c1 ?c2 ?c3 ?c4 ?_)
      case c0 => intro e; exact HNIL.out e
      case c1 => intro u hu; obtain ⟨z, _, rfl⟩ := List.mem_map.1 hu; rfl
      case c2 => unfold maxLen; omega
      case c3 => omega
      case c4 => omega
      intro a' c' w1 hown' hgrow hor
      have hpn : some p ≠ (Value.slice fa nF fc).ownBlock := by
        intro e
        cases fa with
        | none => simp [Value.ownBlock] at e
        | some ad =>
          obtain ⟨g, rfl⟩ := HN4.out ad rfl
          simp [Value.ownBlock] at e
          exact (HN2.out g rfl).1 e.symm
      have hplo : p < wo.heap.size := (Array.getElem?_eq_some_iff.1 HPR.out).1
      have hp1 : w1.heap[p]? = some (.cells #[.slice ta nT tc, .slice fa nF fc, .int .i64 a.M] 42 (0, 0)) := (hgrow.block p hplo hpn).trans HPR.out
      have hc1 : w1.cell? ⟨p, 1, none⟩ = some (.slice fa nF fc) := by rw [cell_of_row w1 p 1 _ _ _ hp1]; rfl
      have hf1 : w1.frozen? ⟨p, 1, none⟩ = false := frozen_of_row w1 p 1 _ _ hp1
      have HP1 := Lib.hid hp1
      have HO1 := Lib.hid hown'
      have HG := Lib.hid hgrow
      have HOR := Lib.hid hor
      clear hp1 hown' hgrow hor hpn hfr
      go_wp2_with fail
      go_ret
      have obf : ∀ x n c, (Value.slice fa n c).ownBlock = some x → fa = some ⟨x, 0, none⟩ := by
        intro x n c hx
        cases fa with
        | none => simp [Value.ownBlock] at hx
        | some ad => obtain ⟨g, rfl⟩ := HN4.out ad rfl; simp [Value.ownBlock] at hx; rw [hx]
      have hag : ∀ g, a' = some ⟨g, 0, none⟩ → g ≠ p ∧ ta ≠ some ⟨g, 0, none⟩ := by
        intro g hg
        rcases HOR.out g hg with e | e
        · have := obf g _ _ e
          exact ⟨(HN2.out g this).1, fun e2 => (HN1.out g e2).2.2 this⟩
        · refine ⟨fun e2 => by omega, fun e2 => ?_⟩
          have := (HN1.out g e2).2.1
          have := HCHG.out.size
          omega
      have ha' : ∀ ad, a' = some ad → ∃ g, ad = (⟨g, 0, none⟩ : Addr) := by
        obtain ⟨x, c, hv, _, hb⟩ := own_slice HO1.out
        injection hv with e1 e2 e3
        intro ad hh; obtain ⟨g, e, _⟩ := hb ad (e1 ▸ hh); exact ⟨g, e⟩
      rw [HFREE.out]
      have e1 : (a.push Ti l).T.length = nT := by have := own_len HO.out; simpa [Ar.push] using this
      have e2 : (a.push Ti l).F.length = nF + l.length := by have := HNF.out; simp [Ar.push]; omega
      have e3 : (a.push Ti l).F.map natA = a.F.map natA ++ l.map (Value.int .i64) := by
        show (a.F ++ l.map Int.toNat).map natA = _
        rw [List.map_append, List.map_map]
        congr 1
        apply List.map_congr_left
        intro y hy
        have := (HPOS.out y hy).1
        show Value.int .i64 ((y.toNat : Nat) : Int) = _
        rw [Int.toNat_of_nonneg this]
      refine ⟨rfl, _, IsArena.of (ta := ta) (tc := tc) (fa := a') (fc := c') hpush ?_ ?_ ?_ ?_ ?_, ?_, ?_⟩
      · rw [e1, e2]
        exact heap_set_cells HP1.out 1 (.slice a' (nF + l.length) c')
      · rw [e1]
        refine own_set_other (HO.out.kept HG.out ?_) _ (fun g hg => (HN1.out g hg).1) (fun ad hg => HN3.out ad hg)
        cases ta with
        | none => left; rfl
        | some ad =>
          obtain ⟨g2, rfl⟩ := HN3.out ad rfl
          right
          intro e
          exact (HN1.out g2 rfl).2.2 (obf g2 _ _ (by rw [← e]; rfl))
      · rw [e2, e3]
        exact own_set_other HO1.out _ (fun g hg => (hag g hg).1) ha'
      · intro g hg; exact ⟨(HN1.out g hg).1, fun e => (hag g e).2 hg⟩
      · intro g hg; exact (hag g hg).1
      · exact (HCHG.out.grown HG.out (fun x hx => Or.inl ((HS.out x).2 (Or.inr (Or.inr (obf x _ _ hx)))))).setCell _ (Or.inl ((HS.out p).2 (Or.inl rfl))) _
      · intro x hx
        rcases hx with rfl | hx | hx
        · exact Or.inl ((HS.out _).2 (Or.inl rfl))
        · exact Or.inl ((HS.out _).2 (Or.inr (Or.inl hx)))
        · rcases HOR.out x hx with e | e
          · exact Or.inl ((HS.out _).2 (Or.inr (Or.inr (obf x _ _ e))))
          · have := HCHG.out.size
            exact Or.inr (by omega)

theorem arFree_any {w : World} {p : Nat} {S : Nat → Prop} {a : Ar} (h : IsArena w p S a) (l : List Int) (la : Option Addr) (lc : Nat) (hl : Reads w .i64 la l) (hnil : la = none → l.length = 0 ∧ lc = 0)
    (hsep : ∀ ad, la = some ad → ¬ S ad.block) (hlen : l.length ≤ 1000000000) (hlc : l.length ≤ lc) :
    Calls Try.prog 9 #[.pointer (some ⟨p, 0, none⟩), .slice la l.length lc] w fun e w' => e = .returned (.int .i64 (a.free l).1) ∧ ArStep w w' p S (a.free l).2 :=
  arFree_w h l la lc hl hnil (fun _ => hsep) hlen hlc

end Go.Proofs.Ytilofffnolnokaa
