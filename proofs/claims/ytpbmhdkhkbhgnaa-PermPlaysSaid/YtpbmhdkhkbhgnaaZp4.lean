/- Lemmas and contracts under the claims of this seat: Contracts of arena.Free. Arenas all of whose blocks are the call's own: contracts for the laws; scrimshawlaw3.told. The state of a Perm; where a row's pair stands; where a place's pair stands. at, has of package perm. Pos, Row, Size of package perm. each of package perm: all pairs of the order are changed. The closures of package perm that change one pair. The closure of RowMove that changes one pair. RowIn of package perm. Contracts of the document's answer for lists of numbers: In, Out, Rank, Below, Good. slices.Delete of one number out of an own row. An arena beside a row of the call's own; plain steps of arenas for the laws. gone of package perm. A Perm as a list of numbers: of each row its place, or -1; plain. -/
import Derived.Test.YtpbmhdkhkbhgnaaZp3
import Derived.Shelf.SlCmpFuncs.BinarySearchFunc
import Derived.Shelf.SlCmpFuncs.None
import Derived.Shelf.SlicesE.IndexFunc
import Derived.Deep.LoopGhost
import Derived.Test.YtpbmhdkhkbhgnaaZp1

namespace Go.Proofs.Ytpbmhdkhkbhgnaa
set_option linter.unusedVariables false
set_option linter.unusedSimpArgs false
open Go.RowKit

theorem arIs_raw {w : World} {p n tc : Nat} {ta : Option Addr} {T : List Bool} (k : Int) (h0 : w.cell? ⟨p, 0, none⟩ = some (.slice ta n tc)) (ht : w.ownsRow 0 4 1 (.slice ta n tc) n (T.map Value.bool)) (hn : T.length = n) (hmx : n ≤ 268435456) :
    Calls Try.prog 113 #[.pointer (some ⟨p, 0, none⟩), .int .i64 k] w fun e w' => e = .returned (.bool (arIs T k)) ∧ w = w' := by
  by_cases hk0 : 0 ≤ k
  · have d0 : decide (0 ≤ k) = true := by simpa using hk0
    by_cases hk1 : k < n
    · have d1 : decide (k < (n : Int)) = true := by simpa using hk1
      obtain ⟨g, cap, hv, _, _, _, _, hcell, _⟩ := own_some ht (by omega)
      injection hv with e1 e2 e3
      subst e1; subst e3
      have hc := hcell k.toNat (by omega)
      rw [List.getElem?_map, List.getElem?_eq_getElem (by omega)] at hc
      simp only [Option.map_some] at hc
      have HR : Hid (T[k.toNat] = arIs T k) := by
        show _ = (decide (0 ≤ k) && _)
        rw [d0, List.getElem?_eq_getElem (by omega)]; simp
      generalize T[k.toNat] = b at *
      have HN := Lib.hid hn
      clear hcell ht hn
      go_enter Try.func113, Try.ntmps113
      go_wp2
      go_ret
      exact ⟨ret_bool HR.out, rfl⟩
    · have d1 : decide (k < (n : Int)) = false := by simpa using hk1
      have HR : Hid (false = arIs T k) := by
        show _ = (decide (0 ≤ k) && _)
        rw [List.getElem?_eq_none (by omega)]; simp
      clear ht hn
      go_enter Try.func113, Try.ntmps113
      go_wp2
      go_ret
      exact ⟨ret_bool HR.out, rfl⟩
  · have d0 : decide (0 ≤ k) = false := by simpa using hk0
    have HR : Hid (false = arIs T k) := by
      show _ = (decide (0 ≤ k) && _)
      rw [d0]; rfl
    clear ht hn
    go_enter Try.func113, Try.ntmps113
    go_wp2
    go_ret
    exact ⟨ret_bool HR.out, rfl⟩

theorem clr_take_succ {T Ti : List Bool} {l : List Int} {i : Nat} (hi : i < l.length) (h : clr T (l.take i) = some Ti) :
    clr T (l.take (i + 1)) = if arIs Ti (l[i]?.getD 0) = true then some (Ti.set (l[i]?.getD 0).toNat false) else none := by
  rw [List.take_add_one, List.getElem?_eq_getElem hi, Option.toList_some, clr_snoc, h]; rfl

theorem clr_none_of_take {T : List Bool} {l : List Int} {i : Nat} (h : clr T (l.take i) = none) : clr T l = none := by
  have key : ∀ (a b : List Int) (T : List Bool), clr T a = none → clr T (a ++ b) = none := by
    intro a
    induction a with
    | nil => intro b T h; cases h
    | cons x a ih =>
      intro b T h
      simp only [clr, List.cons_append] at *
      split
      · rename_i hx; rw [if_pos hx] at h; exact ih b _ h
      · rfl
  rw [← List.take_append_drop i l]
  exact key _ _ _ h

theorem clr_back_take {T Ti : List Bool} {l : List Int} (h : clr T l = some Ti) : l.foldl (fun T k => T.set k.toNat true) Ti = T := clr_back h

theorem foldl_take_succ (T : List Bool) (l : List Int) (j : Nat) (hj : j < l.length) :
    (l.take (j + 1)).foldl (fun T k => T.set k.toNat true) T = ((l.take j).foldl (fun T k => T.set k.toNat true) T).set (l[j]?.getD 0).toNat true := by
  rw [List.take_add_one, List.getElem?_eq_getElem hj, Option.toList_some, List.foldl_append]; rfl

theorem foldl_len (l : List Int) (U : List Bool) : (l.foldl (fun T k => T.set k.toNat true) U).length = U.length := by
  induction l generalizing U with
  | nil => rfl
  | cons y l ih => simp only [List.foldl_cons]; rw [ih]; simp

theorem arFree_nil (w : World) (la : Option Addr) (n c : Nat) : Calls Try.prog 100 #[.pointer none, .slice la n c] w fun e w' => e = .returned (.int .i64 6) ∧ w = w' := by
  go_enter Try.func100, Try.ntmps100
  go_wp2
  go_ret
  exact ⟨rfl, rfl⟩

set_option maxHeartbeats 3200000 in
set_option maxRecDepth 100000 in
theorem arFree_any {w : World} {p : Nat} {S : Nat → Prop} {a : Ar} (h : IsArena w p S a) (l : List Int) (la : Option Addr) (lc : Nat) (hl : Reads w .i64 la l) (hnil : la = none → l.length = 0 ∧ lc = 0)
    (hsep : ∀ ad, la = some ad → ¬ S ad.block) (hlen : l.length ≤ 1000000000) (hlc : l.length ≤ lc) :
    Calls Try.prog 100 #[.pointer (some ⟨p, 0, none⟩), .slice la l.length lc] w fun e w' => e = .returned (.int .i64 (a.free l).1) ∧ ArStep w w' p S (a.free l).2 := by
  obtain ⟨ta, tc, fa, fc, h0, h1, h2, hfz, hp, ht, hf, n1, n2, n3, n4, hS, hpl⟩ := h.see
  have hmx := h.ok.max
  have hm2 := h.ok.le
  have hfl := h.ok.fle
  have HOK := Lib.hid h.ok
  have HP := Lib.hid hp
  have HFr := Lib.hid hf
  have HS := Lib.hid hS
  have HN1 := Lib.hid n1
  have HN2 := Lib.hid n2
  have HN3 := Lib.hid n3
  have HN4 := Lib.hid n4
  have HNIL := Lib.hid hnil
  have HSEP := Lib.hid hsep
  clear hp hf hS n1 n2 n3 n4 h0 h1 h2 hfz hnil hsep
  generalize hnT : a.T.length = nT at *
  have HNT := Lib.hid hnT; clear hnT
  generalize hnF : a.F.length = nF at *
  have HNF := Lib.hid hnF; clear hnF
  go_enter Try.func100, Try.ntmps100
  go_wp2_with fail
  go_loopw [13] (fun i wr => ∃ k : Nat, k ≤ l.length ∧ i = .int .i64 k ∧ ∃ Ti, clr a.T (l.take k) = some Ti ∧ wr.ownsRow 0 4 1 (.slice ta nT tc) nT (Ti.map Value.bool) ∧
      wr.heap[p]? = some (.cells #[.slice ta nT tc, .slice fa nF fc, .int .i64 a.M] 100 (0, 0)) ∧ wr.ownsRow 0 3 1 (.slice fa nF fc) nF (a.F.map natA) ∧ Chg S w wr)
    (fun i _ => l.length - (intOf i).toNat)
  case atStart => exact ⟨0, by omega, rfl, a.T, rfl, ht, HP.out, HFr.out, Chg.refl⟩
  case round =>
    obtain ⟨k, hk, rfl, Ti, hcl, hown, hpr, hfr, hchg⟩ := hrel
    obtain ⟨wo, rfl⟩ : ∃ wo : World, wo = wr := ⟨_, rfl⟩
    have hTl : Ti.length = nT := by have := own_len hown; simpa using this
    have hc0 : wo.cell? ⟨p, 0, none⟩ = some (.slice ta nT tc) := by rw [cell_of_row wo p 0 _ _ _ hpr]; rfl
    have HCL := Lib.hid hcl
    have HPR := Lib.hid hpr
    have HFR := Lib.hid hfr
    have HCHG := Lib.hid hchg
    clear hcl hpr hfr hchg ht
    by_cases hlt : k < l.length
    · have hrd := HCHG.out.reads hl (fun ad had => HSEP.out ad had)
      obtain ⟨b, off, rfl, hbl, hcells⟩ := hrd.some (by omega)
      have hcx := hcells k hlt
      have hsucc := clr_take_succ hlt HCL.out
      have HSU := Lib.hid hsucc
      generalize hx : l[k]?.getD 0 = x at *
      have HX := Lib.hid hx
      have HCE := Lib.hid hcells
      clear hsucc hx hcells hrd
      have hklc : k ≤ lc := by omega
      cases hIs : arIs Ti x
      · have HIS := Lib.hid hIs
        clear hIs
        go_wp2_with (go_at_call 113; refine (arIs_raw _ hc0 hown hTl (by omega)).mono ?_; rintro e w' ⟨he, rfl⟩; rw [HIS.out] at he; subst he)
        have hval := (clr_get HCL.out).2.1
        have HV := Lib.hid hval; clear hval
        go_loopw [26] (fun i wr => ∃ j : Nat, j ≤ k ∧ i = .int .i64 j ∧ wr.ownsRow 0 4 1 (.slice ta nT tc) nT (((l.take j).foldl (fun T k => T.set k.toNat true) Ti).map Value.bool) ∧
            wr.heap[p]? = some (.cells #[.slice ta nT tc, .slice fa nF fc, .int .i64 a.M] 100 (0, 0)) ∧ wr.ownsRow 0 3 1 (.slice fa nF fc) nF (a.F.map natA) ∧ Chg S w wr)
          (fun i _ => k - (intOf i).toNat)
        case atStart => exact ⟨0, by omega, rfl, hown, HPR.out, HFR.out, HCHG.out⟩
        case round =>
          obtain ⟨j, hj, rfl, hown, hpr, hfr, hchg⟩ := hrel
          have hc0 : wr.cell? ⟨p, 0, none⟩ = some (.slice ta nT tc) := by rw [cell_of_row wr p 0 _ _ _ hpr]; rfl
          have HPR := Lib.hid hpr
          have HFR := Lib.hid hfr
          have HCHG := Lib.hid hchg
          clear hpr hfr hchg
          by_cases hjk : j < k
          · have hrd := HCHG.out.reads hl (fun ad had => HSEP.out ad had)
            obtain ⟨b', off', heq, _, hcells⟩ := hrd.some (by omega)
            cases heq
            have hcy := hcells j (by omega)
            have hstep := foldl_take_succ Ti l j (by omega)
            have hv := HV.out (l[j]?.getD 0) (by
              rw [List.getElem?_eq_getElem (show j < l.length by omega)]
              rw [List.mem_take_iff_getElem]
              exact ⟨j, by omega, rfl⟩)
            generalize l[j]?.getD 0 = y at *
            obtain ⟨hy0, hy1⟩ := hv
            have hyl : y.toNat < nT := by have := (List.getElem?_eq_some_iff.1 hy1).1; have := HNT.out; omega
            have hU : ((l.take j).foldl (fun T k => T.set k.toNat true) Ti).length = nT := by rw [foldl_len]; exact hTl
            generalize (l.take j).foldl (fun T k => T.set k.toNat true) Ti = U at *
            obtain ⟨tb, tcap, hv, _, htb, htcap, _, htcell, htfz⟩ := own_some hown (by omega)
            injection hv with e1 _ e3
            subst e1; subst e3
            obtain ⟨ntp, _, ntf⟩ := HN1.out tb rfl
            have hcT := htcell y.toNat hyl
            rw [List.getElem?_map, List.getElem?_eq_getElem (by omega)] at hcT
            simp only [Option.map_some] at hcT
            have hz0 := htfz y.toNat
            generalize U[y.toNat] = bv at *
            have HO := Lib.hid hown
            have HST := Lib.hid hstep
            have hyn : y < (nT : Int) := by omega
            clear hcells hrd htcell htfz hown hstep hy1 hU hTl
            go_wp2_with fail
            go_roundw
            case rel =>
              refine ⟨j + 1, by omega, by simp, ?_, ?_, ?_, ?_⟩
              · rw [HST.out, List.map_set]; exact own_set HO.out y.toNat (.bool true)
              · exact heap_set_other HPR.out (fun e => ntp e.symm)
              · exact own_set_other HFR.out _ (fun g hg e => ntf (by rw [hg, e])) (fun ad hg => HN4.out ad hg)
              · exact HCHG.out.setCell _ (Or.inl ((HS.out tb).2 (Or.inr (Or.inl rfl)))) _
            case measure => simp [intOf]; omega
          · obtain rfl : j = k := by omega
            have hb := clr_back HCL.out
            rw [hb] at hown
            have HO := Lib.hid hown
            have HFREE : Hid (a.free l = (7, a)) := by
              show Ar.free a l = _
              unfold Ar.free
              rw [clr_none_of_take (l := l) (i := j + 1) (by rw [HSU.out, HIS.out]; rfl)]
            clear hown hb hTl
            go_wp2_with fail
            go_ret
            rw [HFREE.out]
            refine ⟨rfl, _, IsArena.of (ta := ta) (tc := tc) (fa := fa) (fc := fc) HOK.out ?_ ?_ ?_ ?_ ?_, HCHG.out, fun x hx => Or.inl ((HS.out x).2 hx)⟩
            · rw [HNT.out, HNF.out]; exact HPR.out
            · rw [HNT.out]; exact HO.out
            · rw [HNF.out]; exact HFR.out
            · exact fun g hg => ⟨(HN1.out g hg).1, (HN1.out g hg).2.2⟩
            · exact fun g hg => (HN2.out g hg).1
      · obtain ⟨hx0, hx1⟩ := arIs_iff.1 hIs
        obtain ⟨hxl, hxv⟩ := List.getElem?_eq_some_iff.1 hx1
        obtain ⟨tb, tcap, hv, _, htb, htcap, _, htcell, htfz⟩ := own_some hown (by omega)
        injection hv with e1 _ e3
        subst e1; subst e3
        obtain ⟨ntp, _, ntf⟩ := HN1.out tb rfl
        have hcT := htcell x.toNat (by omega)
        rw [List.getElem?_map, List.getElem?_eq_getElem hxl] at hcT
        simp only [Option.map_some] at hcT
        have hz0 := htfz x.toNat
        generalize Ti[x.toNat] = bv at *
        have HO := Lib.hid hown
        have HIS := Lib.hid hIs
        have HTL := Lib.hid hTl
        have hxn : x < (nT : Int) := by omega
        clear htcell htfz hx1 hxv hown hTl
        go_wp2_with (go_at_call 113; refine (arIs_raw _ hc0 HO.out HTL.out (by omega)).mono ?_; rintro e w' ⟨rfl, rfl⟩)
        go_roundw
        case rel =>
          refine ⟨k + 1, by omega, by simp, Ti.set x.toNat false, by rw [HSU.out, HIS.out]; rfl, ?_, ?_, ?_, ?_⟩
          · rw [List.map_set]; exact own_set HO.out x.toNat (.bool false)
          · exact heap_set_other HPR.out (fun e => ntp e.symm)
          · exact own_set_other HFR.out _ (fun g hg e => ntf (by rw [hg, e])) (fun ad hg => HN4.out ad hg)
          · exact HCHG.out.setCell _ (Or.inl ((HS.out tb).2 (Or.inr (Or.inl rfl)))) _
        case measure => simp [intOf]; omega
    · obtain rfl : k = l.length := by omega
      have hcl := HCL.out
      rw [List.take_length] at hcl
      have HFREE : Hid (a.free l = (0, a.push Ti l)) := by
        show Ar.free a l = _
        unfold Ar.free
        rw [hcl]
      have hpush := Ar.push_ok HOK.out hcl
      have hpos := (clr_get hcl).2.1
      have HPOS := Lib.hid hpos
      have hc1 : wo.cell? ⟨p, 1, none⟩ = some (.slice fa nF fc) := by rw [cell_of_row wo p 1 _ _ _ HPR.out]; rfl
      have hrd := HCHG.out.reads hl (fun ad had => HSEP.out ad had)
      have hfr := HFR.out
      have HO := Lib.hid hown
      have hnews : ∀ q, la = some q → ∀ j u, (l.map (Value.int .i64))[j]? = some u → wo.cell? (q.add j) = some u := by
        intro q hq j u hu
        rw [List.getElem?_map] at hu
        by_cases hj : j < l.length
        · obtain ⟨b, off, e, _, hc⟩ := hrd.some (by omega)
          rw [hq] at e; cases e
          rw [Addr.add_lit, hc j hj, List.getElem?_eq_getElem hj]
          rw [List.getElem?_eq_getElem hj] at hu
          simpa using hu
        · rw [List.getElem?_eq_none (by omega)] at hu; cases hu
      have HNEWS := Lib.hid hnews
      clear hcl hpos hrd hown hnews
      go_wp2_with (at_builtin; refine wpList_appendL rfl _ _ 22 rfl 0 3 Try.infoInt' Try.underlying22 rfl _ _ _ rfl hfr _ _ _ (l.map (Value.int .i64)) rfl (by simp) ?c0 HNEWS.out ?c1 ?c2 ?c3 ?c4 ?_)
      case c0 => intro e; exact HNIL.out e
      case c1 => intro u hu; obtain ⟨z, _, rfl⟩ := List.mem_map.1 hu; rfl
      case c2 => unfold maxLen; omega
      case c3 => omega
      case c4 => omega
      intro a' c' w1 hown' hgrow hor
      have hpn : some p ≠ (Value.slice fa nF fc).ownBlock := by
        intro e
        cases fa with
        | none => simp [Value.ownBlock] at e
        | some ad =>
          obtain ⟨g, rfl⟩ := HN4.out ad rfl
          simp [Value.ownBlock] at e
          exact (HN2.out g rfl).1 e.symm
      have hplo : p < wo.heap.size := (Array.getElem?_eq_some_iff.1 HPR.out).1
      have hp1 : w1.heap[p]? = some (.cells #[.slice ta nT tc, .slice fa nF fc, .int .i64 a.M] 100 (0, 0)) := (hgrow.block p hplo hpn).trans HPR.out
      have hc1 : w1.cell? ⟨p, 1, none⟩ = some (.slice fa nF fc) := by rw [cell_of_row w1 p 1 _ _ _ hp1]; rfl
      have hf1 : w1.frozen? ⟨p, 1, none⟩ = false := frozen_of_row w1 p 1 _ _ hp1
      have HP1 := Lib.hid hp1
      have HO1 := Lib.hid hown'
      have HG := Lib.hid hgrow
      have HOR := Lib.hid hor
      clear hp1 hown' hgrow hor hpn hfr
      go_wp2_with fail
      go_ret
      have obf : ∀ x n c, (Value.slice fa n c).ownBlock = some x → fa = some ⟨x, 0, none⟩ := by
        intro x n c hx
        cases fa with
        | none => simp [Value.ownBlock] at hx
        | some ad => obtain ⟨g, rfl⟩ := HN4.out ad rfl; simp [Value.ownBlock] at hx; rw [hx]
      have hag : ∀ g, a' = some ⟨g, 0, none⟩ → g ≠ p ∧ ta ≠ some ⟨g, 0, none⟩ := by
        intro g hg
        rcases HOR.out g hg with e | e
        · have := obf g _ _ e
          exact ⟨(HN2.out g this).1, fun e2 => (HN1.out g e2).2.2 this⟩
        · refine ⟨fun e2 => by omega, fun e2 => ?_⟩
          have := (HN1.out g e2).2.1
          have := HCHG.out.size
          omega
      have ha' : ∀ ad, a' = some ad → ∃ g, ad = (⟨g, 0, none⟩ : Addr) := by
        obtain ⟨x, c, hv, _, hb⟩ := own_slice HO1.out
        injection hv with e1 e2 e3
        intro ad hh; obtain ⟨g, e, _⟩ := hb ad (e1 ▸ hh); exact ⟨g, e⟩
      rw [HFREE.out]
      have e1 : (a.push Ti l).T.length = nT := by have := own_len HO.out; simpa [Ar.push] using this
      have e2 : (a.push Ti l).F.length = nF + l.length := by have := HNF.out; simp [Ar.push]; omega
      have e3 : (a.push Ti l).F.map natA = a.F.map natA ++ l.map (Value.int .i64) := by
        show (a.F ++ l.map Int.toNat).map natA = _
        rw [List.map_append, List.map_map]
        congr 1
        apply List.map_congr_left
        intro y hy
        have := (HPOS.out y hy).1
        show Value.int .i64 ((y.toNat : Nat) : Int) = _
        rw [Int.toNat_of_nonneg this]
      refine ⟨rfl, _, IsArena.of (ta := ta) (tc := tc) (fa := a') (fc := c') hpush ?_ ?_ ?_ ?_ ?_, ?_, ?_⟩
      · rw [e1, e2]
        exact heap_set_cells HP1.out 1 (.slice a' (nF + l.length) c')
      · rw [e1]
        refine own_set_other (HO.out.kept HG.out ?_) _ (fun g hg => (HN1.out g hg).1) (fun ad hg => HN3.out ad hg)
        cases ta with
        | none => left; rfl
        | some ad =>
          obtain ⟨g2, rfl⟩ := HN3.out ad rfl
          right
          intro e
          exact (HN1.out g2 rfl).2.2 (obf g2 _ _ (by rw [← e]; rfl))
      · rw [e2, e3]
        exact own_set_other HO1.out _ (fun g hg => (hag g hg).1) ha'
      · intro g hg; exact ⟨(HN1.out g hg).1, fun e => (hag g e).2 hg⟩
      · intro g hg; exact (hag g hg).1
      · exact (HCHG.out.grown HG.out (fun x hx => Or.inl ((HS.out x).2 (Or.inr (Or.inr (obf x _ _ hx)))))).setCell _ (Or.inl ((HS.out p).2 (Or.inl rfl))) _
      · intro x hx
        rcases hx with rfl | hx | hx
        · exact Or.inl ((HS.out _).2 (Or.inl rfl))
        · exact Or.inl ((HS.out _).2 (Or.inr (Or.inl hx)))
        · rcases HOR.out x hx with e | e
          · exact Or.inl ((HS.out _).2 (Or.inr (Or.inr (obf x _ _ e))))
          · have := HCHG.out.size
            exact Or.inr (by omega)

end Go.Proofs.Ytpbmhdkhkbhgnaa

namespace Go.Proofs.Ytpbmhdkhkbhgnaa
set_option linter.unusedVariables false
set_option linter.unusedSimpArgs false
open Go.RowKit

/-- Block p holds an arena all of whose blocks lie from B on. -/
def ArAt (B : Nat) (w : World) (p : Nat) (a : Ar) : Prop := ∃ S, IsArena w p S a ∧ ∀ k, S k → B ≤ k

theorem ArAt.ok {B : Nat} {w : World} {p : Nat} {a : Ar} (h : ArAt B w p a) : a.Ok := by obtain ⟨S, h, _⟩ := h; exact h.ok
theorem ArAt.chg {B : Nat} {w w' : World} {p : Nat} {a : Ar} (h : ArAt B w p a) (hb : Below w.heap.size w w') : ArAt B w' p a := by
  obtain ⟨S, h, hs⟩ := h
  exact ⟨S, h.chg (S' := fun _ => False) (Chg.of_below hb) (fun _ _ hf => hf), hs⟩
theorem ArStep.at {B : Nat} {w w' : World} {p : Nat} {S : Nat → Prop} {a' : Ar} (h : ArStep w w' p S a') (hs : ∀ k, S k → B ≤ k) (hB : B ≤ w.heap.size) : ArAt B w' p a' ∧ Below B w w' := by
  obtain ⟨S', h1, h2, h3⟩ := h
  exact ⟨⟨S', h1, fun k hk => (h3 k hk).elim (hs k) (fun h => by omega)⟩, h2.below hs hB⟩

theorem arTake_any {w : World} {p : Nat} {S : Nat → Prop} {a : Ar} (h : IsArena w p S a) :
    Calls Try.prog 72 #[.pointer (some ⟨p, 0, none⟩)] w fun e w' => e = .returned (.tuple #[.int .i64 a.take.1, .int .i64 a.take.2.1]) ∧ ArStep w w' p S a.take.2.2 := by
  by_cases hl : a.live = a.M
  · have e1 : a.take = (-1, 3, a) := if_pos hl
    rw [e1]
    refine (arTake_full h hl).mono ?_
    rintro e w' ⟨rfl, n, rfl⟩
    exact ⟨rfl, S, h.chg (S' := fun _ => False) (Chg.refl.drewN n) (fun _ _ hf => hf), Chg.refl.drewN n, fun k hk => Or.inl hk⟩
  · cases hk : a.F.getLast? with
    | some k =>
      have e1 : a.take = ((k : Int), 0, a.pop k) := by unfold Ar.take; rw [if_neg hl, hk]
      rw [e1]
      exact arTake_pop h hl hk
    | none =>
      have e1 : a.take = ((a.T.length : Int), 0, a.more) := by unfold Ar.take; rw [if_neg hl, hk]
      rw [e1]
      exact arTake_more h hl (List.getLast?_eq_none_iff.1 hk)

theorem new_at (m : Nat) (w : World) (h : m ≤ 268435456) :
    Calls Try.prog 69 #[.int .i64 m] w fun e w' => ∃ p, e = .returned (.pointer (some ⟨p, 0, none⟩)) ∧ ArAt w.heap.size w' p (Ar.new m) ∧ Below w.heap.size w w' ∧ p < w'.heap.size := by
  refine (arNew_good m w h).mono ?_
  rintro e w' ⟨rfl, hA, hc⟩
  exact ⟨_, rfl, ⟨_, hA, fun k hk => by rw [hk]; exact Nat.le_refl _⟩, hc.below (fun b hb => hb.elim) (Nat.le_refl _), hA.lt _ hA.self⟩

theorem take_at {B : Nat} {w : World} {p : Nat} {a a' : Ar} {k x : Int} (h : ArAt B w p a) (hB : B ≤ w.heap.size) (hr : a.take = (k, x, a')) :
    Calls Try.prog 72 #[.pointer (some ⟨p, 0, none⟩)] w fun e w' => e = .returned (.tuple #[.int .i64 k, .int .i64 x]) ∧ ArAt B w' p a' ∧ Below B w w' := by
  obtain ⟨S, h, hs⟩ := h
  refine (arTake_any h).mono ?_
  rintro e w' ⟨rfl, hst⟩
  rw [hr] at hst ⊢
  exact ⟨rfl, hst.at hs hB⟩

theorem live_at {B : Nat} {w : World} {p : Nat} {a : Ar} (h : ArAt B w p a) :
    Calls Try.prog 96 #[.pointer (some ⟨p, 0, none⟩)] w fun e w' => e = .returned (.int .i64 a.live) ∧ ∃ n, w' = w.drewN n := by
  obtain ⟨S, h, hs⟩ := h
  exact arLive_any h
theorem is_at {B : Nat} {w : World} {p : Nat} {a : Ar} (k : Int) (h : ArAt B w p a) :
    Calls Try.prog 113 #[.pointer (some ⟨p, 0, none⟩), .int .i64 k] w fun e w' => e = .returned (.bool (arIs a.T k)) ∧ w = w' := by
  obtain ⟨S, h, hs⟩ := h
  exact arIs_any k h

/-- Free of numbers that were just written out. -/
theorem free_new {B : Nat} {w : World} {p : Nat} {a a' : Ar} {x : Int} {t : TypeId} {l : List Int} {n : Nat} (h : ArAt B w p a) (hB : B ≤ w.heap.size) (hn : n = l.length) (hlen : l.length ≤ 1000000000) (hr : a.free l = (x, a')) :
    Calls Try.prog 100 #[.pointer (some ⟨p, 0, none⟩), .slice (some ⟨w.heap.size, 0, none⟩) n n] (w.alloc (.cells (l.map (Value.int .i64)).toArray t)) fun e w' =>
      e = .returned (.int .i64 x) ∧ ArAt B w' p a' ∧ Below B w w' := by
  subst hn
  obtain ⟨S, h, hs⟩ := h
  have h' : IsArena (w.alloc (.cells (l.map (Value.int .i64)).toArray t)) p S a := h.chg (S' := fun _ => False) (Chg.refl.alloc _) (fun _ _ hf => hf)
  have hrd : Reads (w.alloc (.cells (l.map (Value.int .i64)).toArray t)) .i64 (some ⟨w.heap.size, 0, none⟩) l := fun i hi => ⟨_, _, rfl, by simp, fun j hj => by
    rw [Nat.zero_add, World.cell?_alloc_at _ _ _ _ rfl]
    simp [List.getElem?_eq_getElem hj]⟩
  refine (arFree_any h' l _ l.length hrd (fun e => by cases e) (fun ad e hS => ?_) hlen (Nat.le_refl _)).mono ?_
  · cases e
    have := h.lt _ hS
    exact Nat.lt_irrefl _ this
  · rintro e w' ⟨rfl, hst⟩
    rw [hr] at hst ⊢
    obtain ⟨h1, h2⟩ := hst.at hs (by simp; omega)
    exact ⟨rfl, h1, ((Below.refl _ _).alloc hB _).trans h2⟩

theorem free_lit {B : Nat} {w : World} {p : Nat} {a a' : Ar} {x : Int} {t : TypeId} (l : List Int) (cs : Array Value) (n : Nat) (h : ArAt B w p a) (hB : B ≤ w.heap.size) (hcs : cs = (l.map (Value.int .i64)).toArray) (hn : n = l.length) (hlen : l.length ≤ 1000000000) (hr : a.free l = (x, a')) :
    Calls Try.prog 100 #[.pointer (some ⟨p, 0, none⟩), .slice (some ⟨w.heap.size, 0, none⟩) n n] (w.alloc (.cells cs t)) fun e w' =>
      e = .returned (.int .i64 x) ∧ ArAt B w' p a' ∧ Below B w w' := by
  subst hcs
  exact free_new h hB hn hlen hr

theorem arTake_nil (w : World) : Calls Try.prog 72 #[.pointer none] w fun e w' => e = .returned (.tuple #[.int .i64 (-1), .int .i64 6]) ∧ w = w' := by
  go_enter Try.func72, Try.ntmps72
  go_wp2
  go_ret2
  exact ⟨rfl, rfl⟩
theorem arLive_nil (w : World) : Calls Try.prog 96 #[.pointer none] w fun e w' => e = .returned (.int .i64 0) ∧ w = w' := by
  go_enter Try.func96, Try.ntmps96
  go_wp2
  go_ret
  exact ⟨rfl, rfl⟩

end Go.Proofs.Ytpbmhdkhkbhgnaa

namespace Go.Proofs.Ytpbmhdkhkbhgnaa
set_option linter.unusedVariables false
set_option linter.unusedSimpArgs false
open Go.RowKit

/-- A Perm: its arena, the table of pairs, the order, how many rows and places. -/
structure Pm where
  A : Ar
  L : List (Int × Int)
  O : List Nat
  R : Nat
  N : Nat
def cellsL : List (Int × Int) → List Value
  | [] => []
  | x :: l => .int .i64 x.1 :: .int .i64 x.2 :: cellsL l
theorem cellsL_len : ∀ l : List (Int × Int), (cellsL l).length = l.length * 2
  | [] => rfl
  | x :: l => by simp only [cellsL, List.length_cons, cellsL_len l]; omega
theorem cellsL_get : ∀ (l : List (Int × Int)) (i : Nat), i < l.length → (cellsL l)[i * 2]? = some (.int .i64 (rowL l i)) ∧ (cellsL l)[i * 2 + 1]? = some (.int .i64 (posL l i))
  | [], i, h => absurd h (Nat.not_lt_zero _)
  | x :: l, 0, _ => ⟨rfl, rfl⟩
  | x :: l, i + 1, h => by
    obtain ⟨h1, h2⟩ := cellsL_get l i (by simpa using h)
    refine ⟨?_, ?_⟩
    · rw [show (i + 1) * 2 = i * 2 + 1 + 1 by omega]; exact h1
    · rw [show (i + 1) * 2 + 1 = i * 2 + 1 + 1 + 1 by omega]; exact h2

structure Pm.Ok (m : Pm) : Prop where
  most : m.A.M = 268435456
  nd : m.O.Nodup
  iff : ∀ k, m.A.T[k]? = some true ↔ k ∈ m.O
  len : m.A.T.length = m.L.length
theorem Pm.Ok.lt {m : Pm} (h : m.Ok) {k : Nat} (hk : k ∈ m.O) : k < m.L.length := by
  have := (List.getElem?_eq_some_iff.1 ((h.iff k).2 hk)).1
  have := h.len
  omega

/-- Block p holds a Perm: its arena at q (of the blocks SA), its table lv, its order ov. -/
structure PmIn (w : World) (p q : Nat) (SA : Nat → Prop) (lv ov : Value) (m : Pm) : Prop where
  hp : w.heap[p]? = some (.cells #[.pointer (some ⟨q, 0, none⟩), lv, ov, .int .i64 m.R, .int .i64 m.N] 84 (0, 0))
  ar : IsArena w q SA m.A
  tab : w.ownsRow 0 52 2 lv m.L.length (cellsL m.L)
  ord : w.ownsRow 0 3 1 ov m.O.length (m.O.map natV)
  d1 : ¬ SA p
  d2 : ∀ g, lv.ownBlock = some g → g ≠ p ∧ ¬ SA g
  d3 : ∀ g, ov.ownBlock = some g → g ≠ p ∧ ¬ SA g ∧ lv.ownBlock ≠ some g
/-- The blocks of a Perm. -/
def pmS (p : Nat) (SA : Nat → Prop) (lv ov : Value) : Nat → Prop := fun k => k = p ∨ SA k ∨ lv.ownBlock = some k ∨ ov.ownBlock = some k
theorem PmIn.chg {w w' : World} {S' : Nat → Prop} {p q : Nat} {SA : Nat → Prop} {lv ov : Value} {m : Pm} (h : PmIn w p q SA lv ov m) (hc : Chg S' w w') (hd : ∀ k, pmS p SA lv ov k → ¬ S' k) : PmIn w' p q SA lv ov m :=
  ⟨hc.heap h.hp (hd p (Or.inl rfl)), h.ar.chg hc (fun k hk => hd k (Or.inr (Or.inl hk))), hc.own h.tab (fun k hk => hd k (Or.inr (Or.inr (Or.inl hk)))), hc.own h.ord (fun k hk => hd k (Or.inr (Or.inr (Or.inr hk)))), h.d1, h.d2, h.d3⟩
theorem PmIn.below {w w' : World} {p q : Nat} {SA : Nat → Prop} {lv ov : Value} {m : Pm} (h : PmIn w p q SA lv ov m) (hb : Below w.heap.size w w') : PmIn w' p q SA lv ov m := h.chg (Chg.of_below (S := fun _ => False) hb) (fun _ _ => id)
theorem PmIn.lt {w : World} {p q : Nat} {SA : Nat → Prop} {lv ov : Value} {m : Pm} (h : PmIn w p q SA lv ov m) : ∀ k, pmS p SA lv ov k → k < w.heap.size := by
  rintro k (rfl | hk | hk | hk)
  · exact (Array.getElem?_eq_some_iff.1 h.hp).1
  · exact h.ar.lt k hk
  · exact (own_lt h.tab hk).2
  · exact (own_lt h.ord hk).2
theorem PmIn.cells {w : World} {p q : Nat} {SA : Nat → Prop} {lv ov : Value} {m : Pm} (h : PmIn w p q SA lv ov m) :
    w.cell? ⟨p, 0, none⟩ = some (.pointer (some ⟨q, 0, none⟩)) ∧ w.cell? ⟨p, 1, none⟩ = some lv ∧ w.cell? ⟨p, 2, none⟩ = some ov ∧ w.cell? ⟨p, 3, none⟩ = some (.int .i64 m.R) ∧ w.cell? ⟨p, 4, none⟩ = some (.int .i64 m.N) ∧ (∀ j, w.frozen? ⟨p, j, none⟩ = false) :=
  ⟨by rw [cell_of_row w p 0 _ _ _ h.hp]; rfl, by rw [cell_of_row w p 1 _ _ _ h.hp]; rfl, by rw [cell_of_row w p 2 _ _ _ h.hp]; rfl, by rw [cell_of_row w p 3 _ _ _ h.hp]; rfl, by rw [cell_of_row w p 4 _ _ _ h.hp]; rfl, fun j => frozen_of_row w p j _ _ h.hp⟩
/-- What the closures read, where there is a pair. -/
theorem PmIn.rd {w : World} {p q : Nat} {SA : Nat → Prop} {lv ov : Value} {m : Pm} (h : PmIn w p q SA lv ov m) (hl : 0 < m.L.length) {bp : Nat} (hb : w.cell? ⟨bp, 0, none⟩ = some (.pointer (some ⟨p, 0, none⟩))) :
    ∃ gl cap, lv = .slice (some ⟨gl, 0, none⟩) m.L.length cap ∧ PmRd w bp p gl cap m.L := by
  rcases h.tab.2 with ⟨_, h0⟩ | ⟨g, cap, cur, rfl, _, hg, h1, h2, hsz, htk⟩
  · omega
  · refine ⟨g, cap, rfl, hb, h.cells.2.1, fun i hi => ?_⟩
    have hc : ∀ j, j < m.L.length * 2 → cur[j]? = (cellsL m.L)[j]? := fun j hj => by rw [← htk, List.getElem?_take, if_pos (by omega), Array.getElem?_toList]
    obtain ⟨e1, e2⟩ := cellsL_get m.L i hi
    exact ⟨by rw [cell_of_row w g (i * 2) _ _ _ hg, hc _ (by omega), e1], by rw [cell_of_row w g (i * 2 + 1) _ _ _ hg, hc _ (by omega), e2]⟩

/-- How many rows are less; is there this one? -/
def Pm.cnt (m : Pm) (x : Int) : Nat := m.O.countP fun k => decide (rowL m.L k < x)
def Pm.is (m : Pm) (x : Int) : Bool := m.O.any fun k => rowL m.L k == x
def Pm.Sorted (m : Pm) : Prop := m.O.Pairwise fun a b => rowL m.L a < rowL m.L b
theorem cmp_lt (a b : Int) : Lib.compareInt a b < 0 ↔ a < b := by unfold Lib.compareInt; split <;> (try split) <;> omega
theorem cmp_eq (a b : Int) : Lib.compareInt a b = 0 ↔ a = b := by unfold Lib.compareInt; split <;> (try split) <;> omega

/-- BinarySearchFunc with the closure of 'at'. -/
theorem search_any {w : World} {p q bp : Nat} {SA : Nat → Prop} {lv ov : Value} {m : Pm} (h : PmIn w p q SA lv ov m) (hok : m.Ok) (hs : m.Sorted) (hb : w.cell? ⟨bp, 0, none⟩ = some (.pointer (some ⟨p, 0, none⟩))) (hbn : ¬ pmS p SA lv ov bp)
    (hl : m.L.length ≤ 1000000000) (x : Int) :
    Calls Try.prog 92 #[ov, .int .i64 x, .func (.func 93) #[] #[.pointer (some ⟨bp, 0, none⟩)]] w fun e w' =>
      e = .returned (.tuple #[.int .i64 (m.cnt x), .bool (m.is x)]) ∧ PmIn w' p q SA lv ov m ∧ Chg (fun b => ov.ownBlock = some b) w w' := by
  by_cases h0 : m.O.length = 0
  · have e0 : m.O = [] := List.eq_nil_of_length_eq_zero h0
    obtain ⟨a, c, rfl, _, _⟩ := own_slice h.ord
    have e1 : m.cnt x = 0 := by unfold Pm.cnt; rw [e0]; rfl
    have e2 : m.is x = false := by unfold Pm.is; rw [e0]; rfl
    have key : Calls Try.prog 92 #[.slice a m.O.length c, .int .i64 x, .func (.func 93) #[] #[.pointer (some ⟨bp, 0, none⟩)]] w fun e w' => e = .returned (.tuple #[.int .i64 0, .bool false]) ∧ w' = w := by
      rw [h0]; exact Any.slices_BinarySearchFunc_none Try.laysBS a c _ _ w
    rw [e1, e2]
    refine key.mono ?_
    rintro e w' ⟨rfl, rfl⟩
    exact ⟨rfl, h, Chg.refl⟩
  · rcases h.ord.2 with ⟨_, h1⟩ | ⟨g, cap, cur, rfl, _, hg, hc1, hc2, hsz, htk⟩
    · omega
    have hlen : 0 < m.L.length := by
      have := hok.lt (List.getElem_mem (l := m.O) (n := 0) (by omega)); omega
    obtain ⟨gl, capl, rfl, hrd⟩ := h.rd hlen hb
    letI : Inhabited (Fin m.L.length) := ⟨⟨0, hlen⟩⟩
    let d : Array (Fin m.L.length) := (m.O.attach.map fun x => ⟨x.1, hok.lt x.2⟩).toArray
    have hdv : d.toList.map Fin.val = m.O := by
      show (m.O.attach.map _).map _ = m.O
      rw [List.map_map]
      exact List.attach_map_subtype_val m.O
    have hds : d.size = m.O.length := by rw [← Array.length_toList, ← List.length_map (f := Fin.val), hdv]
    have henc : d.toList.map (fun x : Fin m.L.length => natV x.1) = m.O.map natV := by
      have e := congrArg (List.map natV) hdv
      rw [List.map_map] at e
      exact e
    have hqlt := (own_lt h.ord (k := g) rfl).2
    have hH : Go.Sort.Holds (fun x : Fin m.L.length => natV x.1) w g 0 d := by
      intro j hj
      refine ⟨?_, frozen_of_row w g _ _ _ hg⟩
      rw [Nat.zero_add, cell_of_row w g j _ _ _ hg, ← Array.getElem?_toList]
      have e : (cur.toList.take (m.O.length * 1))[j]? = (m.O.map natV)[j]? := by rw [htk]
      rw [List.getElem?_take, if_pos (by omega)] at e
      rw [e, ← henc, List.getElem?_map]
      simp [hj]
    obtain ⟨n1, n2, n3⟩ := h.d3 g rfl
    have hcmp : CmpLaysT Try.prog 93 #[.pointer (some ⟨bp, 0, none⟩)] (fun x : Fin m.L.length => natV x.1) (.int .i64 x) (fun y => Lib.compareInt (rowL m.L y.1) x) g 0 d.size w := by
      intro mm os dk _ y
      have hc := sortWorld_chg (fun x : Fin m.L.length => natV x.1) w g mm dk os
      refine (at1_any (hrd.chg hc (fun e => hbn (by rw [e]; exact Or.inr (Or.inr (Or.inr rfl)))) (fun e => n1 e.symm) (fun e => n3 (by rw [← e]; rfl))) y.1 x y.2 hl).mono ?_
      rintro e w' ⟨rfl, rfl⟩
      exact ⟨rfl, 0, #[], by rw [Go.Sort.grow_empty]; rfl⟩
    have hget : ∀ j (hj : j < m.O.length), (d[j]!).1 = m.O[j] := by
      intro j hj
      rw [getElem!_pos d j (by omega)]
      have : (d.toList.map Fin.val)[j]? = m.O[j]? := by rw [hdv]
      rw [List.getElem?_map, List.getElem?_eq_getElem hj] at this
      simpa [show j < d.size by omega] using this
    have hmono : ∀ a b, a ≤ b → b < d.size → (fun y : Fin m.L.length => Lib.compareInt (rowL m.L y.1) x) d[b]! < 0 → (fun y : Fin m.L.length => Lib.compareInt (rowL m.L y.1) x) d[a]! < 0 := by
      intro a b hab hbd hlt
      show Lib.compareInt _ _ < 0
      have hlt : Lib.compareInt (rowL m.L (d[b]!).1) x < 0 := hlt
      rw [cmp_lt, hget b (by omega)] at hlt
      rw [cmp_lt, hget a (by omega)]
      rcases Nat.lt_or_ge a b with k | k
      · have := List.pairwise_iff_getElem.1 hs a b (by omega) (by omega) k
        omega
      · obtain rfl : a = b := by omega
        exact hlt
    have eg : ∀ args w, (callFunc 93 args).run Try.prog w = .ok (.enter 93 args) w := enters_of Try.func93 (by kernel_rfl) rfl
    have key := Any.slices_BinarySearchFunc Try.laysBS (fun x : Fin m.L.length => natV x.1) (fun _ => rfl) (.int .i64 x) (fun y => Lib.compareInt (rowL m.L y.1) x) 93 #[.pointer (some ⟨bp, 0, none⟩)] g 0 cap d w eg hcmp hH hqlt (by rw [hds]; have := (hok.nd).length_le_of_subset (l₂ := List.range m.L.length) (fun k hk => List.mem_range.2 (hok.lt hk)); simp at this; omega) hmono
    have hcnt : d.toList.countP (fun y => decide (Lib.compareInt (rowL m.L y.1) x < 0)) = m.cnt x := by
      have e : m.cnt x = (d.toList.map Fin.val).countP fun k => decide (rowL m.L k < x) := by rw [hdv]; rfl
      have e2 : (d.toList.map Fin.val).countP (fun k => decide (rowL m.L k < x)) = d.toList.countP ((fun k => decide (rowL m.L k < x)) ∘ Fin.val) := List.countP_map
      rw [e, e2]
      refine List.countP_congr (fun y _ => ?_)
      show decide _ = true ↔ decide _ = true
      rw [decide_eq_true_eq, decide_eq_true_eq, cmp_lt]
    have his : (decide (m.cnt x < d.size) && decide (Lib.compareInt (rowL m.L (d[m.cnt x]!).1) x = 0)) = m.is x := by
      rw [Bool.eq_iff_iff]
      unfold Pm.is
      rw [List.any_eq_true, Bool.and_eq_true, decide_eq_true_eq, decide_eq_true_eq, cmp_eq]
      constructor
      · rintro ⟨k1, k2⟩
        have k3 : m.cnt x < m.O.length := by omega
        rw [hget _ k3] at k2
        exact ⟨_, List.getElem_mem k3, by simp [k2]⟩
      · rintro ⟨k, hk, he⟩
        obtain ⟨j, hj, rfl⟩ := List.getElem_of_mem hk
        have he : rowL m.L m.O[j] = x := by simpa using he
        have hc : m.cnt x = j := by
          refine Lib.countP_boundary _ m.O j (by omega) (fun t ht => ?_) (fun t h3 h4 => ?_)
          · rw [getElem!_pos m.O t (by omega), decide_eq_true_eq]
            have := List.pairwise_iff_getElem.1 hs t j (by omega) hj ht
            omega
          · rw [getElem!_pos m.O t h4, decide_eq_false_iff_not]
            rcases Nat.lt_or_ge j t with k | k
            · have := List.pairwise_iff_getElem.1 hs j t hj h4 k
              omega
            · obtain rfl : t = j := by omega
              omega
        rw [hc, hget j hj]
        exact ⟨by omega, he⟩
    rw [hcnt, his, hds] at key
    refine key.mono ?_
    rintro e w' ⟨rfl, mm, os, rfl⟩
    have hch : Chg (fun b => b = g) w (sortWorld (fun x : Fin m.L.length => natV x.1) w g 0 mm d os) := sortWorld_chg _ _ _ _ _ _
    refine ⟨rfl, ⟨hch.heap h.hp (fun e => n1 e.symm), h.ar.chg hch (fun k hk e => n2 (e ▸ hk)), hch.own h.tab (fun k hk e => n3 (e ▸ hk)), ?_, h.d1, h.d2, h.d3⟩, hch.mono (fun b e => by rw [e]; rfl)⟩
    have := sortWorld_own (fun x : Fin m.L.length => natV x.1) h.ord mm d os hds
    rw [henc] at this
    exact this

end Go.Proofs.Ytpbmhdkhkbhgnaa

namespace Go.Proofs.Ytpbmhdkhkbhgnaa
set_option linter.unusedVariables false
set_option linter.unusedSimpArgs false
open Go.RowKit

set_option maxHeartbeats 800000 in
theorem pAt_any {w : World} {p q : Nat} {SA : Nat → Prop} {lv ov : Value} {m : Pm} (h : PmIn w p q SA lv ov m) (hok : m.Ok) (hs : m.Sorted) (hl : m.L.length ≤ 1000000000) (x : Int) :
    Calls Try.prog 70 #[.pointer (some ⟨p, 0, none⟩), .int .i64 x] w fun e w' =>
      e = .returned (.tuple #[.int .i64 (m.cnt x), .bool (m.is x)]) ∧ PmIn w' p q SA lv ov m ∧ Chg (fun b => ov.ownBlock = some b) w w' := by
  have hb := below_al w (.cells #[.pointer (some ⟨p, 0, none⟩)] 43)
  have hbp : (w.alloc (.cells #[.pointer (some ⟨p, 0, none⟩)] 43)).cell? ⟨w.heap.size, 0, none⟩ = some (.pointer (some ⟨p, 0, none⟩)) := World.cell?_alloc_at _ _ _ _ rfl
  have h2 := h.below hb
  have key := search_any h2 hok hs hbp (fun e => by have := h.lt _ e; omega) hl x
  obtain ⟨e0, e1, e2, e3, e4, e5⟩ := h2.cells
  have HK := Lib.hid key
  have HC : Hid (Chg (fun b => ov.ownBlock = some b) w (w.alloc (.cells #[.pointer (some ⟨p, 0, none⟩)] 43))) := Chg.refl.alloc _
  clear key hb h h2 hok hs e0 e1 e3 e4 e5
  obtain ⟨k, hk⟩ : ∃ k, m.cnt x = k := ⟨_, rfl⟩
  obtain ⟨b, hb⟩ : ∃ b, m.is x = b := ⟨_, rfl⟩
  rw [hk, hb] at HK ⊢
  go_enter Try.func70, Try.ntmps70
  go_wp2_with (go_at_call 92; refine HK.out.mono ?_; rintro e w' ⟨rfl, hP, hC⟩)
  go_ret2
  exact ⟨rfl, hP, HC.out.trans hC (fun b hb => Or.inl hb)⟩

/-- Where the pair of a place stands; -1. -/
def Pm.has (m : Pm) (x : Int) : Int := match m.O.findIdx? fun k => posL m.L k == x with
  | some i => (i : Int)
  | none => -1
theorem idxBy_find {α β : Type} [Inhabited α] (f : α → β) (p : β → Bool) (l : List α) (k : List β) (hk : l.map f = k) (x : α) : Lib.idxBy (fun _ y => p (f y)) (l.take k.length) x = match k.findIdx? p with
    | some i => (i : Int)
    | none => -1 := by
  subst hk
  rw [List.length_map, List.take_length]
  show Lib.idxByFrom _ _ l 0 = _
  have gen : ∀ (l : List α) (i : Nat), Lib.idxByFrom (fun _ y => p (f y)) x l i = match (l.map f).findIdx? p with
      | some j => ((i + j : Nat) : Int)
      | none => -1 := by
    intro l
    induction l with
    | nil => intro i; rfl
    | cons a l ih =>
      intro i
      show (if p (f a) = true then (i : Int) else Lib.idxByFrom _ x l (i + 1)) = _
      rw [List.map_cons, List.findIdx?_cons]
      by_cases h : p (f a) = true
      · rw [if_pos h, if_pos h]; rfl
      · rw [if_neg h, if_neg h, ih (i + 1)]
        cases (l.map f).findIdx? p with
        | none => rfl
        | some j =>
          show ((i + 1 + j : Nat) : Int) = ((i + (j + 1) : Nat) : Int)
          congr 1; omega
  rw [gen l 0]
  cases (l.map f).findIdx? p with
  | none => rfl
  | some j => simp

/-- IndexFunc with the closure of 'has'. -/
theorem index_any {w : World} {p q bp bx : Nat} {SA : Nat → Prop} {lv ov : Value} {m : Pm} (h : PmIn w p q SA lv ov m) (hok : m.Ok) (hb : w.cell? ⟨bp, 0, none⟩ = some (.pointer (some ⟨p, 0, none⟩))) (x : Int) (hx : w.cell? ⟨bx, 0, none⟩ = some (.int .i64 x))
    (hl : m.L.length ≤ 1000000000) :
    Calls Try.prog 94 #[ov, .func (.func 95) #[] #[.pointer (some ⟨bp, 0, none⟩), .pointer (some ⟨bx, 0, none⟩)]] w fun e w' => e = .returned (.int .i64 (m.has x)) ∧ ∃ n, w' = w.drewN n := by
  by_cases h0 : m.O.length = 0
  · have e0 : m.O = [] := List.eq_nil_of_length_eq_zero h0
    obtain ⟨a, c, rfl, _, _⟩ := own_slice h.ord
    have e1 : m.has x = -1 := by unfold Pm.has; rw [e0]; rfl
    have key : Calls Try.prog 94 #[.slice a m.O.length c, .func (.func 95) #[] #[.pointer (some ⟨bp, 0, none⟩), .pointer (some ⟨bx, 0, none⟩)]] w fun e w' => e = .returned (.int .i64 (-1)) ∧ w' = w := by
      rw [h0]; exact AnyE.slices_IndexFunc_empty Try.laysIF a c _ w
    rw [e1]
    refine key.mono ?_
    rintro e w' ⟨rfl, rfl⟩
    exact ⟨rfl, 0, rfl⟩
  · rcases h.ord.2 with ⟨_, h1⟩ | ⟨g, cap, cur, rfl, _, hg, hc1, hc2, hsz, htk⟩
    · omega
    have hlen : 0 < m.L.length := by
      have := hok.lt (List.getElem_mem (l := m.O) (n := 0) (by omega)); omega
    obtain ⟨gl, capl, rfl, hrd⟩ := h.rd hlen hb
    letI : Inhabited (Fin m.L.length) := ⟨⟨0, hlen⟩⟩
    obtain ⟨zs, hzs⟩ : ∃ zs : List (Fin m.L.length), zs.map Fin.val = m.O := ⟨m.O.attach.map fun x => ⟨x.1, hok.lt x.2⟩, by rw [List.map_map]; exact List.attach_map_subtype_val m.O⟩
    have hzl : zs.length = m.O.length := by rw [← hzs, List.length_map]
    have eg : ∀ args w, (callFunc 95 args).run Try.prog w = .ok (.enter 95 args) w := enters_of Try.func95 (by kernel_rfl) rfl
    have hbx := World.block_lt_of_cell? w _ hx
    have key := AnyE.slices_IndexFunc Try.laysIF (fun x : Fin m.L.length => natV x.1) (fun y => posL m.L y.1 == x) 95 #[.pointer (some ⟨bp, 0, none⟩), .pointer (some ⟨bx, 0, none⟩)] eg g 0 m.O.length cap zs w
      (fun W y hW => has1_any (hrd.below hW) y.1 x ((hW.cell (p := ⟨bx, 0, none⟩) hbx).trans hx) y.2 hl) (by omega)
      (by have := (hok.nd).length_le_of_subset (l₂ := List.range m.L.length) (fun k hk => List.mem_range.2 (hok.lt hk)); simp at this; omega)
      (fun j hj => by
        have e : (cur.toList.take (m.O.length * 1))[j]? = (m.O.map natV)[j]? := by rw [htk]
        rw [List.getElem?_take, if_pos (by omega), ← hzs, List.map_map, List.getElem?_map, List.getElem?_eq_getElem hj] at e
        rw [Nat.zero_add, cell_of_row w g j _ _ _ hg, ← Array.getElem?_toList, e, getElem!_pos zs j hj]; rfl)
    have e1 : Lib.idxBy (fun _ (y : Fin m.L.length) => posL m.L y.1 == x) (zs.take m.O.length) default = m.has x := by
      have := idxBy_find (fun y : Fin m.L.length => y.1) (fun k => posL m.L k == x) zs m.O hzs default
      exact this
    rw [e1] at key
    exact key

set_option maxHeartbeats 800000 in
theorem pHas_any {w : World} {p q : Nat} {SA : Nat → Prop} {lv ov : Value} {m : Pm} (h : PmIn w p q SA lv ov m) (hok : m.Ok) (hl : m.L.length ≤ 1000000000) (x : Int) :
    Calls Try.prog 71 #[.pointer (some ⟨p, 0, none⟩), .int .i64 x] w fun e w' => e = .returned (.int .i64 (m.has x)) ∧ Below w.heap.size w w' := by
  have hb1 := below_al w (.cells #[.pointer (some ⟨p, 0, none⟩)] 43)
  have hb2 : Below w.heap.size w ((w.alloc (.cells #[.pointer (some ⟨p, 0, none⟩)] 43)).alloc (.cells #[.int .i64 x] 3)) := hb1.alloc (by simp) _
  have hbp : ((w.alloc (.cells #[.pointer (some ⟨p, 0, none⟩)] 43)).alloc (.cells #[.int .i64 x] 3)).cell? ⟨w.heap.size, 0, none⟩ = some (.pointer (some ⟨p, 0, none⟩)) :=
    ((below_al (w.alloc (.cells #[.pointer (some ⟨p, 0, none⟩)] 43)) (.cells #[.int .i64 x] 3)).cell (p := ⟨w.heap.size, 0, none⟩) (by simp)).trans (World.cell?_alloc_at _ _ _ _ rfl)
  have hbx : ((w.alloc (.cells #[.pointer (some ⟨p, 0, none⟩)] 43)).alloc (.cells #[.int .i64 x] 3)).cell? ⟨w.heap.size + 1, 0, none⟩ = some (.int .i64 x) := by
    have : ((w.alloc (.cells #[.pointer (some ⟨p, 0, none⟩)] 43)).alloc (.cells #[.int .i64 x] 3)).cell? ⟨(w.alloc (.cells #[.pointer (some ⟨p, 0, none⟩)] 43)).heap.size, 0, none⟩ = some (.int .i64 x) := World.cell?_alloc_at _ _ _ _ rfl
    rwa [show (w.alloc (.cells #[.pointer (some ⟨p, 0, none⟩)] 43)).heap.size = w.heap.size + 1 by simp] at this
  have h2 := h.below hb2
  have key := index_any h2 hok hbp x hbx hl
  obtain ⟨e0, e1, e2, e3, e4, e5⟩ := h2.cells
  have HK := Lib.hid key
  have HB := Lib.hid hb2
  clear key hb1 hb2 h h2 hok e0 e1 e3 e4 e5 hbx
  obtain ⟨k, hk⟩ : ∃ k, m.has x = k := ⟨_, rfl⟩
  rw [hk] at HK ⊢
  go_enter Try.func71, Try.ntmps71
  go_wp2_with (go_at_call 94; refine HK.out.mono ?_; rintro e w' ⟨rfl, n, rfl⟩)
  go_ret
  exact ⟨rfl, below_dN HB.out n⟩

end Go.Proofs.Ytpbmhdkhkbhgnaa

namespace Go.Proofs.Ytpbmhdkhkbhgnaa
set_option linter.unusedVariables false
set_option linter.unusedSimpArgs false
open Go.RowKit

/-- A pair of the order, as a walk sees it. -/
theorem PmIn.pair {w : World} {p q : Nat} {SA : Nat → Prop} {lv ov : Value} {m : Pm} (h : PmIn w p q SA lv ov m) (hok : m.Ok) {i : Nat} (hi : i < m.O.length) :
    ∃ g cap gl capl k, lv = .slice (some ⟨gl, 0, none⟩) m.L.length capl ∧ ov = .slice (some ⟨g, 0, none⟩) m.O.length cap ∧ m.O[i]? = some k ∧ k < m.L.length ∧ w.cell? ⟨g, i, none⟩ = some (.int .i64 (k : Int)) ∧
      w.cell? ⟨gl, k * 2, none⟩ = some (.int .i64 (rowL m.L k)) ∧ w.cell? ⟨gl, k * 2 + 1, none⟩ = some (.int .i64 (posL m.L k)) := by
  have hk := hok.lt (List.getElem_mem hi)
  rcases h.ord.2 with ⟨_, h1⟩ | ⟨g, cap, cur, rfl, _, hg, hc1, hc2, hsz, htk⟩
  · omega
  rcases h.tab.2 with ⟨_, h0⟩ | ⟨gl, capl, curl, rfl, _, hgl, h1, h2, hszl, htkl⟩
  · omega
  have hc : ∀ j, j < m.L.length * 2 → curl[j]? = (cellsL m.L)[j]? := fun j hj => by rw [← htkl, List.getElem?_take, if_pos (by omega), Array.getElem?_toList]
  obtain ⟨e1, e2⟩ := cellsL_get m.L m.O[i] hk
  refine ⟨g, cap, gl, capl, m.O[i], rfl, rfl, List.getElem?_eq_getElem hi, hk, ?_, ?_, ?_⟩
  · have e : (cur.toList.take (m.O.length * 1))[i]? = (m.O.map natV)[i]? := by rw [htk]
    rw [List.getElem?_take, if_pos (by omega), List.getElem?_map, List.getElem?_eq_getElem hi] at e
    rw [cell_of_row w g i _ _ _ hg, ← Array.getElem?_toList, e]; rfl
  · rw [cell_of_row w gl _ _ _ _ hgl, hc _ (by omega), e1]
  · rw [cell_of_row w gl _ _ _ _ hgl, hc _ (by omega), e2]
theorem Pm.Ok.olen {m : Pm} (h : m.Ok) : m.O.length ≤ m.L.length := by
  have := (h.nd).length_le_of_subset (l₂ := List.range m.L.length) (fun k hk => List.mem_range.2 (h.lt hk))
  simpa using this
theorem Pm.is_lt {m : Pm} (hs : m.Sorted) {x : Int} (h : m.is x = true) : m.cnt x < m.O.length ∧ rowL m.L (m.O[m.cnt x]?.getD 0) = x := by
  unfold Pm.is at h
  rw [List.any_eq_true] at h
  obtain ⟨k, hk, he⟩ := h
  obtain ⟨j, hj, rfl⟩ := List.getElem_of_mem hk
  have he : rowL m.L m.O[j] = x := by simpa using he
  have hc : m.cnt x = j := by
    refine Lib.countP_boundary _ m.O j (by omega) (fun t ht => ?_) (fun t h3 h4 => ?_)
    · rw [getElem!_pos m.O t (by omega), decide_eq_true_eq]
      have := List.pairwise_iff_getElem.1 hs t j (by omega) hj ht
      omega
    · rw [getElem!_pos m.O t h4, decide_eq_false_iff_not]
      rcases Nat.lt_or_ge j t with k | k
      · have := List.pairwise_iff_getElem.1 hs j t hj h4 k
        omega
      · obtain rfl : t = j := by omega
        omega
  rw [hc]
  exact ⟨hj, by rw [List.getElem?_eq_getElem hj]; exact he⟩

/-- A row's place; a place's row. -/
def Pm.pos (m : Pm) (x : Int) : Int := if m.is x = true then posL m.L (m.O[m.cnt x]?.getD 0) else -1
def Pm.row (m : Pm) (x : Int) : Int := if m.has x < 0 then -1 else rowL m.L (m.O[(m.has x).toNat]?.getD 0)

set_option maxHeartbeats 1600000 in
theorem pPos_any {w : World} {p q : Nat} {SA : Nat → Prop} {lv ov : Value} {m : Pm} (h : PmIn w p q SA lv ov m) (hok : m.Ok) (hs : m.Sorted) (hl : m.L.length ≤ 1000000000) (x : Int) :
    Calls Try.prog 29 #[.pointer (some ⟨p, 0, none⟩), .int .i64 x] w fun e w' => e = .returned (.int .i64 (m.pos x)) ∧ PmIn w' p q SA lv ov m ∧ Chg (fun b => ov.ownBlock = some b) w w' := by
  have key := pAt_any h hok hs hl x
  have HK := Lib.hid key
  clear key h
  cases hi : m.is x with
  | false =>
    have e : m.pos x = -1 := by unfold Pm.pos; rw [hi]; simp
    rw [e]
    rw [hi] at HK
    clear hi e
    go_enter Try.func29, Try.ntmps29
    go_wp2_with (go_at_call 70; refine HK.out.mono ?_; rintro e w' ⟨rfl, hP, hC⟩)
    go_ret
    exact ⟨rfl, hP, hC⟩
  | true =>
    obtain ⟨hlt, _⟩ := Pm.is_lt hs hi
    have e : m.pos x = posL m.L (m.O[m.cnt x]?.getD 0) := by unfold Pm.pos; rw [if_pos hi]
    rw [e]
    rw [hi] at HK
    have hol := hok.olen
    clear hi e
    generalize m.cnt x = i at *
    obtain ⟨k, hk⟩ : ∃ k, m.O[i]? = some k := ⟨_, List.getElem?_eq_getElem hlt⟩
    obtain ⟨y, hy⟩ : ∃ y, posL m.L k = y := ⟨_, rfl⟩
    rw [hk, Option.getD_some, hy]
    have HKK := Lib.hid hk
    have HY := Lib.hid hy
    clear hk hy
    go_enter Try.func29, Try.ntmps29
    go_wp2_with fail
    refine HK.out.mono ?_
    rintro e w1 ⟨rfl, hP, hC⟩
    obtain ⟨g, cap, gl, capl, k', rfl, rfl, hk, hkl, c1, c2, c3⟩ := hP.pair hok hlt
    rw [HKK.out] at hk
    injection hk with hk
    subst hk
    rw [HY.out] at c3
    obtain ⟨e0, e1, e2, e3, e4, e5⟩ := hP.cells
    have HP := Lib.hid hP
    have HC := Lib.hid hC
    have i0 : (0 : Int) ≤ (i : Int) := by omega
    have i1 : (i : Int) < (m.O.length : Int) := by omega
    have j0 : (0 : Int) ≤ (k : Int) := by omega
    have j1 : (k : Int) < (m.L.length : Int) := by omega
    clear hP hC e0 e3 e4 e5 c2 HK hs hok
    go_wp2_with fail
    go_quiet (fail)
    go_wp2_with fail
    go_ret
    exact ⟨rfl, HP.out.below (below_dN (Below.refl _ _) _), HC.out.drewN _⟩

set_option maxHeartbeats 1600000 in
theorem pRow_any {w : World} {p q : Nat} {SA : Nat → Prop} {lv ov : Value} {m : Pm} (h : PmIn w p q SA lv ov m) (hok : m.Ok) (hl : m.L.length ≤ 1000000000) (x : Int) :
    Calls Try.prog 31 #[.pointer (some ⟨p, 0, none⟩), .int .i64 x] w fun e w' => e = .returned (.int .i64 (m.row x)) ∧ Below w.heap.size w w' := by
  have key := pHas_any h hok hl x
  have HK := Lib.hid key
  clear key
  by_cases hi : m.has x < 0
  · have e : m.row x = -1 := by unfold Pm.row; rw [if_pos hi]
    rw [e]
    have d1 : decide (m.has x < 0) = true := decide_eq_true hi
    clear hi e
    generalize m.has x = y at *
    go_enter Try.func31, Try.ntmps31
    go_wp2_with (go_at_call 71; refine HK.out.mono ?_; rintro e w' ⟨rfl, hC⟩)
    go_ret
    exact ⟨rfl, hC⟩
  · have e : m.row x = rowL m.L (m.O[(m.has x).toNat]?.getD 0) := by unfold Pm.row; rw [if_neg hi]
    obtain ⟨i, hix, hlt⟩ : ∃ i : Nat, m.has x = (i : Int) ∧ i < m.O.length := by
      unfold Pm.has at hi ⊢
      cases hf : m.O.findIdx? fun k => posL m.L k == x with
      | none => rw [hf] at hi; exact absurd (by decide) hi
      | some i => exact ⟨i, rfl, (List.findIdx?_eq_some_iff_getElem.1 hf).1⟩
    rw [e]
    rw [hix] at HK ⊢
    have hol := hok.olen
    have d1 : decide ((i : Int) < 0) = false := decide_eq_false (by omega)
    obtain ⟨k, hk⟩ : ∃ k, m.O[i]? = some k := ⟨_, List.getElem?_eq_getElem hlt⟩
    obtain ⟨y, hy⟩ : ∃ y, rowL m.L k = y := ⟨_, rfl⟩
    rw [Int.toNat_natCast, hk, Option.getD_some, hy]
    have HKK := Lib.hid hk
    have HY := Lib.hid hy
    clear hi e hix hk hy
    go_enter Try.func31, Try.ntmps31
    go_wp2_with fail
    refine HK.out.mono ?_
    rintro e w1 ⟨rfl, hC⟩
    have hP := h.below hC
    obtain ⟨g, cap, gl, capl, k', rfl, rfl, hk, hkl, c1, c2, c3⟩ := hP.pair hok hlt
    rw [HKK.out] at hk
    injection hk with hk
    subst hk
    rw [HY.out] at c2
    obtain ⟨e0, e1, e2, e3, e4, e5⟩ := hP.cells
    have HC := Lib.hid hC
    have i0 : (0 : Int) ≤ (i : Int) := by omega
    have i1 : (i : Int) < (m.O.length : Int) := by omega
    have j0 : (0 : Int) ≤ (k : Int) := by omega
    have j1 : (k : Int) < (m.L.length : Int) := by omega
    clear hP hC e0 e3 e4 e5 c3 HK hok h
    go_wp2_with fail
    go_quiet (fail)
    go_wp2_with fail
    go_ret
    exact ⟨rfl, below_dN HC.out _⟩

set_option maxHeartbeats 800000 in
theorem pSize_any {w : World} {p q : Nat} {SA : Nat → Prop} {lv ov : Value} {m : Pm} (h : PmIn w p q SA lv ov m) :
    Calls Try.prog 49 #[.pointer (some ⟨p, 0, none⟩)] w fun e w' => e = .returned (.tuple #[.int .i64 m.R, .int .i64 m.N]) ∧ ∃ n, w' = w.drewN n := by
  obtain ⟨e0, e1, e2, e3, e4, e5⟩ := h.cells
  clear h e0 e1 e2 e5
  go_enter Try.func49, Try.ntmps49
  go_wp2_with fail
  go_quiet (fail)
  go_wp2_with fail
  go_ret2
  exact ⟨rfl, _, rfl⟩

theorem pPos_nil (x : Int) (w : World) : Calls Try.prog 29 #[.pointer none, .int .i64 x] w fun e w' => e = .returned (.int .i64 (-1)) ∧ w = w' := by
  go_enter Try.func29, Try.ntmps29
  go_wp2_with fail
  go_ret
  exact ⟨rfl, rfl⟩

end Go.Proofs.Ytpbmhdkhkbhgnaa

namespace Go.Proofs.Ytpbmhdkhkbhgnaa
set_option linter.unusedVariables false
set_option linter.unusedSimpArgs false
open Go.RowKit

/-- A table of pairs in block gl. -/
def TabIs (w : World) (gl cap : Nat) (L : List (Int × Int)) : Prop := w.ownsRow 0 52 2 (.slice (some ⟨gl, 0, none⟩) L.length cap) L.length (cellsL L)
theorem TabIs.ex {w : World} {gl cap : Nat} {L : List (Int × Int)} (h : TabIs w gl cap L) :
    ∃ cur : Array Value, w.heap[gl]? = some (.cells cur 52 (0, 0)) ∧ L.length ≤ cap ∧ cap ≤ maxLen ∧ cur.size = cap * 2 ∧ cur.toList.take (L.length * 2) = cellsL L := by
  rcases h.2 with ⟨h, _⟩ | ⟨g, c, cur, hv, _, h1, h2, h3, h4, h5⟩
  · cases h
  · injection hv with e1 _ e3
    injection e1 with e1
    injection e1 with e1 _ _
    subst e1; subst e3
    exact ⟨cur, h1, h2, h3, h4, h5⟩
theorem TabIs.cells {w : World} {gl cap : Nat} {L : List (Int × Int)} (h : TabIs w gl cap L) {k : Nat} (hk : k < L.length) :
    w.cell? ⟨gl, k * 2, none⟩ = some (.int .i64 (rowL L k)) ∧ w.cell? ⟨gl, k * 2 + 1, none⟩ = some (.int .i64 (posL L k)) ∧ ∀ j, w.frozen? ⟨gl, j, none⟩ = false := by
  obtain ⟨cur, hg, h1, h2, hsz, htk⟩ := h.ex
  have hc : ∀ j, j < L.length * 2 → cur[j]? = (cellsL L)[j]? := fun j hj => by rw [← htk, List.getElem?_take, if_pos (by omega), Array.getElem?_toList]
  obtain ⟨e1, e2⟩ := cellsL_get L k hk
  exact ⟨by rw [cell_of_row w gl _ _ _ _ hg, hc _ (by omega), e1], by rw [cell_of_row w gl _ _ _ _ hg, hc _ (by omega), e2], fun j => frozen_of_row w gl j _ _ hg⟩
theorem cellsL_set1 : ∀ (L : List (Int × Int)) (k : Nat) (x : Int), k < L.length → (cellsL L).set (k * 2) (.int .i64 x) = cellsL (L.set k (x, posL L k))
  | [], k, x, h => absurd h (Nat.not_lt_zero _)
  | y :: L, 0, x, _ => rfl
  | y :: L, k + 1, x, h => by
    rw [show (k + 1) * 2 = k * 2 + 1 + 1 by omega]
    show _ :: _ :: (cellsL L).set (k * 2) _ = _ :: _ :: cellsL (L.set k _)
    rw [cellsL_set1 L k x (by simpa using h)]; rfl
theorem cellsL_set2 : ∀ (L : List (Int × Int)) (k : Nat) (x : Int), k < L.length → (cellsL L).set (k * 2 + 1) (.int .i64 x) = cellsL (L.set k (rowL L k, x))
  | [], k, x, h => absurd h (Nat.not_lt_zero _)
  | y :: L, 0, x, _ => rfl
  | y :: L, k + 1, x, h => by
    rw [show (k + 1) * 2 + 1 = k * 2 + 1 + 1 + 1 by omega]
    show _ :: _ :: (cellsL L).set (k * 2 + 1) _ = _ :: _ :: cellsL (L.set k _)
    rw [cellsL_set2 L k x (by simpa using h)]; rfl
theorem TabIs.put {w : World} {gl cap : Nat} {L L' : List (Int × Int)} (h : TabIs w gl cap L) (j : Nat) (v : Value) (hl : L'.length = L.length) (he : (cellsL L).set j v = cellsL L') : TabIs (w.setCell ⟨gl, j, none⟩ v) gl cap L' := by
  obtain ⟨cur, hg, h1, h2, hsz, htk⟩ := h.ex
  refine ⟨cellsL_len _, .inr ⟨gl, cap, _, rfl, Nat.zero_le _, heap_setCell_same w gl j cur _ v hg, by omega, h2, by simpa using hsz, ?_⟩⟩
  rw [Array.toList_setIfInBounds, hl, List.take_set, htk, he]
theorem TabIs.setRow {w : World} {gl cap : Nat} {L : List (Int × Int)} (h : TabIs w gl cap L) {k : Nat} (hk : k < L.length) (x : Int) : TabIs (w.setCell ⟨gl, k * 2, none⟩ (.int .i64 x)) gl cap (L.set k (x, posL L k)) :=
  h.put _ _ (by simp) (cellsL_set1 L k x hk)
theorem TabIs.setPos {w : World} {gl cap : Nat} {L : List (Int × Int)} (h : TabIs w gl cap L) {k : Nat} (hk : k < L.length) (x : Int) : TabIs (w.setCell ⟨gl, k * 2 + 1, none⟩ (.int .i64 x)) gl cap (L.set k (rowL L k, x)) :=
  h.put _ _ (by simp) (cellsL_set2 L k x hk)

/-- The table behind a change of all pairs of the order. -/
def eachL (f : Int × Int → Int × Int) (O : List Nat) (L : List (Int × Int)) : List (Int × Int) := (List.range L.length).map fun k => if k ∈ O then f (rowL L k, posL L k) else (rowL L k, posL L k)
theorem eachL_len (f : Int × Int → Int × Int) (O : List Nat) (L : List (Int × Int)) : (eachL f O L).length = L.length := by simp [eachL]
theorem eachL_get {f : Int × Int → Int × Int} {O : List Nat} {L : List (Int × Int)} {k : Nat} (hk : k < L.length) : (eachL f O L)[k]? = some (if k ∈ O then f (rowL L k, posL L k) else (rowL L k, posL L k)) := by simp [eachL, hk]
theorem eachL_nil (f : Int × Int → Int × Int) (L : List (Int × Int)) : eachL f [] L = L := by
  apply List.ext_getElem?
  intro k
  by_cases hk : k < L.length
  · rw [eachL_get hk, if_neg (by simp), List.getElem?_eq_getElem hk]
    simp [rowL, posL, hk]
  · rw [List.getElem?_eq_none (by rw [eachL_len]; omega), List.getElem?_eq_none (by omega)]
theorem eachL_step {f : Int × Int → Int × Int} {O : List Nat} {L : List (Int × Int)} {i k : Nat} (hi : O[i]? = some k) (hk : k < L.length) : (eachL f (O.take i) L).set k (f (rowL L k, posL L k)) = eachL f (O.take (i + 1)) L := by
  apply List.ext_getElem?
  intro j
  rw [List.getElem?_set, eachL_len]
  by_cases hj : j < L.length
  · rw [eachL_get hj, eachL_get hj, List.take_add_one, hi]
    by_cases e : k = j
    · subst e; simp [hk]
    · have : ¬ j = k := fun h => e h.symm
      simp [e, this]
  · rw [List.getElem?_eq_none (l := eachL f (List.take (i + 1) O) L) (by rw [eachL_len]; omega), if_neg (by omega), List.getElem?_eq_none (by rw [eachL_len]; omega)]

set_option maxHeartbeats 1600000 in
theorem pEach_any {w : World} {p q : Nat} {SA : Nat → Prop} {lv ov : Value} {m : Pm} (h : PmIn w p q SA lv ov m) (hok : m.Ok) (hl : m.L.length ≤ 1000000000) (f : Int × Int → Int × Int) (g : Nat) (lb : Array Value)
    (eg : ∀ args w, (callFunc g args).run Try.prog w = .ok (.enter g args) w)
    (hf : ∀ gl cap, lv = .slice (some ⟨gl, 0, none⟩) m.L.length cap → ∀ (W : World) (L : List (Int × Int)) (k : Nat), Chg (fun b => b = gl) w W → TabIs W gl cap L → L.length = m.L.length → k ∈ m.O → rowL L k = rowL m.L k → posL L k = posL m.L k →
      Calls Try.prog g (#[.pointer (some ⟨gl, k * 2, none⟩)] ++ lb) W fun e w' => e = .returned (.tuple #[]) ∧ TabIs w' gl cap (L.set k (f (rowL m.L k, posL m.L k))) ∧ Chg (fun b => b = gl) W w') :
    Calls Try.prog 74 #[.pointer (some ⟨p, 0, none⟩), .func (.func g) #[] lb] w fun e w' =>
      e = .returned (.tuple #[]) ∧ PmIn w' p q SA lv ov ⟨m.A, eachL f m.O m.L, m.O, m.R, m.N⟩ ∧ Chg (fun b => lv.ownBlock = some b) w w' := by
  by_cases h0 : m.O.length = 0
  · have e0 : m.O = [] := List.eq_nil_of_length_eq_zero h0
    have hm : (⟨m.A, eachL f m.O m.L, m.O, m.R, m.N⟩ : Pm) = m := by rw [e0, eachL_nil, ← e0]
    rw [hm]
    obtain ⟨a, c, rfl, _, _⟩ := own_slice h.ord
    obtain ⟨_, _, c2, _, _, _⟩ := h.cells
    rw [h0] at c2
    have HP := Lib.hid h
    clear h hok hf
    go_enter Try.func74, Try.ntmps74
    go_wp2_with fail
    go_loopw [11] (fun v wr => v = .int .i64 0 ∧ wr = w) (fun _ _ => 0)
    case atStart => exact ⟨rfl, rfl⟩
    case round =>
      obtain ⟨rfl, rfl⟩ := hrel
      go_wp2_with fail
      go_end0
      exact ⟨rfl, HP.out, Chg.refl⟩
  · have hi0 : 0 < m.O.length := by omega
    obtain ⟨gg, cap, gl, capl, k, rfl, rfl, _, _, _, _, _⟩ := h.pair hok hi0
    obtain ⟨n1, n2, n3⟩ := h.d3 gg rfl
    obtain ⟨n4, n5⟩ := h.d2 gl rfl
    have hne : gg ≠ gl := fun e => n3 (by rw [e]; rfl)
    obtain ⟨_, c1, c2, _, _, _⟩ := h.cells
    have hf := hf gl capl rfl
    have HW : Hid (∀ W, Chg (fun b => b = gl) w W → W.cell? ⟨p, 1, none⟩ = some (.slice (some ⟨gl, 0, none⟩) m.L.length capl) ∧ ∀ i k : Nat, m.O[i]? = some k → W.cell? ⟨gg, i, none⟩ = some (.int .i64 (k : Int))) := by
      intro W hW
      refine ⟨hW.cell c1 (fun e => n4 e.symm), fun i k hk => hW.cell ?_ hne⟩
      have hi : i < m.O.length := (List.getElem?_eq_some_iff.1 hk).1
      obtain ⟨g', _, _, _, k', _, hv, hk', _, hc, _, _⟩ := h.pair hok hi
      injection hv with e1 _ _
      injection e1 with e1
      injection e1 with e1 _ _
      subst e1
      rw [hk] at hk'
      injection hk' with hk'
      subst hk'
      exact hc
    have HF := Lib.hid hf
    have HP := Lib.hid h
    have HOK := Lib.hid hok
    have hol := hok.olen
    have htab : TabIs w gl capl (eachL f (m.O.take 0) m.L) := by rw [List.take_zero, eachL_nil]; exact h.tab
    have HT := Lib.hid htab
    clear h hok hf htab c1 n1 n2 n3 n4 n5 hne
    go_enter Try.func74, Try.ntmps74
    go_wp2_with fail
    go_loopw [11] (fun v wr => ∃ i : Nat, i ≤ m.O.length ∧ v = .int .i64 i ∧ TabIs wr gl capl (eachL f (m.O.take i) m.L) ∧ Chg (fun b => b = gl) w wr) (fun v _ => m.O.length - (intOf v).toNat)
    case atStart => exact ⟨0, Nat.zero_le _, rfl, HT.out, Chg.refl⟩
    case round =>
      obtain ⟨i, hi, rfl, htab, hch⟩ := hrel
      have HTB := Lib.hid htab
      have HCH := Lib.hid hch
      obtain ⟨c1, c3⟩ := HW.out wr hch
      by_cases hlt : i < m.O.length
      · obtain ⟨k, hk⟩ : ∃ k, m.O[i]? = some k := ⟨_, List.getElem?_eq_getElem hlt⟩
        have c4 := c3 i k hk
        have hkm : k ∈ m.O := List.mem_of_getElem? hk
        have hkl := HOK.out.lt hkm
        have hget : (eachL f (m.O.take i) m.L)[k]? = some (rowL m.L k, posL m.L k) := by
          rw [eachL_get hkl, if_neg]
          intro hmem
          obtain ⟨j, hj, e⟩ := List.getElem_of_mem hmem
          rw [List.length_take] at hj
          rw [List.getElem_take] at e
          have hki : m.O[i] = k := by rw [List.getElem?_eq_getElem hlt] at hk; injection hk
          have := (List.pairwise_iff_getElem.1 HOK.out.nd) j i (by omega) hlt (by omega)
          exact this (by rw [e, hki])
        have hcall := HF.out wr (eachL f (m.O.take i) m.L) k hch htab (eachL_len _ _ _) hkm (by unfold rowL; rw [hget]; rfl) (by unfold posL; rw [hget]; rfl)
        rw [eachL_step hk hkl] at hcall
        have HCALL := Lib.hid hcall
        clear c3 hcall hget htab hch
        go_wp2_with (go_at_fn g; refine HCALL.out.mono ?_; rintro e w' ⟨rfl, hT', hC'⟩)
        have HT' := Lib.hid hT'
        have HC' := Lib.hid hC'
        clear hT' hC'
        go_wp2_with fail
        go_roundw
        case rel => exact ⟨i + 1, by omega, by go_num, HT'.out, HCH.out.trans HC'.out (fun b hb => Or.inl hb)⟩
        case measure => simp [intOf]; omega
      · obtain rfl : i = m.O.length := by omega
        clear c3 htab hch
        go_wp2_with fail
        go_end0
        refine ⟨rfl, ?_, HCH.out.mono (fun b e => by rw [e]; rfl)⟩
        have hd3 := HP.out.d3 gg rfl
        have hd2 := HP.out.d2 gl rfl
        have ht := HTB.out
        rw [List.take_length] at ht
        have hne : gg ≠ gl := fun e => hd3.2.2 (by rw [e]; rfl)
        refine ⟨HCH.out.heap HP.out.hp (fun e => hd2.1 e.symm), HP.out.ar.chg HCH.out (fun k hk e => hd2.2 (by rw [← e]; exact hk)), ?_, HCH.out.own HP.out.ord (fun k hk e => by simp [Value.ownBlock] at hk; omega), HP.out.d1, HP.out.d2, HP.out.d3⟩
        have := ht
        unfold TabIs at this
        rw [eachL_len] at this
        show World.ownsRow _ _ _ _ _ (eachL f m.O m.L).length _
        rw [eachL_len]
        exact this

end Go.Proofs.Ytpbmhdkhkbhgnaa

namespace Go.Proofs.Ytpbmhdkhkbhgnaa
set_option linter.unusedVariables false
set_option linter.unusedSimpArgs false
open Go.RowKit

theorem set_same {L : List (Int × Int)} {k : Nat} (hk : k < L.length) : L.set k (rowL L k, posL L k) = L := by
  apply List.ext_getElem?
  intro j
  rw [List.getElem?_set]
  by_cases e : k = j
  · subst e; simp [rowL, posL, hk]
  · rw [if_neg e]

/-- What RowIn$1 makes of a pair. -/
def fRowIn (x : Int) (y : Int × Int) : Int × Int := if x ≤ y.1 then (y.1 + 1, y.2) else y
set_option maxHeartbeats 800000 in
theorem pRowIn1_any {W : World} {gl cap bx k : Nat} {L : List (Int × Int)} {x : Int} (h : TabIs W gl cap L) (hk : k < L.length) (hx : W.cell? ⟨bx, 0, none⟩ = some (.int .i64 x)) (hb0 : -1 ≤ rowL L k) (hb1 : rowL L k ≤ 1000000000) :
    Calls Try.prog 83 #[.pointer (some ⟨gl, k * 2, none⟩), .pointer (some ⟨bx, 0, none⟩)] W fun e w' => e = .returned (.tuple #[]) ∧ TabIs w' gl cap (L.set k (fRowIn x (rowL L k, posL L k))) ∧ Chg (fun b => b = gl) W w' := by
  obtain ⟨c1, c2, c3⟩ := h.cells hk
  have c4 := c3 (k * 2)
  have c5 := c3 (k * 2 + 1)
  have HS := Lib.hid (h.setRow hk (rowL L k + 1))
  have HN : Hid (TabIs W gl cap (L.set k (rowL L k, posL L k))) := by show TabIs _ _ _ _; rw [set_same hk]; exact h
  unfold fRowIn
  clear h c3
  generalize rowL L k = y at *
  generalize posL L k = z at *
  by_cases hc : x ≤ y
  · have d1 : decide (x ≤ y) = true := decide_eq_true hc
    rw [if_pos hc]
    clear hc
    go_enter Try.func83, Try.ntmps83
    go_wp2_with fail
    go_quiet (fail)
    go_wp2_with fail
    go_end0
    exact ⟨rfl, HS.out, (Chg.refl.drewN _).setCell (S := fun b => b = gl) ⟨gl, k * 2, none⟩ (Or.inl rfl) _⟩
  · have d1 : decide (x ≤ y) = false := decide_eq_false hc
    rw [if_neg hc]
    clear hc HS
    go_enter Try.func83, Try.ntmps83
    go_wp2_with fail
    go_quiet (fail)
    go_wp2_with fail
    go_end0
    exact ⟨rfl, HN.out, Chg.refl.drewN _⟩

/-- What RowOut$1 makes of a pair. -/
def fRowOut (x : Int) (y : Int × Int) : Int × Int := if x < y.1 then (y.1 - 1, y.2) else y
set_option maxHeartbeats 800000 in
theorem pRowOut1_any {W : World} {gl cap bx k : Nat} {L : List (Int × Int)} {x : Int} (h : TabIs W gl cap L) (hk : k < L.length) (hx : W.cell? ⟨bx, 0, none⟩ = some (.int .i64 x)) (hb0 : -1 ≤ rowL L k) (hb1 : rowL L k ≤ 1000000000) :
    Calls Try.prog 78 #[.pointer (some ⟨gl, k * 2, none⟩), .pointer (some ⟨bx, 0, none⟩)] W fun e w' => e = .returned (.tuple #[]) ∧ TabIs w' gl cap (L.set k (fRowOut x (rowL L k, posL L k))) ∧ Chg (fun b => b = gl) W w' := by
  obtain ⟨c1, c2, c3⟩ := h.cells hk
  have c4 := c3 (k * 2)
  have c5 := c3 (k * 2 + 1)
  have HS := Lib.hid (h.setRow hk (rowL L k - 1))
  have HN : Hid (TabIs W gl cap (L.set k (rowL L k, posL L k))) := by show TabIs _ _ _ _; rw [set_same hk]; exact h
  unfold fRowOut
  clear h c3
  generalize rowL L k = y at *
  generalize posL L k = z at *
  by_cases hc : x < y
  · have d1 : decide (x < y) = true := decide_eq_true hc
    rw [if_pos hc]
    clear hc
    go_enter Try.func78, Try.ntmps78
    go_wp2_with fail
    go_quiet (fail)
    go_wp2_with fail
    go_end0
    exact ⟨rfl, HS.out, (Chg.refl.drewN _).setCell (S := fun b => b = gl) ⟨gl, k * 2, none⟩ (Or.inl rfl) _⟩
  · have d1 : decide (x < y) = false := decide_eq_false hc
    rw [if_neg hc]
    clear hc HS
    go_enter Try.func78, Try.ntmps78
    go_wp2_with fail
    go_quiet (fail)
    go_wp2_with fail
    go_end0
    exact ⟨rfl, HN.out, Chg.refl.drewN _⟩

/-- What PosIn$1 makes of a pair. -/
def fPosIn (x : Int) (y : Int × Int) : Int × Int := if x ≤ y.2 then (y.1, y.2 + 1) else y
set_option maxHeartbeats 800000 in
theorem pPosIn1_any {W : World} {gl cap bx k : Nat} {L : List (Int × Int)} {x : Int} (h : TabIs W gl cap L) (hk : k < L.length) (hx : W.cell? ⟨bx, 0, none⟩ = some (.int .i64 x)) (hb0 : -1 ≤ posL L k) (hb1 : posL L k ≤ 1000000000) :
    Calls Try.prog 85 #[.pointer (some ⟨gl, k * 2, none⟩), .pointer (some ⟨bx, 0, none⟩)] W fun e w' => e = .returned (.tuple #[]) ∧ TabIs w' gl cap (L.set k (fPosIn x (rowL L k, posL L k))) ∧ Chg (fun b => b = gl) W w' := by
  obtain ⟨c1, c2, c3⟩ := h.cells hk
  have c4 := c3 (k * 2)
  have c5 := c3 (k * 2 + 1)
  have HS := Lib.hid (h.setPos hk (posL L k + 1))
  have HN : Hid (TabIs W gl cap (L.set k (rowL L k, posL L k))) := by show TabIs _ _ _ _; rw [set_same hk]; exact h
  unfold fPosIn
  clear h c3
  generalize rowL L k = y at *
  generalize posL L k = z at *
  by_cases hc : x ≤ z
  · have d1 : decide (x ≤ z) = true := decide_eq_true hc
    rw [if_pos hc]
    clear hc
    go_enter Try.func85, Try.ntmps85
    go_wp2_with fail
    go_quiet (fail)
    go_wp2_with fail
    go_end0
    exact ⟨rfl, HS.out, (Chg.refl.drewN _).setCell (S := fun b => b = gl) ⟨gl, k * 2 + 1, none⟩ (Or.inl rfl) _⟩
  · have d1 : decide (x ≤ z) = false := decide_eq_false hc
    rw [if_neg hc]
    clear hc HS
    go_enter Try.func85, Try.ntmps85
    go_wp2_with fail
    go_quiet (fail)
    go_wp2_with fail
    go_end0
    exact ⟨rfl, HN.out, Chg.refl.drewN _⟩

/-- What PosOut$1 makes of a pair. -/
def fPosOut (x : Int) (y : Int × Int) : Int × Int := if x < y.2 then (y.1, y.2 - 1) else y
set_option maxHeartbeats 800000 in
theorem pPosOut1_any {W : World} {gl cap bx k : Nat} {L : List (Int × Int)} {x : Int} (h : TabIs W gl cap L) (hk : k < L.length) (hx : W.cell? ⟨bx, 0, none⟩ = some (.int .i64 x)) (hb0 : -1 ≤ posL L k) (hb1 : posL L k ≤ 1000000000) :
    Calls Try.prog 80 #[.pointer (some ⟨gl, k * 2, none⟩), .pointer (some ⟨bx, 0, none⟩)] W fun e w' => e = .returned (.tuple #[]) ∧ TabIs w' gl cap (L.set k (fPosOut x (rowL L k, posL L k))) ∧ Chg (fun b => b = gl) W w' := by
  obtain ⟨c1, c2, c3⟩ := h.cells hk
  have c4 := c3 (k * 2)
  have c5 := c3 (k * 2 + 1)
  have HS := Lib.hid (h.setPos hk (posL L k - 1))
  have HN : Hid (TabIs W gl cap (L.set k (rowL L k, posL L k))) := by show TabIs _ _ _ _; rw [set_same hk]; exact h
  unfold fPosOut
  clear h c3
  generalize rowL L k = y at *
  generalize posL L k = z at *
  by_cases hc : x < z
  · have d1 : decide (x < z) = true := decide_eq_true hc
    rw [if_pos hc]
    clear hc
    go_enter Try.func80, Try.ntmps80
    go_wp2_with fail
    go_quiet (fail)
    go_wp2_with fail
    go_end0
    exact ⟨rfl, HS.out, (Chg.refl.drewN _).setCell (S := fun b => b = gl) ⟨gl, k * 2 + 1, none⟩ (Or.inl rfl) _⟩
  · have d1 : decide (x < z) = false := decide_eq_false hc
    rw [if_neg hc]
    clear hc HS
    go_enter Try.func80, Try.ntmps80
    go_wp2_with fail
    go_quiet (fail)
    go_wp2_with fail
    go_end0
    exact ⟨rfl, HN.out, Chg.refl.drewN _⟩

end Go.Proofs.Ytpbmhdkhkbhgnaa

namespace Go.Proofs.Ytpbmhdkhkbhgnaa
set_option linter.unusedVariables false
set_option linter.unusedSimpArgs false
open Go.RowKit

/-- What RowMove makes of a row. -/
def mvR (a b y : Int) : Int := if y = a then b else if b ≤ (if a < y then y - 1 else y) then (if a < y then y - 1 else y) + 1 else (if a < y then y - 1 else y)
def fMove (a b : Int) (y : Int × Int) : Int × Int := (mvR a b y.1, y.2)

set_option maxHeartbeats 800000 in
theorem pMove1_any {W : World} {gl cap ba bb k : Nat} {L : List (Int × Int)} {a b : Int} (h : TabIs W gl cap L) (hk : k < L.length) (ha : W.cell? ⟨ba, 0, none⟩ = some (.int .i64 a)) (hb : W.cell? ⟨bb, 0, none⟩ = some (.int .i64 b)) (na : ba ≠ gl) (nb : bb ≠ gl)
    (hb0 : -1 ≤ rowL L k) (hb1 : rowL L k ≤ 1000000000) :
    Calls Try.prog 75 #[.pointer (some ⟨gl, k * 2, none⟩), .pointer (some ⟨ba, 0, none⟩), .pointer (some ⟨bb, 0, none⟩)] W fun e w' => e = .returned (.tuple #[]) ∧ TabIs w' gl cap (L.set k (fMove a b (rowL L k, posL L k))) ∧ Chg (fun b => b = gl) W w' := by
  obtain ⟨c1, c2, c3⟩ := h.cells hk
  have c4 := c3 (k * 2)
  have HT := Lib.hid h
  have HSET : Hid (∀ x, TabIs (W.setCell ⟨gl, k * 2, none⟩ (.int .i64 x)) gl cap (L.set k (x, posL L k))) := fun x => h.setRow hk x
  have HN : Hid (TabIs W gl cap (L.set k (rowL L k, posL L k))) := by show TabIs _ _ _ _; rw [set_same hk]; exact h
  unfold fMove
  clear h c3 c2
  generalize rowL L k = y at *
  generalize posL L k = z at *
  by_cases h1 : y = a
  · have d1 : (y == a) = true := by simp [h1]
    have e : mvR a b y = b := by unfold mvR; rw [if_pos h1]
    have HE := Lib.hid e
    clear h1 e
    go_enter Try.func75, Try.ntmps75
    go_wp2_with fail
    go_quiet (fail)
    go_wp2_with fail
    (try simp only [Exit.inBlock, Exit.then]); refine bodyPost_ret (results_none rfl _ _ _) rfl ?_
    refine ⟨rfl, ?_, (Chg.refl.drewN _).setCell (S := fun b => b = gl) ⟨gl, k * 2, none⟩ (Or.inl rfl) _⟩
    show TabIs _ _ _ (L.set k (mvR a b y, z))
    rw [HE.out]
    exact HSET.out b
  · have d1 : (y == a) = false := by simp [h1]
    have H1 := Lib.hid h1
    clear h1
    by_cases h2 : a < y
    · have d2 : decide (a < y) = true := decide_eq_true h2
      have HX : Hid (∀ n, TabIs ((W.drewN n).setCell ⟨gl, k * 2, none⟩ (.int .i64 (y - 1))) gl cap (L.set k (y - 1, z)) ∧ Chg (fun b => b = gl) W ((W.drewN n).setCell ⟨gl, k * 2, none⟩ (.int .i64 (y - 1)))) := fun n =>
        ⟨HSET.out (y - 1), (Chg.refl.drewN _).setCell (S := fun b => b = gl) ⟨gl, k * 2, none⟩ (Or.inl rfl) _⟩
      have HBB := Lib.hid hb
      have e0 : (if a < y then y - 1 else y) = y - 1 := if_pos h2
      have HE : Hid (mvR a b y = if b ≤ y - 1 then y else y - 1) := by show _ = _; unfold mvR; rw [if_neg H1.out, e0, show y - 1 + 1 = y by omega]
      clear h2 e0
      go_enter Try.func75, Try.ntmps75
      go_wp2_with fail
      go_quiet (fail)
      obtain ⟨n1, rfl⟩ : ∃ n1, n1 = nq := ⟨_, rfl⟩
      go_wp2_with fail
      go_quiet (fail)
      obtain ⟨n2, rfl⟩ : ∃ n2, n2 = nq := ⟨_, rfl⟩
      go_wp2_with fail
      obtain ⟨hT2, hC2⟩ := HX.out (n1 + n2)
      generalize (W.drewN (n1 + n2)).setCell ⟨gl, k * 2, none⟩ (.int .i64 (y - 1)) = W2 at *
      obtain ⟨q1, _, q3⟩ := hT2.cells (k := k) (by simpa using hk)
      have q4 := q3 (k * 2)
      have q2 := hC2.cell HBB.out nb
      have hs2 : TabIs (W2.setCell ⟨gl, k * 2, none⟩ (.int .i64 y)) gl cap (L.set k (y, z)) := by
        have := hT2.setRow (k := k) (by simpa using hk) y
        simpa [posL, hk] using this
      have HS2 := Lib.hid hs2
      clear hs2
      have HT2 := Lib.hid hT2
      have HC2 := Lib.hid hC2
      have er : rowL (L.set k (y - 1, z)) k = y - 1 := by simp [rowL, hk]
      rw [er] at q1
      clear q3 hT2 hC2 c1 c4 ha hb er
      by_cases h3 : b ≤ y - 1
      · have d3 : decide (b ≤ y - 1) = true := decide_eq_true h3
        have HE2 := HE.out
        rw [if_pos h3] at HE2
        have HE3 := Lib.hid HE2
        clear HE2 h3
        go_quiet (fail)
        go_wp2_with fail
        go_end0
        refine ⟨rfl, ?_, HC2.out.trans ((Chg.refl.drewN _).setCell (S := fun b => b = gl) ⟨gl, k * 2, none⟩ (Or.inl rfl) _) (fun b hb => Or.inl hb)⟩
        show TabIs _ _ _ (L.set k (mvR a b y, z))
        rw [HE3.out]
        exact HS2.out
      · have d3 : decide (b ≤ y - 1) = false := decide_eq_false h3
        have HE2 := HE.out
        rw [if_neg h3] at HE2
        have HE3 := Lib.hid HE2
        clear HE2 h3
        go_quiet (fail)
        go_wp2_with fail
        go_end0
        refine ⟨rfl, ?_, HC2.out.drewN _⟩
        show TabIs _ _ _ (L.set k (mvR a b y, z))
        rw [HE3.out]
        exact HT2.out
    · have d2 : decide (a < y) = false := decide_eq_false h2
      have e0 : (if a < y then y - 1 else y) = y := if_neg h2
      have HE : Hid (mvR a b y = if b ≤ y then y + 1 else y) := by show _ = _; unfold mvR; rw [if_neg H1.out, e0]
      clear h2 e0
      by_cases h3 : b ≤ y
      · have d3 : decide (b ≤ y) = true := decide_eq_true h3
        have HE2 := HE.out
        rw [if_pos h3] at HE2
        have HE3 := Lib.hid HE2
        clear HE2 h3
        go_enter Try.func75, Try.ntmps75
        go_wp2_with fail
        go_quiet (fail)
        go_wp2_with fail
        go_quiet (fail)
        go_wp2_with fail
        go_quiet (fail)
        go_wp2_with fail
        go_end0
        refine ⟨rfl, ?_, (Chg.refl.drewN _).setCell (S := fun b => b = gl) ⟨gl, k * 2, none⟩ (Or.inl rfl) _⟩
        show TabIs _ _ _ (L.set k (mvR a b y, z))
        rw [HE3.out]
        exact HSET.out (y + 1)
      · have d3 : decide (b ≤ y) = false := decide_eq_false h3
        have HE2 := HE.out
        rw [if_neg h3] at HE2
        have HE3 := Lib.hid HE2
        clear HE2 h3
        go_enter Try.func75, Try.ntmps75
        go_wp2_with fail
        go_quiet (fail)
        go_wp2_with fail
        go_quiet (fail)
        go_wp2_with fail
        go_quiet (fail)
        go_wp2_with fail
        go_end0
        refine ⟨rfl, ?_, ((Chg.refl.drewN _).drewN _).drewN _⟩
        show TabIs _ _ _ (L.set k (mvR a b y, z))
        rw [HE3.out]
        exact HN.out

end Go.Proofs.Ytpbmhdkhkbhgnaa

namespace Go.Proofs.Ytpbmhdkhkbhgnaa
set_option linter.unusedVariables false
set_option linter.unusedSimpArgs false
open Go.RowKit

/-- A store of how many rows there are. -/
theorem PmIn.setR {w : World} {p q : Nat} {SA : Nat → Prop} {lv ov : Value} {m : Pm} (h : PmIn w p q SA lv ov m) (r : Nat) : PmIn (w.setCell ⟨p, 3, none⟩ (.int .i64 (r : Int))) p q SA lv ov ⟨m.A, m.L, m.O, r, m.N⟩ := by
  have hc : Chg (fun b => b = p) w (w.setCell ⟨p, 3, none⟩ (.int .i64 (r : Int))) := Chg.refl.setCell (S := fun b => b = p) ⟨p, 3, none⟩ (Or.inl rfl) _
  exact ⟨heap_setCell_same w p 3 _ _ _ h.hp, h.ar.chg hc (fun k hk e => h.d1 (by rw [← e]; exact hk)), hc.own h.tab (fun k hk e => (h.d2 k hk).1 e), hc.own h.ord (fun k hk e => (h.d3 k hk).1 e), h.d1, h.d2, h.d3⟩
theorem PmIn.setN {w : World} {p q : Nat} {SA : Nat → Prop} {lv ov : Value} {m : Pm} (h : PmIn w p q SA lv ov m) (r : Nat) : PmIn (w.setCell ⟨p, 4, none⟩ (.int .i64 (r : Int))) p q SA lv ov ⟨m.A, m.L, m.O, m.R, r⟩ := by
  have hc : Chg (fun b => b = p) w (w.setCell ⟨p, 4, none⟩ (.int .i64 (r : Int))) := Chg.refl.setCell (S := fun b => b = p) ⟨p, 4, none⟩ (Or.inl rfl) _
  exact ⟨heap_setCell_same w p 4 _ _ _ h.hp, h.ar.chg hc (fun k hk e => h.d1 (by rw [← e]; exact hk)), hc.own h.tab (fun k hk e => (h.d2 k hk).1 e), hc.own h.ord (fun k hk e => (h.d3 k hk).1 e), h.d1, h.d2, h.d3⟩

set_option maxHeartbeats 1600000 in
theorem pRowIn_any {w : World} {p q : Nat} {SA : Nat → Prop} {lv ov : Value} {m : Pm} (h : PmIn w p q SA lv ov m) (hok : m.Ok) (hl : m.L.length ≤ 1000000000) (hr : m.R ≤ 4000000000) (hb : ∀ k ∈ m.O, -1 ≤ rowL m.L k ∧ rowL m.L k ≤ 1000000000) (x : Int) (h0 : 0 ≤ x) (h1 : x ≤ m.R) :
    Calls Try.prog 42 #[.pointer (some ⟨p, 0, none⟩), .int .i64 x] w fun e w' => e = .returned (.int .i64 0) ∧ PmIn w' p q SA lv ov ⟨m.A, eachL (fRowIn x) m.O m.L, m.O, m.R + 1, m.N⟩ ∧ Chg (fun b => b = p ∨ lv.ownBlock = some b) w w' := by
  have hb0 := below_al w (.cells #[.int .i64 x] 3)
  have hbx : (w.alloc (.cells #[.int .i64 x] 3)).cell? ⟨w.heap.size, 0, none⟩ = some (.int .i64 x) := World.cell?_alloc_at _ _ _ _ rfl
  have hP := h.below hb0
  have hC0 : Chg (fun b => b = p ∨ lv.ownBlock = some b) w (w.alloc (.cells #[.int .i64 x] 3)) := Chg.refl.alloc _
  have hlt := h.lt
  have hd2 := h.d2
  have hpl : p < w.heap.size := hlt p (Or.inl rfl)
  clear h hb0
  have d1 : decide (x < 0) = false := decide_eq_false (by omega)
  have d2 : decide ((m.R : Int) < x) = false := decide_eq_false (by omega)
  obtain ⟨_, _, _, c3, _, c5⟩ := hP.cells
  have c6 := c5 3
  have HP := Lib.hid hP
  have HC0 := Lib.hid hC0
  have HLT := Lib.hid hlt
  have HD2 := Lib.hid hd2
  have HB := Lib.hid hb
  have HOK := Lib.hid hok
  clear c5 hP hC0 hlt hd2 hb hok
  go_enter Try.func42, Try.ntmps42
  go_wp2_with fail
  go_quiet (fail)
  go_wp2_with fail
  have hP2 : PmIn (((w.alloc (.cells #[.int .i64 x] 3)).drewN nq).setCell ⟨p, 3, none⟩ (.int .i64 ((m.R : Int) + 1))) p q SA lv ov ⟨m.A, m.L, m.O, m.R + 1, m.N⟩ := (HP.out.below (below_dN (Below.refl _ _) nq)).setR (m.R + 1)
  have hC2 : Chg (fun b => b = p ∨ lv.ownBlock = some b) w (((w.alloc (.cells #[.int .i64 x] 3)).drewN nq).setCell ⟨p, 3, none⟩ (.int .i64 ((m.R : Int) + 1))) := (HC0.out.drewN nq).setCell ⟨p, 3, none⟩ (Or.inl (Or.inl rfl)) _
  have hbx2 : (((w.alloc (.cells #[.int .i64 x] 3)).drewN nq).setCell ⟨p, 3, none⟩ (.int .i64 ((m.R : Int) + 1))).cell? ⟨w.heap.size, 0, none⟩ = some (.int .i64 x) :=
    ((Chg.refl.drewN nq).setCell (S := fun b => b = p) ⟨p, 3, none⟩ (Or.inl rfl) _).cell hbx (fun e => by have e : w.heap.size = p := e; omega)
  generalize ((w.alloc (.cells #[.int .i64 x] 3)).drewN nq).setCell ⟨p, 3, none⟩ (.int .i64 ((m.R : Int) + 1)) = w2 at *
  have key := pEach_any hP2 ⟨HOK.out.most, HOK.out.nd, HOK.out.iff, HOK.out.len⟩ hl (fRowIn x) 83 #[.pointer (some ⟨w.heap.size, 0, none⟩)] (enters_of Try.func83 (by kernel_rfl) rfl)
    (fun gl cap hlv W L k hW hT hLl hk er ep => by
      have hgl : gl < w.heap.size := HLT.out gl (Or.inr (Or.inr (Or.inl (by rw [hlv]; rfl))))
      have hb := HB.out k hk
      have hkl := HOK.out.lt hk
      have := pRowIn1_any hT (k := k) (by rw [hLl]; exact hkl) (hW.cell hbx2 (fun e => by have e : w.heap.size = gl := e; omega)) (by rw [er]; exact hb.1) (by rw [er]; exact hb.2)
      rw [er, ep] at this
      exact this)
  have HK := Lib.hid key
  have HC2 := Lib.hid hC2
  clear key hC2 hP2 hbx2 hbx c3 c6
  refine HK.out.mono ?_
  rintro e w3 ⟨rfl, hP3, hC3⟩
  go_wp2_with fail
  go_ret
  exact ⟨rfl, hP3, HC2.out.trans hC3 (fun b hb => Or.inl (Or.inr hb))⟩

set_option maxHeartbeats 1600000 in
theorem pPosIn_any {w : World} {p q : Nat} {SA : Nat → Prop} {lv ov : Value} {m : Pm} (h : PmIn w p q SA lv ov m) (hok : m.Ok) (hl : m.L.length ≤ 1000000000) (hr : m.N ≤ 4000000000) (hb : ∀ k ∈ m.O, -1 ≤ posL m.L k ∧ posL m.L k ≤ 1000000000) (x : Int) (h0 : 0 ≤ x) (h1 : x ≤ m.N) :
    Calls Try.prog 46 #[.pointer (some ⟨p, 0, none⟩), .int .i64 x] w fun e w' => e = .returned (.int .i64 0) ∧ PmIn w' p q SA lv ov ⟨m.A, eachL (fPosIn x) m.O m.L, m.O, m.R, m.N + 1⟩ ∧ Chg (fun b => b = p ∨ lv.ownBlock = some b) w w' := by
  have hb0 := below_al w (.cells #[.int .i64 x] 3)
  have hbx : (w.alloc (.cells #[.int .i64 x] 3)).cell? ⟨w.heap.size, 0, none⟩ = some (.int .i64 x) := World.cell?_alloc_at _ _ _ _ rfl
  have hP := h.below hb0
  have hC0 : Chg (fun b => b = p ∨ lv.ownBlock = some b) w (w.alloc (.cells #[.int .i64 x] 3)) := Chg.refl.alloc _
  have hlt := h.lt
  have hd2 := h.d2
  have hpl : p < w.heap.size := hlt p (Or.inl rfl)
  clear h hb0
  have d1 : decide (x < 0) = false := decide_eq_false (by omega)
  have d2 : decide ((m.N : Int) < x) = false := decide_eq_false (by omega)
  obtain ⟨_, _, _, _, c3, c5⟩ := hP.cells
  have c6 := c5 4
  have HP := Lib.hid hP
  have HC0 := Lib.hid hC0
  have HLT := Lib.hid hlt
  have HD2 := Lib.hid hd2
  have HB := Lib.hid hb
  have HOK := Lib.hid hok
  clear c5 hP hC0 hlt hd2 hb hok
  go_enter Try.func46, Try.ntmps46
  go_wp2_with fail
  go_quiet (fail)
  go_wp2_with fail
  have hP2 : PmIn (((w.alloc (.cells #[.int .i64 x] 3)).drewN nq).setCell ⟨p, 4, none⟩ (.int .i64 ((m.N : Int) + 1))) p q SA lv ov ⟨m.A, m.L, m.O, m.R, m.N + 1⟩ := (HP.out.below (below_dN (Below.refl _ _) nq)).setN (m.N + 1)
  have hC2 : Chg (fun b => b = p ∨ lv.ownBlock = some b) w (((w.alloc (.cells #[.int .i64 x] 3)).drewN nq).setCell ⟨p, 4, none⟩ (.int .i64 ((m.N : Int) + 1))) := (HC0.out.drewN nq).setCell ⟨p, 4, none⟩ (Or.inl (Or.inl rfl)) _
  have hbx2 : (((w.alloc (.cells #[.int .i64 x] 3)).drewN nq).setCell ⟨p, 4, none⟩ (.int .i64 ((m.N : Int) + 1))).cell? ⟨w.heap.size, 0, none⟩ = some (.int .i64 x) :=
    ((Chg.refl.drewN nq).setCell (S := fun b => b = p) ⟨p, 4, none⟩ (Or.inl rfl) _).cell hbx (fun e => by have e : w.heap.size = p := e; omega)
  generalize ((w.alloc (.cells #[.int .i64 x] 3)).drewN nq).setCell ⟨p, 4, none⟩ (.int .i64 ((m.N : Int) + 1)) = w2 at *
  have key := pEach_any hP2 ⟨HOK.out.most, HOK.out.nd, HOK.out.iff, HOK.out.len⟩ hl (fPosIn x) 85 #[.pointer (some ⟨w.heap.size, 0, none⟩)] (enters_of Try.func85 (by kernel_rfl) rfl)
    (fun gl cap hlv W L k hW hT hLl hk er ep => by
      have hgl : gl < w.heap.size := HLT.out gl (Or.inr (Or.inr (Or.inl (by rw [hlv]; rfl))))
      have hb := HB.out k hk
      have hkl := HOK.out.lt hk
      have := pPosIn1_any hT (k := k) (by rw [hLl]; exact hkl) (hW.cell hbx2 (fun e => by have e : w.heap.size = gl := e; omega)) (by rw [ep]; exact hb.1) (by rw [ep]; exact hb.2)
      rw [er, ep] at this
      exact this)
  have HK := Lib.hid key
  have HC2 := Lib.hid hC2
  clear key hC2 hP2 hbx2 hbx c3 c6
  refine HK.out.mono ?_
  rintro e w3 ⟨rfl, hP3, hC3⟩
  go_wp2_with fail
  go_ret
  exact ⟨rfl, hP3, HC2.out.trans hC3 (fun b hb => Or.inl (Or.inr hb))⟩

end Go.Proofs.Ytpbmhdkhkbhgnaa

namespace Go.Proofs.Ytpbmhdkhkbhgnaa
set_option linter.unusedVariables false
set_option linter.unusedSimpArgs false
open Go.RowKit

/-- A list without the one at a place. -/
def outA {α : Type} (l : List α) (k : Nat) : List α := l.take k ++ l.drop (k + 1)
theorem outA_len {α : Type} {l : List α} {k : Nat} (h : k < l.length) : (outA l k).length = l.length - 1 := by simp [outA]; omega

set_option maxHeartbeats 1600000 in
theorem ref6Out_any (a : Option Addr) (c : Nat) (l : List Int) (k : Nat) (w : World) (hr : ReadsV w a (l.map (Value.int .i64))) (hk : k < l.length) (hc : l.length ≤ c) (hcm : c ≤ maxLen) (hl : l.length ≤ 1000000) (hnil : a = none → l.length = 0 ∧ c = 0) :
    Calls Try.prog 84 #[.slice a l.length c, .int .i64 k] w (GivesI w.heap.size w (outA l k)) := by
  have hs1 := fun (w : World) => run_sliceTo (P := Try.prog) (w := w) (t := 22) (a := a) (len := l.length) (cap := c) (k := k) Try.underlying22 (by kernel_rfl) (by omega)
  have hs2 : ∀ (w : World), (Instr.slice 22 (.slice a l.length c) (some (.int .i64 ((k : Int) + 1))) none none).run Try.prog w = .ok (.slice (offA a (k + 1) c) (l.length - (k + 1)) (c - (k + 1))) w :=
    fun w => run_sliceFrom (P := Try.prog) (w := w) (t := 22) (a := a) (len := l.length) (cap := c) (k := k + 1) Try.underlying22 (by kernel_rfl) (by omega)
  have HNIL := Lib.hid (offA_nil (k := k + 1) hnil)
  have HN0 : Hid (a = none → k = 0 ∧ c = 0) := fun h => by have := hnil h; omega
  have hrt : ReadsV w a ((l.take k).map (Value.int .i64)) := by rw [List.map_take]; exact hr.take k
  have HRT : Hid (∀ w', Below w.heap.size w w' → ReadsV w' a ((l.take k).map (Value.int .i64))) := fun w' hb => hrt.below' hb
  have HRD : Hid (∀ w', Below w.heap.size w w' → ReadsV w' (offA a (k + 1) c) ((l.drop (k + 1)).map (Value.int .i64))) := fun w' hb => by rw [List.map_drop]; exact (hr.below' hb).drop (by simpa using hc)
  have hb0 := below_al w (.cells #[] 3)
  have hown0 : (w.alloc (.cells #[] 3)).ownsRow w.heap.size 3 1 (.slice (some ⟨w.heap.size, 0, none⟩) 0 0) 0 [] := own_zero (Nat.le_refl _) (heap_alloc_new _ _)
  have HL := Lib.hid hl
  have HO0 := Lib.hid hown0
  have HB0 := Lib.hid hb0
  clear hnil hr hrt hown0 hb0
  go_enter Try.func84, Try.ntmps84
  go_wp2_with (at_builtin; refine wpList_appendL rfl _ _ 22 rfl w.heap.size 3 Try.infoIntG Try.underlying22 rfl _ 0 _ rfl HO0.out a k c ((l.take k).map (Value.int .i64)) rfl (by simp; omega) HN0.out (HRT.out _ HB0.out).hnews (oneI .i64 _) (by unfold maxLen; omega) (by omega) HB0.out.size ?_)
  intro a1 c1 w1 hown hgrow _
  have hb1 : Below w.heap.size w w1 := HB0.out.grown hgrow HB0.out.size (fun j hj => by simp [Value.ownBlock] at hj; omega)
  have HB1 := Lib.hid hb1
  have hown1 : w1.ownsRow w.heap.size 3 1 (.slice a1 k c1) k ((l.take k).map (Value.int .i64)) := by simpa using hown
  have HOWN := Lib.hid hown1
  clear hown hown1 hgrow hb1
  go_wp2_with (at_builtin; refine wpList_appendL rfl _ _ 22 rfl w.heap.size 3 Try.infoIntG Try.underlying22 rfl _ k _ rfl HOWN.out (offA a (k + 1) c) (l.length - (k + 1)) (c - (k + 1)) ((l.drop (k + 1)).map (Value.int .i64)) rfl (by simp) HNIL.out (HRD.out _ HB1.out).hnews (oneI .i64 _) (by unfold maxLen; omega) (by omega) HB1.out.size ?_)
  intro a2 c2 w2 hown2 hgrow2 _
  have hb2 : Below w.heap.size w w2 := HB1.out.grown hgrow2 HB1.out.size (fun j hj => (own_lt HOWN.out hj).1)
  have HB2 := Lib.hid hb2
  have HO2 := Lib.hid hown2
  clear hown2 hgrow2 hb2
  go_wp2_with fail
  go_ret
  refine ⟨_, rfl, ?_, HB2.out⟩
  have := HO2.out
  rw [show (outA l k).map (Value.int .i64) = List.take k (List.map (Value.int .i64) l) ++ List.drop (k + 1) (List.map (Value.int .i64) l) by simp [outA]]
  rw [show (outA l k).length = k + (l.length - (k + 1)) by rw [outA_len hk]; omega]
  exact this

set_option maxHeartbeats 1600000 in
theorem ref6In_any (a : Option Addr) (c : Nat) (l : List Int) (k : Nat) (b : Int) (w : World) (hr : ReadsV w a (l.map (Value.int .i64))) (hk : k ≤ l.length) (hc : l.length ≤ c) (hcm : c ≤ maxLen) (hl : l.length ≤ 1000000) (hnil : a = none → l.length = 0 ∧ c = 0) :
    Calls Try.prog 67 #[.slice a l.length c, .int .i64 k, (.int .i64 b)] w (GivesI w.heap.size w (insA l k b)) := by
  have hs1 := fun (w : World) => run_sliceTo (P := Try.prog) (w := w) (t := 22) (a := a) (len := l.length) (cap := c) (k := k) Try.underlying22 (by kernel_rfl) (by omega)
  have hs2 := fun (w : World) => run_sliceFrom (P := Try.prog) (w := w) (t := 22) (a := a) (len := l.length) (cap := c) (k := k) Try.underlying22 (by kernel_rfl) (by omega)
  have HNIL := Lib.hid (offA_nil (k := k) hnil)
  have HN0 : Hid (a = none → k = 0 ∧ c = 0) := fun h => by have := hnil h; omega
  have hrt : ReadsV w a ((l.take k).map (Value.int .i64)) := by rw [List.map_take]; exact hr.take k
  have HRT : Hid (∀ w', Below w.heap.size w w' → ReadsV w' a ((l.take k).map (Value.int .i64))) := fun w' hb => hrt.below' hb
  have HRD : Hid (∀ w', Below w.heap.size w w' → ReadsV w' (offA a k c) ((l.drop k).map (Value.int .i64))) := fun w' hb => by rw [List.map_drop]; exact (hr.below' hb).drop (by simpa using hc)
  have hb0 := below_al w (.cells #[] 3)
  have hown0 : (w.alloc (.cells #[] 3)).ownsRow w.heap.size 3 1 (.slice (some ⟨w.heap.size, 0, none⟩) 0 0) 0 [] := own_zero (Nat.le_refl _) (heap_alloc_new _ _)
  have HL := Lib.hid hl
  have HO0 := Lib.hid hown0
  have HB0 := Lib.hid hb0
  clear hnil hr hrt hown0 hb0
  go_enter Try.func67, Try.ntmps67
  go_wp2_with (at_builtin; refine wpList_appendL rfl _ _ 22 rfl w.heap.size 3 Try.infoIntG Try.underlying22 rfl _ 0 _ rfl HO0.out a k c ((l.take k).map (Value.int .i64)) rfl (by simp; omega) HN0.out (HRT.out _ HB0.out).hnews (oneI .i64 _) (by unfold maxLen; omega) (by omega) HB0.out.size ?_)
  intro a1 c1 w1 hown hgrow _
  have hb1 : Below w.heap.size w w1 := HB0.out.grown hgrow HB0.out.size (fun j hj => by simp [Value.ownBlock] at hj; omega)
  have hown1 : w1.ownsRow w.heap.size 3 1 (.slice a1 k c1) k ((l.take k).map (Value.int .i64)) := by simpa using hown
  have HB1 := Lib.hid hb1
  have HOWN := Lib.hid hown1
  clear hown hown1 hgrow hb1
  go_wp2_with fail
  have hs1b := HB1.out.drew.size
  have HB1A : Hid (Below w.heap.size w (w1.drew.alloc (.cells #[(.int .i64 b)] 3))) := HB1.out.drew.alloc hs1b _
  have HOWN2 : Hid ((w1.drew.alloc (.cells #[(.int .i64 b)] 3)).ownsRow w.heap.size 3 1 (.slice a1 k c1) k ((l.take k).map (Value.int .i64))) := World.ownsRow.alloc (w := w1.drew) HOWN.out _
  have HNEW : Hid (∀ p, some (⟨w1.heap.size, 0, none⟩ : Addr) = some p → ∀ j u, [(Value.int .i64) b][j]? = some u → (w1.drew.alloc (.cells #[(.int .i64 b)] 3)).cell? (p.add j) = some u) :=
    (readsV_block (xs := [(.int .i64 b)]) (heap_alloc_new w1.drew _)).hnews
  refine reg_start (fun _ => True) (by kernel_rfl) (trivial) (fun hHeld => ?_)
  refine reg_take (i := 0) (v := ?v0) rfl (by kernel_rfl) rfl hHeld ?y0 ?r0
  case y0 => (intro w hSw; (try dsimp only at hSw); go_simp; all_goals with_reducible rfl)
  try simp only [Act.put, List.setIfInBounds_toArray, List.set_cons_zero, List.set_cons_succ]
  refine reg_take (i := 1) (v := ?v1) rfl (by kernel_rfl) rfl hHeld ?y1 ?r1
  case y1 => (intro w hSw; (try dsimp only at hSw); go_simp; all_goals with_reducible rfl)
  try simp only [Act.put, List.setIfInBounds_toArray, List.set_cons_zero, List.set_cons_succ]
  refine reg_take (i := 4) (v := ?v4) rfl (by kernel_rfl) rfl hHeld ?y4 ?r4
  case y4 => (intro w hSw; (try dsimp only at hSw); go_simp; all_goals with_reducible rfl)
  try simp only [Act.put, List.setIfInBounds_toArray, List.set_cons_zero, List.set_cons_succ]
  refine reg_take (i := 5) (v := ?v5) rfl (by kernel_rfl) rfl hHeld ?y5 ?r5
  case y5 => (intro w hSw; (try dsimp only at hSw); go_simp; all_goals with_reducible rfl)
  try simp only [Act.put, List.setIfInBounds_toArray, List.set_cons_zero, List.set_cons_succ]
  refine reg_take (i := 6) (v := ?v6) rfl (by kernel_rfl) rfl hHeld ?y6 ?r6
  case y6 => (intro w hSw; (try dsimp only at hSw); go_simp; all_goals with_reducible rfl)
  try simp only [Act.put, List.setIfInBounds_toArray, List.set_cons_zero, List.set_cons_succ]
  refine reg_loud (i := 2) rfl (by kernel_rfl) rfl (fun K hK => ?_)
  go_simp
  refine hK.out _ _ (trivial) (fun hNew => ?_)
  clear hK K hHeld
  have hHeld := hNew
  clear hNew
  try simp only [Act.put, List.setIfInBounds_toArray, List.set_cons_zero, List.set_cons_succ]
  refine reg_loud (i := 3) rfl (by kernel_rfl) rfl (fun K hK => ?_)
  refine wp_appendL _ _ 22 rfl w.heap.size 3 Try.infoIntG Try.underlying22 rfl _ k _ rfl HOWN2.out (some ⟨w1.heap.size, 0, none⟩) 1 1 [(.int .i64 b)] rfl rfl (fun h => by cases h) HNEW.out (oneI .i64 [b]) (by unfold maxLen; omega) (by omega) HB1A.out.size ?_
  intro a2 c2 w2 hown2 hgrow2 _
  have hb2 : Below w.heap.size w w2 := HB1A.out.grown hgrow2 HB1A.out.size (fun j hj => (own_lt HOWN2.out hj).1)
  have HB2 := Lib.hid hb2
  have HO2 := Lib.hid hown2
  clear hown2 hgrow2 hb2
  refine hK.out _ _ (trivial) (fun hNew => ?_)
  clear hK K hHeld
  have hHeld := hNew
  clear hNew
  try simp only [Act.put, List.setIfInBounds_toArray, List.set_cons_zero, List.set_cons_succ]
  refine reg_loud (i := 7) rfl (by kernel_rfl) rfl (fun K hK => ?_)
  refine wp_appendL _ _ 22 rfl w.heap.size 3 Try.infoIntG Try.underlying22 rfl _ (k + 1) _ rfl HO2.out (offA a k c) (l.length - k) (c - k) ((l.drop k).map (Value.int .i64)) rfl (by simp) HNIL.out (HRD.out w2 (HB2.out)).hnews (oneI .i64 _) (by unfold maxLen; omega) (by omega) HB2.out.size ?_
  intro a3 c3 w3 hown3 hgrow3 _
  have hb3 : Below w.heap.size w w3 := HB2.out.grown hgrow3 HB2.out.size (fun j hj => (own_lt HO2.out hj).1)
  have HB3 := Lib.hid hb3
  have HO3 := Lib.hid hown3
  clear hown3 hgrow3 hb3
  refine hK.out _ _ (trivial) (fun hNew => ?_)
  clear hK K hHeld
  have hHeld := hNew
  clear hNew
  try simp only [Act.put, List.setIfInBounds_toArray, List.set_cons_zero, List.set_cons_succ]
  refine reg_take (i := 8) (v := ?v8) rfl (by kernel_rfl) rfl hHeld ?y8 ?r8
  case y8 => (intro w hSw; (try dsimp only at hSw); go_simp; all_goals with_reducible rfl)
  try simp only [Act.put, List.setIfInBounds_toArray, List.set_cons_zero, List.set_cons_succ]
  refine reg_done (by kernel_rfl) ?_ _
  go_wp2_with fail
  go_ret
  refine ⟨_, rfl, ?_, HB3.out⟩
  have := HO3.out
  rw [show (insA l k b).map (Value.int .i64) = (l.take k).map (Value.int .i64) ++ [(.int .i64 b)] ++ (l.drop k).map (Value.int .i64) by simp [insA]]
  rw [show (insA l k b).length = k + 1 + (l.length - k) by rw [insA_len hk]; omega]
  exact this


set_option maxHeartbeats 800000 in
theorem ref6Rank_any (a : Option Addr) (c n : Nat) (l : List Int) (k : Nat) (x : Int) (w : World) (hn : n = l.length) (hr : Reads w .i64 a l) (hl : l.length ≤ 1000000) (hk : k ≤ 1000000000) :
    Calls Try.prog 65 #[.slice a n c, .int .i64 k, .int .i64 x] w fun e w' => e = .returned (.int .i64 (cnt (l.take k) x : Int)) ∧ w = w' := by
  subst hn
  go_enter Try.func65, Try.ntmps65
  go_wp2_with fail
  go_loop [7, 8] (fun v i => ∃ j : Nat, j ≤ k ∧ j ≤ l.length ∧ i = .int .i64 j ∧ v = .int .i64 (cnt (l.take j) x : Int)) (fun _ i => l.length - (intOf i).toNat)
  case atStart => exact ⟨0, Nat.zero_le _, Nat.zero_le _, rfl, rfl⟩
  case round =>
    obtain ⟨j, hj, hj2, rfl, rfl⟩ := hrel
    by_cases hlt : j < k ∧ j < l.length
    · obtain ⟨h1, h2⟩ := hlt
      obtain ⟨b, off, rfl, _, hc⟩ := hr.some (by omega)
      have e1 := hc j h2
      have hs : cnt (l.take (j + 1)) x = cnt (l.take j) x + (if l[j]?.getD 0 = x then 1 else 0) := by
        rw [List.take_succ_eq_append_getElem h2, cnt_snoc, List.getElem?_eq_getElem h2]; rfl
      have hle : cnt (l.take j) x ≤ j := by
        unfold cnt
        have := List.countP_le_length (p := fun y => y == x) (l := l.take j)
        rw [List.length_take] at this; omega
      have HS := Lib.hid hs
      have d1 : decide (j < l.length) = true := decide_eq_true h2
      clear hc hs
      generalize l[j]?.getD 0 = y at *
      generalize cnt (l.take j) x = q at *
      by_cases hy : y = x
      · subst hy
        have HS2 := HS.out
        rw [if_pos rfl] at HS2
        have HS2 := Lib.hid HS2
        go_wp2_with fail
        go_round
        case rel => exact ⟨j + 1, by omega, by omega, by go_num, by rw [HS2.out]; go_num⟩
        case measure => simp [intOf]; omega
      · have HS2 := HS.out
        rw [if_neg hy] at HS2
        have HS2 := Lib.hid HS2
        go_wp2_with fail
        go_round
        case rel => exact ⟨j + 1, by omega, by omega, by go_num, by rw [HS2.out]; rfl⟩
        case measure => simp [intOf]; omega
    · have he : l.take j = l.take k := by
        rcases Nat.lt_or_ge j k with h | h
        · rw [List.take_of_length_le (by omega), List.take_of_length_le (by omega)]
        · obtain rfl : j = k := by omega
          rfl
      have HE : Hid ((cnt (l.take j) x : Int) = (cnt (l.take k) x : Int)) := by show _ = _; rw [he]
      clear he
      generalize (cnt (l.take j) x : Int) = q at *
      by_cases h1 : j < k
      · have d1 : decide (j < l.length) = false := decide_eq_false (by omega)
        go_wp2_with fail
        go_ret
        exact ⟨ret_int HE.out, rfl⟩
      · have d1 : decide (j < k) = false := decide_eq_false (by omega)
        go_wp2_with fail
        go_ret
        exact ⟨ret_int HE.out, rfl⟩

set_option maxHeartbeats 800000 in
theorem ref6Below_any (a : Option Addr) (c n : Nat) (l : List Int) (x : Int) (w : World) (hn : n = l.length) (hr : Reads w .i64 a l) (hl : l.length ≤ 1000000) :
    Calls Try.prog 64 #[.slice a n c, .int .i64 x] w fun e w' => e = .returned (.int .i64 (belowL l x : Int)) ∧ w = w' := by
  subst hn
  go_enter Try.func64, Try.ntmps64
  go_wp2_with fail
  go_loop [5, 6] (fun v i => ∃ j : Nat, j ≤ l.length ∧ i = .int .i64 j ∧ v = .int .i64 (belowL (l.take j) x : Int)) (fun _ i => l.length - (intOf i).toNat)
  case atStart => exact ⟨0, Nat.zero_le _, rfl, rfl⟩
  case round =>
    obtain ⟨j, hj2, rfl, rfl⟩ := hrel
    by_cases h2 : j < l.length
    · obtain ⟨b, off, rfl, _, hc⟩ := hr.some (by omega)
      have e1 := hc j h2
      have hs : belowL (l.take (j + 1)) x = belowL (l.take j) x + (if l[j]?.getD 0 < x then 1 else 0) := by
        unfold belowL
        rw [List.take_succ_eq_append_getElem h2, List.countP_append, List.countP_singleton, List.getElem?_eq_getElem h2]
        simp
      have hle : belowL (l.take j) x ≤ j := by
        unfold belowL
        have := List.countP_le_length (p := fun y => decide (y < x)) (l := l.take j)
        rw [List.length_take] at this; omega
      have HS := Lib.hid hs
      clear hc hs
      generalize l[j]?.getD 0 = y at *
      generalize belowL (l.take j) x = q at *
      by_cases hy : y < x
      · have HS2 := HS.out
        rw [if_pos hy] at HS2
        have HS2 := Lib.hid HS2
        go_wp2_with fail
        go_round
        case rel => exact ⟨j + 1, by omega, by go_num, by rw [HS2.out]; go_num⟩
        case measure => simp [intOf]; omega
      · have HS2 := HS.out
        rw [if_neg hy] at HS2
        have HS2 := Lib.hid HS2
        have d2 : decide (y < x) = false := decide_eq_false hy
        go_wp2_with fail
        go_round
        case rel => exact ⟨j + 1, by omega, by go_num, by rw [HS2.out]; rfl⟩
        case measure => simp [intOf]; omega
    · obtain rfl : j = l.length := by omega
      have HE : Hid ((belowL (l.take l.length) x : Int) = (belowL l x : Int)) := by show _ = _; rw [List.take_length]
      generalize (belowL (l.take l.length) x : Int) = q at *
      go_wp2_with fail
      go_ret
      exact ⟨ret_int HE.out, rfl⟩

set_option maxHeartbeats 800000 in
theorem ref6Good_yes (a : Option Addr) (c n : Nat) (l : List Int) (w : World) (hn : n = l.length) (hr : Reads w .i64 a l) (hl : l.length ≤ 1000000) (hs : ∀ x ∈ l, 0 ≤ x ∧ x < 257) :
    Calls Try.prog 63 #[.slice a n c] w fun e w' => e = .returned (.bool true) ∧ w = w' := by
  subst hn
  go_enter Try.func63, Try.ntmps63
  go_wp2_with fail
  go_loop [3] (fun i => ∃ j : Nat, j ≤ l.length ∧ i = .int .i64 j) (fun i => l.length - (intOf i).toNat)
  case atStart => exact ⟨0, Nat.zero_le _, rfl⟩
  case round =>
    obtain ⟨j, hj2, rfl⟩ := hrel
    by_cases h2 : j < l.length
    · obtain ⟨b, off, rfl, _, hc⟩ := hr.some (by omega)
      have e1 := hc j h2
      have hx := hs _ (List.getElem_mem h2)
      rw [List.getElem?_eq_getElem h2, Option.getD_some] at e1
      clear hc
      generalize l[j] = y at *
      have hi := symIs_true hx.1 hx.2
      go_wp2_with (go_at_call 91; refine (refIs_any _ _).mono ?_; rintro e w' ⟨rfl, rfl⟩)
      go_round
      case rel => exact ⟨j + 1, by omega, by go_num⟩
      case measure => simp [intOf]; omega
    · obtain rfl : j = l.length := by omega
      go_wp2_with fail
      go_ret
      exact ⟨rfl, rfl⟩
set_option maxHeartbeats 800000 in
theorem ref6Good_no (a : Option Addr) (c n k0 : Nat) (l : List Int) (w : World) (hn : n = l.length) (hr : Reads w .i64 a l) (hl : l.length ≤ 1000000) (hk : k0 < l.length) (hs : ∀ i (hi : i < k0), 0 ≤ l[i]'(by omega) ∧ l[i]'(by omega) < 257) (hx : ¬ (0 ≤ l[k0] ∧ l[k0] < 257)) :
    Calls Try.prog 63 #[.slice a n c] w fun e w' => e = .returned (.bool false) ∧ w = w' := by
  subst hn
  go_enter Try.func63, Try.ntmps63
  go_wp2_with fail
  go_loop [3] (fun i => ∃ j : Nat, j ≤ k0 ∧ i = .int .i64 j) (fun i => l.length - (intOf i).toNat)
  case atStart => exact ⟨0, Nat.zero_le _, rfl⟩
  case round =>
    obtain ⟨j, hj2, rfl⟩ := hrel
    have h2 : j < l.length := by omega
    obtain ⟨b, off, rfl, _, hc⟩ := hr.some (by omega)
    have e1 := hc j h2
    rw [List.getElem?_eq_getElem h2, Option.getD_some] at e1
    by_cases h3 : j < k0
    · have hx' := hs j h3
      clear hc hs hx
      generalize l[j] = y at *
      have hi := symIs_true hx'.1 hx'.2
      go_wp2_with (go_at_call 91; refine (refIs_any _ _).mono ?_; rintro e w' ⟨rfl, rfl⟩)
      go_round
      case rel => exact ⟨j + 1, by omega, by go_num⟩
      case measure => simp [intOf]; omega
    · obtain rfl : j = k0 := by omega
      have hi := symIs_false hx
      clear hc hs hx
      generalize l[j] = y at *
      go_wp2_with (go_at_call 91; refine (refIs_any _ _).mono ?_; rintro e w' ⟨rfl, rfl⟩)
      go_ret
      exact ⟨rfl, rfl⟩

end Go.Proofs.Ytpbmhdkhkbhgnaa

namespace Go.Proofs.Ytpbmhdkhkbhgnaa
set_option linter.unusedVariables false
set_option linter.unusedSimpArgs false
open Go.RowKit

theorem delete_own {B : Nat} {w : World} {g n c i : Nat} {xs : List Int} (h : w.ownsRow B 3 1 (.slice (some ⟨g, 0, none⟩) n c) n (xs.map (Value.int .i64))) (hi : i < n) :
    Calls Try.prog 101 #[.slice (some ⟨g, 0, none⟩) n c, .int .i64 i, .int .i64 ((i + 1 : Nat) : Int)] w fun e w' => e = .returned (.slice (some ⟨g, 0, none⟩) (n - 1) c) ∧
      w'.ownsRow B 3 1 (.slice (some ⟨g, 0, none⟩) (n - 1) c) (n - 1) ((outA xs i).map (Value.int .i64)) ∧ Chg (fun b => b = g) w w' := by
  have hxl : xs.length = n := by have := h.1; simpa using this
  rcases h.2 with ⟨hv0, _⟩ | ⟨g', cap, cur, hv0, hb, hg, h1, h2, hsz, htk⟩
  · cases hv0
  · injection hv0 with e1 _ e3
    injection e1 with e1
    injection e1 with e1 _ _
    subst e1; subst e3
    have hcur : ∀ j, j < n → cur[j]? = (xs.map (Value.int .i64))[j]? := by
      intro j hj
      rw [← htk, List.getElem?_take, if_pos (by omega), Array.getElem?_toList]
    have key := Try.slices_Delete_int_cells g 0 n c i (i + 1) xs w (by omega) h1 h2 (by omega) (by omega) (fun j hj => by
      rw [Nat.zero_add, cell_of_row w g j _ _ _ hg, hcur j (by omega), List.getElem?_map, List.getElem?_eq_getElem hj]
      simp [hj]) (fun j hj => frozen_of_row w g _ _ _ hg)
    rw [show i + 1 - i = 1 by omega] at key
    refine key.mono ?_
    rintro e w' ⟨rfl, q, rfl⟩
    have hout : (xs.take n).take i ++ (xs.take n).drop (i + 1) = outA xs i := by rw [show xs.take n = xs from List.take_of_length_le (by omega)]; rfl
    rw [hout]
    have hol : (outA xs i).length = n - 1 := by rw [outA_len (by omega)]; omega
    refine ⟨rfl, ⟨by simp [hol], .inr ⟨g, c, _, rfl, hb, setCells_heap _ (w.drewN q) g 0 cur _ hg, by omega, h2, by rw [setA_size]; exact hsz, ?_⟩⟩, setCells_chg _ _ _ _ (Chg.refl.drewN q) (Or.inl rfl)⟩
    apply List.ext_getElem?
    intro j
    rw [List.getElem?_take]
    by_cases hj : j < n - 1
    · rw [if_pos (by omega), Array.getElem?_toList, setA_in _ _ _ _ (by simp [hol]; omega) (by omega) (by simp [hol]; omega), Nat.sub_zero, List.map_append, List.getElem?_append_left (by simp [hol]; omega)]
    · rw [if_neg (by omega), List.getElem?_eq_none (by simp [hol]; omega)]

end Go.Proofs.Ytpbmhdkhkbhgnaa

namespace Go.Proofs.Ytpbmhdkhkbhgnaa
set_option linter.unusedVariables false
set_option linter.unusedSimpArgs false
open Go.RowKit

/-- An arena and an own row of ints, apart from one another, all from block B on. -/
def ArRow (B : Nat) (w : World) (p : Nat) (a : Ar) (v : Value) (n : Nat) (xs : List Value) : Prop :=
  ∃ S, IsArena w p S a ∧ (∀ k, S k → B ≤ k) ∧ w.ownsRow B 3 1 v n xs ∧ ∀ g, v.ownBlock = some g → ¬ S g

theorem ArRow.at {B : Nat} {w : World} {p : Nat} {a : Ar} {v : Value} {n : Nat} {xs : List Value} (h : ArRow B w p a v n xs) : ArAt B w p a := by
  obtain ⟨S, h, hs, _⟩ := h; exact ⟨S, h, hs⟩
theorem ArRow.own {B : Nat} {w : World} {p : Nat} {a : Ar} {v : Value} {n : Nat} {xs : List Value} (h : ArRow B w p a v n xs) : w.ownsRow B 3 1 v n xs := by
  obtain ⟨S, _, _, h, _⟩ := h; exact h
theorem ArRow.of_at {B : Nat} {w : World} {p : Nat} {a : Ar} (h : ArAt B w p a) : ArRow B w p a (.slice none 0 0) 0 [] := by
  obtain ⟨S, h, hs⟩ := h
  exact ⟨S, h, hs, World.ownsRow_nil _ _ _ _, fun g hg => by simp [Value.ownBlock] at hg⟩
theorem ArRow.chg {B : Nat} {w w' : World} {p : Nat} {a : Ar} {v : Value} {n : Nat} {xs : List Value} (h : ArRow B w p a v n xs) (hb : Below w.heap.size w w') : ArRow B w' p a v n xs := by
  obtain ⟨S, h, hs, ho, hd⟩ := h
  exact ⟨S, h.chg (S' := fun _ => False) (Chg.of_below hb) (fun _ _ hf => hf), hs, (Chg.of_below (S := fun _ => False) hb).own ho (fun _ _ hf => hf), hd⟩

theorem take_row {B : Nat} {w : World} {p : Nat} {a a' : Ar} {v : Value} {n : Nat} {xs : List Value} {k x : Int} (h : ArRow B w p a v n xs) (hB : B ≤ w.heap.size) (hr : a.take = (k, x, a')) :
    Calls Try.prog 72 #[.pointer (some ⟨p, 0, none⟩)] w fun e w' => e = .returned (.tuple #[.int .i64 k, .int .i64 x]) ∧ ArRow B w' p a' v n xs ∧ Below B w w' := by
  obtain ⟨S, h, hs, ho, hd⟩ := h
  refine (arTake_any h).mono ?_
  rintro e w' ⟨rfl, hst⟩
  rw [hr] at hst ⊢
  obtain ⟨S', h1, h2, h3⟩ := hst
  refine ⟨rfl, ⟨S', h1, fun k hk => (h3 k hk).elim (hs k) (fun h => by omega), h2.own ho hd, fun g hg hS => ?_⟩, h2.below hs hB⟩
  rcases h3 g hS with h4 | h4
  · exact hd g hg h4
  · have := (own_lt ho hg).2; omega

theorem free_row {B : Nat} {w : World} {p : Nat} {a a' : Ar} {v : Value} {m : Nat} {xs : List Value} {x : Int} {t : TypeId} (l : List Int) (cs : Array Value) (n : Nat) (h : ArRow B w p a v m xs) (hB : B ≤ w.heap.size)
    (hcs : cs = (l.map (Value.int .i64)).toArray) (hn : n = l.length) (hlen : l.length ≤ 1000000000) (hr : a.free l = (x, a')) :
    Calls Try.prog 100 #[.pointer (some ⟨p, 0, none⟩), .slice (some ⟨w.heap.size, 0, none⟩) n n] (w.alloc (.cells cs t)) fun e w' =>
      e = .returned (.int .i64 x) ∧ ArRow B w' p a' v m xs ∧ Below B w w' := by
  subst hcs
  subst hn
  obtain ⟨S, h, hs, ho, hd⟩ := h
  have h' : IsArena (w.alloc (.cells (l.map (Value.int .i64)).toArray t)) p S a := h.chg (S' := fun _ => False) (Chg.refl.alloc _) (fun _ _ hf => hf)
  have hrd : Reads (w.alloc (.cells (l.map (Value.int .i64)).toArray t)) .i64 (some ⟨w.heap.size, 0, none⟩) l := fun i hi => ⟨_, _, rfl, by simp, fun j hj => by
    rw [Nat.zero_add, World.cell?_alloc_at _ _ _ _ rfl]
    simp [List.getElem?_eq_getElem hj]⟩
  refine (arFree_any h' l _ l.length hrd (fun e => by cases e) (fun ad e hS => ?_) hlen (Nat.le_refl _)).mono ?_
  · cases e
    have := h.lt _ hS
    exact Nat.lt_irrefl _ this
  · rintro e w' ⟨rfl, hst⟩
    rw [hr] at hst ⊢
    obtain ⟨S', h1, h2, h3⟩ := hst
    refine ⟨rfl, ⟨S', h1, fun k hk => (h3 k hk).elim (hs k) (fun h => by simp at h; omega), h2.own (ho.alloc _) hd, fun g hg hS => ?_⟩, ((Below.refl _ _).alloc hB _).trans (h2.below hs (by simp; omega))⟩
    rcases h3 g hS with h4 | h4
    · exact hd g hg h4
    · have := (own_lt ho hg).2; simp at h4; omega

/-- Free of the own row itself. -/
theorem free_own {B : Nat} {w : World} {p : Nat} {a a' : Ar} {x : Int} {l : List Int} {la : Option Addr} {n c : Nat} (h : ArRow B w p a (.slice la n c) n (l.map (Value.int .i64))) (hB : B ≤ w.heap.size) (hlen : l.length ≤ 1000000000) (hr : a.free l = (x, a')) :
    Calls Try.prog 100 #[.pointer (some ⟨p, 0, none⟩), .slice la n c] w fun e w' =>
      e = .returned (.int .i64 x) ∧ ArRow B w' p a' (.slice la n c) n (l.map (Value.int .i64)) ∧ Below B w w' := by
  obtain ⟨S, h, hs, ho, hd⟩ := h
  have hl : n = l.length := by have := own_len ho; simpa using this.symm
  subst hl
  have hrd := own_reads ho
  obtain ⟨la', c', hv, hn1, hn2⟩ := own_slice ho
  injection hv with e1 e2 e3
  subst e1; subst e3
  have hcap : l.length ≤ c := by
    rcases ho.2 with ⟨hx, h0⟩ | ⟨g, cap, cur, hv, _, _, hc, _⟩
    · omega
    · injection hv with _ _ e3; omega
  refine (arFree_any h l la c hrd (fun e => by have := hn1 e; exact this) (fun ad e hS => ?_) hlen hcap).mono ?_
  · obtain ⟨g, rfl, _, _, hg⟩ := hn2 ad e
    exact hd g hg hS
  · rintro e w' ⟨rfl, hst⟩
    rw [hr] at hst ⊢
    obtain ⟨S', h1, h2, h3⟩ := hst
    refine ⟨rfl, ⟨S', h1, fun k hk => (h3 k hk).elim (hs k) (fun h => by omega), h2.own ho hd, fun g hg hS => ?_⟩, h2.below hs hB⟩
    rcases h3 g hS with h4 | h4
    · exact hd g hg h4
    · have := (own_lt ho hg).2; omega

/-- The row grows. -/
theorem ArRow.push {B : Nat} {w w' : World} {p : Nat} {a : Ar} {v : Value} {n g cap : Nat} {xs : List Value} {u : Value} (h : ArRow B w p a v n xs) (hg : w.grownBy w' v.ownBlock)
    (hown : w'.ownsRow B 3 1 (.slice (some ⟨g, 0, none⟩) (n + 1) cap) (n + 1) (xs ++ [u])) (hor : v.ownBlock = some g ∨ w.heap.size ≤ g) :
    ArRow B w' p a (.slice (some ⟨g, 0, none⟩) (n + 1) cap) (n + 1) (xs ++ [u]) := by
  obtain ⟨S, h, hs, ho, hd⟩ := h
  refine ⟨S, h.chg (S' := fun k => v.ownBlock = some k) (Chg.refl.grown hg (fun k hk => Or.inl hk)) (fun k hk hv => hd k hv hk), hs, hown, fun g' hg' hS => ?_⟩
  simp [Value.ownBlock] at hg'
  subst hg'
  rcases hor with e | e
  · exact hd _ e hS
  · have := h.lt _ hS; omega
theorem ArRow.push_below {B : Nat} {w w' : World} {p : Nat} {a : Ar} {v : Value} {n : Nat} {xs : List Value} (h : ArRow B w p a v n xs) (hB : B ≤ w.heap.size) (hg : w.grownBy w' v.ownBlock) : Below B w w' := by
  obtain ⟨S, h, hs, ho, hd⟩ := h
  exact (Below.refl _ _).grown hg hB (fun k hk => (own_lt ho hk).1)

/-! ### Plain steps -/

theorem take_true {k m : Nat} (h : k < m) : (Ar.mk (List.replicate k true) [] m).take = ((k : Int), 0, ⟨List.replicate (k + 1) true, [], m⟩) := by
  have hl : ¬ Ar.live ⟨List.replicate k true, [], m⟩ = m := by simp [Ar.live]; omega
  unfold Ar.take
  rw [if_neg hl]
  simp [Ar.more, List.replicate_succ']
theorem take_full (m : Nat) : (Ar.mk (List.replicate m true) [] m).take = (-1, 3, ⟨List.replicate m true, [], m⟩) := by
  unfold Ar.take
  rw [if_pos (by simp [Ar.live])]

theorem free_one {a : Ar} (h : a.Ok) {i : Nat} (hi : i < a.T.length) (hn : i ∉ a.F) : a.free [(i : Int)] = (0, ⟨a.T.set i false, a.F ++ [i], a.M⟩) := by
  have hv : a.T[i]? = some true := by
    have h1 : ¬ a.T[i]? = some false := fun e => hn ((h.iff i).1 e)
    rw [List.getElem?_eq_getElem hi] at h1 ⊢
    cases hb : a.T[i]
    · rw [hb] at h1; exact absurd rfl h1
    · rfl
  have hIs : arIs a.T (i : Int) = true := arIs_iff.2 ⟨by omega, by simpa using hv⟩
  unfold Ar.free
  simp only [clr, hIs, if_true, Int.toNat_natCast]
  rfl
theorem free_none {a : Ar} {k : Int} (h : arIs a.T k = false) : a.free [k] = (7, a) := by
  unfold Ar.free
  simp [clr, h]

theorem take_last {a : Ar} (h : a.Ok) {k : Nat} (hk : a.F.getLast? = some k) : a.take = ((k : Int), 0, a.pop k) := by
  have hne : 0 < a.F.length := by cases hF : a.F with | nil => rw [hF] at hk; cases hk | cons x l => simp
  have hl : ¬ a.live = a.M := by have := h.le; have := h.fle; simp only [Ar.live]; omega
  unfold Ar.take
  rw [if_neg hl, hk]

end Go.Proofs.Ytpbmhdkhkbhgnaa

namespace Go.Proofs.Ytpbmhdkhkbhgnaa
set_option linter.unusedVariables false
set_option linter.unusedSimpArgs false
open Go.RowKit

/-- Without the pair k that stands at i. -/
def Pm.del (m : Pm) (i k : Nat) : Pm := ⟨⟨m.A.T.set k false, m.A.F ++ [k], m.A.M⟩, m.L, outA m.O i, m.R, m.N⟩

set_option maxHeartbeats 1600000 in
theorem pGone_any {w : World} {p q : Nat} {SA : Nat → Prop} {lv ov : Value} {m : Pm} (h : PmIn w p q SA lv ov m) (hok : m.Ok) {i k : Nat} (hk : m.O[i]? = some k) (hl : m.O.length ≤ 1000000000) :
    Calls Try.prog 79 #[.pointer (some ⟨p, 0, none⟩), .int .i64 i] w fun e w' => e = .returned (.tuple #[]) ∧ ∃ SA' ov', PmIn w' p q SA' lv ov' (m.del i k) ∧ Chg (pmS p SA lv ov) w w' ∧ ∀ j, pmS p SA' lv ov' j → pmS p SA lv ov j ∨ w.heap.size ≤ j := by
  have hi : i < m.O.length := (List.getElem?_eq_some_iff.1 hk).1
  obtain ⟨g, cap, gl, capl, k', rfl, rfl, hk', hkl, c1, _, _⟩ := h.pair hok hi
  rw [hk] at hk'
  injection hk' with hk'
  subst hk'
  obtain ⟨e0, _, e2, _, _, e5⟩ := h.cells
  obtain ⟨n1, n2, n3⟩ := h.d3 g rfl
  have hT : k < m.A.T.length := (List.getElem?_eq_some_iff.1 ((hok.iff k).2 (List.mem_of_getElem? hk))).1
  have hnF : k ∉ m.A.F := fun hm => by
    have h1 := (h.ar.ok.iff k).2 hm
    rw [(hok.iff k).2 (List.mem_of_getElem? hk)] at h1
    cases h1
  have hfr := free_one h.ar.ok hT hnF
  have KEEP : Hid (∀ W, Chg SA w W → W.cell? ⟨p, 0, none⟩ = some (.pointer (some ⟨q, 0, none⟩)) ∧ W.cell? ⟨p, 2, none⟩ = some (.slice (some ⟨g, 0, none⟩) m.O.length cap) ∧ W.cell? ⟨g, i, none⟩ = some (.int .i64 (k : Int))) :=
    fun W hW => ⟨hW.cell e0 h.d1, hW.cell e2 h.d1, hW.cell c1 n2⟩
  have hfree := arFree_any (h.ar.chg (S' := fun _ => False) (w' := w.drew.alloc (.cells #[.int .i64 (k : Int)] 3)) (Chg.refl.drew.alloc _) (fun _ _ hf => hf)) [(k : Int)] (some ⟨w.heap.size, 0, none⟩) 1 (lit_reads [(k : Int)] w.drew) (fun h => by cases h)
    (fun ad had hs => by cases had; have := h.ar.lt _ hs; exact absurd this (Nat.lt_irrefl _)) (by simp) (by simp)
  rw [hfr] at hfree
  have HFREE := Lib.hid hfree
  have HP := Lib.hid h
  have HOK := Lib.hid hok
  have i0 : (0 : Int) ≤ (i : Int) := by omega
  have i1 : (i : Int) < (m.O.length : Int) := by omega
  clear hfree hfr hnF hT e0 e2 e5 c1 h hok hk
  go_enter Try.func79, Try.ntmps79
  go_upto_region 0 with fail
  -- REGION
  refine reg_start (fun w' => w'.cell? ⟨p, 0, none⟩ = some (.pointer (some ⟨q, 0, none⟩)) ∧ w'.cell? ⟨p, 2, none⟩ = some (.slice (some ⟨g, 0, none⟩) m.O.length cap) ∧ w'.cell? ⟨g, i, none⟩ = some (.int .i64 (k : Int))) (by kernel_rfl) (KEEP.out _ Chg.refl.drew) (fun hHeld => ?_)
  refine reg_take (i := 0) (v := ?v0) rfl (by kernel_rfl) rfl hHeld ?y0 ?r0
  case y0 => (intro w hSw; (try dsimp only at hSw); go_simp; all_goals with_reducible rfl)
  try simp only [Act.put, List.setIfInBounds_toArray, List.set_cons_zero, List.set_cons_succ]
  refine reg_take (i := 1) (v := ?v1) rfl (by kernel_rfl) rfl hHeld ?y1 ?r1
  case y1 => (intro w hSw; (try dsimp only at hSw); go_simp; all_goals with_reducible rfl)
  try simp only [Act.put, List.setIfInBounds_toArray, List.set_cons_zero, List.set_cons_succ]
  refine reg_take (i := 2) (v := ?v2) rfl (by kernel_rfl) rfl hHeld ?y2 ?r2
  case y2 => (intro w hSw; (try dsimp only at hSw); go_simp; all_goals with_reducible rfl)
  try simp only [Act.put, List.setIfInBounds_toArray, List.set_cons_zero, List.set_cons_succ]
  refine reg_take (i := 3) (v := ?v3) rfl (by kernel_rfl) rfl hHeld ?y3 ?r3
  case y3 => (intro w hSw; (try dsimp only at hSw); go_simp; all_goals with_reducible rfl)
  try simp only [Act.put, List.setIfInBounds_toArray, List.set_cons_zero, List.set_cons_succ]
  refine reg_take (i := 4) (v := ?v4) rfl (by kernel_rfl) rfl hHeld ?y4 ?r4
  case y4 => (intro w hSw; (try dsimp only at hSw); go_simp; all_goals with_reducible rfl)
  try simp only [Act.put, List.setIfInBounds_toArray, List.set_cons_zero, List.set_cons_succ]
  refine reg_take (i := 5) (v := ?v5) rfl (by kernel_rfl) rfl hHeld ?y5 ?r5
  case y5 => (intro w hSw; (try dsimp only at hSw); go_simp; all_goals with_reducible rfl)
  try simp only [Act.put, List.setIfInBounds_toArray, List.set_cons_zero, List.set_cons_succ]
  refine reg_take (i := 6) (v := ?v6) rfl (by kernel_rfl) rfl hHeld ?y6 ?r6
  case y6 => (intro w hSw; (try dsimp only at hSw); go_simp; all_goals with_reducible rfl)
  try simp only [Act.put, List.setIfInBounds_toArray, List.set_cons_zero, List.set_cons_succ]
  refine reg_take (i := 7) (v := ?v7) rfl (by kernel_rfl) rfl hHeld ?y7 ?r7
  case y7 => (intro w hSw; (try dsimp only at hSw); go_simp; all_goals with_reducible rfl)
  try simp only [Act.put, List.setIfInBounds_toArray, List.set_cons_zero, List.set_cons_succ]
  refine reg_take (i := 8) (v := ?v8) rfl (by kernel_rfl) rfl hHeld ?y8 ?r8
  case y8 => (intro w hSw; (try dsimp only at hSw); go_simp; all_goals with_reducible rfl)
  try simp only [Act.put, List.setIfInBounds_toArray, List.set_cons_zero, List.set_cons_succ]
  refine reg_take (i := 9) (v := ?v9) rfl (by kernel_rfl) rfl hHeld ?y9 ?r9
  case y9 => (intro w hSw; (try dsimp only at hSw); go_simp; all_goals with_reducible rfl)
  try simp only [Act.put, List.setIfInBounds_toArray, List.set_cons_zero, List.set_cons_succ]
  refine reg_take (i := 10) (v := ?v10) rfl (by kernel_rfl) rfl hHeld ?y10 ?r10
  case y10 => (intro w hSw; (try dsimp only at hSw); go_simp; all_goals with_reducible rfl)
  try simp only [Act.put, List.setIfInBounds_toArray, List.set_cons_zero, List.set_cons_succ]
  refine reg_loud (i := 11) rfl (by kernel_rfl) rfl (fun K hK => ?_)
  go_simp
  refine hK.out _ _ (KEEP.out _ (Chg.refl.drew.alloc _)) (fun hNew => ?_)
  clear hK K hHeld
  have hHeld := hNew
  clear hNew
  try simp only [Act.put, List.setIfInBounds_toArray, List.set_cons_zero, List.set_cons_succ]
  refine reg_loud (i := 12) rfl (by kernel_rfl) rfl (fun K hK => ?_)
  go_simp
  refine HFREE.out.mono ?_
  rintro e w2 ⟨rfl, hst⟩
  obtain ⟨SA', hA2, hC2, hS2⟩ := hst
  have HC2 := Lib.hid hC2
  have HA2 := Lib.hid hA2
  have HS2 := Lib.hid hS2
  clear hC2 hA2 hS2
  go_wp2_with fail
  refine hK.out _ _ (KEEP.out _ ((Chg.refl.drew.alloc _).trans HC2.out (fun b hb => Or.inl hb))) (fun hNew => ?_)
  clear hK K hHeld
  have hHeld := hNew
  clear hNew
  try simp only [Act.put, List.setIfInBounds_toArray, List.set_cons_zero, List.set_cons_succ]
  refine reg_done (by kernel_rfl) ?_ _
  -- END
  have hsz := HC2.out.size
  have hsw : w.heap.size ≤ w2.heap.size := by simp at hsz; omega
  have hch : Chg SA w w2 := (Chg.refl.drew.alloc _).trans HC2.out (fun b hb => Or.inl hb)
  have hpg : (Value.slice (some ⟨g, 0, none⟩) m.O.length cap).ownBlock = some g := rfl
  have hord := hch.own HP.out.ord (fun b hb e => (HP.out.d3 b hb).2.1 e)
  have hdel : Calls Try.prog 101 #[.slice (some ⟨g, 0, none⟩) m.O.length cap, .int .i64 (i : Int), .int .i64 ((i : Int) + 1)] w2 fun e w' => e = .returned (.slice (some ⟨g, 0, none⟩) (m.O.length - 1) cap) ∧
      w'.ownsRow 0 3 1 (.slice (some ⟨g, 0, none⟩) (m.O.length - 1) cap) (m.O.length - 1) ((outA (natL m.O) i).map (Value.int .i64)) ∧ Chg (fun b => b = g) w2 w' := by
    have hord2 : w2.ownsRow 0 3 1 (.slice (some ⟨g, 0, none⟩) m.O.length cap) m.O.length ((natL m.O).map (Value.int .i64)) := by rw [← natV_natL]; exact hord
    exact delete_own hord2 hi
  have hp2 := hch.heap HP.out.hp HP.out.d1
  have HDEL := Lib.hid hdel
  have HCH := Lib.hid hch
  have HP2 := Lib.hid hp2
  obtain ⟨e0, e2, _⟩ := hHeld
  have e5 := frozen_of_row w2 p 2 _ _ hp2
  clear hsz hch hord hdel hp2 e0 HFREE KEEP
  go_wp2_with fail
  refine HDEL.out.mono ?_
  rintro e w3 ⟨rfl, ho3, hC3⟩
  have hp3 := hC3.heap HP2.out (fun e => n1 e.symm)
  have e6 := frozen_of_row w3 p 2 _ _ hp3
  have e7 : w3.cell? ⟨p, 2, none⟩ = some (.slice (some ⟨g, 0, none⟩) m.O.length cap) := by rw [cell_of_row w3 p 2 _ _ _ hp3]; rfl
  have HO3 := Lib.hid ho3
  have HC3 := Lib.hid hC3
  have HP3 := Lib.hid hp3
  clear ho3 hC3 hp3 e2 e5
  go_wp2_with fail
  go_end0
  have hset := heap_setCell_same w3 p 2 _ _ (.slice (some ⟨g, 0, none⟩) (m.O.length - 1) cap) HP3.out
  have hCs : Chg (fun b => b = p) w3 (w3.setCell ⟨p, 2, none⟩ (.slice (some ⟨g, 0, none⟩) (m.O.length - 1) cap)) := Chg.refl.setCell (S := fun b => b = p) ⟨p, 2, none⟩ (Or.inl rfl) _
  have hlt := HP.out.lt
  have hSA' : ∀ j, SA' j → SA j ∨ w.heap.size ≤ j := fun j hj => (HS2.out j hj).imp id (fun h => by simp at h; omega)
  have hgl : gl < w.heap.size := hlt gl (Or.inr (Or.inr (Or.inl rfl)))
  have hpl : p < w.heap.size := hlt p (Or.inl rfl)
  have hgg : g < w.heap.size := hlt g (Or.inr (Or.inr (Or.inr rfl)))
  have hd2 := HP.out.d2 gl rfl
  have hgne : gl ≠ g := fun e => n3 (by rw [← e]; rfl)
  have np : ¬ SA' p := fun h => (hSA' p h).elim HP.out.d1 (fun h => by omega)
  have ng : ¬ SA' g := fun h => (hSA' g h).elim n2 (fun h => by omega)
  have ngl : ¬ SA' gl := fun h => (hSA' gl h).elim hd2.2 (fun h => by omega)
  refine ⟨rfl, SA', _, ⟨hset, (HA2.out.chg HC3.out (fun j hj e => ng (by rw [← e]; exact hj))).chg hCs (fun j hj e => np (by rw [← e]; exact hj)), hCs.own (HC3.out.own (HCH.out.own HP.out.tab (fun b hb e => (HP.out.d2 b hb).2 e)) (fun b hb e => by injection hb with hb; exact hgne (hb.trans e))) (fun b hb e => (HP.out.d2 b hb).1 e), ?_, np, ?_, ?_⟩, ?_, ?_⟩
  · have hol : (m.del i k).O.length = m.O.length - 1 := by show (outA m.O i).length = _; rw [outA_len hi]
    have := hCs.own HO3.out (fun b hb e => by injection hb with hb; exact n1 (hb.trans e))
    have e : (m.del i k).O.map natV = (outA (natL m.O) i).map (Value.int .i64) := by
      show (outA m.O i).map natV = _
      rw [natV_natL]
      congr 1
      simp [outA, natL, List.map_take, List.map_drop]
    rw [e, hol]
    exact this
  · intro b hb
    injection hb with hb
    subst hb
    exact ⟨hd2.1, ngl⟩
  · intro b hb
    injection hb with hb
    subst hb
    exact ⟨n1, ng, n3⟩
  · refine ((HCH.out.mono (fun b hb => Or.inr (Or.inl hb))).trans HC3.out (fun b hb => Or.inl (by rw [hb]; exact Or.inr (Or.inr (Or.inr rfl))))).trans hCs (fun b hb => Or.inl (by rw [hb]; exact Or.inl rfl))
  · rintro j (rfl | hj | hj | hj)
    · exact Or.inl (Or.inl rfl)
    · exact (hSA' j hj).imp (fun h => Or.inr (Or.inl h)) id
    · exact Or.inl (Or.inr (Or.inr (Or.inl hj)))
    · exact Or.inl (Or.inr (Or.inr (Or.inr hj)))

end Go.Proofs.Ytpbmhdkhkbhgnaa

namespace Go.Proofs.Ytpbmhdkhkbhgnaa
set_option linter.unusedVariables false
set_option linter.unusedSimpArgs false
open Go.RowKit

/-- What stands at a row; -1: nothing. -/
def gL (L : List Int) (r : Int) : Int := if 0 ≤ r then L[r.toNat]?.getD (-1) else -1
theorem gL_nat (L : List Int) (i : Nat) : gL L i = L[i]?.getD (-1) := by unfold gL; rw [if_pos (by omega), Int.toNat_natCast]
theorem gL_neg {L : List Int} {r : Int} (h : r < 0) : gL L r = -1 := by unfold gL; rw [if_neg (by omega)]
theorem gL_over {L : List Int} {r : Int} (h : (L.length : Int) ≤ r) : gL L r = -1 := by
  unfold gL; rw [if_pos (by omega), List.getElem?_eq_none (by omega)]; rfl
theorem gL_in {L : List Int} {r : Int} (h : gL L r ≠ -1) : ∃ i : Nat, r = i ∧ i < L.length := by
  by_cases h0 : r < 0
  · exact absurd (gL_neg h0) h
  by_cases h1 : r < L.length
  · exact ⟨r.toNat, by omega, by omega⟩
  · exact absurd (gL_over (by omega)) h
theorem gL_mem {L : List Int} {i : Nat} (h : i < L.length) : gL L i ∈ L := by rw [gL_nat, List.getElem?_eq_getElem h]; exact List.getElem_mem h
theorem gL_ins {L : List Int} {x : Nat} {v : Int} (hx : x ≤ L.length) (r : Int) : gL (insA L x v) r = if r < x then gL L r else if r = x then v else gL L (r - 1) := by
  by_cases h0 : r < 0
  · rw [gL_neg h0, if_pos (by omega), gL_neg h0]
  obtain ⟨i, rfl⟩ := Int.eq_ofNat_of_zero_le (Int.not_lt.1 h0)
  rw [gL_nat, insA_get hx]
  by_cases h1 : i < x
  · rw [if_pos h1, if_pos (by omega), gL_nat]
  · rw [if_neg h1]
    by_cases h2 : i = x
    · rw [if_pos h2, if_neg (by omega), if_pos (by omega)]; rfl
    · rw [if_neg h2, if_neg (by omega), if_neg (by omega), show (i : Int) - 1 = ((i - 1 : Nat) : Int) by omega, gL_nat]
theorem gL_out {L : List Int} {x : Nat} (hx : x < L.length) (r : Int) : gL (outA L x) r = if r < x then gL L r else gL L (r + 1) := by
  by_cases h0 : r < 0
  · rw [gL_neg h0, if_pos (by omega), gL_neg h0]
  obtain ⟨i, rfl⟩ := Int.eq_ofNat_of_zero_le (Int.not_lt.1 h0)
  rw [gL_nat]
  unfold outA
  rw [List.getElem?_append]
  have hl : (L.take x).length = x := by simp; omega
  rw [hl]
  by_cases h1 : i < x
  · rw [if_pos h1, if_pos (by omega), gL_nat, List.getElem?_take, if_pos h1]
  · rw [if_neg h1, if_neg (by omega), show (i : Int) + 1 = ((i + 1 : Nat) : Int) by omega, gL_nat, List.getElem?_drop]
    congr 2; omega
theorem gL_set {L : List Int} {x : Nat} {v : Int} (hx : x < L.length) (r : Int) : gL (L.set x v) r = if r = x then v else gL L r := by
  by_cases h0 : r < 0
  · rw [gL_neg h0, if_neg (by omega), gL_neg h0]
  obtain ⟨i, rfl⟩ := Int.eq_ofNat_of_zero_le (Int.not_lt.1 h0)
  rw [gL_nat, List.getElem?_set]
  by_cases h2 : x = i
  · rw [if_pos h2, if_pos (by omega), if_pos (by omega)]; rfl
  · rw [if_neg h2, if_neg (by omega), gL_nat]
theorem gL_map {L : List Int} (f : Int → Int) (hf : f (-1) = -1) (r : Int) : gL (L.map f) r = f (gL L r) := by
  by_cases h0 : r < 0
  · rw [gL_neg h0, gL_neg h0, hf]
  obtain ⟨i, rfl⟩ := Int.eq_ofNat_of_zero_le (Int.not_lt.1 h0)
  rw [gL_nat, gL_nat, List.getElem?_map]
  cases L[i]? with
  | none => exact hf.symm
  | some v => rfl
theorem gL_ext {L L' : List Int} (hl : L.length = L'.length) (h : ∀ i : Nat, i < L.length → gL L i = gL L' i) : L = L' := by
  apply List.ext_getElem hl
  intro i h1 h2
  have := h i h1
  rw [gL_nat, gL_nat, List.getElem?_eq_getElem h1, List.getElem?_eq_getElem h2] at this
  exact this

/-- What holds of a Perm that is a list, but for the order. -/
structure PVw0 (m : Pm) (L : List Int) (N : Nat) : Prop where
  ok : m.Ok
  eR : m.R = L.length
  eN : m.N = N
  mem : ∀ r p : Int, (∃ k ∈ m.O, rowL m.L k = r ∧ posL m.L k = p) ↔ (gL L r = p ∧ 0 ≤ p)
  rng : ∀ r, -1 ≤ gL L r ∧ gL L r < N
  inj : ∀ r s, 0 ≤ gL L r → gL L r = gL L s → r = s
structure PVw (m : Pm) (L : List Int) (N : Nat) : Prop extends PVw0 m L N where
  so : m.Sorted

section
variable {m : Pm} {L : List Int} {N : Nat}

theorem PVw0.row (h : PVw0 m L N) {k : Nat} (hk : k ∈ m.O) : gL L (rowL m.L k) = posL m.L k ∧ 0 ≤ posL m.L k ∧ posL m.L k < N ∧ 0 ≤ rowL m.L k ∧ rowL m.L k < L.length := by
  obtain ⟨h1, h2⟩ := (h.mem _ _).1 ⟨k, hk, rfl, rfl⟩
  have h3 := h.rng (rowL m.L k)
  obtain ⟨i, h4, h5⟩ := gL_in (L := L) (r := rowL m.L k) (by omega)
  exact ⟨h1, h2, by omega, by omega, by omega⟩
theorem PVw0.is (h : PVw0 m L N) (x : Int) : m.is x = true ↔ 0 ≤ gL L x := by
  unfold Pm.is
  rw [List.any_eq_true]
  constructor
  · rintro ⟨k, hk, he⟩
    have he : rowL m.L k = x := by simpa using he
    have := h.row hk
    rw [he] at this
    omega
  · intro h0
    obtain ⟨k, hk, h1, _⟩ := (h.mem x (gL L x)).2 ⟨rfl, h0⟩
    exact ⟨k, hk, by simp [h1]⟩
theorem PVw.pos (h : PVw m L N) (x : Int) : m.pos x = gL L x := by
  unfold Pm.pos
  by_cases hi : m.is x = true
  · rw [if_pos hi]
    obtain ⟨h1, h2⟩ := Pm.is_lt h.so hi
    have hm : m.O[m.cnt x]?.getD 0 ∈ m.O := by rw [List.getElem?_eq_getElem h1]; exact List.getElem_mem h1
    have := h.row hm
    rw [h2] at this
    exact this.1.symm
  · rw [if_neg hi]
    have := h.rng x
    rw [h.is] at hi
    omega

/-- The row of a place; -1. -/
def aL (L : List Int) (x : Int) : Int := if x < 0 then -1 else match L.findIdx? fun y => y == x with
  | some i => (i : Int)
  | none => -1
theorem aL_spec (L : List Int) (x : Int) : (∃ i : Nat, aL L x = i ∧ i < L.length ∧ gL L i = x ∧ 0 ≤ x) ∨ (aL L x = -1 ∧ (0 ≤ x → ∀ r, gL L r ≠ x)) := by
  unfold aL
  by_cases hx : x < 0
  · rw [if_pos hx]; exact Or.inr ⟨rfl, fun h => by omega⟩
  · rw [if_neg hx]
    cases hf : L.findIdx? fun y => y == x with
    | none =>
      refine Or.inr ⟨rfl, fun h0 r hr => ?_⟩
      obtain ⟨i, rfl, hi⟩ := gL_in (L := L) (r := r) (by omega)
      have := List.findIdx?_eq_none_iff.1 hf _ (gL_mem hi)
      simp [hr] at this
    | some i =>
      obtain ⟨h1, h2, _⟩ := List.findIdx?_eq_some_iff_getElem.1 hf
      exact Or.inl ⟨i, rfl, h1, by rw [gL_nat, List.getElem?_eq_getElem h1]; simpa using h2, by omega⟩
theorem PVw0.has (h : PVw0 m L N) (x : Int) : (∃ i k : Nat, m.has x = i ∧ m.O[i]? = some k ∧ posL m.L k = x ∧ gL L (rowL m.L k) = x ∧ 0 ≤ x) ∨ (m.has x = -1 ∧ (0 ≤ x → ∀ r, gL L r ≠ x)) := by
  unfold Pm.has
  cases hf : m.O.findIdx? fun k => posL m.L k == x with
  | none =>
    refine Or.inr ⟨rfl, fun h0 r hr => ?_⟩
    obtain ⟨k, hk, _, h2⟩ := (h.mem r x).2 ⟨hr, h0⟩
    have := List.findIdx?_eq_none_iff.1 hf _ hk
    simp [h2] at this
  | some i =>
    obtain ⟨h1, h2, _⟩ := List.findIdx?_eq_some_iff_getElem.1 hf
    have h2 : posL m.L m.O[i] = x := by simpa using h2
    have h3 := h.row (List.getElem_mem h1)
    exact Or.inl ⟨i, m.O[i], rfl, List.getElem?_eq_getElem h1, h2, by rw [← h2]; exact h3.1, by omega⟩
theorem PVw0.rowv (h : PVw0 m L N) (x : Int) : m.row x = aL L x := by
  unfold Pm.row
  rcases h.has x with ⟨i, k, h1, h2, h3, h4, h5⟩ | ⟨h1, h2⟩
  · rw [h1, if_neg (by omega), Int.toNat_natCast, h2, Option.getD_some]
    rcases aL_spec L x with ⟨j, a1, a2, a3, a4⟩ | ⟨a1, a2⟩
    · rw [a1]
      exact h.inj _ _ (by omega) (by omega)
    · exact absurd h4 (a2 h5 _)
  · rw [h1, if_pos (by omega)]
    rcases aL_spec L x with ⟨j, a1, a2, a3, a4⟩ | ⟨a1, a2⟩
    · exact absurd a3 (h2 a4 _)
    · exact a1.symm

theorem eachL_rp {f : Int × Int → Int × Int} {O : List Nat} {T : List (Int × Int)} {k : Nat} (hk : k ∈ O) (hl : k < T.length) : rowL (eachL f O T) k = (f (rowL T k, posL T k)).1 ∧ posL (eachL f O T) k = (f (rowL T k, posL T k)).2 := by
  have := eachL_get (f := f) (O := O) hl
  rw [if_pos hk] at this
  constructor
  · unfold rowL; rw [this]; rfl
  · unfold posL; rw [this]; rfl
theorem PVw0.each (h : PVw0 m L N) {f : Int × Int → Int × Int} {L' : List Int} {R' N' : Nat} (hR : R' = L'.length)
    (mem : ∀ r p : Int, (∃ r0 p0, gL L r0 = p0 ∧ 0 ≤ p0 ∧ f (r0, p0) = (r, p)) ↔ (gL L' r = p ∧ 0 ≤ p))
    (rng : ∀ r, -1 ≤ gL L' r ∧ gL L' r < N') (inj : ∀ r s, 0 ≤ gL L' r → gL L' r = gL L' s → r = s) : PVw0 ⟨m.A, eachL f m.O m.L, m.O, R', N'⟩ L' N' := by
  refine ⟨⟨h.ok.most, h.ok.nd, h.ok.iff, ?_⟩, hR, rfl, fun r p => ?_, rng, inj⟩
  · show m.A.T.length = (eachL f m.O m.L).length
    rw [eachL_len]; exact h.ok.len
  · rw [← mem r p]
    constructor
    · rintro ⟨k, hk, h1, h2⟩
      obtain ⟨e1, e2⟩ := eachL_rp (f := f) hk (h.ok.lt hk)
      have h3 := h.row hk
      refine ⟨_, _, h3.1, h3.2.1, ?_⟩
      rw [← h1, ← h2]
      show _ = (rowL (eachL f m.O m.L) k, posL (eachL f m.O m.L) k)
      rw [e1, e2]
    · rintro ⟨r0, p0, h1, h2, h3⟩
      obtain ⟨k, hk, h4, h5⟩ := (h.mem r0 p0).2 ⟨h1, h2⟩
      obtain ⟨e1, e2⟩ := eachL_rp (f := f) hk (h.ok.lt hk)
      rw [h4, h5, h3] at e1 e2
      exact ⟨k, hk, e1, e2⟩
theorem PVw.each (h : PVw m L N) {f : Int × Int → Int × Int} {L' : List Int} {R' N' : Nat} (hR : R' = L'.length)
    (mono : ∀ r r', 0 ≤ gL L r → 0 ≤ gL L r' → r < r' → (f (r, gL L r)).1 < (f (r', gL L r')).1)
    (mem : ∀ r p : Int, (∃ r0 p0, gL L r0 = p0 ∧ 0 ≤ p0 ∧ f (r0, p0) = (r, p)) ↔ (gL L' r = p ∧ 0 ≤ p))
    (rng : ∀ r, -1 ≤ gL L' r ∧ gL L' r < N') (inj : ∀ r s, 0 ≤ gL L' r → gL L' r = gL L' s → r = s) : PVw ⟨m.A, eachL f m.O m.L, m.O, R', N'⟩ L' N' := by
  refine ⟨h.toPVw0.each hR mem rng inj, ?_⟩
  refine List.Pairwise.imp_of_mem ?_ h.so
  intro a b ha hb hab
  have h1 := h.row ha
  have h2 := h.row hb
  show rowL (eachL f m.O m.L) a < rowL (eachL f m.O m.L) b
  rw [(eachL_rp (f := f) ha (h.ok.lt ha)).1, (eachL_rp (f := f) hb (h.ok.lt hb)).1, ← h1.1, ← h2.1]
  exact mono _ _ (by omega) (by omega) hab
theorem PVw0.perm (h : PVw0 m L N) {O' : List Nat} (hp : O'.Perm m.O) (hs : (Pm.mk m.A m.L O' m.R m.N).Sorted) : PVw ⟨m.A, m.L, O', m.R, m.N⟩ L N :=
  ⟨⟨⟨h.ok.most, hp.nodup_iff.2 h.ok.nd, fun k => (h.ok.iff k).trans hp.mem_iff.symm, h.ok.len⟩, h.eR, h.eN, fun r p => by
    rw [← h.mem r p]
    exact ⟨fun ⟨k, hk, x⟩ => ⟨k, hp.mem_iff.1 hk, x⟩, fun ⟨k, hk, x⟩ => ⟨k, hp.mem_iff.2 hk, x⟩⟩, h.rng, h.inj⟩, hs⟩

/-- A new row. -/
theorem PVw.rowIn (h : PVw m L N) {x : Nat} (hx : x ≤ L.length) : PVw ⟨m.A, eachL (fRowIn x) m.O m.L, m.O, m.R + 1, m.N⟩ (insA L x (-1)) N := by
  have hN := h.eN
  have hg := fun r => gL_ins (v := -1) hx r
  rw [hN]
  refine h.each (by rw [insA_len hx, h.eR]) (fun r r' _ _ hlt => ?_) (fun r p => ?_) (fun r => ?_) (fun r s h0 he => ?_)
  · simp only [fRowIn]; split <;> split <;> simp only [] <;> omega
  · rw [hg]
    constructor
    · rintro ⟨r0, p0, h1, h2, h3⟩
      simp only [fRowIn] at h3
      split at h3
      · injection h3 with e1 e2
        (try simp only [] at e1 e2)
        rw [if_neg (by omega), if_neg (by omega), show r - 1 = r0 by omega]; omega
      · injection h3 with e1 e2
        (try simp only [] at e1 e2)
        rw [if_pos (by omega)]; subst e1; omega
    · rintro ⟨h1, h2⟩
      split at h1
      · exact ⟨r, p, h1, h2, by simp only [fRowIn]; rw [if_neg (by omega)]⟩
      · split at h1
        · omega
        · exact ⟨r - 1, p, h1, h2, by simp only [fRowIn]; rw [if_pos (by omega)]; congr 1; omega⟩
  · rw [hg]
    have h1 := h.rng r
    have h2 := h.rng (r - 1)
    split
    · exact h1
    · split
      · omega
      · exact h2
  · rw [hg] at h0
    rw [hg, hg] at he
    split at h0
    · rw [if_pos ‹_›] at he
      split at he
      · exact h.inj _ _ h0 he
      · split at he
        · omega
        · have := h.inj _ _ h0 he; omega
    · split at h0
      · omega
      · rw [if_neg ‹_›, if_neg ‹_›] at he
        split at he
        · have := h.inj _ _ h0 he; omega
        · split at he
          · omega
          · have := h.inj _ _ h0 he; omega
/-- A row goes that has no place. -/
theorem PVw.rowOut (h : PVw m L N) {x : Nat} (hx : x < L.length) (h1 : gL L x < 0) {R' : Nat} (hR : R' + 1 = m.R) : PVw ⟨m.A, eachL (fRowOut x) m.O m.L, m.O, R', m.N⟩ (outA L x) N := by
  have hN := h.eN
  have hg := fun r => gL_out hx r
  have hxr : ∀ r, 0 ≤ gL L r → r ≠ x := fun r hr e => by rw [e] at hr; omega
  rw [hN]
  refine h.each (by rw [outA_len hx, ← h.eR]; omega) (fun r r' hr hr' hlt => ?_) (fun r p => ?_) (fun r => ?_) (fun r s h0 he => ?_)
  · have := hxr r hr
    have := hxr r' hr'
    simp only [fRowOut]; split <;> split <;> simp only [] <;> omega
  · rw [hg]
    constructor
    · rintro ⟨r0, p0, h1, h2, h3⟩
      have := hxr r0 (by omega)
      simp only [fRowOut] at h3
      split at h3
      · injection h3 with e1 e2
        (try simp only [] at e1 e2)
        rw [if_neg (by omega), show r + 1 = r0 by omega]; omega
      · injection h3 with e1 e2
        (try simp only [] at e1 e2)
        rw [if_pos (by omega)]; subst e1; omega
    · rintro ⟨h1, h2⟩
      split at h1
      · exact ⟨r, p, h1, h2, by simp only [fRowOut]; rw [if_neg (by omega)]⟩
      · have := hxr (r + 1) (by omega)
        exact ⟨r + 1, p, h1, h2, by simp only [fRowOut]; rw [if_pos (by omega)]; congr 1; omega⟩
  · rw [hg]
    have h1 := h.rng r
    have h2 := h.rng (r + 1)
    split
    · exact h1
    · exact h2
  · rw [hg] at h0
    rw [hg, hg] at he
    split at h0
    · rw [if_pos ‹_›] at he
      split at he
      · exact h.inj _ _ h0 he
      · have := h.inj _ _ h0 he; omega
    · rw [if_neg ‹_›] at he
      split at he
      · have := h.inj _ _ h0 he; omega
      · have := h.inj _ _ h0 he; omega
/-- What PosIn makes of a place. -/
def upP (x y : Int) : Int := if x ≤ y then y + 1 else y
/-- What PosOut makes of a place that stays. -/
def dnP (x y : Int) : Int := if x < y then y - 1 else y
theorem PVw.posIn (h : PVw m L N) {x : Nat} (hx : x ≤ N) : PVw ⟨m.A, eachL (fPosIn x) m.O m.L, m.O, m.R, m.N + 1⟩ (L.map (upP x)) (N + 1) := by
  have hN := h.eN
  have hg := fun r => gL_map (L := L) (upP x) (by unfold upP; rw [if_neg (by omega)]) r
  rw [hN]
  refine h.each (by rw [List.length_map, h.eR]) (fun r r' hr hr' hlt => ?_) (fun r p => ?_) (fun r => ?_) (fun r s h0 he => ?_)
  · simp only [fPosIn]; split <;> split <;> simp only [] <;> omega
  · rw [hg]
    constructor
    · rintro ⟨r0, p0, h1, h2, h3⟩
      simp only [fPosIn] at h3
      split at h3
      · injection h3 with e1 e2
        (try simp only [] at e1 e2)
        subst e1
        unfold upP
        rw [h1, if_pos (by omega)]; omega
      · injection h3 with e1 e2
        (try simp only [] at e1 e2)
        subst e1
        unfold upP
        rw [h1, if_neg (by omega)]; omega
    · rintro ⟨h1, h2⟩
      have := h.rng r
      unfold upP at h1
      split at h1
      · exact ⟨r, gL L r, rfl, by omega, by simp only [fPosIn]; rw [if_pos (by omega)]; congr 1⟩
      · exact ⟨r, gL L r, rfl, by omega, by simp only [fPosIn]; rw [if_neg (by omega)]; congr 1⟩
  · rw [hg]
    have h1 := h.rng r
    unfold upP
    split <;> omega
  · rw [hg] at h0
    rw [hg, hg] at he
    have h1 := h.rng r
    have h2 := h.rng s
    unfold upP at h0 he
    refine h.inj r s ?_ ?_
    · split at h0 <;> omega
    · split at he <;> split at he <;> omega
theorem PVw.posOut (h : PVw m L N) {x : Nat} (hx : x < N) (h1 : ∀ r, gL L r ≠ x) {N' : Nat} (hN' : N' + 1 = N) : PVw ⟨m.A, eachL (fPosOut x) m.O m.L, m.O, m.R, N'⟩ (L.map (dnP x)) N' := by
  have hg := fun r => gL_map (L := L) (dnP x) (by unfold dnP; rw [if_neg (by omega)]) r
  refine h.each (by rw [List.length_map, h.eR]) (fun r r' hr hr' hlt => ?_) (fun r p => ?_) (fun r => ?_) (fun r s h0 he => ?_)
  · simp only [fPosOut]; split <;> split <;> simp only [] <;> omega
  · rw [hg]
    constructor
    · rintro ⟨r0, p0, h2, h3, h4⟩
      have := h1 r0
      simp only [fPosOut] at h4
      split at h4
      · injection h4 with e1 e2
        (try simp only [] at e1 e2)
        subst e1
        unfold dnP
        rw [h2, if_pos (by omega)]; omega
      · injection h4 with e1 e2
        (try simp only [] at e1 e2)
        subst e1
        unfold dnP
        rw [h2, if_neg (by omega)]; omega
    · rintro ⟨h2, h3⟩
      have := h.rng r
      have := h1 r
      unfold dnP at h2
      split at h2
      · exact ⟨r, gL L r, rfl, by omega, by simp only [fPosOut]; rw [if_pos (by omega)]; congr 1⟩
      · exact ⟨r, gL L r, rfl, by omega, by simp only [fPosOut]; rw [if_neg (by omega)]; congr 1⟩
  · rw [hg]
    have h2 := h.rng r
    have := h1 r
    unfold dnP
    split <;> omega
  · rw [hg] at h0
    rw [hg, hg] at he
    have h2 := h.rng r
    have h3 := h.rng s
    have := h1 r
    have := h1 s
    unfold dnP at h0 he
    refine h.inj r s ?_ ?_
    · split at h0 <;> omega
    · split at he <;> split at he <;> omega

/-- Where a row came from that a move brought here. -/
def mvI (a b y : Int) : Int := if y = b then a else if a ≤ (if b < y then y - 1 else y) then (if b < y then y - 1 else y) + 1 else (if b < y then y - 1 else y)
theorem mv_back (a b y : Int) : mvI a b (mvR a b y) = y := by
  unfold mvI mvR
  (repeat' split) <;> omega
theorem mv_on (a b y : Int) : mvR a b (mvI a b y) = y := by
  unfold mvI mvR
  (repeat' split) <;> omega
def mvL (L : List Int) (a b : Nat) : List Int := insA (outA L a) b (gL L a)
theorem mvL_len {a b : Nat} (ha : a < L.length) (hb : b < L.length) : (mvL L a b).length = L.length := by unfold mvL; rw [insA_len (by rw [outA_len ha]; omega), outA_len ha]; omega
theorem gL_mv {a b : Nat} (ha : a < L.length) (hb : b < L.length) (r : Int) : gL (mvL L a b) r = gL L (mvI a b r) := by
  unfold mvL
  rw [gL_ins (by rw [outA_len ha]; omega), gL_out ha, gL_out ha]
  have e : mvI a b r = if r < b then (if r < a then r else r + 1) else if r = b then (a : Int) else if r - 1 < a then r - 1 else r := by
    unfold mvI
    (repeat' split) <;> omega
  rw [e]
  (repeat' split) <;> first | rfl | (congr 1; omega)
theorem PVw0.move (h : PVw0 m L N) {a b : Nat} (ha : a < L.length) (hb : b < L.length) : PVw0 ⟨m.A, eachL (fMove a b) m.O m.L, m.O, m.R, m.N⟩ (mvL L a b) N := by
  have hN := h.eN
  have hg := fun r => gL_mv ha hb r
  rw [hN]
  refine h.each (by rw [mvL_len ha hb, h.eR]) (fun r p => ?_) (fun r => ?_) (fun r s h0 he => ?_)
  · rw [hg]
    constructor
    · rintro ⟨r0, p0, h1, h2, h3⟩
      unfold fMove at h3
      injection h3 with e1 e2
      (try simp only [] at e1 e2)
      rw [← e1, mv_back]
      omega
    · rintro ⟨h1, h2⟩
      exact ⟨mvI a b r, p, h1, h2, by unfold fMove; simp only []; rw [mv_on]⟩
  · rw [hg]; exact h.rng _
  · rw [hg] at h0
    rw [hg, hg] at he
    have := h.inj _ _ h0 he
    rw [← mv_on a b r, this, mv_on]

theorem mem_outA {α : Type} {l : List α} (hn : l.Nodup) {i : Nat} {k : α} (hk : l[i]? = some k) (j : α) : j ∈ outA l i ↔ j ∈ l ∧ j ≠ k := by
  obtain ⟨hi, rfl⟩ := List.getElem?_eq_some_iff.1 hk
  have hl : l = l.take i ++ l[i] :: l.drop (i + 1) := by rw [← List.drop_eq_getElem_cons hi, List.take_append_drop]
  have hn2 := hn
  rw [hl] at hn2
  rw [List.nodup_append, List.nodup_cons] at hn2
  obtain ⟨_, ⟨h1, _⟩, h2⟩ := hn2
  constructor
  · intro hj
    unfold outA at hj
    rw [List.mem_append] at hj
    refine ⟨?_, ?_⟩
    · rcases hj with hj | hj
      · exact List.mem_of_mem_take hj
      · exact List.mem_of_mem_drop hj
    · rintro rfl
      rcases hj with hj | hj
      · exact h2 _ hj _ List.mem_cons_self rfl
      · exact h1 hj
  · rintro ⟨hj, hne⟩
    rw [hl] at hj
    rw [List.mem_append, List.mem_cons] at hj
    unfold outA
    rw [List.mem_append]
    rcases hj with hj | hj | hj
    · exact Or.inl hj
    · exact absurd hj hne
    · exact Or.inr hj
theorem outA_sub {α : Type} (l : List α) (i : Nat) : (outA l i).Sublist l := by
  unfold outA
  rw [← List.eraseIdx_eq_take_drop_succ]
  exact List.eraseIdx_sublist _ _
/-- A pair goes. -/
theorem PVw.del (h : PVw m L N) {i k : Nat} (hk : m.O[i]? = some k) : PVw (m.del i k) (L.set (rowL m.L k).toNat (-1)) N := by
  have hkm := List.mem_of_getElem? hk
  have hr := h.row hkm
  obtain ⟨x, hx⟩ : ∃ x : Nat, rowL m.L k = x := ⟨(rowL m.L k).toNat, by omega⟩
  rw [hx, Int.toNat_natCast]
  have hxl : x < L.length := by omega
  have hg := fun r => gL_set (v := -1) hxl r
  have hT : k < m.A.T.length := (List.getElem?_eq_some_iff.1 ((h.ok.iff k).2 hkm)).1
  have hm := fun j => mem_outA h.ok.nd hk j
  refine ⟨⟨⟨h.ok.most, h.ok.nd.sublist (outA_sub _ _), fun j => ?_, ?_⟩, ?_, h.eN, fun r p => ?_, fun r => ?_, fun r s h0 he => ?_⟩, h.so.sublist (outA_sub _ _)⟩
  · show (m.A.T.set k false)[j]? = some true ↔ j ∈ outA m.O i
    rw [hm, List.getElem?_set]
    by_cases e : k = j
    · subst e
      rw [if_pos rfl, if_pos hT]; simp
    · rw [if_neg e, h.ok.iff j]
      exact ⟨fun q => ⟨q, fun e' => e e'.symm⟩, fun q => q.1⟩
  · show (m.A.T.set k false).length = m.L.length
    rw [List.length_set]; exact h.ok.len
  · show m.R = _
    rw [List.length_set]; exact h.eR
  · rw [hg]
    constructor
    · rintro ⟨j, hj, h1, h2⟩
      have hj2 := (hm j).1 hj
      have h3 := h.row hj2.1
      have h4 : rowL m.L j ≠ x := by
        intro e
        refine hj2.2 ?_
        obtain ⟨a, ha, rfl⟩ := List.getElem_of_mem hj2.1
        obtain ⟨b, hb, rfl⟩ := List.getElem_of_mem hkm
        rcases Nat.lt_trichotomy a b with q | q | q
        · have := List.pairwise_iff_getElem.1 h.so a b ha hb q; omega
        · subst q; rfl
        · have := List.pairwise_iff_getElem.1 h.so b a hb ha q; omega
      have h1 : rowL m.L j = r := h1
      have h2 : posL m.L j = p := h2
      rw [if_neg (by omega), ← h1, ← h2]
      exact ⟨h3.1, h3.2.1⟩
    · rintro ⟨h1, h2⟩
      split at h1
      · omega
      · obtain ⟨j, hj, h3, h4⟩ := (h.mem r p).2 ⟨h1, h2⟩
        exact ⟨j, (hm j).2 ⟨hj, fun e => by subst e; omega⟩, h3, h4⟩
  · rw [hg]
    have := h.rng r
    split
    · omega
    · exact this
  · rw [hg] at h0
    rw [hg, hg] at he
    split at h0
    · omega
    · rw [if_neg ‹_›] at he
      split at he
      · omega
      · exact h.inj _ _ h0 he

theorem sorted_cnt (f : Nat → Int) (x : Int) : ∀ {O : List Nat}, O.Pairwise (fun a b => f a < f b) → (∀ k ∈ O.take (O.countP fun k => decide (f k < x)), f k < x) ∧ (∀ k ∈ O.drop (O.countP fun k => decide (f k < x)), x ≤ f k)
  | [], _ => ⟨fun k hk => by simp at hk, fun k hk => by simp at hk⟩
  | a :: O, hp => by
    rw [List.pairwise_cons] at hp
    obtain ⟨h1, h2⟩ := sorted_cnt f x hp.2
    rw [List.countP_cons]
    by_cases ha : f a < x
    · rw [decide_eq_true ha]
      simp only [if_true, List.take_succ_cons, List.drop_succ_cons, List.mem_cons]
      exact ⟨fun k hk => hk.elim (fun e => by rw [e]; exact ha) (h1 k), h2⟩
    · have h0 : O.countP (fun k => decide (f k < x)) = 0 := by
        rw [List.countP_eq_zero]
        intro k hk
        have := hp.1 k hk
        simp; omega
      rw [decide_eq_false ha, h0]
      simp only [Bool.false_eq_true, if_false, Nat.add_zero, List.take_zero, List.drop_zero]
      refine ⟨fun k hk => by simp at hk, fun k hk => ?_⟩
      rcases List.mem_cons.1 hk with e | e
      · rw [e]; omega
      · have := hp.1 k e; omega
/-- A pair comes. -/
theorem PVw.add (h : PVw m L N) {x p k : Nat} (hx : x < L.length) (hp : p < N) (h1 : gL L x < 0) (h2 : ∀ r, gL L r ≠ p) {A' : Ar} {T' : List (Int × Int)} (hM : A'.M = m.A.M) (hA : ∀ j, A'.T[j]? = some true ↔ j ∈ m.O ∨ j = k) (hl : A'.T.length = T'.length) (hk : k ∉ m.O)
    (he : ∀ j ∈ m.O, rowL T' j = rowL m.L j ∧ posL T' j = posL m.L j) (hr : rowL T' k = x) (hq : posL T' k = p) : PVw ⟨A', T', insA m.O (m.cnt x) k, m.R, m.N⟩ (L.set x (p : Int)) N := by
  have hg := fun r => gL_set (v := (p : Int)) hx r
  have hc : m.cnt x ≤ m.O.length := List.countP_le_length
  have hmem : ∀ j, j ∈ insA m.O (m.cnt x) k ↔ j = k ∨ j ∈ m.O := fun j => by rw [(insA_perm m.O (m.cnt x) k).mem_iff, List.mem_cons]
  have hso := sorted_cnt (rowL m.L) x h.so
  have hrow : ∀ j ∈ m.O, rowL m.L j ≠ x := fun j hj e => by have := h.row hj; rw [e] at this; omega
  refine ⟨⟨⟨by rw [← h.ok.most]; exact hM, ?_, fun j => ?_, hl⟩, ?_, h.eN, fun r q => ?_, fun r => ?_, fun r s h0 he => ?_⟩, ?_⟩
  · exact (insA_perm m.O (m.cnt x) k).nodup_iff.2 (List.nodup_cons.2 ⟨hk, h.ok.nd⟩)
  · rw [hA, hmem, Or.comm]
  · show m.R = _
    rw [List.length_set]; exact h.eR
  · rw [hg]
    constructor
    · rintro ⟨j, hj, e1, e2⟩
      rw [hmem] at hj
      rcases hj with rfl | hj
      · have e1 : rowL T' j = r := e1
        have e2 : posL T' j = q := e2
        rw [if_pos (by omega)]; omega
      · have e1 : rowL T' j = r := e1
        have e2 : posL T' j = q := e2
        rw [(he j hj).1] at e1
        rw [(he j hj).2] at e2
        have := hrow j hj
        have h3 := h.row hj
        rw [if_neg (by omega), ← e1, ← e2]
        exact ⟨h3.1, h3.2.1⟩
    · rintro ⟨e1, e2⟩
      split at e1
      · exact ⟨k, (hmem k).2 (Or.inl rfl), by show rowL T' k = r; omega, by show posL T' k = q; omega⟩
      · obtain ⟨j, hj, h3, h4⟩ := (h.mem r q).2 ⟨e1, e2⟩
        exact ⟨j, (hmem j).2 (Or.inr hj), (he j hj).1.trans h3, (he j hj).2.trans h4⟩
  · rw [hg]
    have := h.rng r
    split
    · omega
    · exact this
  · rw [hg] at h0
    rw [hg, hg] at he
    split at h0
    · rw [if_pos ‹_›] at he
      split at he
      · omega
      · exact absurd he.symm (h2 s)
    · rw [if_neg ‹_›] at he
      split at he
      · exact absurd he (h2 r)
      · exact h.inj _ _ h0 he
  · show (insA m.O (m.cnt x) k).Pairwise fun a b => rowL T' a < rowL T' b
    have hold : m.O.Pairwise fun a b => rowL T' a < rowL T' b := List.Pairwise.imp_of_mem (fun {a b} ha hb hab => by rw [(he a ha).1, (he b hb).1]; exact hab) h.so
    unfold insA
    rw [List.pairwise_append, List.pairwise_cons]
    rw [← List.take_append_drop (m.cnt x) m.O, List.pairwise_append] at hold
    refine ⟨hold.1, ⟨fun b hb => ?_, hold.2.1⟩, fun a ha b hb => ?_⟩
    · have hbm := List.mem_of_mem_drop hb
      have := hso.2 b hb
      have := hrow b hbm
      rw [hr, (he b hbm).1]; omega
    · rcases List.mem_cons.1 hb with rfl | hb
      · have := hso.1 a ha
        rw [hr, (he a (List.mem_of_mem_take ha)).1]; omega
      · exact hold.2.2 a ha b hb

end
end Go.Proofs.Ytpbmhdkhkbhgnaa
