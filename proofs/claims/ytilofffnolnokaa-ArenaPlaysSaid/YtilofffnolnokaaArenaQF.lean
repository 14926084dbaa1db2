/- The document's arena: Free. -/
import Derived.Test.YtilofffnolnokaaArenaQT
import Derived.ArgAppend
import Derived.Deep.DeepCutAuto
import Derived.Deep.CutBlock
import Derived.Deep.CutRange
namespace Go.Proofs.Ytilofffnolnokaa
set_option linter.unusedVariables false
set_option linter.unusedSimpArgs false
open Go.RowKit

/-- A node is taken still, behind those given back: it was, and is none of them. -/
theorem clr_is {T Ti : List Bool} {l : List Int} (h : clr T l = some Ti) (x : Int) : arIs Ti x = true ↔ arIs T x = true ∧ x ∉ l := by
  obtain ⟨_, hg, _, hf⟩ := clr_get h
  have hlen := clr_length h
  rw [arIs_iff, arIs_iff]
  have key : ∀ {U : List Bool} {n : Nat}, U[n]? = some true ↔ n < U.length ∧ ¬ U[n]? = some false := by
    intro U n
    rcases Nat.lt_or_ge n U.length with hn | hn
    · rw [List.getElem?_eq_getElem hn]
      cases U[n] <;> simp [hn]
    · rw [List.getElem?_eq_none hn]
      simp; omega
  rw [key, key, hlen, hf]
  constructor
  · rintro ⟨h0, h1, h2⟩
    exact ⟨⟨h0, h1, fun e => h2 (Or.inl e)⟩, fun e => h2 (Or.inr (List.mem_map.2 ⟨x, e, rfl⟩))⟩
  · rintro ⟨⟨h0, h1, h2⟩, h3⟩
    refine ⟨h0, h1, fun e => ?_⟩
    rcases e with e | e
    · exact h2 e
    · obtain ⟨y, hy, he⟩ := List.mem_map.1 e
      have := (hg y hy).1
      have : y = x := by omega
      subst this
      exact h3 hy

/-- 'append(s, x)' onto the row of those given back, as one operation of a drawn region. -/
theorem wp_pushGone {w : World} {o : Oper} {a : Act} {K : Act → World → Prop} {Q : Exit → Act → World → Prop} (s x : Operand)
    (ho : o.op = .call { callee := .builtin .append, args := #[s, x], argTypes := #[28, 28] })
    {ga : Option Addr} {n gc : Nat} {xs : List Value} (hs : a.eval s = .slice ga n gc) (hg : GoneR w ga n gc xs)
    (b c : Nat) (u : Value) (hx : a.eval x = .slice (some ⟨b, 0, none⟩) 1 c) (hu : w.cell? ⟨b, 0, none⟩ = some u) (h1 : u.oneCell' = true) (hn : n ≤ 1000000000)
    (h : ∀ g cap w', w'.ownsRow 0 3 1 (.slice (some ⟨g, 0, none⟩) (n + 1) cap) (n + 1) (xs ++ [u]) → Chg (fun k => ga = some ⟨k, 0, none⟩) w w' → (ga = some ⟨g, 0, none⟩ ∨ w.heap.size ≤ g) → g < w'.heap.size →
      K (a.put o.dst (.slice (some ⟨g, 0, none⟩) (n + 1) cap)) w') : Oper.wp Try.prog o a w K Q := by
  have hus : ∀ j v, ([u] : List Value)[j]? = some v → w.cell? ⟨b, j, none⟩ = some v := by
    intro j v hj
    cases j with
    | zero => simp at hj; subst hj; exact hu
    | succ j => simp at hj
  have h1c : ∀ v ∈ [u], v.oneCell' = true := fun v hv => by simp at hv; subst hv; exact h1
  rcases hg with hown | ⟨rfl, hl, g, rfl, hgl, hc⟩
  · refine wp_appendL s x 28 ho 0 3 Try.infoInt' Try.underlying28 rfl _ n xs hs hown (some ⟨b, 0, none⟩) 1 c [u] hx rfl (fun e => by cases e) (fun p hp j v hj => by cases hp; rw [Addr.add_lit, Nat.zero_add]; exact hus j v hj) h1c (by unfold maxLen; omega) (by omega) (Nat.zero_le _) ?_
    intro a' c' w' ho' hgr hor
    obtain ⟨x', cx, hv, hnone, hb⟩ := own_slice ho'
    injection hv with e1 _ e3
    subst e1 e3
    cases ha : a' with
    | none => exact absurd (hnone ha).1 (by omega)
    | some ad =>
      obtain ⟨g, rfl, _, hlt, _⟩ := hb ad ha
      subst ha
      have ob : ∀ k, (Value.slice ga n gc).ownBlock = some k → ga = some ⟨k, 0, none⟩ := by
        intro k hk
        obtain ⟨y, cy, hv, _, hb⟩ := own_slice hown
        injection hv with e1 _ _
        subst e1
        cases hga : ga with
        | none => rw [hga] at hk; simp [Value.ownBlock] at hk
        | some ad => obtain ⟨g2, rfl, _⟩ := hb _ hga; rw [hga] at hk; simp [Value.ownBlock] at hk; rw [hk]
      exact h g c' w' ho' (Chg.refl.grown hgr (fun k hk => Or.inl (ob k hk))) ((hor g rfl).elim (fun e => Or.inl (ob g e)) Or.inr) hlt
  · obtain ⟨i, hi, hz, hsz, hby⟩ := info_parts Try.infoInt'
    obtain ⟨v', w', hr, h2, h3⟩ := run_append_arg_grows (P := Try.prog) (w := w) 28 o.type 3 i (.int .i64 0) 1 8 Try.underlying28 hi hz hsz hby rfl (by omega) ⟨g, 0, none⟩ gc gc xs (by omega) (fun j v hj => by rw [Addr.add_lit, Nat.zero_add]; exact hc j v hj) ⟨b, 0, none⟩ 1 c [u] rfl (fun j v hj => by rw [Addr.add_lit, Nat.zero_add]; exact hus j v hj) (by omega) (by unfold maxLen; omega) (by omega)
    unfold Oper.wp execOp
    simp only [ho, resolve, invoke, builtin, Sem.run_bind, Sem.run_pure, Result.andThen_ok, List.map_toArray, List.map_cons, List.map_nil, hs, hx, hr]
    obtain ⟨a', c', rfl, hnn, hb⟩ := own_slice h2
    cases a' with
    | none => exact absurd (hnn rfl).1 (by omega)
    | some ad =>
      obtain ⟨g2, rfl, hg1, hg2, hg3⟩ := hb _ rfl
      exact h g2 c' w' (own_mono h2 (Nat.zero_le _)) (Chg.refl.grown h3 (fun k hk => by cases hk)) (Or.inr hg1) hg2

section
variable {w w1 w2 w3 : World} {p tb tc gc g cap : Nat} {ga : Option Addr} {a a' : Ar} {R : Nat → Prop}
/-- One node is given back. -/
theorem RfP.gave (h : RfP w p (some ⟨tb, 0, none⟩) tc ga gc a) (hok : a'.Ok) (hM : a'.M = a.M) (hT : a'.T.length = a.T.length) (hF : a'.F.length = a.F.length + 1)
    (hd2 : w2.heap[p]? = some (.cells #[.int .i64 a.M, .slice (some ⟨tb, 0, none⟩) a.T.length tc, .slice ga a.F.length gc] 38 (0, 0)))
    (ht2 : w2.ownsRow 0 4 1 (.slice (some ⟨tb, 0, none⟩) a.T.length tc) a.T.length (a'.T.map Value.bool)) (hc2 : Chg (fun k => k = tb) w w2)
    (hown : w3.ownsRow 0 3 1 (.slice (some ⟨g, 0, none⟩) (a.F.length + 1) cap) (a.F.length + 1) (a'.F.map natA)) (hc3 : Chg (fun k => ga = some ⟨k, 0, none⟩) w2 w3) (hor : ga = some ⟨g, 0, none⟩ ∨ w2.heap.size ≤ g) :
    RfP (w3.setCell ⟨p, 2, none⟩ (.slice (some ⟨g, 0, none⟩) (a.F.length + 1) cap)) p (some ⟨tb, 0, none⟩) tc (some ⟨g, 0, none⟩) cap a' ∧
    Chg (fun k => k = p ∨ (some ⟨tb, 0, none⟩ : Option Addr) = some ⟨k, 0, none⟩ ∨ ga = some ⟨k, 0, none⟩) w (w3.setCell ⟨p, 2, none⟩ (.slice (some ⟨g, 0, none⟩) (a.F.length + 1) cap)) := by
  have hsz := hc2.size
  obtain ⟨ntp, ntg⟩ := h.n1 tb rfl
  have hpl := h.plt
  have htl : tb < w.heap.size := by obtain ⟨g', e, hl⟩ := h.tad rfl; cases e; exact hl
  have hgp : g ≠ p := by
    rcases hor with e | e
    · exact h.n2 g e
    · omega
  have hgt : g ≠ tb := by
    rcases hor with e | e
    · intro e2; subst e2; exact ntg e
    · omega
  have hd3 := hc3.heap hd2 (fun e => h.n2 p e rfl)
  have ht3 : w3.ownsRow 0 4 1 (.slice (some ⟨tb, 0, none⟩) a.T.length tc) a.T.length (a'.T.map Value.bool) := hc3.own ht2 (fun k hk e => by
    simp [Value.ownBlock] at hk
    subst hk
    exact ntg e)
  refine ⟨⟨hok, ?_, ?_, ?_, ?_, ?_⟩, ?_⟩
  · rw [hM, hT, hF]
    exact heap_set_cells hd3 2 _
  · rw [hT]
    exact own_set_other ht3 _ (fun g' hg' => by cases hg'; exact ntp) (fun ad hg' => by cases hg'; exact ⟨_, rfl⟩)
  · rw [hF]
    exact Or.inl (own_set_other hown _ (fun g' hg' => by cases hg'; exact hgp) (fun ad hg' => by cases hg'; exact ⟨_, rfl⟩))
  · intro g' hg'; cases hg'; exact ⟨ntp, fun e => by cases e; exact hgt rfl⟩
  · intro g' hg'; cases hg'; exact hgp
  · have hcc : Chg (fun k => k = p ∨ (some ⟨tb, 0, none⟩ : Option Addr) = some ⟨k, 0, none⟩ ∨ ga = some ⟨k, 0, none⟩) w w2 := hc2.mono (fun k hk => Or.inr (Or.inl (by rw [hk])))
    exact (hcc.trans hc3 (fun b hb => Or.inl (Or.inr (Or.inr hb)))).setCell ⟨p, 2, none⟩ (Or.inl (Or.inl rfl)) _
theorem RfStep.next {a2 : Ar} {R1 : Nat → Prop} (hc : Chg R w w1) (hR : ∀ k, R1 k → R k ∨ w.heap.size ≤ k) (h : RfStep w1 w2 p R1 a2) : RfStep w w2 p R a2 := by
  obtain ⟨R2, h1, h2, h3⟩ := h
  refine ⟨R2, h1, hc.trans h2 (fun b hb => hR b hb), fun k hk => ?_⟩
  have := hc.size
  rcases h3 k hk with h | h
  · exact hR k h
  · exact Or.inr (by omega)
end

set_option maxHeartbeats 3200000 in
set_option maxRecDepth 100000 in
theorem rfFree_any {w : World} {p : Nat} {R : Nat → Prop} {a : Ar} (h : RfS w p R a) (l : List Int) (la : Option Addr) (lc : Nat) (hl : Reads w .i64 la l) (hsep : 0 < l.length → ∀ ad, la = some ad → ¬ R ad.block) (hlen : l.length ≤ 1000000) :
    Calls Try.prog 10 #[.pointer (some ⟨p, 0, none⟩), .slice la l.length lc] w fun e w' => e = .returned (.int .i64 (a.free l).1) ∧ RfStep w w' p R (a.free l).2 := by
  have HRS := Lib.hid h
  have HSEP := Lib.hid hsep
  have HL := Lib.hid hl
  clear h hsep hl
  go_enter Try.func10, Try.ntmps10
  go_wp2_with fail
  go_loopw [5] (fun i wr => ∃ k : Nat, k ≤ l.length ∧ i = .int .i64 k ∧ (∃ m, wr = w.drewN m) ∧ ∃ Ti, clr a.T (l.take k) = some Ti) (fun i _ => l.length - (intOf i).toNat)
  case atStart => exact ⟨0, Nat.zero_le _, rfl, ⟨0, rfl⟩, a.T, rfl⟩
  case round => as_aux_lemma =>
    obtain ⟨wo, rfl⟩ : ∃ wo : World, wo = wr := ⟨_, rfl⟩
    obtain ⟨k, hk, rfl, hsm, Ti, hcl⟩ := hrel
    have HCL := Lib.hid hcl
    have HSM := Lib.hid hsm
    have hrs : RfS wo p R a := by obtain ⟨m, rfl⟩ := hsm; exact HRS.out.drewN m
    have hrd : Reads wo .i64 la l := by obtain ⟨m, rfl⟩ := hsm; exact HL.out
    clear hcl hsm
    by_cases hlt : k < l.length
    · obtain ⟨b, off, rfl, hbl, hcells⟩ := hrd.some (by omega)
      have hcx := hcells k hlt
      have HSU := Lib.hid (clr_take_succ hlt HCL.out)
      have HXI := Lib.hid (clr_is HCL.out (l[k]?.getD 0))
      have HIS := Lib.hid (rfIs_any (l[k]?.getD 0) hrs)
      have hx : l[k]?.getD 0 = l[k] := by rw [List.getElem?_eq_getElem hlt]; rfl
      obtain ⟨x, hxe⟩ : ∃ x, l[k]?.getD 0 = x := ⟨_, rfl⟩
      rw [hxe] at hcx HSU HXI HIS hx
      have HX := Lib.hid hx
      clear hxe hx hrd hcells
      have hkc : (0 : Int) ≤ (k : Int) := by omega
      have hkc2 : (k : Int) < (l.length : Int) := by omega
      cases hIs : arIs a.T x
      · have HFREE : Hid (a.free l = (7, a)) := Lib.hid (by
          unfold Ar.free
          rw [clr_none_of_take (l := l) (i := k + 1) (by rw [HSU.out, if_neg]; intro e; have := (HXI.out.1 e).1; rw [hIs] at this; cases this)])
        rw [hIs] at HIS
        have HR1 := Lib.hid hrs
        clear hIs hrs
        go_wp2_with fail
        refine HIS.out.mono ?_
        rintro e w' ⟨rfl, rfl⟩
        go_wp2_with fail
        go_ret
        rw [HFREE.out]
        obtain ⟨m, hm⟩ := HSM.out
        refine ⟨rfl, R, HR1.out, by rw [hm]; exact Chg.refl.drewN m, fun k hk => Or.inl hk⟩
      · rw [hIs] at HIS
        have HIS1 := Lib.hid hIs
        clear hIs hrs
        go_wp2_with fail
        refine HIS.out.mono ?_
        rintro e w' ⟨rfl, rfl⟩
        clear HIS
        go_wp2_with fail
        go_loopw [6] (fun i wr => ∃ j : Nat, j ≤ k ∧ i = .int .i64 j ∧ (∃ m, wr = w.drewN m) ∧ ∀ i, i < j → l[i]?.getD 0 ≠ x) (fun i _ => k - (intOf i).toNat)
        case atStart => exact ⟨0, Nat.zero_le _, rfl, HSM.out, fun i hi => absurd hi (Nat.not_lt_zero _)⟩
        case round => as_aux_lemma =>
          obtain ⟨j, hj, rfl, hsm2, hno⟩ := hrel
          clear hcx hbl
          have HSM2 := Lib.hid hsm2
          have HNO := Lib.hid hno
          have hrd2 : Reads wr .i64 (some ⟨b, off, none⟩) l := by obtain ⟨m, rfl⟩ := hsm2; exact HL.out
          have hrs2 : RfS wr p R a := by obtain ⟨m, rfl⟩ := hsm2; exact HRS.out.drewN m
          clear hsm2 hno
          by_cases hjk : j < k
          · obtain ⟨b', off', heq, _, hcells⟩ := hrd2.some (by omega)
            cases heq
            have hcx := hcells k hlt
            have hcy := hcells j (by omega)
            rw [List.getElem?_eq_getElem hlt, Option.getD_some, ← HX.out] at hcx
            obtain ⟨y, hy⟩ : ∃ y, l[j]?.getD 0 = y := ⟨_, rfl⟩
            rw [hy] at hcy
            have HY := Lib.hid hy
            clear hcells hrd2 hy
            have hjc : (0 : Int) ≤ (j : Int) := by omega
            have hjc2 : (j : Int) < (l.length : Int) := by omega
            by_cases hxy : y = x
            · subst hxy
              have HFREE : Hid (a.free l = (7, a)) := Lib.hid (by
                unfold Ar.free
                rw [clr_none_of_take (l := l) (i := k + 1) (by
                  rw [HSU.out, if_neg]
                  intro e
                  refine (HXI.out.1 e).2 ?_
                  rw [List.mem_take_iff_getElem]
                  refine ⟨j, by omega, ?_⟩
                  have := HY.out
                  rw [List.getElem?_eq_getElem (by omega)] at this
                  exact this)])
              have HR2 := Lib.hid hrs2
              clear hrs2
              go_wp2_with fail
              go_quiet (fail)
              go_wp2_with fail
              go_ret
              rw [HFREE.out]
              obtain ⟨m, hm⟩ := HSM2.out
              exact ⟨rfl, R, HR2.out.drewN _, by rw [hm]; exact (Chg.refl.drewN m).drewN _, fun k hk => Or.inl hk⟩
            · have d : (y == x) = false := by rw [beq_eq_false_iff_ne]; exact hxy
              clear hrs2
              go_wp2_with fail
              go_quiet (fail)
              go_wp2_with fail
              go_roundw
              case rel => exact ⟨j + 1, by omega, by go_num, by obtain ⟨m, hm⟩ := HSM2.out; exact ⟨m + nq, by rw [hm, World.drewN_drewN]⟩, fun i hi => by
                rcases Nat.lt_or_ge i j with h | h
                · exact HNO.out i h
                · obtain rfl : i = j := by omega
                  rw [HY.out]; exact hxy⟩
              case measure => simp [intOf]; omega
          · obtain rfl : j = k := by omega
            have HCS : Hid (clr a.T (l.take (j + 1)) = some (Ti.set x.toNat false)) := Lib.hid (by
              rw [HSU.out, if_pos]
              refine HXI.out.2 ⟨HIS1.out, fun hm => ?_⟩
              rw [List.mem_take_iff_getElem] at hm
              obtain ⟨i, hi, e⟩ := hm
              refine HNO.out i (by omega) ?_
              rw [List.getElem?_eq_getElem (by omega)]
              exact e)
            clear hrd2 hrs2
            go_wp2_with fail
            go_roundw
            case rel => exact ⟨j + 1, by omega, by go_num, HSM2.out, _, HCS.out⟩
            case measure => simp [intOf]; omega
    · obtain rfl : k = l.length := by omega
      have hcl := HCL.out
      rw [List.take_length] at hcl
      have HALL := Lib.hid hcl
      have HFREE : Hid (a.free l = (0, a.push Ti l)) := Lib.hid (by unfold Ar.free; rw [hcl])
      have HSTEP : Hid (RfStep w wo p R a) := Lib.hid (by obtain ⟨m, hm⟩ := HSM.out; exact ⟨R, hrs, by rw [hm]; exact Chg.refl.drewN m, fun k hk => Or.inl hk⟩)
      clear hcl hrs hrd HCL
      go_wp2_with fail
      go_loopw [7] (fun i wr => ∃ (k : Nat) (Tk : List Bool), k ≤ l.length ∧ i = .int .i64 k ∧ clr a.T (l.take k) = some Tk ∧ RfStep w wr p R (a.push Tk (l.take k))) (fun i _ => l.length - (intOf i).toNat)
      case atStart => exact ⟨0, a.T, Nat.zero_le _, rfl, rfl, by have := HSTEP.out; simpa [Ar.push] using this⟩
      case round => as_aux_lemma =>
        clear HSTEP HSM
        obtain ⟨k, Tk, hk, rfl, hcl, hst⟩ := hrel
        by_cases hlt : k < l.length
        · obtain ⟨R1, ⟨ta, tc, ga, gc, hP, hR1⟩, hc1, hR1'⟩ := hst
          have hTl := clr_length hcl
          have hsu := clr_take_succ hlt hcl
          have hx : l[k]?.getD 0 = l[k] := by rw [List.getElem?_eq_getElem hlt]; rfl
          have hrd : Reads wr .i64 la l := readsW hc1 HL.out HSEP.out
          obtain ⟨b, off, rfl, hbl, hcells⟩ := hrd.some (by omega)
          have hcx := hcells k hlt
          have hbw : b < w.heap.size := by obtain ⟨b', off', e, hb', _⟩ := HL.out.some (by omega); cases e; exact hb'
          have hnb : ¬ R1 b := fun e => (hR1' b e).elim (fun e => HSEP.out (by omega) _ rfl e) (fun e => by omega)
          have hIs : arIs Tk (l[k]?.getD 0) = true := by
            by_cases e : arIs Tk (l[k]?.getD 0) = true
            · exact e
            · rw [if_neg e] at hsu
              have h1 := clr_none_of_take hsu
              have h2 := HALL.out
              rw [h1] at h2; cases h2
          rw [if_pos hIs] at hsu
          obtain ⟨hx0, hx1⟩ := arIs_iff.1 hIs
          obtain ⟨xn, hxn⟩ : ∃ xn : Nat, l[k]?.getD 0 = (xn : Int) := ⟨(l[k]?.getD 0).toNat, by omega⟩
          rw [hxn] at hcx hsu hx1 hx
          simp only [Int.toNat_natCast] at hsu hx1
          have hxl := (List.getElem?_eq_some_iff.1 hx1).1
          have hOk : (a.push (Tk.set xn false) (l.take (k + 1))).Ok := Ar.push_ok HRS.out.ok hsu
          have hF' : (a.push (Tk.set xn false) (l.take (k + 1))).F = (a.push Tk (l.take k)).F ++ [xn] := by
            show a.F ++ (l.take (k + 1)).map Int.toNat = (a.F ++ (l.take k).map Int.toNat) ++ [xn]
            rw [List.take_add_one, List.getElem?_eq_getElem hlt, Option.toList_some, List.map_append, List.append_assoc, List.map_singleton, ← hx, Int.toNat_natCast]
          have hFl : (a.push Tk (l.take k)).F.length ≤ 1000000000 := by
            have := hP.ok.fle
            have := hP.ok.le
            have := hP.ok.max
            omega
          have hT : wr.ownsRow 0 4 1 (.slice ta Tk.length tc) Tk.length (Tk.map Value.bool) := hP.t
          obtain ⟨tb, tcap, hv, _, htb, htcap, _, _, _⟩ := own_some hT (by omega)
          injection hv with e1 _ e3
          subst e1 e3
          have hTM : Tk.length ≤ 268435456 := by have := HRS.out.ok.le; have := HRS.out.ok.max; omega
          have hbt : b ≠ tb := fun e => hnb (by rw [e]; exact (hR1 tb).2 (Or.inr (Or.inl rfl)))
          have hpt : tb ≠ p := (hP.n1 tb rfl).1
          have hbp : b ≠ p := fun e => hnb (by rw [e]; exact (hR1 p).2 (Or.inl rfl))
          have HP := Lib.hid hP
          have hKP : ∀ W, Chg (fun k => k = tb) wr W → W.cell? ⟨p, 1, none⟩ = some (.slice (some ⟨tb, 0, none⟩) Tk.length tc) ∧ W.cell? ⟨b, off + k, none⟩ = some (.int .i64 xn) := fun W hW =>
            ⟨hW.cell (p := ⟨p, 1, none⟩) HP.out.c1 (fun e => hpt e.symm), hW.cell (p := ⟨b, off + k, none⟩) hcx hbt⟩
          have KP := Lib.hid hKP
          have HT := Lib.hid hT
          have HOK := Lib.hid hOk
          have HF := Lib.hid hF'
          have HSU := Lib.hid hsu
          have HC1 := Lib.hid hc1
          have HR1 := Lib.hid hR1
          have HR1' := Lib.hid hR1'
          have HTS : Hid ((Tk.set xn false).length = Tk.length) := Lib.hid (by simp)
          have hkc : (0 : Int) ≤ (k : Int) := by omega
          have hkc2 : (k : Int) < (l.length : Int) := by omega
          have hxc : (0 : Int) ≤ (xn : Int) := by omega
          have hxc2 : (xn : Int) < (Tk.length : Int) := by omega
          have HCX := Lib.hid hcx
          have HTLE := Lib.hid hTl
          clear hTl
          clear hP hR1 hc1 hR1' hrd hcells hcx hnb hIs hsu hx0 hx1 hxn hOk hF' hT hKP hx hcl htb htcap
          have B0 : Hid ((wr.drew.cell? ⟨p, 1, none⟩ = some (.slice (some ⟨tb, 0, none⟩) Tk.length tc) ∧ wr.drew.cell? ⟨b, off + k, none⟩ = some (.int .i64 xn)) ∧ Chg (fun k => k = tb) wr wr.drew ∧ (∃ U : List Bool, U.length = Tk.length ∧ wr.drew.ownsRow 0 4 1 (.slice (some ⟨tb, 0, none⟩) Tk.length tc) Tk.length (U.map Value.bool)) ∧ (wr.drew.setCell ⟨tb, xn, none⟩ (.bool false)).ownsRow 0 4 1 (.slice (some ⟨tb, 0, none⟩) Tk.length tc) Tk.length ((Tk.set xn false).map Value.bool)) :=
            Lib.hid ⟨KP.out _ Chg.refl.drew, Chg.refl.drew, ⟨Tk, rfl, HT.out⟩, by rw [List.map_set]; exact own_set (w := wr.drew) HT.out xn (.bool false)⟩
          go_upto_region 14 with fail
          -- REGION fa
          refine reg_start (fun w' => (w'.cell? ⟨p, 1, none⟩ = some (.slice (some ⟨tb, 0, none⟩) Tk.length tc) ∧ w'.cell? ⟨b, off + k, none⟩ = some (.int .i64 xn)) ∧ Chg (fun k => k = tb) wr w' ∧ (∃ U : List Bool, U.length = Tk.length ∧ w'.ownsRow 0 4 1 (.slice (some ⟨tb, 0, none⟩) Tk.length tc) Tk.length (U.map Value.bool)) ∧ (w'.setCell ⟨tb, xn, none⟩ (.bool false)).ownsRow 0 4 1 (.slice (some ⟨tb, 0, none⟩) Tk.length tc) Tk.length ((Tk.set xn false).map Value.bool)) (by kernel_rfl) (B0.out) (fun hHeld => ?_)
          refine rt 0 hHeld ?_
          refine rt 1 hHeld ?_
          refine rt 2 hHeld ?_
          refine rt 3 hHeld ?_
          refine rt 4 hHeld ?_
          refine rt 5 hHeld ?_
          refine rt 6 hHeld ?_
          refine rt 7 hHeld ?_
          refine rt 8 hHeld ?_
          refine reg_loud (i := 9) rfl (by kernel_rfl) rfl (fun K hK => ?_)
          have hHH := hHeld
          obtain ⟨_, hch, ⟨U, hU, hUo⟩, hT1⟩ := hHH
          obtain ⟨g9, cap9, hv9, _, _, _, _, hc9, hf9⟩ := own_some hUo (by omega)
          injection hv9 with e1 _ e3
          cases e1
          subst e3
          have hcu := hc9 xn (by omega)
          rw [List.getElem?_map, List.getElem?_eq_getElem (by omega)] at hcu
          simp only [Option.map_some] at hcu
          have hfu := hf9 xn
          have HUO := Lib.hid hUo
          have HUL := Lib.hid hU
          have HT1 := Lib.hid hT1
          have HCH := Lib.hid (hch.setCell ⟨tb, xn, none⟩ (Or.inl rfl) (.bool false))
          generalize U[xn] = bu at hcu
          clear hc9 hf9 hUo hU hT1 hch
          go_simp
          refine hK.out _ _ (⟨KP.out _ HCH.out, HCH.out, ⟨U.set xn false, by rw [List.length_set]; exact HUL.out, by rw [List.map_set]; exact own_set HUO.out xn (.bool false)⟩, by have h9 := own_set HT1.out xn (.bool false); rw [← List.map_set, List.set_set] at h9; exact h9⟩) (fun hNew => ?_)
          clear hK K hHeld
          have hHeld := hNew
          clear hNew
          try simp only [Act.put, List.setIfInBounds_toArray, List.set_cons_zero, List.set_cons_succ]
          refine reg_done (by kernel_rfl) ?_ _
          -- END OF REGION fa
          have HT2 : Hid ((World.setCell wr ⟨tb, xn, none⟩ (.bool false)).ownsRow 0 4 1 (.slice (some ⟨tb, 0, none⟩) Tk.length tc) Tk.length ((Tk.set xn false).map Value.bool)) := Lib.hid HT1.out
          have HC2 : Hid (Chg (fun k => k = tb) wr (World.setCell wr ⟨tb, xn, none⟩ (.bool false))) := Lib.hid ((Chg.refl (S := fun k => k = tb) (w := wr)).setCell ⟨tb, xn, none⟩ (Or.inl rfl) (.bool false))
          clear HT1 HCH HUO HUL hHeld B0 hfu hcu
          generalize World.setCell wr ⟨tb, xn, none⟩ (.bool false) = W1 at *
          have hd1 := HC2.out.heap HP.out.hd (fun e => hpt e.symm)
          have hba : Chg (fun k => k = tb) wr (W1.alloc (.cells #[.int .i64 xn] 3)) := HC2.out.alloc _
          have hd2 := hba.heap HP.out.hd (fun e => hpt e.symm)
          have HD2 := Lib.hid hd2
          have HC2A := Lib.hid hba
          have hp2 : W1.cell? ⟨p, 2, none⟩ = some (.slice ga (a.push Tk (l.take k)).F.length gc) := by rw [cell_of_row W1 p 2 _ _ _ hd1]; rfl
          have hp2a : (W1.alloc (.cells #[.int .i64 xn] 3)).cell? ⟨p, 2, none⟩ = some (.slice ga (a.push Tk (l.take k)).F.length gc) := by rw [cell_of_row _ p 2 _ _ _ hd2]; rfl
          have HL0 := Lib.hid ((KP.out _ HC2.out).2)
          have HL1 := Lib.hid ((KP.out _ hba).2)
          have HT2A : Hid ((W1.alloc (.cells #[.int .i64 xn] 3)).ownsRow 0 4 1 (.slice (some ⟨tb, 0, none⟩) Tk.length tc) Tk.length ((Tk.set xn false).map Value.bool)) := Lib.hid (HT2.out.alloc _)
          have HG2 : Hid (GoneR (W1.alloc (.cells #[.int .i64 xn] 3)) ga (a.push Tk (l.take k)).F.length gc ((a.push Tk (l.take k)).F.map natA)) := Lib.hid (HP.out.g.chg hba (fun g hg e => (HP.out.n1 tb rfl).2 (by rw [hg, e])))
          have HNB : Hid (¬ R1 b) := Lib.hid (fun e => (HR1'.out b e).elim (fun e => HSEP.out (by omega) _ rfl e) (fun e => by omega))
          clear hd1 hd2 hba
          go_upto_region 15 with fail
          -- REGION fb
          refine reg_start (fun w' => w'.cell? ⟨b, off + k, none⟩ = some (.int .i64 xn)) (by kernel_rfl) (HL0.out) (fun hHeld => ?_)
          refine rt 0 hHeld ?_
          refine rt 1 hHeld ?_
          refine rt 2 hHeld ?_
          refine rt 3 hHeld ?_
          refine rt 5 hHeld ?_
          refine rt 6 hHeld ?_
          refine rt 7 hHeld ?_
          refine rt 8 hHeld ?_
          refine reg_loud2 (i := 4) (j := 9) rfl rfl (by kernel_rfl) rfl rfl (fun K hK => ?bfb4) (fun K hK => ?bfb9)
          case bfb4 => 
            go_simp
            refine hK.out _ _ (hHeld) (fun hNew => ?_)
            clear hK K hHeld
            have hHeld := hNew
            clear hNew
            try simp only [Act.put, List.setIfInBounds_toArray, List.set_cons_zero, List.set_cons_succ]
            refine reg_loud (i := 9) rfl (by kernel_rfl) rfl (fun K hK => ?_)
            go_simp
            refine hK.out _ _ (HL1.out) (fun hNew => ?_)
            clear hK K hHeld
            have hHeld := hNew
            clear hNew
            try simp only [Act.put, List.setIfInBounds_toArray, List.set_cons_zero, List.set_cons_succ]
            refine reg_loud (i := 10) rfl (by kernel_rfl) rfl (fun K hK => ?_)
            refine wp_pushGone _ _ rfl rfl HG2.out W1.heap.size 1 (.int .i64 xn) rfl ?hu rfl hFl ?_
            case hu => exact cell_of_row _ W1.heap.size 0 _ _ _ (heap_alloc_new W1 (.cells #[.int .i64 xn] 3))
            intro g cap w3 hown hc3 hor hlt3
            replace hc3 : Chg (fun k => ga = some ⟨k, 0, none⟩) (W1.alloc (.cells #[.int .i64 xn] 3)) w3 := (Chg.refl.drew.drew).trans hc3 (fun b hb => Or.inl hb)
            have HNEW : Hid (∀ j, (j = p ∨ (some ⟨tb, 0, none⟩ : Option Addr) = some ⟨j, 0, none⟩ ∨ (some ⟨g, 0, none⟩ : Option Addr) = some ⟨j, 0, none⟩) → R1 j ∨ wr.heap.size ≤ j) := Lib.hid (fun j hj => by
              have hsz := HC2A.out.size
              rcases hj with rfl | hj | hj
              · exact Or.inl ((HR1.out _).2 (Or.inl rfl))
              · exact Or.inl ((HR1.out _).2 (Or.inr (Or.inl hj)))
              · cases hj
                rcases hor with e | e
                · exact Or.inl ((HR1.out _).2 (Or.inr (Or.inr e)))
                · exact Or.inr (Nat.le_trans hsz e))
            have hd3 := hc3.heap HD2.out (fun e => HP.out.n2 p e rfl)
            have kc3 : w3.cell? ⟨p, 2, none⟩ = some (.slice ga (a.push Tk (l.take k)).F.length gc) := by rw [cell_of_row w3 p 2 _ _ _ hd3]; rfl
            have kf3 : w3.frozen? ⟨p, 2, none⟩ = false := frozen_of_row w3 p 2 _ _ hd3
            have kl3 : w3.cell? ⟨b, off + k, none⟩ = some (.int .i64 xn) := hc3.cell (p := ⟨b, off + k, none⟩) HL1.out (fun e => HNB.out ((HR1.out b).2 (Or.inr (Or.inr e))))
            have HGV := Lib.hid (HP.out.gave HOK.out rfl HTS.out (by rw [HF.out, List.length_append]; rfl) HD2.out HT2A.out HC2A.out (by rw [HF.out, List.map_append]; exact hown) hc3 hor)
            have KLS : Hid ((w3.setCell ⟨p, 2, none⟩ (.slice (some ⟨g, 0, none⟩) ((a.push Tk (l.take k)).F.length + 1) cap)).cell? ⟨b, off + k, none⟩ = some (.int .i64 xn)) := Lib.hid ((World.cell?_setCell_far w3 ⟨p, 2, none⟩ ⟨b, off + k, none⟩ _ (fun e => hbp e.symm)).trans kl3)
            clear hown hc3 hor hlt3 hd3
            refine hK.out _ _ (kl3) (fun hNew => ?_)
            clear hK K hHeld
            have hHeld := hNew
            clear hNew
            try simp only [Act.put, List.setIfInBounds_toArray, List.set_cons_zero, List.set_cons_succ]
            refine rt 11 hHeld ?_
            refine rt 12 hHeld ?_
            refine reg_loud (i := 13) rfl (by kernel_rfl) rfl (fun K hK => ?_)
            go_simp
            refine hK.out _ _ (KLS.out) (fun hNew => ?_)
            clear hK K hHeld
            have hHeld := hNew
            clear hNew
            try simp only [Act.put, List.setIfInBounds_toArray, List.set_cons_zero, List.set_cons_succ]
            refine reg_done (by kernel_rfl) ?_ _
            clear hHeld
            go_wp2_with fail
            go_roundw
            case rel => exact ⟨k + 1, Tk.set xn false, by omega, by go_num, HSU.out, RfStep.next HC1.out HR1'.out ⟨_, ⟨_, _, _, _, HGV.out.1, fun k => Iff.rfl⟩, HGV.out.2.mono (fun k hk => (HR1.out k).2 hk), HNEW.out⟩⟩
            case measure => simp [intOf]; omega
          case bfb9 => 
            go_simp
            refine hK.out _ _ (HL1.out) (fun hNew => ?_)
            clear hK K hHeld
            have hHeld := hNew
            clear hNew
            try simp only [Act.put, List.setIfInBounds_toArray, List.set_cons_zero, List.set_cons_succ]
            refine reg_loud (i := 4) rfl (by kernel_rfl) rfl (fun K hK => ?_)
            go_simp
            refine hK.out _ _ (hHeld) (fun hNew => ?_)
            clear hK K hHeld
            have hHeld := hNew
            clear hNew
            try simp only [Act.put, List.setIfInBounds_toArray, List.set_cons_zero, List.set_cons_succ]
            refine reg_loud (i := 10) rfl (by kernel_rfl) rfl (fun K hK => ?_)
            refine wp_pushGone _ _ rfl rfl HG2.out W1.heap.size 1 (.int .i64 xn) rfl ?hu rfl hFl ?_
            case hu => exact cell_of_row _ W1.heap.size 0 _ _ _ (heap_alloc_new W1 (.cells #[.int .i64 xn] 3))
            intro g cap w3 hown hc3 hor hlt3
            replace hc3 : Chg (fun k => ga = some ⟨k, 0, none⟩) (W1.alloc (.cells #[.int .i64 xn] 3)) w3 := (Chg.refl.drew.drew).trans hc3 (fun b hb => Or.inl hb)
            have HNEW : Hid (∀ j, (j = p ∨ (some ⟨tb, 0, none⟩ : Option Addr) = some ⟨j, 0, none⟩ ∨ (some ⟨g, 0, none⟩ : Option Addr) = some ⟨j, 0, none⟩) → R1 j ∨ wr.heap.size ≤ j) := Lib.hid (fun j hj => by
              have hsz := HC2A.out.size
              rcases hj with rfl | hj | hj
              · exact Or.inl ((HR1.out _).2 (Or.inl rfl))
              · exact Or.inl ((HR1.out _).2 (Or.inr (Or.inl hj)))
              · cases hj
                rcases hor with e | e
                · exact Or.inl ((HR1.out _).2 (Or.inr (Or.inr e)))
                · exact Or.inr (Nat.le_trans hsz e))
            have hd3 := hc3.heap HD2.out (fun e => HP.out.n2 p e rfl)
            have kc3 : w3.cell? ⟨p, 2, none⟩ = some (.slice ga (a.push Tk (l.take k)).F.length gc) := by rw [cell_of_row w3 p 2 _ _ _ hd3]; rfl
            have kf3 : w3.frozen? ⟨p, 2, none⟩ = false := frozen_of_row w3 p 2 _ _ hd3
            have kl3 : w3.cell? ⟨b, off + k, none⟩ = some (.int .i64 xn) := hc3.cell (p := ⟨b, off + k, none⟩) HL1.out (fun e => HNB.out ((HR1.out b).2 (Or.inr (Or.inr e))))
            have HGV := Lib.hid (HP.out.gave HOK.out rfl HTS.out (by rw [HF.out, List.length_append]; rfl) HD2.out HT2A.out HC2A.out (by rw [HF.out, List.map_append]; exact hown) hc3 hor)
            have KLS : Hid ((w3.setCell ⟨p, 2, none⟩ (.slice (some ⟨g, 0, none⟩) ((a.push Tk (l.take k)).F.length + 1) cap)).cell? ⟨b, off + k, none⟩ = some (.int .i64 xn)) := Lib.hid ((World.cell?_setCell_far w3 ⟨p, 2, none⟩ ⟨b, off + k, none⟩ _ (fun e => hbp e.symm)).trans kl3)
            clear hown hc3 hor hlt3 hd3
            refine hK.out _ _ (kl3) (fun hNew => ?_)
            clear hK K hHeld
            have hHeld := hNew
            clear hNew
            try simp only [Act.put, List.setIfInBounds_toArray, List.set_cons_zero, List.set_cons_succ]
            refine rt 11 hHeld ?_
            refine rt 12 hHeld ?_
            refine reg_loud (i := 13) rfl (by kernel_rfl) rfl (fun K hK => ?_)
            go_simp
            refine hK.out _ _ (KLS.out) (fun hNew => ?_)
            clear hK K hHeld
            have hHeld := hNew
            clear hNew
            try simp only [Act.put, List.setIfInBounds_toArray, List.set_cons_zero, List.set_cons_succ]
            refine reg_done (by kernel_rfl) ?_ _
            clear hHeld
            go_wp2_with fail
            go_roundw
            case rel => exact ⟨k + 1, Tk.set xn false, by omega, by go_num, HSU.out, RfStep.next HC1.out HR1'.out ⟨_, ⟨_, _, _, _, HGV.out.1, fun k => Iff.rfl⟩, HGV.out.2.mono (fun k hk => (HR1.out k).2 hk), HNEW.out⟩⟩
            case measure => simp [intOf]; omega
          -- END OF REGION fb
        · obtain rfl : k = l.length := by omega
          have HEQ : Hid (Tk = Ti ∧ l.take l.length = l) := Lib.hid (by
            have h1 := HALL.out
            rw [List.take_length] at hcl ⊢
            rw [hcl] at h1
            injection h1 with h1
            exact ⟨h1, rfl⟩)
          have HST := Lib.hid hst
          clear hst hcl
          go_wp2_with fail
          go_ret
          rw [HFREE.out]
          have := HST.out
          rw [HEQ.out.1, HEQ.out.2] at this
          exact ⟨rfl, this⟩

end Go.Proofs.Ytilofffnolnokaa
