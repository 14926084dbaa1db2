/- The document's arena: Take. -/
import Derived.Test.YtilofffnolnokaaArenaQ
namespace Go.Proofs.Ytilofffnolnokaa
set_option linter.unusedVariables false
set_option linter.unusedSimpArgs false
open Go.RowKit

theorem rfTake_full {w : World} {p : Nat} {R : Nat → Prop} {a : Ar} (h : RfS w p R a) (hk : a.F = []) (hl : a.M ≤ a.T.length) :
    Calls Try.prog 8 #[.pointer (some ⟨p, 0, none⟩)] w fun e w' => e = .returned (.tuple #[.int .i64 (-1), .int .i64 3]) ∧ ∃ n, w' = w.drewN n := by
  obtain ⟨ta, tc, ga, gc, h, hR⟩ := h
  have h0 := h.c0
  have h1 := h.c1
  have h2 := h.c2
  have hmx := h.ok.max
  have hm2 := h.ok.le
  rw [hk] at h2
  have hd : decide ((a.M : Int) ≤ (a.T.length : Int)) = true := decide_eq_true (by omega)
  clear h hR hk
  go_enter Try.func8, Try.ntmps8
  go_wp2_with fail
  go_quiet (fail)
  go_wp2
  go_ret2
  exact ⟨rfl, _, rfl⟩

theorem rfTake_pop {w : World} {p : Nat} {R : Nat → Prop} {a : Ar} (h : RfS w p R a) {k : Nat} (hk : a.F.getLast? = some k) :
    Calls Try.prog 8 #[.pointer (some ⟨p, 0, none⟩)] w fun e w' => e = .returned (.tuple #[.int .i64 k, .int .i64 0]) ∧ RfStep w w' p R (a.pop k) := by
  obtain ⟨ta, tc, ga, gc, h, hR⟩ := h
  have hkl := h.ok.last_lt hk
  have hmx := h.ok.max
  have hm2 := h.ok.le
  have hfl := h.ok.fle
  have hne : a.F ≠ [] := by intro e; rw [e] at hk; cases hk
  have hFn : 0 < a.F.length := List.length_pos_iff.2 hne
  have h1 := h.c1
  have h2 := h.c2
  obtain ⟨gb, rfl, hgl, hgc, hgm, hgcell⟩ := h.g.cells hFn
  obtain ⟨tb, tcap, hv, _, htb, htcap, _, htcell, htfz⟩ := own_some h.t (by omega)
  injection hv with e1 _ e3
  subst e1; subst e3
  obtain ⟨ntp, ntf⟩ := h.n1 tb rfl
  have nfp := h.n2 gb rfl
  have hcF := hgcell (a.F.length - 1) (natA k) (by rw [List.getElem?_map, ← List.getLast?_eq_getElem?, hk]; rfl)
  have hcT := htcell k hkl
  rw [List.getElem?_map, List.getElem?_eq_getElem hkl] at hcT
  simp only [Option.map_some, natA] at hcT hcF
  have hz0 := htfz k
  have hpop := Ar.pop_ok h.ok hk
  generalize hb0 : a.T[k] = b0 at *
  have hd0 : decide ((0 : Int) < (a.F.length : Int)) = true := by simp; omega
  have hz2 : w.frozen? ⟨p, 2, none⟩ = false := frozen_of_row w p 2 _ _ h.hd
  have HH := Lib.hid h
  have HS := Lib.hid hR
  clear h hR htcell hgcell htfz hb0
  obtain ⟨n, hn⟩ : ∃ n, a.F.length = n + 1 := ⟨a.F.length - 1, by omega⟩
  have HN := Lib.hid hn
  rw [hn] at h2 hgc hgm hd0 hcF hFn hfl
  rw [show n + 1 - 1 = n from by omega] at hcF
  clear hn
  go_enter Try.func8, Try.ntmps8
  go_wp2_with fail
  go_ret2
  have e1 : (a.pop k).T.length = a.T.length := by simp [Ar.pop]
  have e2 : (a.pop k).F.length = n := by have := HN.out; simp [Ar.pop]; omega
  have hne2 : gb ≠ tb := fun e => ntf (by rw [e])
  have hc := (Chg.refl (S := fun k => k = p ∨ k = tb) (w := w)).setCell ⟨p, 2, none⟩ (Or.inl (Or.inl rfl)) (.slice (some ⟨gb, 0, none⟩) n n)
  have hc2 := hc.setCell ⟨tb, k, none⟩ (Or.inl (Or.inr rfl)) (.bool true)
  refine ⟨rfl, R, ⟨some ⟨tb, 0, none⟩, tc, some ⟨gb, 0, none⟩, n, ⟨hpop, ?_, ?_, ?_, ?_, ?_⟩, HS.out⟩, ?_, fun k hk => Or.inl hk⟩
  · rw [e1, e2]
    exact heap_set_other (heap_set_cells HH.out.hd 2 (.slice (some ⟨gb, 0, none⟩) n n)) (p := tb) (j := k) (v := .bool true) (fun e => ntp e.symm)
  · rw [e1]
    have := own_set (own_set_other HH.out.t (p := p) (j := 2) (.slice (some ⟨gb, 0, none⟩) n n) (fun g hg => by cases hg; exact ntp) (fun ad hg => by cases hg; exact ⟨_, rfl⟩)) k (.bool true)
    rw [← List.map_set] at this
    exact this
  · rw [e2]
    have h3 := HH.out.g
    rw [HN.out] at h3
    have h4 := h3.pop.chg hc2 (fun g hg hs => by cases hg; rcases hs with hs | hs; exact nfp hs; exact hne2 hs)
    have e3 : (a.F.map natA).take n = (a.pop k).F.map natA := by
      rw [← List.map_take]; congr 1; show _ = a.F.dropLast; rw [List.dropLast_eq_take, HN.out]; rfl
    rw [e3] at h4
    exact h4
  · intro g hg; cases hg; exact ⟨ntp, ntf⟩
  · intro g hg; cases hg; exact nfp
  · exact hc2.mono (fun k hk => by rcases hk with rfl | rfl; exact (HS.out _).2 (Or.inl rfl); exact (HS.out _).2 (Or.inr (Or.inl rfl)))

theorem rfTake_more {w : World} {p : Nat} {R : Nat → Prop} {a : Ar} (h : RfS w p R a) (hk : a.F = []) (hlt : a.T.length < a.M) :
    Calls Try.prog 8 #[.pointer (some ⟨p, 0, none⟩)] w fun e w' => e = .returned (.tuple #[.int .i64 a.T.length, .int .i64 0]) ∧ RfStep w w' p R a.more := by
  obtain ⟨ta, tc, ga, gc, h, hR⟩ := h
  have h0 := h.c0
  have h1 := h.c1
  have h2 := h.c2
  have hmx := h.ok.max
  have hm2 := h.ok.le
  have hmore := Ar.more_ok h.ok hlt
  have hF0 : a.F.length = 0 := by rw [hk]; rfl
  have hd : decide ((a.M : Int) ≤ (a.T.length : Int)) = false := decide_eq_false (by omega)
  rw [hF0] at h2
  have ht := h.t
  have HH := Lib.hid h
  have HS := Lib.hid hR
  have ob : ∀ x n c, (Value.slice ta n c).ownBlock = some x → ta = some ⟨x, 0, none⟩ := by
    intro x n c hx
    cases hta : ta with
    | none => rw [hta] at hx; simp [Value.ownBlock] at hx
    | some ad => obtain ⟨g, rfl, _⟩ := h.tad hta; rw [hta] at hx; simp [Value.ownBlock] at hx; rw [hx]
  have HOB := Lib.hid ob
  have hpl := h.plt
  clear h hR hF0 hk ob
  go_enter Try.func8, Try.ntmps8
  go_wp2_with fail
  go_quiet (fail)
  go_wp2_with (at_builtin; refine wpList_pushL rfl _ _ 36 rfl 0 4 Try.infoBool Try.underlying36 rfl _ _ _ rfl ht rfl rfl ?c1 ?c2 ?c3 ?_)
  case c1 => unfold maxLen; omega
  case c2 => omega
  case c3 => omega
  intro g cap w1 hown hgrow hor hgl
  have hpn : some p ≠ (Value.slice ta a.T.length tc).ownBlock := fun e => ((HH.out.n1 p (HOB.out p _ _ e.symm)).1 rfl)
  have hp1 := (hgrow.block p hpl hpn).trans HH.out.hd
  have hc1 : w1.cell? ⟨p, 1, none⟩ = some (.slice ta a.T.length tc) := by rw [cell_of_row w1 p 1 _ _ _ hp1]; rfl
  have hf1 : w1.frozen? ⟨p, 1, none⟩ = false := frozen_of_row w1 p 1 _ _ hp1
  have HP1 := Lib.hid hp1
  have HO := Lib.hid hown
  have HG := Lib.hid hgrow
  have HOR := Lib.hid hor
  clear hp1 hown hgrow hor hpn ht h0 h1
  go_wp2
  go_ret2
  have hgp : g ≠ p := by
    rcases HOR.out with e | e
    · exact fun e2 => (HH.out.n1 g (HOB.out g _ _ e)).1 e2
    · intro e2; subst e2; exact absurd hpl (by have : (w.drewN nq).heap.size = w.heap.size := rfl; omega)
  have hgf : ga ≠ some ⟨g, 0, none⟩ := by
    rcases HOR.out with e | e
    · exact (HH.out.n1 g (HOB.out g _ _ e)).2
    · intro e2; obtain ⟨g', e3, hl⟩ := HH.out.g.ad e2; cases e3; have h3 : (w.drewN nq).heap.size = w.heap.size := rfl; omega
  have e1 : a.more.T.length = a.T.length + 1 := by simp [Ar.more]
  have hc := ((Chg.refl.drewN nq).grown HG.out (S := fun k => k = p ∨ ta = some ⟨k, 0, none⟩) (fun x hx => Or.inl (Or.inr (HOB.out x _ _ hx)))).setCell ⟨p, 1, none⟩ (Or.inl (Or.inl rfl)) (.slice (some ⟨g, 0, none⟩) (a.T.length + 1) cap)
  refine ⟨by simp, fun k => k = p ∨ (some ⟨g, 0, none⟩ : Option Addr) = some ⟨k, 0, none⟩ ∨ ga = some ⟨k, 0, none⟩, ⟨some ⟨g, 0, none⟩, cap, ga, gc, ⟨hmore, ?_, ?_, ?_, ?_, ?_⟩, fun k => Iff.rfl⟩, ?_, ?_⟩
  · rw [e1]
    exact heap_set_cells HP1.out 1 (.slice (some ⟨g, 0, none⟩) (a.T.length + 1) cap)
  · rw [e1]
    have h3 : a.more.T.map Value.bool = a.T.map Value.bool ++ [.bool true] := by simp [Ar.more]
    rw [h3]
    exact own_set_other HO.out _ (fun g' hg' => by cases hg'; exact hgp) (fun ad hg' => by cases hg'; exact ⟨_, rfl⟩)
  · exact HH.out.g.chg hc (fun g' hg' hs => by
      rcases hs with hs | hs
      · exact HH.out.n2 g' hg' hs
      · exact (HH.out.n1 g' hs).2 hg')
  · intro g' hg'; cases hg'; exact ⟨hgp, hgf⟩
  · intro g' hg'; exact HH.out.n2 g' hg'
  · exact hc.mono (fun k hk => (HS.out k).2 (by rcases hk with h | h; exact Or.inl h; exact Or.inr (Or.inl h)))
  · intro x hx
    rcases hx with rfl | hx | hx
    · exact Or.inl ((HS.out _).2 (Or.inl rfl))
    · cases hx
      rcases HOR.out with e | e
      · exact Or.inl ((HS.out _).2 (Or.inr (Or.inl (HOB.out _ _ _ e))))
      · exact Or.inr e
    · exact Or.inl ((HS.out _).2 (Or.inr (Or.inr hx)))

theorem rfTake_any {w : World} {p : Nat} {R : Nat → Prop} {a : Ar} (h : RfS w p R a) :
    Calls Try.prog 8 #[.pointer (some ⟨p, 0, none⟩)] w fun e w' => e = .returned (.tuple #[.int .i64 a.take.1, .int .i64 a.take.2.1]) ∧ RfStep w w' p R a.take.2.2 := by
  have hle := h.ok.le
  have hfl := h.ok.fle
  cases hk : a.F.getLast? with
  | some k =>
    have hne : a.F ≠ [] := by intro e; rw [e] at hk; cases hk
    have hFn : 0 < a.F.length := List.length_pos_iff.2 hne
    have e1 : a.take = ((k : Int), 0, a.pop k) := by unfold Ar.take; rw [if_neg (by unfold Ar.live; omega), hk]
    rw [e1]
    exact rfTake_pop h hk
  | none =>
    have hF := List.getLast?_eq_none_iff.1 hk
    have hlive : a.live = a.T.length := by unfold Ar.live; rw [hF]; simp
    by_cases hl : a.live = a.M
    · have e1 : a.take = (-1, 3, a) := if_pos hl
      rw [e1]
      refine (rfTake_full h hF (by omega)).mono ?_
      rintro e w' ⟨rfl, n, rfl⟩
      exact ⟨rfl, R, h.drewN n, Chg.refl.drewN n, fun k hk => Or.inl hk⟩
    · have e1 : a.take = ((a.T.length : Int), 0, a.more) := by unfold Ar.take; rw [if_neg hl, hk]
      rw [e1]
      exact rfTake_more h hF (by omega)

end Go.Proofs.Ytilofffnolnokaa
