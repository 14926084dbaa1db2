/- Contracts of arena.Take. -/
import Derived.Test.YtilofffnolnokaaArena
namespace Go.Proofs.Ytilofffnolnokaa
set_option linter.unusedVariables false
set_option linter.unusedSimpArgs false
open Go.RowKit

theorem Try.infoBool : (Try.prog.info? 4).map (fun i => (i.zero, i.size, i.bytes)) = some (some (.bool false), 1, 1) := by kernel_rfl
theorem Try.infoInt' : (Try.prog.info? 3).map (fun i => (i.zero, i.size, i.bytes)) = some (some (.int .i64 0), 1, 8) := by kernel_rfl

/-- What a step on an arena leaves: the arena, and all blocks outside its own (or new) as they were. -/
def ArStep (w w' : World) (p : Nat) (S : Nat → Prop) (a' : Ar) : Prop := ∃ S', IsArena w' p S' a' ∧ Chg S w w' ∧ ∀ k, S' k → S k ∨ w.heap.size ≤ k

theorem arTake_full {w : World} {p : Nat} {S : Nat → Prop} {a : Ar} (h : IsArena w p S a) (hl : a.live = a.M) :
    Calls Try.prog 7 #[.pointer (some ⟨p, 0, none⟩)] w fun e w' => e = .returned (.tuple #[.int .i64 (-1), .int .i64 3]) ∧ ∃ n, w' = w.drewN n := by
  obtain ⟨ta, tc, fa, fc, h0, h1, h2, hfz, hp, ht, hf, n1, n2, n3, n4, hS, hpl⟩ := h.see
  clear hp ht hf n1 n2 n3 n4 hS hfz
  have hlb : ((a.live : Int) == (a.M : Int)) = true := by simp [hl]
  clear hl
  have hlive := fun (wx : World) (hx : IsArena wx p S a) => arLive_any hx
  have HL := Lib.hid hlive; clear hlive
  have hq : ∀ n, IsArena (w.drewN n) p S a := fun n => h.chg (Chg.refl.drewN n) (S' := fun _ => False) (fun k hk hf => hf)
  have HQ := Lib.hid hq; clear hq
  go_enter Try.func7, Try.ntmps7
  go_wp2_with fail
  go_quiet ((go_at_call 11; exact Calls.quiet_of (HL.out _ (HQ.out _))))
  go_wp2
  go_ret2
  exact ⟨rfl, _, rfl⟩

theorem heap_set_cells {w : World} {p : Nat} {cs : Array Value} {t : TypeId} (h : w.heap[p]? = some (.cells cs t (0, 0))) (j : Nat) (v : Value) : (w.setCell ⟨p, j, none⟩ v).heap[p]? = some (.cells (cs.setIfInBounds j v) t (0, 0)) :=
  heap_setCell_same w p j cs t v h
theorem heap_set_other {w : World} {b p j : Nat} {v : Value} {o : Obj} (h : w.heap[b]? = some o) (hne : b ≠ p) : (w.setCell ⟨p, j, none⟩ v).heap[b]? = some o := by
  rw [heap_setCell_other w ⟨p, j, none⟩ b v hne]; exact h
theorem own_set_other {w : World} {base : Nat} {e : TypeId} {sz n : Nat} {a : Option Addr} {c : Nat} {xs : List Value} (h : w.ownsRow base e sz (.slice a n c) n xs) {p j : Nat} (v : Value) (hne : ∀ g, a = some ⟨g, 0, none⟩ → g ≠ p) (ha : ∀ ad, a = some ad → ∃ g, ad = ⟨g, 0, none⟩) :
    (w.setCell ⟨p, j, none⟩ v).ownsRow base e sz (.slice a n c) n xs := ownsRow_setCell_other h (by
  cases a with
  | none => simp [Value.ownBlock]
  | some ad =>
    obtain ⟨g, rfl⟩ := ha ad rfl
    simpa [Value.ownBlock] using hne g rfl) v

/-- An arena out of its parts. -/
theorem IsArena.of {w : World} {p : Nat} {a : Ar} {ta fa : Option Addr} {tc fc : Nat} (ok : a.Ok) (hp : w.heap[p]? = some (.cells #[.slice ta a.T.length tc, .slice fa a.F.length fc, .int .i64 a.M] 42 (0, 0)))
    (ht : w.ownsRow 0 4 1 (.slice ta a.T.length tc) a.T.length (a.T.map Value.bool)) (hf : w.ownsRow 0 3 1 (.slice fa a.F.length fc) a.F.length (a.F.map natA))
    (n1 : ∀ g, ta = some ⟨g, 0, none⟩ → g ≠ p ∧ fa ≠ some ⟨g, 0, none⟩) (n2 : ∀ g, fa = some ⟨g, 0, none⟩ → g ≠ p) :
    IsArena w p (fun k => k = p ∨ ta = some ⟨k, 0, none⟩ ∨ fa = some ⟨k, 0, none⟩) a := by
  have ob : ∀ (x : Option Addr) (n c : Nat) (k : Nat), (∀ ad, x = some ad → ∃ g, ad = (⟨g, 0, none⟩ : Addr)) → ((Value.slice x n c).ownBlock = some k ↔ x = some ⟨k, 0, none⟩) := by
    intro x n c k h
    cases x with
    | none => simp [Value.ownBlock]
    | some ad =>
      obtain ⟨g, rfl⟩ := h ad rfl
      simp [Value.ownBlock]
  have ha : ∀ ad, ta = some ad → ∃ g, ad = (⟨g, 0, none⟩ : Addr) := by
    obtain ⟨x, c, hv, _, hb⟩ := own_slice ht
    injection hv with e1 e2 e3
    intro ad h; obtain ⟨g, e, _⟩ := hb ad (e1 ▸ h); exact ⟨g, e⟩
  have hb : ∀ ad, fa = some ad → ∃ g, ad = (⟨g, 0, none⟩ : Addr) := by
    obtain ⟨x, c, hv, _, hb⟩ := own_slice hf
    injection hv with e1 e2 e3
    intro ad h; obtain ⟨g, e, _⟩ := hb ad (e1 ▸ h); exact ⟨g, e⟩
  refine ⟨ok, _, _, hp, ht, hf, fun e => (n1 p ((ob ta _ tc p ha).1 e)).1 rfl, fun e => (n2 p ((ob fa _ fc p hb).1 e)) rfl, fun g hg e => (n1 g ((ob ta _ tc g ha).1 hg)).2 ((ob fa _ fc g hb).1 e), fun k => ?_⟩
  rw [ob ta _ tc k ha, ob fa _ fc k hb]

theorem arTake_pop {w : World} {p : Nat} {S : Nat → Prop} {a : Ar} (h : IsArena w p S a) (hl : a.live ≠ a.M) {k : Nat} (hk : a.F.getLast? = some k) :
    Calls Try.prog 7 #[.pointer (some ⟨p, 0, none⟩)] w fun e w' => e = .returned (.tuple #[.int .i64 k, .int .i64 0]) ∧ ArStep w w' p S (a.pop k) := by
  obtain ⟨ta, tc, fa, fc, h0, h1, h2, hfz, hp, ht, hf, n1, n2, n3, n4, hS, hpl⟩ := h.see
  have hkl := h.ok.last_lt hk
  have hmx := h.ok.max
  have hm2 := h.ok.le
  have hfl := h.ok.fle
  have hne : a.F ≠ [] := by intro e; rw [e] at hk; cases hk
  have hFn : 0 < a.F.length := List.length_pos_iff.2 hne
  obtain ⟨fb, fcap, hv, _, hfb, hfcap, _, hfcell, _⟩ := own_some hf hFn
  injection hv with e1 _ e3
  subst e1; subst e3
  obtain ⟨tb, tcap, hv, _, htb, htcap, _, htcell, htfz⟩ := own_some ht (by omega)
  injection hv with e1 _ e3
  subst e1; subst e3
  obtain ⟨ntp, _, ntf⟩ := n1 tb rfl
  obtain ⟨nfp, _⟩ := n2 fb rfl
  have hcF := hfcell (a.F.length - 1) (by omega)
  rw [List.getElem?_map, ← List.getLast?_eq_getElem?, hk] at hcF
  have hcT := htcell k hkl
  rw [List.getElem?_map, List.getElem?_eq_getElem hkl] at hcT
  simp only [Option.map_some, natA] at hcT hcF
  have hz0 := htfz k
  have hlb : ((a.live : Int) == (a.M : Int)) = false := by simp; omega
  have hq : ∀ n, IsArena (w.drewN n) p S a := fun n => h.chg (Chg.refl.drewN n) (S' := fun _ => False) (fun k hk hf => hf)
  have HQ := Lib.hid hq; clear hq
  have hpop := Ar.pop_ok h.ok hk
  generalize hb0 : a.T[k] = b0 at *
  have hd0 : decide ((0 : Int) < (a.F.length : Int)) = true := by simp; omega
  have hz1 := hfz 1
  have HF := Lib.hid hfz
  have HP := Lib.hid hp
  have HT := Lib.hid ht
  have HFr := Lib.hid hf
  have HS := Lib.hid hS
  clear hfz hp ht hf hS htcell hfcell htfz n1 n2 n3 n4 hl hb0
  obtain ⟨n, hn⟩ : ∃ n, a.F.length = n + 1 := ⟨a.F.length - 1, by omega⟩
  have HN := Lib.hid hn
  rw [hn] at h1 hfcap hd0 hcF hFn hfl
  rw [show n + 1 - 1 = n from by omega] at hcF
  clear hn
  go_enter Try.func7, Try.ntmps7
  go_wp2_with fail
  go_quiet ((go_at_call 11; exact Calls.quiet_of (arLive_any (HQ.out _))))
  go_wp2
  go_ret2
  have e1 : (a.pop k).T.length = a.T.length := by simp [Ar.pop]
  have e2 : (a.pop k).F.length = n := by have := HN.out; simp [Ar.pop]; omega
  have hne2 : fb ≠ tb := fun e => ntf (by rw [e])
  refine ⟨rfl, _, IsArena.of (ta := some ⟨tb, 0, none⟩) (tc := tc) (fa := some ⟨fb, 0, none⟩) (fc := fc) hpop ?_ ?_ ?_ ?_ ?_, ?_, ?_⟩
  · rw [e1, e2]
    have := heap_set_other (heap_set_cells (w := w.drewN nq) HP.out 1 (.slice (some ⟨fb, 0, none⟩) n fc)) (p := tb) (j := k) (v := .bool true) (fun e => ntp e.symm)
    exact this
  · rw [e1]
    have := own_set (own_set_other (w := w.drewN nq) HT.out (p := p) (j := 1) (.slice (some ⟨fb, 0, none⟩) n fc) (fun g hg => by cases hg; exact ntp) (fun ad hg => by cases hg; exact ⟨_, rfl⟩)) k (.bool true)
    rw [← List.map_set] at this
    exact this
  · rw [e2]
    have h3 := HFr.out
    rw [HN.out] at h3
    have h4 := own_take h3 (m := n) (by omega)
    have e3 : (a.F.map natA).take n = (a.pop k).F.map natA := by
      rw [← List.map_take]; congr 1; show _ = a.F.dropLast; rw [List.dropLast_eq_take, HN.out]; rfl
    rw [e3] at h4
    exact own_set_other (own_set_other (w := w.drewN nq) h4 _ (fun g hg => by cases hg; exact nfp) (fun ad hg => by cases hg; exact ⟨_, rfl⟩)) _ (fun g hg => by cases hg; exact hne2) (fun ad hg => by cases hg; exact ⟨_, rfl⟩)
  · intro g hg; cases hg; exact ⟨ntp, ntf⟩
  · intro g hg; cases hg; exact nfp
  · exact ((Chg.refl.drewN nq).setCell _ (Or.inl ((HS.out p).2 (Or.inl rfl))) _).setCell _ (Or.inl ((HS.out tb).2 (Or.inr (Or.inl rfl)))) _
  · exact fun x hx => Or.inl ((HS.out x).2 hx)

theorem arTake_more {w : World} {p : Nat} {S : Nat → Prop} {a : Ar} (h : IsArena w p S a) (hl : a.live ≠ a.M) (hk : a.F = []) :
    Calls Try.prog 7 #[.pointer (some ⟨p, 0, none⟩)] w fun e w' => e = .returned (.tuple #[.int .i64 a.T.length, .int .i64 0]) ∧ ArStep w w' p S a.more := by
  obtain ⟨ta, tc, fa, fc, h0, h1, h2, hfz, hp, ht, hf, n1, n2, n3, n4, hS, hpl⟩ := h.see
  have hmx := h.ok.max
  have hm2 := h.ok.le
  have hlt : a.T.length < a.M := by
    simp only [Ar.live, hk, List.length_nil] at hl; omega
  have hlb : ((a.live : Int) == (a.M : Int)) = false := by simp; omega
  have hq : ∀ n, IsArena (w.drewN n) p S a := fun n => h.chg (Chg.refl.drewN n) (S' := fun _ => False) (fun k hk hf => hf)
  have HQ := Lib.hid hq; clear hq
  have hmore := Ar.more_ok h.ok hlt
  have hz0 := hfz 0
  have hF0 : a.F.length = 0 := by rw [hk]; rfl
  have HP := Lib.hid hp
  have HFr := Lib.hid hf
  have HS := Lib.hid hS
  have HF0 := Lib.hid hF0
  have HK := Lib.hid hk
  have ob : ∀ x n c, (Value.slice ta n c).ownBlock = some x → ta = some ⟨x, 0, none⟩ := by
    intro x n c hx
    cases ta with
    | none => simp [Value.ownBlock] at hx
    | some ad => obtain ⟨g, rfl⟩ := n3 ad rfl; simp [Value.ownBlock] at hx; rw [hx]
  rw [hF0] at h1
  have HN1 := Lib.hid n1
  have HN2 := Lib.hid n2
  have HN3 := Lib.hid n3
  have HN4 := Lib.hid n4
  have HOB := Lib.hid ob
  clear hfz hp hf hS n1 n2 n3 n4 hl hF0 hk ob
  go_enter Try.func7, Try.ntmps7
  go_wp2_with fail
  go_quiet ((go_at_call 11; exact Calls.quiet_of (arLive_any (HQ.out _))))
  go_wp2_with (at_builtin; refine wpList_pushL rfl _ _ 36 rfl 0 4 Try.infoBool Try.underlying36 rfl _ _ _ rfl ht rfl rfl ?c1 ?c2 ?c3 ?_)
  case c1 => unfold maxLen; omega
  case c2 => omega
  case c3 => omega
  intro g cap w1 hown hgrow hor hgl
  have hpn : some p ≠ (Value.slice ta a.T.length tc).ownBlock := fun e => ((HN1.out p (HOB.out p _ _ e.symm)).1 rfl)
  have hp1 : w1.heap[p]? = some (.cells #[.slice ta a.T.length tc, .slice fa a.F.length fc, .int .i64 a.M] 42 (0, 0)) := (hgrow.block p hpl hpn).trans HP.out
  have hc1 : w1.cell? ⟨p, 0, none⟩ = some (.slice ta a.T.length tc) := by rw [cell_of_row w1 p 0 _ _ _ hp1]; rfl
  have hf1 : w1.frozen? ⟨p, 0, none⟩ = false := frozen_of_row w1 p 0 _ _ hp1
  have HP1 := Lib.hid hp1
  have HO := Lib.hid hown
  have HG := Lib.hid hgrow
  have HOR := Lib.hid hor
  clear hp1 hown hgrow hor hpn ht h0 h1
  go_wp2
  go_ret2
  have hgp : g ≠ p := by
    rcases HOR.out with e | e
    · exact fun e2 => (HN1.out g (HOB.out g _ _ e)).1 e2
    · intro e2; subst e2; exact absurd hpl (by have : (w.drewN nq).heap.size = w.heap.size := rfl; omega)
  have hgf : fa ≠ some ⟨g, 0, none⟩ := by
    rcases HOR.out with e | e
    · exact (HN1.out g (HOB.out g _ _ e)).2.2
    · intro e2; have := (HN2.out g e2).2; have h3 : (w.drewN nq).heap.size = w.heap.size := rfl; omega
  have e1 : a.more.T.length = a.T.length + 1 := by simp [Ar.more]
  have hfo : w1.ownsRow 0 3 1 (.slice fa a.F.length fc) a.F.length (a.F.map natA) := by
    refine HFr.out.kept (w := w.drewN nq) HG.out ?_
    cases fa with
    | none => left; rfl
    | some ad =>
      obtain ⟨g2, rfl⟩ := HN4.out ad rfl
      right
      intro e
      have e3 : ta = some ⟨g2, 0, none⟩ := HOB.out g2 _ _ (by rw [← e]; rfl)
      exact (HN1.out g2 e3).2.2 rfl
  refine ⟨by simp, _, IsArena.of (ta := some ⟨g, 0, none⟩) (tc := cap) (fa := fa) (fc := fc) hmore ?_ ?_ ?_ ?_ ?_, ?_, ?_⟩
  · rw [e1]
    exact heap_set_cells HP1.out 0 (.slice (some ⟨g, 0, none⟩) (a.T.length + 1) cap)
  · rw [e1]
    have h3 : a.more.T.map Value.bool = a.T.map Value.bool ++ [.bool true] := by simp [Ar.more]
    rw [h3]
    exact own_set_other HO.out _ (fun g' hg' => by cases hg'; exact hgp) (fun ad hg' => by cases hg'; exact ⟨_, rfl⟩)
  · exact own_set_other hfo _ (fun g' hg' => (HN2.out g' hg').1) (fun ad hg' => HN4.out ad hg')
  · intro g' hg'; cases hg'; exact ⟨hgp, hgf⟩
  · intro g' hg'; exact (HN2.out g' hg').1
  · exact ((Chg.refl.drewN nq).grown HG.out (fun x hx => Or.inl ((HS.out x).2 (Or.inr (Or.inl (HOB.out x _ _ hx)))))).setCell _ (Or.inl ((HS.out p).2 (Or.inl rfl))) _
  · intro x hx
    rcases hx with rfl | hx | hx
    · exact Or.inl ((HS.out _).2 (Or.inl rfl))
    · cases hx
      rcases HOR.out with e | e
      · exact Or.inl ((HS.out _).2 (Or.inr (Or.inl (HOB.out _ _ _ e))))
      · exact Or.inr e
    · exact Or.inl ((HS.out _).2 (Or.inr (Or.inr hx)))

end Go.Proofs.Ytilofffnolnokaa
