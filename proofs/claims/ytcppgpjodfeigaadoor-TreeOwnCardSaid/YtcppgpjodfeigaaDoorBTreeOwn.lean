/- The walk of TreeOwn. -/
import Derived.Test.YtcppgpjodfeigaaDoorZt6
namespace Go.Proofs.YtcppgpjodfeigaaDoor
set_option linter.unusedVariables false
set_option linter.unusedSimpArgs false
open Go.RowKit

theorem setQ {B : Nat} {w w' : World} (h : Below B w w') (hB : B ≤ w'.heap.size) {Q s : Nat} (hQ : B ≤ Q) (u : Value) : Below B w (w'.setCell ⟨Q, s, none⟩ u) :=
  h.trans (((Chg.refl (S := fun k => k = Q)).setCell ⟨Q, s, none⟩ (Or.inl rfl) u).below (fun b hb => by rw [hb]; exact hQ) hB)

set_option maxHeartbeats 3200000 in
set_option maxRecDepth 100000 in
theorem walk_TreeOwn (w : World) (hT : BitTab w) (a0 : Option Addr) (c0 : Nat) (z0 : List Int) (w0 : ArgI .i64 w a0 c0 z0) :
    Calls Tryd.prog 8 #[.slice a0 z0.length c0] w fun e w' => e = .returned (.bool true) ∧ Below w.heap.size w w' := by
  have hrd := w0.reads
  have hzm := Nat.le_trans w0.le w0.max
  have HT := Lib.hid hT
  have HTL := Lib.hid hT.lt
  clear hT w0
  go_enter Tryd.func8, Tryd.ntmps8
  go_wp2_with fail
  refine (lawBits_any a0 c0 z0 300 w hrd (by omega) hzm).mono ?_
  rintro e w1 ⟨l, hl, v, rfl, hown, hb1⟩
  have hs1 := hb1.size
  by_cases hl1 : l.length < 1
  · obtain ⟨a, c, rfl, _, _⟩ := own_slice hown
    clear hown
    go_wp2_with fail
    refine (told5_any _ (HT.out.below' hb1)).mono ?_
    rintro e w2 ⟨rfl, hb2⟩
    go_wp2_with fail
    go_ret
    exact ⟨rfl, hb1.trans (hb2.mono hs1)⟩
  · have hlen : 0 < l.length := by omega
    obtain ⟨g, cap, rfl, hg0, hg1, hgc, hgm, hcells, hfz⟩ := own_some hown hlen
    have hrm := readsV_own hown
    have hx := hcells 0 hlen
    rw [List.getElem?_map, List.getElem?_eq_getElem hlen] at hx
    simp only [Option.map_some] at hx
    have E0 : Hid (bitAt l 0 = l[0]) := by show _ = _; simp [bitAt, hlen]
    generalize l[0] = x at *
    have hz := hfz 0
    have HN := Lib.hid (new_t (B := w.heap.size) (X := fun k => k = g) l rfl hrm hgc (by omega) hs1 (fun k hk => by subst hk; exact hg1))
    have hd : decide ((l.length : Int) < 1) = false := by simp; omega
    clear hown hrm hcells
    go_wp2_with fail
    refine HN.out.mono ?_
    rintro e w2 ⟨p, o, rfl, ht, hbits, hb2⟩
    have hx2 : w2.cell? ⟨g, 0, none⟩ = some (.bool x) := (hb2.cell (p := ⟨g, 0, none⟩) hg1).trans hx
    have hz2 : w2.frozen? ⟨g, 0, none⟩ = false := (hb2.frozen (p := ⟨g, 0, none⟩) hg1).trans hz
    have HB := Lib.hid (hb1.trans (hb2.mono hs1))
    have HBI := Lib.hid hbits
    have HK : Hid (∀ v, TreeE w.heap.size (fun k => k = g) (w2.setCell ⟨g, 0, none⟩ v) p o (sizeO o) 0) := fun v => ht.chg (S := fun k => k = g) ((Chg.refl (S := fun q => q = g)).setCell ⟨g, 0, none⟩ (Or.inl rfl) v) (fun k hk _ e => hk.2 e)
    have HBS : Hid (∀ v, Below w.heap.size w (w2.setCell ⟨g, 0, none⟩ v)) := fun v => setQ HB.out HB.out.size hg0 v
    clear hb1 hb2 hx hz ht hbits HN hfz
    generalize sizeO o = made at *
    go_wp2_with fail
    refine (all_t (HK.out _) HBI.out).mono ?_
    rintro e w3 ⟨v3, rfl, hown3, hb3⟩
    have HB3 := Lib.hid ((HBS.out (.bool !x)).trans (hb3.mono (HBS.out _).size))
    have HK3 := Lib.hid ((HK.out (.bool !x)).less hb3 (Y := fun k => v3.ownBlock = some k) (fun k hk => Or.inr (own_lt hown3 hk).1) (fun k hk => (own_lt hown3 hk).2))
    obtain ⟨g3, cap3, rfl, hg30, hg31, _, _, hc3, hfz3⟩ := own_some hown3 hlen
    have hx3 := hc3 0 hlen
    rw [List.getElem?_map, List.getElem?_eq_getElem hlen] at hx3
    have e1 : l[0] = x := by rw [← E0.out]; simp [bitAt, hlen]
    simp only [Option.map_some, e1] at hx3
    have hz3 := hfz3 0
    have HK4 : Hid (∀ v, TreeE w.heap.size (fun k => (Value.slice (some ⟨g3, 0, none⟩) l.length cap3).ownBlock = some k) (w3.setCell ⟨g3, 0, none⟩ v) p o made 0) := fun v => HK3.out.chg (S := fun q => q = g3) ((Chg.refl (S := fun q => q = g3)).setCell ⟨g3, 0, none⟩ (Or.inl rfl) v) (fun k hk _ e => hk.2 (by subst e; rfl))
    have HB4 : Hid (∀ v, Below w.heap.size w (w3.setCell ⟨g3, 0, none⟩ v)) := fun v => setQ HB3.out HB3.out.size (Nat.le_trans (HBS.out (.bool !x)).size hg30) v
    clear hown3 hb3 hc3 hfz3 e1 hx2 hz2 HK HBS HK3
    cases x
    all_goals
      go_wp2_with fail
      refine (get_t (HK4.out _) HBI.out 0 rfl hlen E0.out).mono ?_
      rintro e w5 ⟨rfl, ⟨v5, _, ht5⟩, hc5⟩
      have HB5 := Lib.hid ((HB4.out _).trans (exT_below hc5 (HK4.out _).le))
      clear ht5 hc5 HK4 HB4
      go_wp2_with fail
      refine (told5_any _ (HT.out.below' HB5.out)).mono ?_
      rintro e w6 ⟨rfl, hb6⟩
      go_wp2_with fail
      go_ret
      exact ⟨rfl, HB5.out.trans (hb6.mono HB5.out.size)⟩

end Go.Proofs.YtcppgpjodfeigaaDoor
