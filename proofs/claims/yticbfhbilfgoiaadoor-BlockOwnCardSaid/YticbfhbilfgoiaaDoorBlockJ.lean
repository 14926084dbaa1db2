/- Contracts of block.All, Split, Join. -/
import Derived.Test.YticbfhbilfgoiaaDoorBlockI
import Derived.Laws.MakeOwn
import Derived.LaidEqlPtr
import Derived.Deep.QuietTactic
import Derived.BigQuiet
namespace Go.Proofs.YticbfhbilfgoiaaDoor
set_option linter.unusedVariables false
set_option linter.unusedSimpArgs false
open Go.RowKit


theorem madeCells_one (z : Value) (n : Nat) : madeCells #[z] n = (vecL (fun _ => z) n).toArray := by
  apply Array.ext
  · simp [madeCells, vecL]
  · intro i h1 h2
    have h0 : ∀ m, m % 1 = 0 := fun m => by omega
    simp [madeCells, vecL, h0]
/-- 'make([]E, n)', an element of one cell. -/
theorem run_makeV {P : Program} {t e : TypeId} {z : Value} {bytes : Nat} (hinfo : (P.info? e).map (fun i => (i.zero, i.size, i.bytes)) = some (some z, 1, bytes)) (ht : P.underlying t = some (.slice e)) (hz : z.cells = #[z]) (n : Nat) (h : (bytes : Int) * (n : Int) ≤ 281474976710656) (hn : n ≤ maxLen) (w : World) :
    (Instr.makeSlice t (.int .i64 (n : Int)) (.int .i64 (n : Int))).run P w = .ok (.slice (some ⟨w.heap.size, 0, none⟩) n n) (w.alloc (.cells (vecL (fun _ => z) n).toArray e)) := by
  obtain ⟨i, hi, hiz, hsz, hby⟩ := info_parts hinfo
  have h2 := run_make (P := P) w t e i z ht hi hiz .i64 .i64 (n : Int) (n : Int) (by omega) (by omega) (by rw [hby]; exact h) (by unfold maxLen at hn; omega)
  rw [h2, hz, hsz, Int.toNat_natCast, Nat.mul_one, madeCells_one]
theorem make_bools (n : Nat) (h : n ≤ 1000000000) (w : World) : (Instr.makeSlice 40 (.int .i64 (n : Int)) (.int .i64 (n : Int))).run Tryd.prog w = .ok (.slice (some ⟨w.heap.size, 0, none⟩) n n) (w.alloc (.cells (vecL (fun _ => .bool false) n).toArray 4)) :=
  run_makeV Tryd.infoBoolR Tryd.underlying40 rfl n (by omega) (by unfold maxLen; omega) w

theorem own_vec {w : World} {q n base : Nat} {f : Nat → Value} {e : TypeId} (h : w.heap[q]? = some (.cells (vecL f n).toArray e (0, 0))) (hb : base ≤ q) (hn : n ≤ maxLen) : w.ownsRow base e 1 (.slice (some ⟨q, 0, none⟩) n n) n (vecL f n) :=
  ⟨by rw [vecL_len]; omega, .inr ⟨q, n, (vecL f n).toArray, rfl, hb, h, Nat.le_refl _, hn, by simp [vecL_len], by rw [Nat.mul_one]; exact List.take_of_length_le (by rw [vecL_len]; exact Nat.le_refl _)⟩⟩

theorem blkAll_nil (w : World) : Calls Tryd.prog 40 #[.pointer none] w fun e w' => e = .returned (.slice none 0 0) ∧ w = w' := by
  go_enter Tryd.func40, Tryd.ntmps40
  go_wp2_with fail
  go_ret
  exact ⟨rfl, rfl⟩

set_option maxHeartbeats 1600000 in
theorem blkAll {w : World} {p : Nat} {l : List Bool} (h : IsBlock w p l) : Calls Tryd.prog 40 #[.pointer (some ⟨p, 0, none⟩)] w (GivesB w.heap.size w l) := by
  obtain ⟨c0, _⟩ := h.cells
  have hl := h.1
  have hmk := make_bools l.length (by omega)
  have hq0 : (w.alloc (.cells (vecL (fun _ => .bool false) l.length).toArray 4)).heap[w.heap.size]? = some (.cells (vecL (fun i => if i < 0 then .bool (bitAt l i) else .bool false) l.length).toArray 4 (0, 0)) := by
    rw [vecL_congr (f := fun i => if i < 0 then .bool (bitAt l i) else .bool false) (g := fun _ => .bool false) (fun i hi => by simp)]
    exact heap_alloc_new w _
  have hb0 := below_alloc w (.cells (vecL (fun _ => .bool false) l.length).toArray 4)
  have HB := Lib.hid h
  have HQ0 := Lib.hid hq0
  obtain ⟨q, hq⟩ : ∃ q, w.heap.size = q := ⟨_, rfl⟩
  have HQ := Lib.hid hq
  have hpq := h.lt
  clear hq0 h hq
  go_enter Tryd.func40, Tryd.ntmps40
  go_wp2_with fail
  rw [HQ.out]
  go_loopw [14] (fun i wr => ∃ k : Nat, k ≤ l.length ∧ i = .int .i64 k ∧ wr.heap[q]? = some (.cells (vecL (fun i => if i < k then .bool (bitAt l i) else .bool false) l.length).toArray 4 (0, 0)) ∧ Below w.heap.size w wr) (fun i _ => l.length - (intOf i).toNat)
  case atStart => exact ⟨0, Nat.zero_le _, rfl, by have := HQ0.out; rw [HQ.out] at this; exact this, hb0⟩
  case round =>
    clear hb0 hmk
    obtain ⟨k, hk, rfl, hqk, hb⟩ := hrel
    have hs := hb.size
    have hB := HB.out.below hb hpq
    have HBW := Lib.hid hB
    have HQK := Lib.hid hqk
    by_cases hlt : k < l.length
    · have hc := vec_cell hqk hlt
      simp only [Nat.lt_irrefl, if_false] at hc
      have hfz : wr.frozen? ⟨q, k, none⟩ = false := frozen_of_row wr q k _ _ hqk
      clear hB hqk
      go_wp2_with (go_at_call 45; refine (blkGet HBW.out k hlt).mono ?_; rintro e w' ⟨rfl, rfl⟩)
      go_roundw
      case rel =>
        refine ⟨k + 1, by omega, by go_num, ?_, below_setQ hb hs (by have := HQ.out; omega) _⟩
        rw [vec_set HQK.out]
        congr 3
        refine vecL_congr (fun i hi => ?_)
        by_cases e : i = k
        · subst e; simp
        · rw [if_neg e]
          by_cases e2 : i < k
          · rw [if_pos e2, if_pos (by omega)]
          · rw [if_neg e2, if_neg (by omega)]
      case measure => simp [intOf]; omega
    · obtain rfl : k = l.length := by omega
      clear hB hqk
      go_wp2_with fail
      go_ret
      refine ⟨_, rfl, ?_, hb⟩
      have := own_vec HQK.out (base := w.heap.size) (by have := HQ.out; omega) (by unfold maxLen; omega)
      rw [show l.map Value.bool = vecL (fun i => if i < l.length then .bool (bitAt l i) else .bool false) l.length from ?_]
      · exact this
      · apply List.ext_getElem?
        intro i
        by_cases hi : i < l.length
        · rw [vecL_get hi, if_pos hi, List.getElem?_map, List.getElem?_eq_getElem hi]
          simp [bitAt, List.getElem?_eq_getElem hi]
        · rw [List.getElem?_eq_none (by simp; omega), List.getElem?_eq_none (by rw [vecL_len]; omega)]

/-- Split: both blocks. -/
def SplitPost (w : World) (p : Nat) (l : List Bool) (e : Ending) (w' : World) : Prop :=
  ∃ q, e = .returned (.pointer (some ⟨q, 0, none⟩)) ∧ w.heap.size ≤ q ∧ IsBlock w' q (l.drop (l.length / 2)) ∧ IsBlock w' p (l.take (l.length / 2)) ∧ Chg (fun b => b = p) w w'

theorem blkSplit_nil (w : World) : Calls Tryd.prog 35 #[.pointer none] w fun e w' => e = .returned (.pointer none) ∧ w = w' := by
  go_enter Tryd.func35, Tryd.ntmps35
  go_wp2_with fail
  go_ret
  exact ⟨rfl, rfl⟩

set_option maxHeartbeats 1600000 in
theorem blkSplit {w : World} {p : Nat} {l : List Bool} (h : IsBlock w p l) : Calls Tryd.prog 35 #[.pointer (some ⟨p, 0, none⟩)] w (SplitPost w p l) := by
  have HB := Lib.hid h
  have hl := h.1
  clear h
  go_enter Tryd.func35, Tryd.ntmps35
  go_wp2_with fail
  refine (blkAll HB.out).mono ?_
  rintro e w1 ⟨v, rfl, hown, hb1⟩
  obtain ⟨a, c, rfl, hnil, hab⟩ := own_slice hown
  have hrd := readsV_own hown
  have hcap : l.length ≤ c := by
    rcases hown.2 with ⟨hv, h0⟩ | ⟨g, cap, cur, hv, _, _, h1, _⟩
    · have := own_len hown; rw [h0] at this; simp at this; omega
    · injection hv with _ _ e3; subst e3; exact h1
  have hB1 := HB.out.below' hb1
  obtain ⟨c0, _⟩ := hB1.cells
  have hs1 := fun (w : World) => run_sliceTo (P := Tryd.prog) (w := w) (t := 40) (a := a) (len := l.length) (cap := c) (k := l.length / 2) Tryd.underlying40 (by kernel_rfl) (by omega)
  have hs2 := fun (w : World) => run_sliceFrom (P := Tryd.prog) (w := w) (t := 40) (a := a) (len := l.length) (cap := c) (k := l.length / 2) Tryd.underlying40 (by kernel_rfl) (by omega)
  have ed : ((l.length / 2 : Nat) : Int) = (l.length : Int) / 2 := by omega
  rw [ed] at hs1 hs2
  have HD : Hid (ReadsV w1 (offA a (l.length / 2) c) ((l.drop (l.length / 2)).map Value.bool)) := by
    have := hrd.drop (k := l.length / 2) (cap := c) (by simpa using hcap)
    rw [← List.map_drop] at this; exact this
  have HTk : Hid (ReadsV w1 a ((l.take (l.length / 2)).map Value.bool)) := by
    have := hrd.take (l.length / 2)
    rw [← List.map_take] at this; exact this
  have HB1 := Lib.hid hB1
  have HC : Hid (Chg (fun b => b = p) w w1) := Chg.of_below hb1
  have hpl := hB1.lt
  have hw1 := hb1.size
  have hl1 : (l.drop (l.length / 2)).length = l.length - l.length / 2 := by simp
  have hl2 : (l.take (l.length / 2)).length = l.length / 2 := by rw [List.length_take]; omega
  have HL1 := Lib.hid hl1
  have HL2 := Lib.hid hl2
  have hap : ∀ ad, a = some ad → ad.block ≠ p := by
    intro ad h e
    obtain ⟨g, rfl, hg, _⟩ := hab ad h
    have hx : g = p := e
    have := HB.out.lt
    omega
  have HAP := Lib.hid hap
  clear hnil hab hrd hcap hB1 hb1 hown ed hl1 hl2 hap
  have hml : l.length / 2 ≤ l.length := Nat.div_le_self _ _
  generalize hm : l.length / 2 = m at *
  have HM := Lib.hid hm
  clear hm
  go_wp2_with fail
  have hnew := blkNew w1 (offA a m c) (c - m) (l.drop m) HD.out (by rw [HL1.out]; omega)
  rw [HL1.out] at hnew
  refine hnew.mono ?_
  rintro e w2 ⟨rfl, hq, hb2⟩
  have hB2 := HB1.out.below' hb2
  obtain ⟨d0, _⟩ := hB2.cells
  have hT2 := HTk.out.below' hb2
  have HQ := Lib.hid hq
  have HB2 := Lib.hid hB2
  have HT2 := Lib.hid hT2
  have HC2 : Hid (Chg (fun b => b = p) w w2) := HC.out.trans (Chg.of_below (S := fun b => b = p) hb2) (fun b hb => Or.inl hb)
  obtain ⟨q, hqe⟩ : ∃ q, w1.heap.size = q := ⟨_, rfl⟩
  have HQE := Lib.hid hqe
  clear hnew hq hB2 hT2 hb2 hs2 hqe
  go_wp2_with fail
  have hset := blkSet HB2.out a c (l.take m) HT2.out (by rw [HL2.out]; omega)
  rw [HL2.out] at hset
  refine hset.mono ?_
  rintro e w3 ⟨rfl, hk3, hc3⟩
  have HK3 := Lib.hid hk3
  have HC3 := Lib.hid hc3
  clear hset hk3 hc3 hs1
  go_wp2_with fail
  go_ret
  rw [HQE.out]
  refine ⟨q, rfl, by have := HQE.out; omega, ?_, ?_, HC2.out.trans HC3.out (fun b hb => Or.inl hb)⟩
  · rw [HM.out]; exact (by rw [HQE.out] at HQ; exact HQ.out : IsBlock w2 q (l.drop m)).chg HC3.out (fun e => by have := HQE.out; omega)
  · rw [HM.out]; exact HK3.out

theorem blkJoin_nil (w : World) (o : Option Addr) : Calls Tryd.prog 37 #[.pointer none, .pointer o] w fun e w' => e = .returned (.int .i64 6) ∧ w = w' := by
  go_enter Tryd.func37, Tryd.ntmps37
  go_wp2_with fail
  go_ret
  exact ⟨rfl, rfl⟩
theorem blkJoin_none (w : World) (p : Nat) : Calls Tryd.prog 37 #[.pointer (some ⟨p, 0, none⟩), .pointer none] w fun e w' => e = .returned (.int .i64 1) ∧ w = w' := by
  go_enter Tryd.func37, Tryd.ntmps37
  go_wp2_with fail
  go_ret
  exact ⟨rfl, rfl⟩
theorem Tryd.infoBlk : ∃ j, Tryd.prog.info? 70 = some j ∧ j.size ≠ 0 := by
  have h : (Tryd.prog.info? 70).map (fun i => decide (i.size ≠ 0)) = some true := by kernel_rfl
  obtain ⟨j, hj, hd⟩ := Option.map_eq_some_iff.1 h
  exact ⟨j, hj, by simpa using hd⟩
theorem blkJoin_self (w : World) (p : Nat) : Calls Tryd.prog 37 #[.pointer (some ⟨p, 0, none⟩), .pointer (some ⟨p, 0, none⟩)] w fun e w' => e = .returned (.int .i64 1) ∧ w = w' := by
  obtain ⟨j, hj, _⟩ := Tryd.infoBlk
  have he := fun (w : World) => run_eql_ptr_same (P := Tryd.prog) w (tp := 42) ⟨p, 0, none⟩ Tryd.underlying42 hj
  go_enter Tryd.func37, Tryd.ntmps37
  go_wp2_with fail
  go_ret
  exact ⟨rfl, rfl⟩

set_option maxHeartbeats 1600000 in
theorem blkJoin_full {w : World} {p q : Nat} {l m : List Bool} (h : IsBlock w p l) (h2 : IsBlock w q m) (hpq : p ≠ q) (hl : 128 < l.length + m.length) :
    Calls Tryd.prog 37 #[.pointer (some ⟨p, 0, none⟩), .pointer (some ⟨q, 0, none⟩)] w fun e w' => e = .returned (.int .i64 3) ∧ ∃ n, w' = w.drewN n := by
  obtain ⟨c0, _⟩ := h.cells
  obtain ⟨d0, _⟩ := h2.cells
  have k1 := h.1
  have k2 := h2.1
  obtain ⟨j, hj, hjs⟩ := Tryd.infoBlk
  have he := run_eql_ptr_other (P := Tryd.prog) w (tp := 42) (a := ⟨q, 0, none⟩) (b := ⟨p, 0, none⟩) Tryd.underlying42 hj hjs (fun e => hpq (by injection e with e _ _; exact e.symm)) h2.2 h.2
  clear h h2 hj hjs
  go_enter Tryd.func37, Tryd.ntmps37
  go_wp2_with fail
  go_quiet (fail)
  go_wp2_with fail
  go_ret
  exact ⟨rfl, _, rfl⟩

/-- Join: both blocks. -/
def JoinPost (w : World) (p q : Nat) (l m : List Bool) (e : Ending) (w' : World) : Prop :=
  e = .returned (.int .i64 0) ∧ IsBlock w' p (l ++ m) ∧ IsBlock w' q [] ∧ Chg (fun b => b = p ∨ b = q) w w'

set_option maxHeartbeats 1600000 in
theorem blkJoin {w : World} {p q : Nat} {l m : List Bool} (h : IsBlock w p l) (h2 : IsBlock w q m) (hpq : p ≠ q) (hl : l.length + m.length ≤ 128) :
    Calls Tryd.prog 37 #[.pointer (some ⟨p, 0, none⟩), .pointer (some ⟨q, 0, none⟩)] w (JoinPost w p q l m) := by
  obtain ⟨c0, _⟩ := h.cells
  obtain ⟨d0, _⟩ := h2.cells
  have k1 := h.1
  have k2 := h2.1
  obtain ⟨j, hj, hjs⟩ := Tryd.infoBlk
  have he := run_eql_ptr_other (P := Tryd.prog) w (tp := 42) (a := ⟨q, 0, none⟩) (b := ⟨p, 0, none⟩) Tryd.underlying42 hj hjs (fun e => hpq (by injection e with e _ _; exact e.symm)) h2.2 h.2
  have HP : Hid (∀ n, IsBlock (w.drewN n) p l) := fun n => h
  have HQ : Hid (∀ n, IsBlock (w.drewN n) q m) := fun n => h2
  have HPQ := Lib.hid hpq
  have HPL := Lib.hid h.lt
  have HQL := Lib.hid h2.lt
  have hd : decide ((128 : Int) < (l.length : Int) + (m.length : Int)) = false := by simp; omega
  clear h h2 hj hjs hpq
  go_enter Tryd.func37, Tryd.ntmps37
  go_wp2_with fail
  go_quiet (fail)
  have HC0 : Hid (Chg (fun b => b = p ∨ b = q) w (w.drewN nq)) := Chg.refl.drewN nq
  have HS0 : Hid ((w.drewN nq).heap.size = w.heap.size) := rfl
  have HP := Lib.hid (HP.out nq)
  have HQ := Lib.hid (HQ.out nq)
  generalize w.drewN nq = w1 at *
  clear c0 d0 he hd
  go_wp2_with fail
  refine (blkAll HP.out).mono ?_
  rintro e w2 ⟨v, rfl, hown, hb1⟩
  have HP2 := Lib.hid (HP.out.below' hb1)
  have HQ2 := Lib.hid (HQ.out.below' hb1)
  have hs2 := hb1.size
  have HC2 : Hid (Chg (fun b => b = p ∨ b = q) w w2) := HC0.out.trans (Chg.of_below (S := fun b => b = p ∨ b = q) hb1) (fun b hb => Or.inl hb)
  have HO2 := Lib.hid hown
  clear hown hb1
  go_wp2_with fail
  refine (blkAll HQ2.out).mono ?_
  rintro e w3 ⟨v3, rfl, hown3, hb3⟩
  have hown := own_below HO2.out hb3 (fun k hk => (own_lt HO2.out hk).2)
  have hown := own_mono hown (show w1.heap.size ≤ w1.heap.size from Nat.le_refl _)
  obtain ⟨a3, c3, rfl, hnil3, _⟩ := own_slice hown3
  have hrd3 := readsV_own hown3
  have hs3 := hb3.size
  have HO3 := Lib.hid hown
  have HR3 := Lib.hid hrd3
  have HN3 := Lib.hid hnil3
  have HP3 := Lib.hid (HP2.out.below' hb3)
  have HQ3 := Lib.hid (HQ2.out.below' hb3)
  have HC3 : Hid (Chg (fun b => b = p ∨ b = q) w w3) := HC2.out.trans (Chg.of_below (S := fun b => b = p ∨ b = q) hb3) (fun b hb => Or.inl hb)
  have HPL1 : Hid (p < w1.heap.size ∧ q < w1.heap.size) := ⟨HP.out.lt, HQ.out.lt⟩
  clear hown3 hown hb3 hrd3 hnil3
  go_wp2_with (at_builtin; refine wpList_appendL rfl _ _ 40 rfl w1.heap.size 4 Tryd.infoBoolR Tryd.underlying40 rfl _ l.length _ rfl HO3.out a3 m.length c3 (m.map Value.bool) rfl (by simp) HN3.out HR3.out.hnews (oneB _) (by unfold maxLen; omega) (by omega) (by omega) ?_)
  intro a4 c4 w4 hown4 hgrow _
  have hb4 : Below w1.heap.size w3 w4 := (Below.refl _ _).grown hgrow (by omega) (fun k hk => (own_lt HO3.out hk).1)
  have HP4 := Lib.hid (HP3.out.below hb4 HPL1.out.1)
  have HQ4 := Lib.hid (HQ3.out.below hb4 HPL1.out.2)
  have HC4 : Hid (Chg (fun b => b = p ∨ b = q) w w4) := by
    have := Below.trans (B := w1.heap.size) (hb4) (Below.refl _ _)
    refine ⟨hb4.os.trans HC3.out.os, hb4.tape.trans HC3.out.tape, hb4.output.trans HC3.out.output, Nat.le_trans HC3.out.size hb4.size, fun k hk hn => ?_⟩
    rw [hb4.block k (by have := HS0.out; omega)]
    exact HC3.out.block k hk hn
  have hrd4 := readsV_own hown4
  rw [← List.map_append] at hrd4
  have HR4 := Lib.hid hrd4
  have hset := blkSet HP4.out a4 c4 (l ++ m) HR4.out (by rw [List.length_append]; exact hl)
  rw [List.length_append] at hset
  have HSET := Lib.hid hset
  clear hown4 hgrow hb4 hrd4 hset
  go_wp2_with fail
  refine HSET.out.mono ?_
  rintro e w5 ⟨rfl, hk5, hc5⟩
  have HK5 := Lib.hid hk5
  have HQ5 : Hid (IsBlock w5 q m) := HQ4.out.chg hc5 (fun e => HPQ.out e.symm)
  have HC5 : Hid (Chg (fun b => b = p ∨ b = q) w w5) := HC4.out.trans hc5 (fun b hb => Or.inl (Or.inl hb))
  clear hk5 hc5 HSET
  have hset2 := blkSet HQ5.out none 0 [] ReadsV.nil (by simp)
  have HSET2 := Lib.hid hset2
  clear hset2
  go_wp2_with fail
  refine HSET2.out.mono ?_
  rintro e w6 ⟨rfl, hk6, hc6⟩
  have HK6 := Lib.hid hk6
  have HC6 := Lib.hid hc6
  clear hk6 hc6
  go_wp2_with fail
  go_ret
  exact ⟨rfl, HK5.out.chg HC6.out HPQ.out, HK6.out, HC5.out.trans HC6.out (fun b hb => Or.inl (Or.inr hb))⟩

end Go.Proofs.YticbfhbilfgoiaaDoor
