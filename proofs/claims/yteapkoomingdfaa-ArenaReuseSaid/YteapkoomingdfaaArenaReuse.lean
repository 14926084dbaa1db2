/- The walk of ArenaReuse: for whatever steps it answers true and turns nothing that was there. -/
import Derived.Test.YteapkoomingdfaaArenaFull
import Derived.Test.YteapkoomingdfaaArgs
import Derived.Test.YteapkoomingdfaaReg
namespace Go.Proofs.Yteapkoomingdfaa
set_option linter.unusedVariables false
set_option linter.unusedSimpArgs false
open Go.RowKit

/-- An arena, all of whose blocks lie from B on, and none of them in F. -/
def ArWith (B : Nat) (w : World) (p : Nat) (a : Ar) (F : Nat → Prop) : Prop := ∃ S, IsArena w p S a ∧ (∀ k, S k → B ≤ k) ∧ ∀ k, F k → ¬ S k ∧ k < w.heap.size

theorem ArWith.at {B : Nat} {w : World} {p : Nat} {a : Ar} {F : Nat → Prop} (h : ArWith B w p a F) : ArAt B w p a := by
  obtain ⟨S, h, hs, _⟩ := h; exact ⟨S, h, hs⟩
theorem ArWith.chg {B : Nat} {w w' : World} {p : Nat} {a : Ar} {F S' : Nat → Prop} (h : ArWith B w p a F) (hc : Chg S' w w') (hF : ∀ k, S' k → F k ∨ w.heap.size ≤ k) : ArWith B w' p a F := by
  obtain ⟨S, h, hs, hf⟩ := h
  exact ⟨S, h.chg hc (fun k hk hk' => (hF k hk').elim (fun h1 => (hf k h1).1 hk) (fun h1 => by have := h.lt k hk; omega)), hs, fun k hk => ⟨(hf k hk).1, by have := hc.size; have := (hf k hk).2; omega⟩⟩

theorem ArStep.with {B : Nat} {w w' : World} {p : Nat} {S F : Nat → Prop} {a' : Ar} (h : ArStep w w' p S a') (hs : ∀ k, S k → B ≤ k) (hB : B ≤ w.heap.size) (hf : ∀ k, F k → ¬ S k ∧ k < w.heap.size) :
    ArWith B w' p a' F ∧ Below B w w' ∧ Chg (fun k => ¬ F k) w w' := by
  obtain ⟨S', h1, h2, h3⟩ := h
  refine ⟨⟨S', h1, fun k hk => (h3 k hk).elim (hs k) (fun h => by omega), fun k hk => ⟨fun hS => ?_, by have := h2.size; have := (hf k hk).2; omega⟩⟩, h2.below hs hB, h2.mono (fun k hk hF => (hf k hF).1 hk)⟩
  rcases h3 k hS with h4 | h4
  · exact (hf k hk).1 h4
  · have := (hf k hk).2; omega

theorem take_with {B : Nat} {w : World} {p : Nat} {a a' : Ar} {F : Nat → Prop} {k x : Int} (h : ArWith B w p a F) (hB : B ≤ w.heap.size) (hr : a.take = (k, x, a')) :
    Calls Try.prog 30 #[.pointer (some ⟨p, 0, none⟩)] w fun e w' => e = .returned (.tuple #[.int .i64 k, .int .i64 x]) ∧ ArWith B w' p a' F ∧ Below B w w' ∧ Chg (fun k => ¬ F k) w w' := by
  obtain ⟨S, h, hs, hf⟩ := h
  refine (arTake_any h).mono ?_
  rintro e w' ⟨rfl, hst⟩
  rw [hr] at hst ⊢
  exact ⟨rfl, hst.with hs hB hf⟩

theorem free_with {B : Nat} {w : World} {p : Nat} {a a' : Ar} {F : Nat → Prop} {x : Int} {t : TypeId} (l : List Int) (cs : Array Value) (n : Nat) (h : ArWith B w p a F) (hB : B ≤ w.heap.size)
    (hcs : cs = (l.map (Value.int .i64)).toArray) (hn : n = l.length) (hlen : l.length ≤ 1000000000) (hr : a.free l = (x, a')) :
    Calls Try.prog 31 #[.pointer (some ⟨p, 0, none⟩), .slice (some ⟨w.heap.size, 0, none⟩) n n] (w.alloc (.cells cs t)) fun e w' =>
      e = .returned (.int .i64 x) ∧ ArWith B w' p a' F ∧ Below B w w' ∧ Chg (fun k => ¬ F k) w w' := by
  subst hcs
  subst hn
  obtain ⟨S, h, hs, hf⟩ := h
  have h' : IsArena (w.alloc (.cells (l.map (Value.int .i64)).toArray t)) p S a := h.chg (S' := fun _ => False) (Chg.refl.alloc _) (fun _ _ hf => hf)
  have hrd : Reads (w.alloc (.cells (l.map (Value.int .i64)).toArray t)) .i64 (some ⟨w.heap.size, 0, none⟩) l := fun i hi => ⟨_, _, rfl, by simp, fun j hj => by
    rw [Nat.zero_add, World.cell?_alloc_at _ _ _ _ rfl]
    simp [List.getElem?_eq_getElem hj]⟩
  refine (arFree_any h' l _ l.length hrd (fun e => by cases e) (fun ad e hS => by cases e; exact Nat.lt_irrefl _ (h.lt _ hS)) hlen (Nat.le_refl _)).mono ?_
  rintro e w' ⟨rfl, hst⟩
  rw [hr] at hst ⊢
  obtain ⟨a1, a2, a3⟩ := hst.with hs (by simp; omega) (F := F) (fun k hk => ⟨(hf k hk).1, by have := (hf k hk).2; simp; omega⟩)
  exact ⟨rfl, a1, ((Below.refl _ _).alloc hB _).trans a2, (Chg.refl.alloc _).trans a3 (fun b hb => Or.inl hb)⟩

theorem arIs_set_true {T : List Bool} {x : Nat} (h : x < T.length) (j : Nat) : arIs (T.set x true) (j : Int) = if j = x then true else arIs T (j : Int) := by
  unfold arIs
  simp only [Int.toNat_natCast]
  rw [List.getElem?_set]
  by_cases e : x = j
  · subst e; simp [h]
  · rw [if_neg e, if_neg (fun h => e h.symm)]

theorem take_facts {a : Ar} (h : a.Ok) (hl : a.T.length < a.M) : ∃ (x : Nat) (a' : Ar), a.take = ((x : Int), 0, a') ∧ a'.M = a.M ∧ x ≤ a.T.length ∧ arIs a.T (x : Int) = false ∧ a'.live = a.live + 1 ∧
    max a.T.length (a.live + 1) = a'.T.length ∧ a'.T.length ≤ a.T.length + 1 ∧ ∀ j : Nat, arIs a'.T (j : Int) = if j = x then true else arIs a.T (j : Int) := by
  have hfl := h.fle
  have hne : ¬ a.live = a.M := by unfold Ar.live; omega
  cases hk : a.F.getLast? with
  | some k =>
    have hlt := h.last_lt hk
    have hFp : 0 < a.F.length := by cases hF : a.F with | nil => rw [hF] at hk; cases hk | cons x l => simp
    have hm : k ∈ a.F := List.mem_of_getLast? hk
    refine ⟨k, a.pop k, by unfold Ar.take; rw [if_neg hne, hk], rfl, by omega, ?_, ?_, ?_, ?_, fun j => ?_⟩
    · unfold arIs; rw [Int.toNat_natCast, (h.iff k).2 hm]; simp
    · simp only [Ar.live, Ar.pop, List.length_set, List.length_dropLast]; omega
    · simp only [Ar.live, Ar.pop, List.length_set]; omega
    · simp only [Ar.pop, List.length_set]; omega
    · exact arIs_set_true hlt j
  | none =>
    have hF : a.F = [] := List.getLast?_eq_none_iff.1 hk
    have hF0 : a.F.length = 0 := by rw [hF]; rfl
    refine ⟨a.T.length, a.more, by unfold Ar.take; rw [if_neg hne, hk], rfl, by omega, ?_, ?_, ?_, ?_, fun j => ?_⟩
    · unfold arIs; rw [Int.toNat_natCast, List.getElem?_eq_none (by omega)]; simp
    · simp only [Ar.live, Ar.more, List.length_append, List.length_cons, List.length_nil]; omega
    · simp only [Ar.live, Ar.more, List.length_append, List.length_cons, List.length_nil]; omega
    · simp only [Ar.more, List.length_append, List.length_cons, List.length_nil]; omega
    · show arIs (a.T ++ [true]) (j : Int) = _
      unfold arIs
      simp only [Int.toNat_natCast]
      rw [List.getElem?_append]
      by_cases e : j = a.T.length
      · subst e; simp
      · rw [if_neg e]
        split
        · rfl
        · rw [List.getElem?_eq_none (l := a.T) (by omega), List.getElem?_eq_none (by simp; omega)]

theorem free_facts {a : Ar} (h : a.Ok) {x : Nat} (hx : arIs a.T (x : Int) = true) : ∃ a' : Ar, a.free [(x : Int)] = (0, a') ∧ a'.M = a.M ∧ a'.live + 1 = a.live ∧ a'.T.length = a.T.length ∧
    ∀ j : Nat, arIs a'.T (j : Int) = if j = x then false else arIs a.T (j : Int) := by
  obtain ⟨h0, h1⟩ := arIs_iff.1 hx
  rw [Int.toNat_natCast] at h1
  obtain ⟨hlt, hv⟩ := List.getElem?_eq_some_iff.1 h1
  have hn : x ∉ a.F := fun hm => by rw [(h.iff x).2 hm] at h1; cases h1
  have hc : a.F.length < a.T.length := by
    have h2 := h.cnt
    have h3 : a.T.count true + a.T.count false = a.T.length := by
      have : ∀ T : List Bool, T.count true + T.count false = T.length := by
        intro T
        induction T with
        | nil => rfl
        | cons b T ih => cases b <;> simp <;> omega
      exact this a.T
    have h4 : 0 < a.T.count true := List.count_pos_iff.2 (by rw [← hv]; exact List.getElem_mem hlt)
    omega
  refine ⟨_, free_one h hlt hn, rfl, ?_, by simp, fun j => ?_⟩
  · simp only [Ar.live, List.length_set, List.length_append, List.length_cons, List.length_nil]; omega
  · show arIs (a.T.set x false) (j : Int) = _
    unfold arIs
    simp only [Int.toNat_natCast]
    rw [List.getElem?_set]
    by_cases e : x = j
    · subst e; simp [hlt]
    · rw [if_neg e, if_neg (fun h => e h.symm)]

def boolsV (l : List Bool) : Array Value := (l.map Value.bool).toArray
theorem boolsV_get (l : List Bool) (j : Nat) : (boolsV l)[j]? = (l[j]?).map Value.bool := by simp [boolsV]
theorem boolsV_set (l : List Bool) (j : Nat) (b : Bool) : (boolsV l).setIfInBounds j (.bool b) = boolsV (l.set j b) := by simp [boolsV, List.map_set]
theorem zero200 (w : World) : (zeroValue 55).run Try.prog w = .ok (.agg (boolsV (List.replicate 200 false))) w := by kernel_rfl

set_option maxHeartbeats 3200000 in
set_option maxRecDepth 100000 in
theorem walk_ArenaReuse (w : World) (a3 : Option Addr) (c3 : Nat) (l : List Int) (w3 : ArgI .i64 w a3 c3 l) :
    Calls Try.prog 11 #[.slice a3 l.length c3] w fun e w' => e = .returned (.bool true) ∧ Below w.heap.size w w' := by
  have hl := w3.reads
  have hmx := w3.le
  have hmx2 := w3.max
  clear w3
  have hz := zero200
  generalize hB0 : List.replicate 200 false = B0 at hz
  have HB0 := Lib.hid hB0; clear hB0
  go_enter Try.func11, Try.ntmps11
  go_wp2_with fail
  refine (new_at 1000 w (by omega)).mono ?_
  rintro e w1 ⟨p, rfl, hA, hb1, hpl⟩
  go_wp2_with fail
  have hB1 : B0.length = 200 := by rw [← HB0.out]; simp
  have hB2 : ∀ j : Nat, j < 200 → B0[j]? = some (arIs (Ar.new 1000).T j) := fun j hj => by
    rw [← HB0.out, List.getElem?_replicate, if_pos hj]; rfl
  have hA0 : ArWith w.heap.size (w1.alloc (.cells (boolsV B0) 55)) p (Ar.new 1000) (fun k => k = w1.heap.size) := by
    obtain ⟨S, h, hs⟩ := hA
    exact ⟨S, h.chg (S' := fun _ => False) (Chg.refl.alloc _) (fun _ _ hf => hf), hs, fun k hk => by subst hk; exact ⟨fun hS => Nat.lt_irrefl _ (h.lt _ hS), by simp⟩⟩
  have hq0 := heap_alloc_new w1 (.cells (boolsV B0) 55)
  have hbb := hb1.alloc hb1.size (.cells (boolsV B0) 55)
  have hqB := hb1.size
  have HBB := Lib.hid hbb
  have HHA := Lib.hid hA0
  have HQ0 := Lib.hid hq0
  have HB2 := Lib.hid hB2
  generalize w1.alloc (.cells (boolsV B0) 55) = w2 at *
  generalize w1.heap.size = q at *
  clear hz hA hb1 hpl hA0 hq0 hbb hB2
  go_loopw [5, 6, 7] (fun n top i wr => ∃ k : Nat, k ≤ l.length ∧ k ≤ 150 ∧ i = .int .i64 k ∧ ∃ (a : Ar) (Bk : List Bool), n = .int .i64 a.live ∧ top = .int .i64 a.T.length ∧ a.M = 1000 ∧ a.T.length ≤ k ∧
      ArWith w.heap.size wr p a (fun k => k = q) ∧ wr.heap[q]? = some (.cells (boolsV Bk) 55 (0, 0)) ∧ Bk.length = 200 ∧ (∀ j : Nat, j < 200 → Bk[j]? = some (arIs a.T j)) ∧ Below w.heap.size w wr)
    (fun _ _ i _ => 150 - (intOf i).toNat)
  case atStart => exact ⟨0, by omega, by omega, rfl, Ar.new 1000, B0, rfl, rfl, rfl, by simp [Ar.new], HHA.out, HQ0.out, hB1, HB2.out, HBB.out⟩
  case round =>
    obtain ⟨k, hk1, hk2, rfl, a, Bk, rfl, rfl, hM, hT, hA, hq, hBl, hBk, hb⟩ := hrel
    have hs := hb.size
    by_cases hlt : k < l.length ∧ k < 150
    · obtain ⟨hlt1, hlt2⟩ := hlt
      obtain ⟨bb, off, rfl, hbl, hcells⟩ := hl.some (by omega)
      have hcx := (hb.cell (p := ⟨bb, off + k, none⟩) hbl).trans (hcells k hlt1)
      have hdk : decide ((k : Int) < 150) = true := by simp; omega
      generalize l[k]?.getD 0 = x at *
      have hok := hA.at.ok
      have HBK := Lib.hid hBk
      have HQ := Lib.hid hq
      clear hcells hBk hq
      obtain ⟨u, hu0, hu⟩ := u64_of' x
      obtain ⟨v, hv0, hv⟩ := u64_of' (u.tdiv 2)
      go_wp2_with fail
      · obtain ⟨x', a', htk, hM', hx1, hx2, hlv, hmx', hT', hIs'⟩ := take_facts hok (by omega)
        have HIS := Lib.hid hIs'
        have HLV := Lib.hid hlv
        have HMX := Lib.hid hmx'
        have HM := Lib.hid (hM'.trans hM)
        clear hIs' hlv hmx' hM' hM
        refine (take_with hA hs htk).mono ?_
        rintro e w3 ⟨rfl, hA3, hb3, hc3⟩
        have hx2' : Bk[x']? = some false := by rw [HBK.out x' (by omega), hx2]
        have hq3 := hc3.heap HQ.out (fun h => h rfl)
        have hcq : w3.cell? ⟨q, x', none⟩ = some (.bool false) := by rw [cell_of_row w3 q x' _ _ _ hq3, boolsV_get, hx2']; rfl
        have hfq := frozen_of_row w3 q x' _ _ hq3
        have hxx0 : (0 : Int) ≤ (x' : Int) := by omega
        have hxx1 : decide ((200 : Int) ≤ (x' : Int)) = false := by simp; omega
        have hxx2 : (x' : Int) < 200 := by omega
        have HQ3 := Lib.hid hq3
        have HX2 := Lib.hid hx2'
        have HTK := Lib.hid htk
        clear hq3 hx2 hx2' htk
        have hlb : a.live ≤ a.T.length := by unfold Ar.live; omega
        have hA4 : ArWith w.heap.size (w3.setCell ⟨q, x', none⟩ (.bool true)) p a' (fun k => k = q) := hA3.chg (S' := fun k => k = q) ((Chg.refl (S := fun k => k = q)).setCell ⟨q, x', none⟩ (Or.inl rfl) _) (fun k hk => Or.inl hk)
        have hq4 : (w3.setCell ⟨q, x', none⟩ (.bool true)).heap[q]? = some (.cells (boolsV (Bk.set x' true)) 55 (0, 0)) := by rw [heap_set_cells HQ3.out x' (.bool true), boolsV_set]
        have hb4 : Below w.heap.size w (w3.setCell ⟨q, x', none⟩ (.bool true)) := (hb.trans hb3).setCell hqB _
        have HQ4 := Lib.hid hq4
        have HB4 := Lib.hid hb4
        have HT' := Lib.hid hT'
        have htl : a.T.length ≤ 150 := by omega
        have hlv2 : ((a'.live : Nat) : Int) = (a.live : Int) + 1 := by rw [HLV.out]; omega
        have HLV2 := Lib.hid hlv2
        have hend : ∀ j : Nat, j < 200 → (Bk.set x' true)[j]? = some (arIs a'.T j) := by
          intro j hj
          rw [List.getElem?_set, HIS.out j]
          by_cases e : x' = j
          · subst e; rw [if_pos rfl, if_pos (by omega), if_pos rfl]
          · rw [if_neg e, if_neg (fun h => e h.symm)]; exact HBK.out j hj
        have HEND := Lib.hid hend
        clear hq4 hb4 hT' hlv2 hend hcx
        by_cases hcmp : a.T.length < a.live + 1
        · have hc : (a.T.length : Int) < (a.live : Int) + 1 := by omega
          have htl2 : ((a'.T.length : Nat) : Int) = (a.live : Int) + 1 := by have := HMX.out; omega
          have HTL2 := Lib.hid htl2
          have hT3 : a'.T.length ≤ k + 1 := by have := HT'.out; omega
          have HT3 := Lib.hid hT3
          clear htl2 hcmp hT3
          go_wp2_with fail
          refine (live_at hA4.at).mono ?_
          rintro e w' ⟨rfl, n, rfl⟩
          rw [HLV2.out]
          have hA5 := hA4.chg (S' := fun _ => False) (Chg.refl.drewN n) (fun _ hf => hf.elim)
          have HA5 := Lib.hid hA5
          clear hA4 hA5
          go_wp2_with fail
          refine (made_at HA5.out.at).mono ?_
          rintro e w' ⟨rfl, rfl⟩
          rw [HTL2.out]
          go_wp2_with fail
          go_roundw
          case rel =>
            refine ⟨k + 1, by omega, by omega, by simp, a', Bk.set x' true, ?_, ?_, HM.out, HT3.out, HA5.out, HQ4.out, by simpa using hBl, HEND.out, below_drewN HB4.out n⟩
            · rw [HLV2.out]
            · rw [HTL2.out]
          case measure => simp [intOf]; omega
        · have hc : (a.live : Int) + 1 ≤ (a.T.length : Int) := by omega
          have htl2 : ((a'.T.length : Nat) : Int) = (a.T.length : Int) := by have := HMX.out; omega
          have HTL2 := Lib.hid htl2
          have hT3 : a'.T.length ≤ k + 1 := by have := HT'.out; omega
          have HT3 := Lib.hid hT3
          clear htl2 hcmp hT3
          go_wp2_with fail
          refine (live_at hA4.at).mono ?_
          rintro e w' ⟨rfl, n, rfl⟩
          rw [HLV2.out]
          have hA5 := hA4.chg (S' := fun _ => False) (Chg.refl.drewN n) (fun _ hf => hf.elim)
          have HA5 := Lib.hid hA5
          clear hA4 hA5
          go_wp2_with fail
          refine (made_at HA5.out.at).mono ?_
          rintro e w' ⟨rfl, rfl⟩
          rw [HTL2.out]
          go_wp2_with fail
          go_roundw
          case rel =>
            refine ⟨k + 1, by omega, by omega, by simp, a', Bk.set x' true, ?_, ?_, HM.out, HT3.out, HA5.out, HQ4.out, by simpa using hBl, HEND.out, below_drewN HB4.out n⟩
            · rw [HLV2.out]
            · rw [HTL2.out]
          case measure => simp [intOf]; omega
      · have hj0 : 0 ≤ v % 200 := by omega
        have hj1 : v % 200 < 200 := by omega
        have hjd : decide (v % 200 < 0) = false := by simp; omega
        generalize v % 200 = j at *
        obtain ⟨j, rfl⟩ := Int.eq_ofNat_of_zero_le hj0
        have hj2 : j < 200 := by omega
        have hbj := HBK.out j hj2
        have hcq : wr.cell? ⟨q, j, none⟩ = some (.bool (arIs a.T j)) := by rw [cell_of_row wr q j _ _ _ HQ.out, boolsV_get, hbj]; rfl
        have hjj : (j : Int) < 200 := by omega
        have hA1 : ArWith w.heap.size wr.drew p a (fun k => k = q) := hA.chg (S' := fun _ => False) Chg.refl.drew (fun _ hf => hf.elim)
        have hqlt : q < wr.heap.size := (Array.getElem?_eq_some_iff.1 HQ.out).1
        have hlow : a.live ≤ a.T.length := by unfold Ar.live; omega
        have hlow : a.live ≤ a.T.length := by unfold Ar.live; omega
        have hlow : a.live ≤ a.T.length := by unfold Ar.live; omega
        have hlow : a.live ≤ a.T.length := by unfold Ar.live; omega
        have HBJ := Lib.hid hbj
        have hA2 : ArWith w.heap.size wr.drew p a (fun k => k = q) := hA1
        have HB := Lib.hid hb
        clear hA1 hbj
        cases hIs : arIs a.T (j : Int)
        · rw [hIs] at hcq
          have HF := Lib.hid (free_with (t := 3) [(j : Int)] #[.int .i64 (j : Int)] 1 hA2 hs rfl rfl (by simp) (free_none hIs))
          have HJS := Lib.hid hIs
          clear hA2 hIs
          go_wp2_with fail
          refine reg_start (fun w' => w'.cell? ⟨q, j, none⟩ = some (.bool false)) (by kernel_rfl) (hcq) (fun hHeld => ?_)
          refine reg_take (i := 0) (v := ?vf0) rfl (by kernel_rfl) rfl hHeld ?yf0 ?rf0
          case yf0 => (intro w hSw; (try dsimp only at hSw); go_simp; all_goals with_reducible rfl)
          try simp only [Act.put, List.setIfInBounds_toArray, List.set_cons_zero, List.set_cons_succ]
          refine reg_take (i := 1) (v := ?vf1) rfl (by kernel_rfl) rfl hHeld ?yf1 ?rf1
          case yf1 => (intro w hSw; (try dsimp only at hSw); go_simp; all_goals with_reducible rfl)
          try simp only [Act.put, List.setIfInBounds_toArray, List.set_cons_zero, List.set_cons_succ]
          refine reg_take (i := 5) (v := ?vf5) rfl (by kernel_rfl) rfl hHeld ?yf5 ?rf5
          case yf5 => (intro w hSw; (try dsimp only at hSw); go_simp; all_goals with_reducible rfl)
          try simp only [Act.put, List.setIfInBounds_toArray, List.set_cons_zero, List.set_cons_succ]
          refine reg_take (i := 6) (v := ?vf6) rfl (by kernel_rfl) rfl hHeld ?yf6 ?rf6
          case yf6 => (intro w hSw; (try dsimp only at hSw); go_simp; all_goals with_reducible rfl)
          try simp only [Act.put, List.setIfInBounds_toArray, List.set_cons_zero, List.set_cons_succ]
          refine reg_take (i := 7) (v := ?vf7) rfl (by kernel_rfl) rfl hHeld ?yf7 ?rf7
          case yf7 => (intro w hSw; (try dsimp only at hSw); go_simp; all_goals with_reducible rfl)
          try simp only [Act.put, List.setIfInBounds_toArray, List.set_cons_zero, List.set_cons_succ]
          refine reg_loud (i := 2) rfl (by kernel_rfl) rfl (fun K hK => ?_)
          go_simp
          refine hK.out _ _ ((World.cell?_alloc_past _ _ _ hqlt).trans hHeld) (fun hNew => ?_)
          clear hK K hHeld
          have hHeld := hNew
          clear hNew
          try simp only [Act.put, List.setIfInBounds_toArray, List.set_cons_zero, List.set_cons_succ]
          refine reg_loud (i := 3) rfl (by kernel_rfl) rfl (fun K hK => ?_)
          go_simp
          refine HF.out.mono ?_
          rintro e w3 ⟨rfl, hA3, hb3, hc3⟩
          go_wp2_with fail
          refine hK.out _ _ ((by have h := hc3.heap (b := q) HQ.out (fun h => h rfl); rw [cell_of_row w3 q j _ _ _ h, boolsV_get, HBJ.out, HJS.out]; rfl)) (fun hNew => ?_)
          clear hK K hHeld
          have hHeld := hNew
          clear hNew
          try simp only [Act.put, List.setIfInBounds_toArray, List.set_cons_zero, List.set_cons_succ]
          refine reg_take (i := 4) (v := ?vf4) rfl (by kernel_rfl) rfl hHeld ?yf4 ?rf4
          case yf4 => (intro w hSw; (try dsimp only at hSw); go_simp; all_goals with_reducible rfl)
          try simp only [Act.put, List.setIfInBounds_toArray, List.set_cons_zero, List.set_cons_succ]
          refine reg_take (i := 8) (v := ?vf8) rfl (by kernel_rfl) rfl hHeld ?yf8 ?rf8
          case yf8 => (intro w hSw; (try dsimp only at hSw); go_simp; all_goals with_reducible rfl)
          try simp only [Act.put, List.setIfInBounds_toArray, List.set_cons_zero, List.set_cons_succ]
          refine reg_done (by kernel_rfl) ?_ _
          try dsimp only at hHeld
          have hlow : a.live ≤ a.T.length := by unfold Ar.live; omega
          have hq3 := hc3.heap HQ.out (fun h => h rfl)
          have HQ3 := Lib.hid hq3
          have HA3 := Lib.hid hA3
          have hlive := live_at HA3.out.at
          have HBB3 := Lib.hid (HB.out.drew.trans hb3)
          have HM := Lib.hid hM
          clear hq3 hA3 hA hcq hlive hM
          go_wp2_with fail
          refine (live_at HA3.out.at).mono ?_
          rintro e w' ⟨rfl, n, rfl⟩
          have hA5 := HA3.out.chg (S' := fun _ => False) (Chg.refl.drewN n) (fun _ hf => hf.elim)
          have HA5 := Lib.hid hA5
          clear hA5
          go_wp2_with fail
          refine (made_at HA5.out.at).mono ?_
          rintro e w' ⟨rfl, rfl⟩
          go_wp2_with fail
          go_roundw
          case rel => exact ⟨k + 1, by omega, by omega, by simp, a, Bk, rfl, rfl, HM.out, by omega, HA5.out, HQ3.out, hBl, HBK.out, below_drewN HBB3.out n⟩
          case measure => simp [intOf]; omega
        · rw [hIs] at hcq
          obtain ⟨a', hfr, hM', hlv, hT', hIs'⟩ := free_facts hok hIs
          have HF := Lib.hid (free_with (t := 3) [(j : Int)] #[.int .i64 (j : Int)] 1 hA2 hs rfl rfl (by simp) hfr)
          have HJS := Lib.hid hIs
          clear hA2 hIs
          have HM' := Lib.hid hM'
          have HLV := Lib.hid hlv
          have HT' := Lib.hid hT'
          have HIS' := Lib.hid hIs'
          have hl1 : 1 ≤ a.live := by omega
          clear hfr hM' hlv hT' hIs'
          go_wp2_with fail
          refine reg_start (fun w' => w'.cell? ⟨q, j, none⟩ = some (.bool true)) (by kernel_rfl) (hcq) (fun hHeld => ?_)
          refine reg_take (i := 0) (v := ?vt0) rfl (by kernel_rfl) rfl hHeld ?yt0 ?rt0
          case yt0 => (intro w hSw; (try dsimp only at hSw); go_simp; all_goals with_reducible rfl)
          try simp only [Act.put, List.setIfInBounds_toArray, List.set_cons_zero, List.set_cons_succ]
          refine reg_take (i := 1) (v := ?vt1) rfl (by kernel_rfl) rfl hHeld ?yt1 ?rt1
          case yt1 => (intro w hSw; (try dsimp only at hSw); go_simp; all_goals with_reducible rfl)
          try simp only [Act.put, List.setIfInBounds_toArray, List.set_cons_zero, List.set_cons_succ]
          refine reg_take (i := 5) (v := ?vt5) rfl (by kernel_rfl) rfl hHeld ?yt5 ?rt5
          case yt5 => (intro w hSw; (try dsimp only at hSw); go_simp; all_goals with_reducible rfl)
          try simp only [Act.put, List.setIfInBounds_toArray, List.set_cons_zero, List.set_cons_succ]
          refine reg_take (i := 6) (v := ?vt6) rfl (by kernel_rfl) rfl hHeld ?yt6 ?rt6
          case yt6 => (intro w hSw; (try dsimp only at hSw); go_simp; all_goals with_reducible rfl)
          try simp only [Act.put, List.setIfInBounds_toArray, List.set_cons_zero, List.set_cons_succ]
          refine reg_take (i := 7) (v := ?vt7) rfl (by kernel_rfl) rfl hHeld ?yt7 ?rt7
          case yt7 => (intro w hSw; (try dsimp only at hSw); go_simp; all_goals with_reducible rfl)
          try simp only [Act.put, List.setIfInBounds_toArray, List.set_cons_zero, List.set_cons_succ]
          refine reg_loud (i := 2) rfl (by kernel_rfl) rfl (fun K hK => ?_)
          go_simp
          refine hK.out _ _ ((World.cell?_alloc_past _ _ _ hqlt).trans hHeld) (fun hNew => ?_)
          clear hK K hHeld
          have hHeld := hNew
          clear hNew
          try simp only [Act.put, List.setIfInBounds_toArray, List.set_cons_zero, List.set_cons_succ]
          refine reg_loud (i := 3) rfl (by kernel_rfl) rfl (fun K hK => ?_)
          go_simp
          refine HF.out.mono ?_
          rintro e w3 ⟨rfl, hA3, hb3, hc3⟩
          go_wp2_with fail
          refine hK.out _ _ ((by have h := hc3.heap (b := q) HQ.out (fun h => h rfl); rw [cell_of_row w3 q j _ _ _ h, boolsV_get, HBJ.out, HJS.out]; rfl)) (fun hNew => ?_)
          clear hK K hHeld
          have hHeld := hNew
          clear hNew
          try simp only [Act.put, List.setIfInBounds_toArray, List.set_cons_zero, List.set_cons_succ]
          refine reg_take (i := 4) (v := ?vt4) rfl (by kernel_rfl) rfl hHeld ?yt4 ?rt4
          case yt4 => (intro w hSw; (try dsimp only at hSw); go_simp; all_goals with_reducible rfl)
          try simp only [Act.put, List.setIfInBounds_toArray, List.set_cons_zero, List.set_cons_succ]
          refine reg_take (i := 8) (v := ?vt8) rfl (by kernel_rfl) rfl hHeld ?yt8 ?rt8
          case yt8 => (intro w hSw; (try dsimp only at hSw); go_simp; all_goals with_reducible rfl)
          try simp only [Act.put, List.setIfInBounds_toArray, List.set_cons_zero, List.set_cons_succ]
          refine reg_done (by kernel_rfl) ?_ _
          try dsimp only at hHeld
          have hlow : a.live ≤ a.T.length := by unfold Ar.live; omega
          have hq3 := hc3.heap HQ.out (fun h => h rfl)
          have hfq := frozen_of_row w3 q j _ _ hq3
          have hA4 : ArWith w.heap.size (w3.setCell ⟨q, j, none⟩ (.bool false)) p a' (fun k => k = q) := hA3.chg (S' := fun k => k = q) ((Chg.refl (S := fun k => k = q)).setCell ⟨q, j, none⟩ (Or.inl rfl) _) (fun k hk => Or.inl hk)
          have hq4 : (w3.setCell ⟨q, j, none⟩ (.bool false)).heap[q]? = some (.cells (boolsV (Bk.set j false)) 55 (0, 0)) := by rw [heap_set_cells hq3 j (.bool false), boolsV_set]
          have hb4 : Below w.heap.size w (w3.setCell ⟨q, j, none⟩ (.bool false)) := (HB.out.drew.trans hb3).setCell hqB _
          have HQ4 := Lib.hid hq4
          have HB4 := Lib.hid hb4
          have hlv2 : ((a'.live : Nat) : Int) = (a.live : Int) - 1 := by have := HLV.out; omega
          have htl2 : ((a'.T.length : Nat) : Int) = (a.T.length : Int) := by have := HT'.out; omega
          have hT3 : a'.T.length ≤ k + 1 := by have := HT'.out; omega
          have HLV2 := Lib.hid hlv2
          have HTL2 := Lib.hid htl2
          have HT3 := Lib.hid hT3
          have hend : ∀ i : Nat, i < 200 → (Bk.set j false)[i]? = some (arIs a'.T i) := by
            intro i hi
            rw [List.getElem?_set, HIS'.out i]
            by_cases e : j = i
            · subst e; rw [if_pos rfl, if_pos (by omega), if_pos rfl]
            · rw [if_neg e, if_neg (fun h => e h.symm)]; exact HBK.out i hi
          have HEND := Lib.hid hend
          have HA4 := Lib.hid hA4
          have HM := Lib.hid (HM'.out.trans hM)
          clear hq3 hA3 hA hcq hM hq4 hb4 hlv2 htl2 hT3 hend hA4
          go_wp2_with fail
          refine (live_at HA4.out.at).mono ?_
          rintro e w' ⟨rfl, n, rfl⟩
          rw [HLV2.out]
          have hA5 := HA4.out.chg (S' := fun _ => False) (Chg.refl.drewN n) (fun _ hf => hf.elim)
          have HA5 := Lib.hid hA5
          clear hA5
          go_wp2_with fail
          refine (made_at HA5.out.at).mono ?_
          rintro e w' ⟨rfl, rfl⟩
          rw [HTL2.out]
          go_wp2_with fail
          go_roundw
          case rel =>
            refine ⟨k + 1, by omega, by omega, by simp, a', Bk.set j false, ?_, ?_, HM.out, HT3.out, HA5.out, HQ4.out, by simpa using hBl, HEND.out, below_drewN HB4.out n⟩
            · rw [HLV2.out]
            · rw [HTL2.out]
          case measure => simp [intOf]; omega
    · have hend : ((k : Int) < (l.length : Int) → decide ((k : Int) < 150) = false) := by intro h; simp; omega
      by_cases h2 : k < l.length
      · have hd := hend (by omega)
        clear hend
        go_wp2_with (go_at_call 33; refine (told3_any _).mono ?_; rintro e w' ⟨rfl, hbt⟩)
        go_ret
        exact ⟨rfl, hb.trans (hbt.mono hs)⟩
      · clear hend
        go_wp2_with (go_at_call 33; refine (told3_any _).mono ?_; rintro e w' ⟨rfl, hbt⟩)
        go_ret
        exact ⟨rfl, hb.trans (hbt.mono hs)⟩

end Go.Proofs.Yteapkoomingdfaa
