/- The law ArenaPlays: two arenas side by side, the program's and the document's, are one and the same list of nodes. -/
import Derived.Test.YtilofffnolnokaaArenaL
import Derived.Test.YtilofffnolnokaaArenaQF
import Derived.Test.YtilofffnolnokaaArgsQ
import Derived.Deep.DeepCutAuto
import Derived.Deep.CutBlock
import Derived.Deep.CutRange
namespace Go.Proofs.Ytilofffnolnokaa
set_option linter.unusedVariables false
set_option linter.unusedSimpArgs false
open Go.RowKit

/-- Two arenas side by side: their blocks lie from B on, are none of X, and apart. -/
def AA (B : Nat) (X : Nat → Prop) (w : World) (p q : Nat) (a b : Ar) : Prop := ∃ S R, IsArena w p S a ∧ RfS w q R b ∧ (∀ k, S k → B ≤ k ∧ ¬ X k ∧ ¬ R k) ∧ (∀ k, R k → B ≤ k ∧ ¬ X k)
def exA (B : Nat) (X : Nat → Prop) (k : Nat) : Prop := B ≤ k ∧ ¬ X k

section
variable {B : Nat} {X : Nat → Prop} {w w' : World} {p q : Nat} {a b : Ar}
theorem AA.below (h : AA B X w p q a b) (hb : Below w.heap.size w w') : AA B X w' p q a b := by
  obtain ⟨S, R, h1, h2, h3, h4⟩ := h
  exact ⟨S, R, h1.chg (S' := fun _ => False) (Chg.of_below hb) (fun _ _ hf => hf), h2.chg (S := fun _ => False) (Chg.of_below hb) (fun _ _ hf => hf), h3, h4⟩
theorem AA.drewN (h : AA B X w p q a b) (n : Nat) : AA B X (w.drewN n) p q a b := h.below ⟨rfl, rfl, rfl, Nat.le_refl _, fun _ _ => rfl⟩
theorem AA.wide (h : AA B X w p q a b) {Y : Nat → Prop} (hy : ∀ k, Y k → k < B ∨ w.heap.size ≤ k) : AA B Y w p q a b := by
  obtain ⟨S, R, h1, h2, h3, h4⟩ := h
  exact ⟨S, R, h1, h2, fun k hk => ⟨(h3 k hk).1, fun hx => by have := (h3 k hk).1; have := h1.lt k hk; have := hy k hx; omega, (h3 k hk).2.2⟩, fun k hk => ⟨(h4 k hk).1, fun hx => by have := (h4 k hk).1; have := h2.lt hk; have := hy k hx; omega⟩⟩
theorem AA.mono (h : AA B X w p q a b) {Y : Nat → Prop} (hy : ∀ k, Y k → X k) : AA B Y w p q a b := by
  obtain ⟨S, R, h1, h2, h3, h4⟩ := h
  exact ⟨S, R, h1, h2, fun k hk => ⟨(h3 k hk).1, fun hx => (h3 k hk).2.1 (hy k hx), (h3 k hk).2.2⟩, fun k hk => ⟨(h4 k hk).1, fun hx => (h4 k hk).2 (hy k hx)⟩⟩
theorem AA.ok1 (h : AA B X w p q a b) : a.Ok := by obtain ⟨S, R, h1, h2, h3, h4⟩ := h; exact h1.ok
theorem AA.step1 (h : AA B X w p q a b) (hB : B ≤ w.heap.size) (hX : ∀ k, X k → k < w.heap.size) {S : Nat → Prop} {a' : Ar} (hst : ∀ S R, IsArena w p S a → RfS w q R b → (∀ k, S k → B ≤ k ∧ ¬ X k ∧ ¬ R k) → (∀ k, R k → B ≤ k ∧ ¬ X k) → ArStep w w' p S a') : AA B X w' p q a' b ∧ Chg (exA B X) w w' := by
  obtain ⟨S, R, h1, h2, h3, h4⟩ := h
  obtain ⟨S', h1', hc, hS'⟩ := hst S R h1 h2 h3 h4
  refine ⟨⟨S', R, h1', h2.chg hc (fun k hR hS => (h3 k hS).2.2 hR), fun k hk => ?_, h4⟩, hc.mono (fun k hk => ⟨(h3 k hk).1, (h3 k hk).2.1⟩)⟩
  rcases hS' k hk with h | h
  · exact h3 k h
  · exact ⟨by omega, fun hx => by have := hX k hx; omega, fun hr => by have := h2.lt hr; omega⟩
theorem AA.take1 (h : AA B X w p q a b) (hB : B ≤ w.heap.size) (hX : ∀ k, X k → k < w.heap.size) :
    Calls Try.prog 7 #[.pointer (some ⟨p, 0, none⟩)] w fun e w' => e = .returned (.tuple #[.int .i64 a.take.1, .int .i64 a.take.2.1]) ∧ AA B X w' p q a.take.2.2 b ∧ Chg (exA B X) w w' := by
  obtain ⟨S, R, h1, h2, h3, h4⟩ := h
  refine (arTake_any h1).mono ?_
  rintro e w' ⟨rfl, S', h1', hc, hS'⟩
  refine ⟨rfl, ⟨S', R, h1', h2.chg hc (fun k hR hS => (h3 k hS).2.2 hR), fun k hk => ?_, h4⟩, hc.mono (fun k hk => ⟨(h3 k hk).1, (h3 k hk).2.1⟩)⟩
  rcases hS' k hk with h | h
  · exact h3 k h
  · exact ⟨by omega, fun hx => by have := hX k hx; omega, fun hr => by have := h2.lt hr; omega⟩
theorem AA.take2 (h : AA B X w p q a b) (hB : B ≤ w.heap.size) (hX : ∀ k, X k → k < w.heap.size) :
    Calls Try.prog 8 #[.pointer (some ⟨q, 0, none⟩)] w fun e w' => e = .returned (.tuple #[.int .i64 b.take.1, .int .i64 b.take.2.1]) ∧ AA B X w' p q a b.take.2.2 ∧ Chg (exA B X) w w' := by
  obtain ⟨S, R, h1, h2, h3, h4⟩ := h
  refine (rfTake_any h2).mono ?_
  rintro e w' ⟨rfl, R', h2', hc, hR'⟩
  refine ⟨rfl, ⟨S, R', h1.chg hc (fun k hS hR => (h3 k hS).2.2 hR), h2', fun k hk => ⟨(h3 k hk).1, (h3 k hk).2.1, fun hr => ?_⟩, fun k hk => ?_⟩, hc.mono (fun k hk => h4 k hk)⟩
  · rcases hR' k hr with h | h
    · exact (h3 k hk).2.2 h
    · have := h1.lt k hk; omega
  · rcases hR' k hk with h | h
    · exact h4 k h
    · exact ⟨by omega, fun hx => by have := hX k hx; omega⟩
theorem AA.free1 (h : AA B X w p q a b) (hB : B ≤ w.heap.size) (hX : ∀ k, X k → k < w.heap.size) (l : List Int) (la : Option Addr) (lc : Nat) (hl : Reads w .i64 la l) (hnil : la = none → l.length = 0 ∧ lc = 0) (hsep : 0 < l.length → ∀ ad, la = some ad → ad.block < B) (hlen : l.length ≤ 1000000) (hlc : l.length ≤ lc) :
    Calls Try.prog 9 #[.pointer (some ⟨p, 0, none⟩), .slice la l.length lc] w fun e w' => e = .returned (.int .i64 (a.free l).1) ∧ AA B X w' p q (a.free l).2 b ∧ Chg (exA B X) w w' := by
  obtain ⟨S, R, h1, h2, h3, h4⟩ := h
  refine (arFree_w h1 l la lc hl hnil (fun h0 ad e hs => by have := hsep h0 ad e; have := (h3 _ hs).1; omega) (by omega) hlc).mono ?_
  rintro e w' ⟨rfl, S', h1', hc, hS'⟩
  refine ⟨rfl, ⟨S', R, h1', h2.chg hc (fun k hR hS => (h3 k hS).2.2 hR), fun k hk => ?_, h4⟩, hc.mono (fun k hk => ⟨(h3 k hk).1, (h3 k hk).2.1⟩)⟩
  rcases hS' k hk with h | h
  · exact h3 k h
  · exact ⟨by omega, fun hx => by have := hX k hx; omega, fun hr => by have := h2.lt hr; omega⟩
theorem AA.free2 (h : AA B X w p q a b) (hB : B ≤ w.heap.size) (hX : ∀ k, X k → k < w.heap.size) (l : List Int) (la : Option Addr) (lc : Nat) (hl : Reads w .i64 la l) (hsep : 0 < l.length → ∀ ad, la = some ad → ad.block < B) (hlen : l.length ≤ 1000000) :
    Calls Try.prog 10 #[.pointer (some ⟨q, 0, none⟩), .slice la l.length lc] w fun e w' => e = .returned (.int .i64 (b.free l).1) ∧ AA B X w' p q a (b.free l).2 ∧ Chg (exA B X) w w' := by
  obtain ⟨S, R, h1, h2, h3, h4⟩ := h
  refine (rfFree_any h2 l la lc hl (fun h0 ad e hs => by have := hsep h0 ad e; have := (h4 _ hs).1; omega) hlen).mono ?_
  rintro e w' ⟨rfl, R', h2', hc, hR'⟩
  refine ⟨rfl, ⟨S, R', h1.chg hc (fun k hS hR => (h3 k hS).2.2 hR), h2', fun k hk => ⟨(h3 k hk).1, (h3 k hk).2.1, fun hr => ?_⟩, fun k hk => ?_⟩, hc.mono (fun k hk => h4 k hk)⟩
  · rcases hR' k hr with h | h
    · exact (h3 k hk).2.2 h
    · have := h1.lt k hk; omega
  · rcases hR' k hk with h | h
    · exact h4 k h
    · exact ⟨by omega, fun hx => by have := hX k hx; omega⟩
theorem AA.live1 (h : AA B X w p q a b) : Calls Try.prog 11 #[.pointer (some ⟨p, 0, none⟩)] w fun e w' => e = .returned (.int .i64 a.live) ∧ ∃ n, w' = w.drewN n := by
  obtain ⟨S, R, h1, h2, h3, h4⟩ := h; exact arLive_any h1
theorem AA.live2 (h : AA B X w p q a b) : Calls Try.prog 12 #[.pointer (some ⟨q, 0, none⟩)] w fun e w' => e = .returned (.int .i64 b.live) ∧ ∃ n, w' = w.drewN n := by
  obtain ⟨S, R, h1, h2, h3, h4⟩ := h; exact rfLive_any h2
theorem AA.made1 (h : AA B X w p q a b) : Calls Try.prog 13 #[.pointer (some ⟨p, 0, none⟩)] w fun e w' => e = .returned (.int .i64 a.T.length) ∧ w = w' := by
  obtain ⟨S, R, h1, h2, h3, h4⟩ := h; exact arMade_any h1
theorem AA.is1 (h : AA B X w p q a b) (k : Int) : Calls Try.prog 14 #[.pointer (some ⟨p, 0, none⟩), .int .i64 k] w fun e w' => e = .returned (.bool (arIs a.T k)) ∧ w = w' := by
  obtain ⟨S, R, h1, h2, h3, h4⟩ := h; exact arIs_any k h1
theorem AA.is2 (h : AA B X w p q a b) (k : Int) : Calls Try.prog 15 #[.pointer (some ⟨q, 0, none⟩), .int .i64 k] w fun e w' => e = .returned (.bool (arIs b.T k)) ∧ w = w' := by
  obtain ⟨S, R, h1, h2, h3, h4⟩ := h; exact rfIs_any k h2
theorem AA.row (h : AA B X w p q a b) : ∃ ta tc, w.cell? ⟨q, 1, none⟩ = some (.slice ta b.T.length tc) := by
  obtain ⟨S, R, h1, ⟨ta, tc, ga, gc, h2, _⟩, h3, h4⟩ := h; exact ⟨ta, tc, h2.c1⟩
end

theorem aaKeep {B : Nat} {X : Nat → Prop} {w w' : World} {p q : Nat} {a b : Ar} {v : Value} (h : w'.cell? ⟨q, 1, none⟩ = some v ∧ AA B X w' p q a b ∧ Below B w w') (n : Nat) :
    (w'.drewN n).cell? ⟨q, 1, none⟩ = some v ∧ AA B X (w'.drewN n) p q a b ∧ Below B w (w'.drewN n) := ⟨h.1, h.2.1.drewN n, below_drewN h.2.2 n⟩
theorem tmod5 (x : Int) : -4 ≤ x.tmod 5 ∧ x.tmod 5 ≤ 4 ∧ (0 ≤ x → 0 ≤ x.tmod 5) := by
  rcases Int.le_total 0 x with h | h
  · rw [Int.tmod_eq_emod_of_nonneg h]; omega
  · obtain ⟨y, rfl⟩ : ∃ y, x = -y := ⟨-x, by omega⟩
    rw [Int.neg_tmod, Int.tmod_eq_emod_of_nonneg (by omega)]; omega
theorem rngI {q : Int} (h : (Lit.int .i64 q).wf = true) : -9223372036854775808 ≤ q ∧ q ≤ 9223372036854775807 := by
  simp [Lit.wf, IntKind.min, IntKind.max, IntKind.signed, IntKind.bits] at h
  omega

set_option maxHeartbeats 3200000 in
set_option maxRecDepth 100000 in
theorem walk_ArenaPlays (w : World) (most : Int) (w0 : (Lit.int .i64 most).wf = true) (a0 : Option Addr) (c0 : Nat) (l : List (Int × Row)) (w1 : ArgQ w a0 c0 l) :
    Calls Try.prog 3 #[.int .i64 most, .slice a0 l.length c0] w fun e w' => e = .returned (.bool true) ∧ Below w.heap.size w w' := by
  have hrd := w1.reads
  have hle := w1.le
  have hmx : c0 ≤ 9223372036854775807 := w1.max
  obtain ⟨hm0, hm1⟩ := rngI w0
  clear w0 w1
  by_cases hbad : most < 0 ∨ 268435456 < most
  · go_enter Try.func3, Try.ntmps3
    go_wp2_with fail
    refine (arNew_bad most w hbad).mono ?_
    rintro e w' ⟨rfl, rfl⟩
    go_wp2_with fail
    refine (rfNew_bad most w hbad).mono ?_
    rintro e w' ⟨rfl, rfl⟩
    go_wp2_with fail
    refine (told3_any _).mono ?_
    rintro e w5 ⟨rfl, hb9⟩
    go_wp2_with fail
    go_ret
    exact ⟨rfl, hb9⟩
  obtain ⟨m, rfl⟩ := Int.eq_ofNat_of_zero_le (by omega : 0 ≤ most)
  have hml : m ≤ 268435456 := by omega
  clear hbad hm0 hm1
  go_enter Try.func3, Try.ntmps3
  go_wp2_with fail
  refine (arNew_good m w hml).mono ?_
  rintro e w1 ⟨rfl, hA, hc1⟩
  go_wp2_with fail
  refine (rfNew_good m w1 hml).mono ?_
  rintro e w2 ⟨rfl, hR, hc2⟩
  have hA0 : AA w.heap.size (fun _ => False) w2 w.heap.size w1.heap.size (Ar.new m) (Ar.new m) := by
    have h1 := hA.lt _ rfl
    exact ⟨_, _, hA.chg hc2 (fun _ _ hf => hf), hR, fun k hk => ⟨by omega, id, by omega⟩, fun k hk => ⟨by omega, id⟩⟩
  have hb0 : Below w.heap.size w w2 := (hc1.trans (S' := fun _ => False) hc2 (fun b hb => hb.elim)).below (fun b hb => hb.elim) (Nat.le_refl _)
  clear hA hR hc1 hc2
  have HA0 := Lib.hid hA0
  have HB0 := Lib.hid hb0
  obtain ⟨p, hp⟩ : ∃ p, w.heap.size = p := ⟨_, rfl⟩
  obtain ⟨q, hq⟩ : ∃ q, w1.heap.size = q := ⟨_, rfl⟩
  rw [hq] at HA0 ⊢
  clear hA0 hb0 hq hp p
  by_cases hlen : 100 < l.length
  · have d1 : decide ((100 : Int) < (l.length : Int)) = true := decide_eq_true (by omega)
    go_wp2_with fail
    refine (told3_any _).mono ?_
    rintro e w5 ⟨rfl, hb9⟩
    go_wp2_with fail
    go_ret
    exact ⟨rfl, HB0.out.trans (hb9.mono HB0.out.size)⟩
  have d1 : decide ((100 : Int) < (l.length : Int)) = false := decide_eq_false (by omega)
  go_wp2_with fail
  go_loopw [7] (fun i wr => ∃ (k : Nat) (a : Ar), k ≤ l.length ∧ i = .int .i64 k ∧ AA w.heap.size (fun _ => False) wr w.heap.size q a a ∧ Below w.heap.size w wr) (fun i _ => l.length - (intOf i).toNat)
  case atStart => exact ⟨0, _, Nat.zero_le _, rfl, HA0.out, HB0.out⟩
  case round => as_aux_lemma =>
    obtain ⟨k, a, hk, rfl, hA, hb⟩ := hrel
    have HA := Lib.hid hA
    have HB := Lib.hid hb
    by_cases hlt : k < l.length
    · obtain ⟨b, off, rfl, hbl, hcells⟩ := hrd k hlt
      obtain ⟨hc0, hc1, hrow⟩ := hcells k hlt
      have hcx0 := (hb.cell (p := ⟨b, off + k * 2, none⟩) hbl).trans hc0
      have hcx1 := (hb.cell (p := ⟨b, off + k * 2 + 1, none⟩) hbl).trans hc1
      generalize l[k]?.getD default = o at *
      obtain ⟨kd, oa, ocap, ol⟩ := o
      have HROW := Lib.hid hrow
      clear hcells hc0 hc1 hrow hA hb
      try dsimp only at hcx0 hcx1
      have hkc : (0 : Int) ≤ (k : Int) := by omega
      have hkc2 : (k : Int) < (l.length : Int) := by omega
      have hs := HB.out.size
      have HL : Hid (Reads w .i64 oa ol ∧ (oa = none → ol.length = 0 ∧ ocap = 0) ∧ (0 < ol.length → ∀ ad, oa = some ad → ad.block < w.heap.size) ∧ ol.length ≤ ocap) := Lib.hid (by
        have h := HROW.out
        dsimp only at h
        exact ⟨h.reads, fun e => ⟨by have := h.le; have := h.nil e; omega, h.nil e⟩, fun h0 ad e => by obtain ⟨b', off', e2, hl2, _⟩ := h.reads.some h0; rw [e] at e2; cases e2; exact hl2, h.le⟩)
      obtain ⟨hx1, hx2, hx3⟩ := tmod5 kd
      obtain ⟨x, hx⟩ : ∃ x, kd.tmod 5 = x := ⟨_, rfl⟩
      rw [hx] at hx1 hx2 hx3
      have hw : IntKind.i64.wrap (x + 5) = x + 5 := IntWalk.i64_in _ (by omega)
      obtain ⟨y, hy⟩ : ∃ y, (x + 5).tmod 5 = y := ⟨_, rfl⟩
      by_cases h6 : 6 < ol.length
      · have d6 : decide ((6 : Int) < (ol.length : Int)) = true := decide_eq_true (by omega)
        go_wp2_with fail
        refine (told3_any _).mono ?_
        rintro e w5 ⟨rfl, hb9⟩
        go_wp2_with fail
        go_ret
        exact ⟨rfl, (HB.out.alloc hs _).trans (hb9.mono (HB.out.alloc hs _).size)⟩
      have d6 : decide ((6 : Int) < (ol.length : Int)) = false := decide_eq_false (by omega)
      have hk0 := heap_alloc_new wr (.cells #[.int .i64 kd, .slice oa ol.length ocap] 30)
      have hc0 : (wr.alloc (.cells #[.int .i64 kd, .slice oa ol.length ocap] 30)).cell? ⟨wr.heap.size, 0, none⟩ = some (.int .i64 kd) := cell_of_row _ _ 0 _ _ _ hk0
      have hc1 : (wr.alloc (.cells #[.int .i64 kd, .slice oa ol.length ocap] 30)).cell? ⟨wr.heap.size, 1, none⟩ = some (.slice oa ol.length ocap) := cell_of_row _ _ 1 _ _ _ hk0
      have HA1 : Hid (AA w.heap.size (fun j => j = wr.heap.size) (wr.alloc (.cells #[.int .i64 kd, .slice oa ol.length ocap] 30)) w.heap.size q a a) :=
        Lib.hid ((HA.out.wide (fun k hk => Or.inr (by omega))).below ((Below.refl _ _).alloc (Nat.le_refl _) _))
      have HB1 : Hid (Below w.heap.size w (wr.alloc (.cells #[.int .i64 kd, .slice oa ol.length ocap] 30))) := Lib.hid (HB.out.alloc hs _)
      have hXlt : ∀ k, k = wr.heap.size → k < (wr.alloc (.cells #[.int .i64 kd, .slice oa ol.length ocap] 30)).heap.size := fun k hk => by simp; omega
      go_upto_if 51 with fail
      generalize wr.alloc (.cells #[.int .i64 kd, .slice oa ol.length ocap] 30) = W at *
      clear hcx0 hcx1 hk0 HROW
      go_cut [9, 10, 11, 12] from 31 to 110 (fun _ _ _ _ wx => ∃ a', AA w.heap.size (fun j => j = wr.heap.size) wx w.heap.size q a' a' ∧ Below w.heap.size w wx)
      case first => as_aux_lemma =>
        by_cases h3 : y < 3
        · have d3 : decide (y < 3) = true := decide_eq_true h3
          obtain ⟨⟨t1, t2, a'⟩, ht⟩ : ∃ z, a.take = z := ⟨_, rfl⟩
          have HTK := Lib.hid ht
          clear ht
          go_wp2_with fail
          refine (HA1.out.take1 HB1.out.size hXlt).mono ?_
          rw [HTK.out]
          rintro e w5 ⟨rfl, hA5, hc5⟩
          have HA5 := Lib.hid hA5
          have HB5 := Lib.hid (HB1.out.trans (hc5.below (fun b hb => hb.1) HB1.out.size))
          have hX5 : ∀ k, k = wr.heap.size → k < w5.heap.size := fun k hk => by have := hXlt k hk; have := hc5.size; omega
          clear hA5 hc5
          go_wp2_with fail
          refine (HA5.out.take2 HB5.out.size hX5).mono ?_
          rw [HTK.out]
          rintro e w6 ⟨rfl, hA6, hc6⟩
          have HA6 := Lib.hid hA6
          have HB6 := Lib.hid (HB5.out.trans (hc6.below (fun b hb => hb.1) HB5.out.size))
          clear hA6 hc6
          go_wp2_with fail
          go_meet
          case rel => exact ⟨a', HA6.out, HB6.out⟩
        · have d3 : decide (y < 3) = false := decide_eq_false h3
          obtain ⟨⟨t1, a'⟩, ht⟩ : ∃ z, a.free ol = z := ⟨_, rfl⟩
          have HFR := Lib.hid ht
          clear ht
          go_upto_region 19 with fail
          -- REGION fr
          refine reg_start (fun w' => w'.cell? ⟨wr.heap.size, 1, none⟩ = some (.slice oa ol.length ocap)) (by kernel_rfl) (hc1) (fun hHeld => ?_)
          refine rt 0 hHeld ?_
          refine rt 1 hHeld ?_
          refine rt 2 hHeld ?_
          refine rt 4 hHeld ?_
          refine rt 5 hHeld ?_
          refine rt 6 hHeld ?_
          refine reg_loud (i := 3) rfl (by kernel_rfl) rfl (fun K hK => ?_)
          go_simp
          have hAd : AA w.heap.size (fun j => j = wr.heap.size) W.drew w.heap.size q a a := HA1.out.below ⟨rfl, rfl, rfl, Nat.le_refl _, fun _ _ => rfl⟩
          have hBd : Below w.heap.size w W.drew := HB1.out.drew
          refine (hAd.free1 hBd.size hXlt ol oa ocap (Reads.below HL.out.1 hBd) HL.out.2.1 HL.out.2.2.1 (by omega) HL.out.2.2.2).mono ?_
          rw [HFR.out]
          rintro e w5 ⟨rfl, hA5, hc5⟩
          have hk5 := hc5.cell (p := ⟨wr.heap.size, 1, none⟩) hc1 (fun e => e.2 rfl)
          have HA5 := Lib.hid hA5
          have HB5 := Lib.hid (hBd.trans (hc5.below (fun b hb => hb.1) hBd.size))
          have hX5 : ∀ k, k = wr.heap.size → k < w5.heap.size := fun k hk => by have := hXlt k hk; have := hc5.size; have h9 : W.drew.heap.size = W.heap.size := rfl; omega
          clear hA5 hc5 hAd hBd
          refine hK.out _ _ (hk5) (fun hNew => ?_)
          clear hK K hHeld
          have hHeld := hNew
          clear hNew
          try simp only [Act.put, List.setIfInBounds_toArray, List.set_cons_zero, List.set_cons_succ]
          refine reg_loud (i := 7) rfl (by kernel_rfl) rfl (fun K hK => ?_)
          go_simp
          refine (HA5.out.free2 HB5.out.size hX5 ol oa ocap (Reads.below HL.out.1 HB5.out) HL.out.2.2.1 (by omega)).mono ?_
          rw [HFR.out]
          rintro e w6 ⟨rfl, hA6, hc6⟩
          have hk6 := hc6.cell hHeld (fun e => e.2 rfl)
          have HA6 := Lib.hid hA6
          have HB6 := Lib.hid (HB5.out.trans (hc6.below (fun b hb => hb.1) HB5.out.size))
          clear hA6 hc6
          refine hK.out _ _ (hk6) (fun hNew => ?_)
          clear hK K hHeld
          have hHeld := hNew
          clear hNew
          try simp only [Act.put, List.setIfInBounds_toArray, List.set_cons_zero, List.set_cons_succ]
          refine rt 8 hHeld ?_
          refine reg_done (by kernel_rfl) ?_ _
          -- END OF REGION fr
          clear hHeld
          go_wp2_with fail
          go_meet
          case rel => exact ⟨a', HA6.out, HB6.out⟩
      case rest => as_aux_lemma =>
        clear HA1 HB1 hc0 hc1 hXlt HA HB
        obtain ⟨a', hA7, hB7⟩ := hcut
        have HA7 := Lib.hid hA7
        have HB7 := Lib.hid hB7
        obtain ⟨ta, tc, hrow7⟩ := hA7.row
        have hmx7 := hA7.ok1.max
        have hle7 := hA7.ok1.le
        have hfl7 := hA7.ok1.fle
        clear hA7 hB7
        go_upto_region 21 with fail
        -- REGION lv
        refine reg_start (fun w' => w'.cell? ⟨q, 1, none⟩ = some (.slice ta a'.T.length tc) ∧ AA w.heap.size (fun j => j = wr.heap.size) w' w.heap.size q a' a' ∧ Below w.heap.size w w') (by kernel_rfl) (aaKeep ⟨hrow7, HA7.out, HB7.out⟩ 1) (fun hHeld => ?_)
        refine rt 0 hHeld ?_
        refine rt 2 hHeld ?_
        refine reg_loud (i := 1) rfl (by kernel_rfl) rfl (fun K hK => ?_)
        go_simp
        refine hHeld.2.1.live1.mono ?_
        rintro e w8 ⟨rfl, n8, hw8⟩
        have hk8 := aaKeep hHeld n8
        rw [← hw8] at hk8
        clear hw8
        refine hK.out _ _ (hk8) (fun hNew => ?_)
        clear hK K hHeld
        have hHeld := hNew
        clear hNew
        try simp only [Act.put, List.setIfInBounds_toArray, List.set_cons_zero, List.set_cons_succ]
        refine reg_loud (i := 3) rfl (by kernel_rfl) rfl (fun K hK => ?_)
        go_simp
        refine hHeld.2.1.live2.mono ?_
        rintro e w9 ⟨rfl, n9, hw9⟩
        have hk9 := aaKeep hHeld n9
        rw [← hw9] at hk9
        clear hw9
        refine hK.out _ _ (hk9) (fun hNew => ?_)
        clear hK K hHeld
        have hHeld := hNew
        clear hNew
        try simp only [Act.put, List.setIfInBounds_toArray, List.set_cons_zero, List.set_cons_succ]
        refine rt 4 hHeld ?_
        refine rt 5 hHeld ?_
        refine rt 6 hHeld ?_
        refine rt 8 hHeld ?_
        refine rt 9 hHeld ?_
        refine rt 10 hHeld ?_
        refine rt 11 hHeld ?_
        refine rt 12 hHeld ?_
        refine reg_loud (i := 7) rfl (by kernel_rfl) rfl (fun K hK => ?_)
        go_simp
        refine hHeld.2.1.made1.mono ?_
        rintro e w' ⟨rfl, rfl⟩
        refine hK.out _ _ (hHeld) (fun hNew => ?_)
        clear hK K hHeld
        have hHeld := hNew
        clear hNew
        try simp only [Act.put, List.setIfInBounds_toArray, List.set_cons_zero, List.set_cons_succ]
        refine rt 13 hHeld ?_
        refine rt 14 hHeld ?_
        refine reg_done (by kernel_rfl) ?_ _
        -- END OF REGION lv
        obtain ⟨_, hA8, hB8⟩ := hHeld
        have HA8 := Lib.hid hA8
        have HB8 := Lib.hid hB8
        clear hA8 hB8 hrow7 HA7 HB7
        go_wp2_with fail
        go_loopw [13] (fun i wi => ∃ n : Nat, n ≤ a'.T.length + 3 ∧ i = .int .i64 ((n : Int) - 1) ∧ AA w.heap.size (fun j => j = wr.heap.size) wi w.heap.size q a' a' ∧ Below w.heap.size w wi) (fun i _ => a'.T.length + 4 - (intOf i + 1).toNat)
        case atStart => exact ⟨0, by omega, rfl, HA8.out, HB8.out⟩
        case round => as_aux_lemma =>
          clear HA8 HB8
          obtain ⟨n, hn, rfl, hA9, hB9⟩ := hrel
          have HA9 := Lib.hid hA9
          have HB9 := Lib.hid hB9
          obtain ⟨t9, c9, hrow9⟩ := hA9.row
          clear hA9 hB9
          have hw2 : IntKind.i64.wrap ((a'.T.length : Int) + 2) = (a'.T.length : Int) + 2 := IntWalk.i64_in _ (by omega)
          have hw3 : IntKind.i64.wrap ((n : Int) - 1 + 1) = ((n + 1 : Nat) : Int) - 1 := by rw [IntWalk.i64_in _ (by omega)]; omega
          obtain ⟨x9, hx9⟩ : ∃ x9, (n : Int) - 1 = x9 := ⟨_, rfl⟩
          rw [hx9] at hw3
          by_cases hlt9 : n < a'.T.length + 3
          · have d9 : decide (x9 < (a'.T.length : Int) + 2) = true := decide_eq_true (by omega)
            rw [hx9]
            go_wp2_with fail
            refine (HA9.out.is1 x9).mono ?_
            rintro e w' ⟨rfl, rfl⟩
            go_wp2_with fail
            refine (HA9.out.is2 x9).mono ?_
            rintro e w' ⟨rfl, rfl⟩
            go_wp2_with fail
            go_roundw
            case rel => exact ⟨n + 1, by omega, by congr 1; omega, HA9.out, HB9.out⟩
            case measure => simp [intOf]; omega
          · have d9 : decide (x9 < (a'.T.length : Int) + 2) = false := decide_eq_false (by omega)
            rw [hx9]
            go_wp2_with fail
            go_roundw
            case rel => exact ⟨k + 1, a', by omega, by go_num, HA9.out.mono (fun k hf => hf.elim), HB9.out⟩
            case measure => simp [intOf]; omega
    · obtain rfl : k = l.length := by omega
      clear hA hb
      go_wp2_with fail
      refine (told3_any _).mono ?_
      rintro e w5 ⟨rfl, hb9⟩
      go_wp2_with fail
      go_ret
      exact ⟨rfl, HB.out.trans (hb9.mono HB.out.size)⟩

end Go.Proofs.Ytilofffnolnokaa
