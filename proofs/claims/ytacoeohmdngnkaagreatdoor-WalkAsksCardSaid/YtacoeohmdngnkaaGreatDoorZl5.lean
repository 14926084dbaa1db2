/- Lemmas and contracts under the claims of this seat: Contracts of package sym's small functions (Is, Of, Byte, Bit, Path), for whatever arguments. Package sym's answers in natural numbers. Contracts of package wave: look, rank, next, Len, Visits. Contracts of package wave: rank (of a shelf). Contract of package wave: Rank. Contract of package wave: Get. Contract of package wave: Select. Plain laws of ranks and places of symbols; of no program. Plain laws of rows and the transform: one row to another, first symbols, narrowing; of no program. Contracts of package wave: refusals, nobody, Len, Visits, Level. Contracts of package wave: All, Level. -/
import Derived.Test.YtacoeohmdngnkaaGreatDoorProg
import Derived.WalkKit
import Derived.WalkLawsBesides
import Derived.Lib.Hide
import Derived.Lib.RabinKarpLaws
import Derived.Test.YtacoeohmdngnkaaGreatDoorZl1
import Derived.Test.YtacoeohmdngnkaaGreatDoorZl4
import Derived.Test.YtacoeohmdngnkaaGreatDoorZl2
import Derived.IntWalk

namespace Go.Proofs.YtacoeohmdngnkaaGreatDoor
open Go.RowKit

/-- A number is a symbol. -/
def symIs (s : Int) : Bool := decide (0 ≤ s ∧ s < 257)
/-- A symbol's path of a level. -/
def symPath (s l : Int) : Int := if 0 ≤ s ∧ s < 257 ∧ 0 ≤ l ∧ l ≤ 9 then s / 2 ^ (9 - l).toNat else -1
/-- A symbol's bit of a level. -/
def symBit (s l : Int) : Bool := decide (0 ≤ s ∧ s < 257 ∧ 0 ≤ l ∧ l < 9 ∧ s / 2 ^ (8 - l).toNat % 2 = 1)

theorem symIs_true {s : Int} (h0 : 0 ≤ s) (h1 : s < 257) : symIs s = true := by simp [symIs, h0, h1]
theorem symIs_false {s : Int} (h : ¬ (0 ≤ s ∧ s < 257)) : symIs s = false := by simp only [symIs]; exact decide_eq_false h

theorem and_one_i64 (x : Int) (h0 : 0 ≤ x) (h1 : x < 9223372036854775808) : bits BinOp.and IntKind.i64 x 1 = x % 2 := by
  have h := Go.Proofs.and_one x.toNat (by omega)
  rw [Int.toNat_of_nonneg h0] at h
  rw [h]; omega

theorem shr_bd (s : Int) (n : Nat) (h0 : 0 ≤ s) (h1 : s < 257) : 0 ≤ s / 2 ^ n ∧ s / 2 ^ n < 257 := by
  have h2 : (0 : Int) < 2 ^ n := Int.pow_pos (by omega)
  refine ⟨Int.ediv_nonneg h0 (by omega), ?_⟩
  have := Int.ediv_le_self (2 ^ n) h0
  omega

theorem symIs_any (s : Int) (w : World) : Calls Tryz.prog 30 #[.int .i64 s] w fun e w' => e = .returned (.bool (symIs s)) ∧ w = w' := by
  by_cases h0 : 0 ≤ s
  · by_cases h1 : s < 257
    · have e : symIs s = true := symIs_true h0 h1
      rw [e]
      go_enter Tryz.func30, Tryz.ntmps30
      go_wp2
      go_ret
      exact ⟨rfl, rfl⟩
    · have e : symIs s = false := symIs_false (by omega)
      rw [e]
      go_enter Tryz.func30, Tryz.ntmps30
      go_wp2
      go_ret
      exact ⟨rfl, rfl⟩
  · have e : symIs s = false := symIs_false (by omega)
    rw [e]
    go_enter Tryz.func30, Tryz.ntmps30
    go_wp2
    go_ret
    exact ⟨rfl, rfl⟩

theorem symOf_any (b : Int) (w : World) (h0 : 0 ≤ b) (h1 : b < 256) : Calls Tryz.prog 67 #[.int .u8 b] w fun e w' => e = .returned (.int .i64 (b + 1)) ∧ w = w' := by
  go_enter Tryz.func67, Tryz.ntmps67
  go_wp2
  go_ret
  exact ⟨rfl, rfl⟩

theorem symByte_yes (s : Int) (w : World) (h0 : 1 ≤ s) (h1 : s < 257) : Calls Tryz.prog 39 #[.int .i64 s] w fun e w' => e = .returned (.tuple #[.int .u8 (s - 1), .bool true]) ∧ w = w' := by
  have e : symIs s = true := symIs_true (by omega) h1
  have hd : (s == 0) = false := by simp; omega
  go_enter Tryz.func39, Tryz.ntmps39
  go_wp2_with (go_at_call 30; refine (symIs_any _ _).mono ?_; rintro e w' ⟨rfl, rfl⟩)
  go_ret2
  exact ⟨rfl, rfl⟩

theorem symByte_no (s : Int) (w : World) (h : ¬ (1 ≤ s ∧ s < 257)) : Calls Tryz.prog 39 #[.int .i64 s] w fun e w' => e = .returned (.tuple #[.int .u8 0, .bool false]) ∧ w = w' := by
  by_cases hz : s = 0
  · subst hz
    go_enter Tryz.func39, Tryz.ntmps39
    go_wp2
    go_ret2
    exact ⟨rfl, rfl⟩
  · have e : symIs s = false := symIs_false (by omega)
    have hd : (s == 0) = false := by simp; omega
    go_enter Tryz.func39, Tryz.ntmps39
    go_wp2_with (go_at_call 30; refine (symIs_any _ _).mono ?_; rintro e w' ⟨rfl, rfl⟩)
    go_ret2
    exact ⟨rfl, rfl⟩

theorem symPath_any (s l : Int) (w : World) : Calls Tryz.prog 55 #[.int .i64 s, .int .i64 l] w fun e w' => e = .returned (.int .i64 (symPath s l)) ∧ w = w' := by
  by_cases hs : 0 ≤ s ∧ s < 257
  · have e : symIs s = true := symIs_true hs.1 hs.2
    obtain ⟨hs0, hs1⟩ := hs
    by_cases h2 : 0 ≤ l
    · have hd : decide (l < 0) = false := by simp; omega
      by_cases h3 : l ≤ 9
      · have hp : symPath s l = s / 2 ^ (9 - l).toNat := if_pos ⟨hs0, hs1, h2, h3⟩
        rw [hp]
        clear hp
        have hd2 : decide (9 < l) = false := by simp; omega
        go_enter Tryz.func55, Tryz.ntmps55
        go_wp2_with (go_at_call 30; refine (symIs_any _ _).mono ?_; rintro e w' ⟨rfl, rfl⟩)
        go_ret
        exact ⟨rfl, rfl⟩
      · have hp : symPath s l = -1 := if_neg (by omega)
        rw [hp]
        clear hp
        have hd2 : decide (9 < l) = true := by simp; omega
        go_enter Tryz.func55, Tryz.ntmps55
        go_wp2_with (go_at_call 30; refine (symIs_any _ _).mono ?_; rintro e w' ⟨rfl, rfl⟩)
        go_ret
        exact ⟨rfl, rfl⟩
    · have hp : symPath s l = -1 := if_neg (by omega)
      rw [hp]
      clear hp
      have hd : decide (l < 0) = true := by simp; omega
      go_enter Tryz.func55, Tryz.ntmps55
      go_wp2_with (go_at_call 30; refine (symIs_any _ _).mono ?_; rintro e w' ⟨rfl, rfl⟩)
      go_ret
      exact ⟨rfl, rfl⟩
  · have e : symIs s = false := symIs_false hs
    have hp : symPath s l = -1 := if_neg (by omega)
    rw [hp]
    clear hp
    go_enter Tryz.func55, Tryz.ntmps55
    go_wp2_with (go_at_call 30; refine (symIs_any _ _).mono ?_; rintro e w' ⟨rfl, rfl⟩)
    go_ret
    exact ⟨rfl, rfl⟩

theorem symBit_in {s l : Int} (h0 : 0 ≤ s) (h1 : s < 257) (h2 : 0 ≤ l) (h3 : l < 9) : (bits BinOp.and IntKind.i64 (s / 2 ^ (8 - l).toNat) 1 == 1) = symBit s l := by
  have hb := shr_bd s (8 - l).toNat h0 h1
  rw [and_one_i64 _ hb.1 (by omega)]
  simp only [symBit, h0, h1, h2, h3, true_and]
  rfl

theorem symBit_any (s l : Int) (w : World) : Calls Tryz.prog 56 #[.int .i64 s, .int .i64 l] w fun e w' => e = .returned (.bool (symBit s l)) ∧ w = w' := by
  by_cases hs : 0 ≤ s ∧ s < 257
  · have e : symIs s = true := symIs_true hs.1 hs.2
    obtain ⟨hs0, hs1⟩ := hs
    by_cases h2 : 0 ≤ l
    · have hd : decide (l < 0) = false := by simp; omega
      by_cases h3 : l < 9
      · rw [← symBit_in hs0 hs1 h2 h3]
        have hd2 : decide (9 ≤ l) = false := by simp; omega
        go_enter Tryz.func56, Tryz.ntmps56
        go_wp2_with (go_at_call 30; refine (symIs_any _ _).mono ?_; rintro e w' ⟨rfl, rfl⟩)
        go_ret
        exact ⟨rfl, rfl⟩
      · have hp : symBit s l = false := decide_eq_false (by omega)
        rw [hp]
        clear hp
        have hd2 : decide (9 ≤ l) = true := by simp; omega
        go_enter Tryz.func56, Tryz.ntmps56
        go_wp2_with (go_at_call 30; refine (symIs_any _ _).mono ?_; rintro e w' ⟨rfl, rfl⟩)
        go_ret
        exact ⟨rfl, rfl⟩
    · have hp : symBit s l = false := decide_eq_false (by omega)
      rw [hp]
      clear hp
      have hd : decide (l < 0) = true := by simp; omega
      go_enter Tryz.func56, Tryz.ntmps56
      go_wp2_with (go_at_call 30; refine (symIs_any _ _).mono ?_; rintro e w' ⟨rfl, rfl⟩)
      go_ret
      exact ⟨rfl, rfl⟩
  · have e : symIs s = false := symIs_false hs
    have hp : symBit s l = false := decide_eq_false (fun h => hs ⟨h.1, h.2.1⟩)
    rw [hp]
    clear hp
    go_enter Tryz.func56, Tryz.ntmps56
    go_wp2_with (go_at_call 30; refine (symIs_any _ _).mono ?_; rintro e w' ⟨rfl, rfl⟩)
    go_ret
    exact ⟨rfl, rfl⟩

end Go.Proofs.YtacoeohmdngnkaaGreatDoor

namespace Go.Proofs.YtacoeohmdngnkaaGreatDoor

theorem symPath_nat {s l : Nat} (hs : s < 257) (hl : l ≤ 9) : symPath (s : Int) (l : Int) = (pth s l : Nat) := by
  unfold symPath pth
  rw [if_pos ⟨by omega, by omega, by omega, by omega⟩, show (9 - (l : Int)).toNat = 9 - l by omega, Int.natCast_ediv, Int.natCast_pow]
  rfl
theorem symBit_nat {s l : Nat} (hs : s < 257) (hl : l < 9) : symBit (s : Int) (l : Int) = bitS s l := by
  unfold symBit bitS
  rw [show (8 - (l : Int)).toNat = 8 - l by omega]
  congr 1
  have h : (s : Int) / 2 ^ (8 - l) = ((s / 2 ^ (8 - l) : Nat) : Int) := by rw [Int.natCast_ediv, Int.natCast_pow]; rfl
  rw [h]
  apply propext
  constructor
  · rintro ⟨_, _, _, _, h⟩; omega
  · intro h; exact ⟨by omega, by omega, by omega, by omega, by omega⟩
theorem path_nat {s l : Nat} (hs : s < 257) (hl : l ≤ 9) (w : World) : Calls Tryz.prog 55 #[.int .i64 s, .int .i64 l] w fun e w' => e = .returned (.int .i64 (pth s l : Nat)) ∧ w = w' := by
  have := symPath_any s l w; rwa [symPath_nat hs hl] at this
theorem bit_nat {s l : Nat} (hs : s < 257) (hl : l < 9) (w : World) : Calls Tryz.prog 56 #[.int .i64 s, .int .i64 l] w fun e w' => e = .returned (.bool (bitS s l)) ∧ w = w' := by
  have := symBit_any s l w; rwa [symBit_nat hs hl] at this

end Go.Proofs.YtacoeohmdngnkaaGreatDoor

namespace Go.Proofs.YtacoeohmdngnkaaGreatDoor
set_option linter.unusedVariables false
set_option linter.unusedSimpArgs false
open Go.RowKit

theorem exT_mono {B : Nat} {X Y : Nat → Prop} (h : ∀ k, X k → Y k) {k : Nat} (hk : exT B Y k) : exT B X k := ⟨hk.1, fun hx => hk.2 (h k hx)⟩

/-- What a closure does with a shelf: one tree is another one; the blocks Y are the closure's own. -/
def DoPost (B : Nat) (X Y : Nat → Prop) (w w' : World) (p : Nat) (D : WD) (O' : Nat → Nat → Option ST) (n : Nat) (vis : Int) (l k M : Nat) : Prop :=
  WaveE B X w' p D O' n vis (fun l' k' v => l' = l → k' = k → 0 ≤ v ∧ v ≤ M) ∧ Chg (fun j => exT B X j ∨ Y j) w w'

theorem lookFin {B : Nat} {X Y : Nat → Prop} {w W w1 : World} {p n b : Nat} {D : WD} {O' : Nat → Nat → Option ST} {vis : Int} {M v1 : Nat} {R : World → Prop} (hE : WaveE B (fun j => X j ∨ j = b) w1 p D O' n vis anyV) (hc : Chg (fun j => exT B (fun j => X j ∨ j = b) j ∨ Y j) W w1) (hr : R w1)
    (hR : ∀ w1 w2, R w1 → Chg (fun j => j = p) w1 w2 → R w2) (hvM : v1 ≤ M) (hb : Below w.heap.size w W) (hX : ∀ k, X k → k < w.heap.size) (hY : ∀ j, Y j → X j) (hle : B ≤ w.heap.size) (m : Nat) :
    Ending.returned (.tuple #[]) = Ending.returned (.tuple #[]) ∧ ∃ v : Nat, v ≤ M ∧ WaveE B X ((w1.drewN m).setCell ⟨p, 10, none⟩ (.int .i64 (vis + v1))) p D O' n (vis + v) anyV ∧ Chg (fun j => exT B X j ∨ Y j) w ((w1.drewN m).setCell ⟨p, 10, none⟩ (.int .i64 (vis + v1))) ∧ R ((w1.drewN m).setCell ⟨p, 10, none⟩ (.int .i64 (vis + v1))) := by
  have h1 := ((hE.mono (Y := X) (fun k hk => Or.inl hk)).drewN m).setVis (vis + v1)
  have h2 : Chg (fun j => exT B X j ∨ Y j) W w1 := hc.mono (fun j hj => hj.imp (fun h => exT_mono (fun k hk => Or.inl hk) h) id)
  refine ⟨rfl, v1, hvM, h1.1, ?_, hR _ _ hr ((Chg.refl.drewN m).setCell (S := fun j => j = p) ⟨p, 10, none⟩ (Or.inl rfl) _)⟩
  exact ((Chg.of_below (S := fun j => exT B X j ∨ Y j) hb).trans (h2.drewN m) (fun j hj => Or.inl hj)).trans (h1.2.mono (fun j hj => Or.inl hj)) (fun j hj => Or.inl hj)

set_option maxHeartbeats 3200000 in
set_option maxRecDepth 100000 in
theorem wLook {B : Nat} {X Y : Nat → Prop} {w : World} {p n : Nat} {D : WD} {O : Nat → Nat → Option ST} {vis : Int} (h : WaveE B X w p D O n vis anyV) {l k : Nat} (hl : l < 9) (hk : k < pw l) (hvis : 0 ≤ vis ∧ vis ≤ 1000000000000) {M : Nat} (hM : M ≤ 1000000000000)
    (hY : ∀ j, Y j → X j) (O' : Nat → Nat → Option ST) (g : Nat) (lb : Array Value) (eg : ∀ args w, (callFunc g args).run Tryz.prog w = .ok (.enter g args) w) (R : World → Prop) (hR : ∀ w1 w2, R w1 → Chg (fun j => j = p) w1 w2 → R w2)
    (hcall : ∀ (w0 : World) (Z : Nat → Prop), (∀ j, X j → Z j) → Below w.heap.size w w0 → WaveE B Z w0 p D O n vis anyV → Calls Tryz.prog g (#[shelfV D l k] ++ lb) w0 fun e w1 => e = .returned (.tuple #[]) ∧ DoPost B Z Y w0 w1 p D O' n vis l k M ∧ R w1) :
    Calls Tryz.prog 59 #[.pointer (some ⟨p, 0, none⟩), shelfV D l k, .func (.func g) #[] lb] w fun e w' =>
      e = .returned (.tuple #[]) ∧ ∃ v : Nat, v ≤ M ∧ WaveE B X w' p D O' n (vis + v) anyV ∧ Chg (fun j => exT B X j ∨ Y j) w w' ∧ R w' := by
  have hb0 := below_al w (.cells #[.pointer (some ⟨D.Q l k, 0, none⟩), .int .i64 l, .int .i64 k] 79)
  have hbx := heap_alloc_new w (.cells #[.pointer (some ⟨D.Q l k, 0, none⟩), .int .i64 l, .int .i64 k] 79)
  obtain ⟨W, hW⟩ : ∃ W, W = w.alloc (.cells #[.pointer (some ⟨D.Q l k, 0, none⟩), .int .i64 l, .int .i64 k] 79) := ⟨_, rfl⟩
  have hCALL : Hid (∀ j, Calls Tryz.prog g (#[shelfV D l k] ++ lb) (W.drewN j) fun e w1 => e = .returned (.tuple #[]) ∧ DoPost B (fun j => X j ∨ j = w.heap.size) Y (W.drewN j) w1 p D O' n vis l k M ∧ R w1) := by
    intro j
    rw [← hW] at hb0 hbx
    refine hcall (W.drewN j) _ (fun j h => Or.inl h) ⟨hb0.os, hb0.tape, hb0.output, hb0.size, hb0.block⟩ ((h.less hb0 (Y := fun j => X j ∨ j = w.heap.size) (fun j hj => hj.elim Or.inl (fun e => Or.inr (by omega))) (fun j hj => hj.elim (fun hx => Nat.lt_of_lt_of_le (h.x j hx) hb0.size) (fun e => by subst e; exact (Array.getElem?_eq_some_iff.1 hbx).1))).drewN j)
  have hXl := Lib.hid h.x
  have hle := Lib.hid h.le
  have c0 : W.cell? ⟨w.heap.size, 0, none⟩ = some (.pointer (some ⟨D.Q l k, 0, none⟩)) ∧ W.cell? ⟨w.heap.size, 1, none⟩ = some (.int .i64 l) ∧ W.cell? ⟨w.heap.size, 2, none⟩ = some (.int .i64 k) := by
    rw [hW]
    exact ⟨by rw [cell_of_row _ w.heap.size 0 _ _ _ hbx]; rfl, by rw [cell_of_row _ w.heap.size 1 _ _ _ hbx]; rfl, by rw [cell_of_row _ w.heap.size 2 _ _ _ hbx]; rfl⟩
  obtain ⟨c0, c1, c2⟩ := c0
  have hHX := Lib.hid hbx
  have hHB := Lib.hid hb0
  have hYX := Lib.hid hY
  have hRR := Lib.hid hR
  have hKL : Hid (l < 9 ∧ k < pw l) := ⟨hl, hk⟩
  have hpw := Lib.hid h.cells.2.2.2.2
  clear h hcall hbx hb0 hY hR hl hk
  unfold shelfV at hCALL ⊢
  obtain ⟨q, hq⟩ : ∃ q, D.Q l k = q := ⟨_, rfl⟩
  rw [hq] at c0 hCALL hHX hHB hW ⊢
  have hQ := Lib.hid hq
  clear hq
  go_enter Tryz.func59, Tryz.ntmps59
  go_wp2_with fail
  rw [← hW] at hHX hHB ⊢
  have HWC : Hid (W = W.drewN 0) := rfl
  refine (hCALL.out 0).mono ?_
  rintro e w1 ⟨rfl, ⟨hE1, hc1⟩, hr1⟩
  have hc1 : Chg (fun j => exT B (fun j => X j ∨ j = w.heap.size) j ∨ Y j) W w1 := hc1
  have hnb : ¬ (exT B (fun j => X j ∨ j = w.heap.size) w.heap.size ∨ Y w.heap.size) := by
    rintro (hx | hx)
    · exact hx.2 (Or.inr rfl)
    · have := hXl.out _ (hYX.out _ hx); omega
  have b0 : w1.cell? ⟨w.heap.size, 0, none⟩ = some (.pointer (some ⟨q, 0, none⟩)) := hc1.cell (p := ⟨w.heap.size, 0, none⟩) c0 hnb
  obtain ⟨_, _, v10, fz, hp1⟩ := hE1.cells
  have z10 := fz 10
  obtain ⟨S1, made1, x1, hx1, ht1, _, _⟩ := hE1.step hKL.out.1 hKL.out.2
  obtain ⟨hx0, hxM⟩ := hx1 rfl rfl
  obtain ⟨v1, rfl⟩ := Int.eq_ofNat_of_zero_le hx0
  rw [hQ.out] at ht1
  have hvM : v1 ≤ M := by exact_mod_cast hxM
  have HVI : Hid (∀ j, Calls Tryz.prog 75 #[.pointer (some ⟨q, 0, none⟩)] (w1.drewN j) fun e w'' => e = .returned (.int .i64 (v1 : Int)) ∧ w1.drewN j = w'') := fun j => tVisits_is (ht1.drewN j)
  have HE1 := Lib.hid (hE1.any)
  have HC1 := Lib.hid hc1
  have HR1 := Lib.hid hr1
  have hnp : p ≠ w.heap.size := by have := hpw.out; omega
  have hwr : IntKind.i64.wrap (vis + (v1 : Int)) = vis + (v1 : Int) := IntWalk.i64_in _ (by omega)
  clear hE1 hc1 hr1 hnb c0 c1 c2 ht1 hx1 hx0 hxM fz hCALL
  go_wp2_with fail
  -- REGION look
  refine reg_start (fun w' => w'.cell? ⟨w.heap.size, 0, none⟩ = some (.pointer (some ⟨q, 0, none⟩))) (by kernel_rfl) ?hilk (fun hHeld => ?_)
  case hilk => (go_simp)
  refine rt 0 hHeld ?_
  refine rt 1 hHeld ?_
  refine rt 2 hHeld ?_
  refine rt 4 hHeld ?_
  refine rt 5 hHeld ?_
  refine reg_loud2 (i := 3) (j := 6) rfl rfl (by kernel_rfl) rfl rfl (fun K hK => ?blk3) (fun K hK => ?blk6)
  case blk3 => 
    go_simp
    refine hK.out _ _ ?kplka3 (fun hNew => ?_)
    case kplka3 => (go_simp)
    clear hK K hHeld
    have hHeld := hNew
    clear hNew
    try simp only [Act.put, List.setIfInBounds_toArray, List.set_cons_zero, List.set_cons_succ]
    refine reg_loud (i := 6) rfl (by kernel_rfl) rfl (fun K hK => ?_)
    go_simp
    ((refine (HVI.out _).mono ?_))
    rintro e w2 ⟨rfl, rfl⟩
    refine hK.out _ _ ?kplka6 (fun hNew => ?_)
    case kplka6 => (go_simp)
    clear hK K hHeld
    have hHeld := hNew
    clear hNew
    try simp only [Act.put, List.setIfInBounds_toArray, List.set_cons_zero, List.set_cons_succ]
    refine rt 7 hHeld ?_
    refine rt 8 hHeld ?_
    refine rt 9 hHeld ?_
    refine reg_loud (i := 10) rfl (by kernel_rfl) rfl (fun K hK => ?_)
    go_simp
    refine hK.out _ _ ?kplka10 (fun hNew => ?_)
    case kplka10 => (go_simp)
    clear hK K hHeld
    have hHeld := hNew
    clear hNew
    try simp only [Act.put, List.setIfInBounds_toArray, List.set_cons_zero, List.set_cons_succ]
    refine reg_done (by kernel_rfl) ?_ _
    clear hHeld
    go_wp2_with fail
    go_end0
    exact lookFin HE1.out HC1.out HR1.out hRR.out hvM hHB.out hXl.out hYX.out hle.out _
  case blk6 => 
    go_simp
    ((refine (HVI.out _).mono ?_))
    rintro e w2 ⟨rfl, rfl⟩
    refine hK.out _ _ ?kplkb6 (fun hNew => ?_)
    case kplkb6 => (go_simp)
    clear hK K hHeld
    have hHeld := hNew
    clear hNew
    try simp only [Act.put, List.setIfInBounds_toArray, List.set_cons_zero, List.set_cons_succ]
    refine reg_loud (i := 3) rfl (by kernel_rfl) rfl (fun K hK => ?_)
    go_simp
    refine hK.out _ _ ?kplkb3 (fun hNew => ?_)
    case kplkb3 => (go_simp)
    clear hK K hHeld
    have hHeld := hNew
    clear hNew
    try simp only [Act.put, List.setIfInBounds_toArray, List.set_cons_zero, List.set_cons_succ]
    refine rt 7 hHeld ?_
    refine rt 8 hHeld ?_
    refine rt 9 hHeld ?_
    refine reg_loud (i := 10) rfl (by kernel_rfl) rfl (fun K hK => ?_)
    go_simp
    refine hK.out _ _ ?kplkb10 (fun hNew => ?_)
    case kplkb10 => (go_simp)
    clear hK K hHeld
    have hHeld := hNew
    clear hNew
    try simp only [Act.put, List.setIfInBounds_toArray, List.set_cons_zero, List.set_cons_succ]
    refine reg_done (by kernel_rfl) ?_ _
    clear hHeld
    go_wp2_with fail
    go_end0
    exact lookFin HE1.out HC1.out HR1.out hRR.out hvM hHB.out hXl.out hYX.out hle.out _
  -- END OF REGION look

end Go.Proofs.YtacoeohmdngnkaaGreatDoor

namespace Go.Proofs.YtacoeohmdngnkaaGreatDoor
set_option linter.unusedVariables false
set_option linter.unusedSimpArgs false
open Go.RowKit

/-- A block that holds one cell. -/
def Box1 (w : World) (b : Nat) (v : Value) (T : TypeId) : Prop := w.heap[b]? = some (.cells #[v] T (0, 0))
section
variable {w w' : World} {b : Nat} {v : Value} {T : TypeId}
theorem Box1.cell (h : Box1 w b v T) : w.cell? ⟨b, 0, none⟩ = some v := by rw [cell_of_row w b 0 _ _ _ h]; rfl
theorem Box1.frz (h : Box1 w b v T) : w.frozen? ⟨b, 0, none⟩ = false := frozen_of_row w b 0 _ _ h
theorem Box1.lt (h : Box1 w b v T) : b < w.heap.size := (Array.getElem?_eq_some_iff.1 h).1
theorem Box1.chg {S : Nat → Prop} (h : Box1 w b v T) (hc : Chg S w w') (hn : ¬ S b) : Box1 w' b v T := hc.heap h hn
theorem Box1.below (h : Box1 w b v T) (hb : Below w.heap.size w w') : Box1 w' b v T := (Chg.of_below (S := fun _ => False) hb).heap h id
theorem Box1.set (h : Box1 w b v T) (u : Value) : Box1 (w.setCell ⟨b, 0, none⟩ u) b u T := heap_setCell_same w b 0 _ _ u h
theorem Box1.new (w : World) (v : Value) (T : TypeId) : Box1 (w.alloc (.cells #[v] T)) w.heap.size v T := heap_alloc_new w _
end
theorem WaveE.setBox {B : Nat} {Z : Nat → Prop} {w : World} {p n : Nat} {D : WD} {O : Nat → Nat → Option ST} {vis : Int} {Vb : Nat → Nat → Int → Prop} (h : WaveE B Z w p D O n vis Vb) {b : Nat} (hb : Z b) (u : Value) : WaveE B Z (w.setCell ⟨b, 0, none⟩ u) p D O n vis Vb :=
  h.chg (Z := fun j => j = b) (Chg.refl.setCell (S := fun j => j = b) ⟨b, 0, none⟩ (Or.inl rfl) u) (fun k hk _ e => hk.2 (by subst e; exact hb))

set_option maxHeartbeats 1600000 in
theorem wRank1 {B : Nat} {Z : Nat → Prop} {w : World} {p n : Nat} {D : WD} {O : Nat → Nat → Option ST} {vis : Int} (h : WaveE B Z w p D O n vis anyV) {l k : Nat} (hl : l < 9) (hk : k < pw l) {b1 b2 b3 : Nat} (z1 : Z b1) (z2 : Z b2) (z3 : Z b3) {j : Int} {x : Bool} {v0 : Value}
    (h1 : Box1 w b1 (.int .i64 j) 3) (h2 : Box1 w b2 (.bool x) 4) (h3 : Box1 w b3 v0 3) :
    Calls Tryz.prog 72 #[shelfV D l k, .pointer (some ⟨b1, 0, none⟩), .pointer (some ⟨b2, 0, none⟩), .pointer (some ⟨b3, 0, none⟩)] w fun e w' => e = .returned (.tuple #[]) ∧ DoPost B Z (fun i => i = b3) w w' p D O n vis l k (shigh (O l k) + 1) ∧ Box1 w' b3 (.int .i64 (rankL (sbits (O l k)) j.toNat x)) 3 := by
  have hb0 := below_al w (.cells #[.pointer (some ⟨D.Q l k, 0, none⟩), .int .i64 l, .int .i64 k] 79)
  obtain ⟨W, hW⟩ : ∃ W, W = w.alloc (.cells #[.pointer (some ⟨D.Q l k, 0, none⟩), .int .i64 l, .int .i64 k] 79) := ⟨_, rfl⟩
  have hbx := heap_alloc_new w (.cells #[.pointer (some ⟨D.Q l k, 0, none⟩), .int .i64 l, .int .i64 k] 79)
  rw [← hW] at hb0 hbx
  have c0 : W.cell? ⟨w.heap.size, 0, none⟩ = some (.pointer (some ⟨D.Q l k, 0, none⟩)) := by rw [cell_of_row _ w.heap.size 0 _ _ _ hbx]; rfl
  have c1 := (h1.below hb0).cell
  have c2 := (h2.below hb0).cell
  have HE := Lib.hid (h.below hb0)
  have HRK := Lib.hid ((h.below hb0).tRank hl hk j x)
  have HB3 := Lib.hid (h3.below hb0)
  have HB0 := Lib.hid hb0
  have HZ3 := Lib.hid z3
  clear h h1 h2 h3 hb0 hbx z1 z2 z3 hl hk
  unfold shelfV
  obtain ⟨r, hr⟩ : ∃ r, rankL (sbits (O l k)) j.toNat x = r := ⟨_, rfl⟩
  rw [hr] at HRK ⊢
  clear hr
  obtain ⟨q, hq⟩ : ∃ q, D.Q l k = q := ⟨_, rfl⟩
  rw [hq] at c0 HRK hW ⊢
  clear hq
  subst hW
  go_enter Tryz.func72, Tryz.ntmps72
  go_wp2_with fail
  refine HRK.out.mono ?_
  rintro e w1 ⟨rfl, hE1, hC1⟩
  have hb3 := HB3.out.chg hC1 (fun hk => hk.2 HZ3.out)
  have HB3' := Lib.hid hb3
  have c3 := hb3.cell
  have f3 := hb3.frz
  have HE1 := Lib.hid hE1
  have HC1 := Lib.hid hC1
  clear hE1 hC1 hb3 HRK
  go_wp2_with fail
  go_end0
  refine ⟨rfl, ⟨HE1.out.setBox HZ3.out _, ?_⟩, HB3'.out.set _⟩
  exact ((Chg.of_below (S := fun j => exT B Z j ∨ j = b3) HB0.out).trans (HC1.out.mono (fun j hj => Or.inl hj)) (fun j hj => Or.inl hj)).setCell _ (Or.inl (Or.inr rfl)) _

set_option maxHeartbeats 3200000 in
set_option maxRecDepth 100000 in
theorem wRankS {B : Nat} {X : Nat → Prop} {w : World} {p n : Nat} {D : WD} {O : Nat → Nat → Option ST} {vis : Int} (h : WaveE B X w p D O n vis anyV) {l k : Nat} (hl : l < 9) (hk : k < pw l) (hvis : 0 ≤ vis ∧ vis ≤ 1000000000000) (hM : shigh (O l k) + 1 ≤ 1000000000000) (j : Int) (x : Bool) :
    Calls Tryz.prog 54 #[.pointer (some ⟨p, 0, none⟩), shelfV D l k, .int .i64 j, .bool x] w fun e w' =>
      e = .returned (.int .i64 (rankL (sbits (O l k)) j.toNat x)) ∧ ∃ v : Nat, v ≤ shigh (O l k) + 1 ∧ WaveE B X w' p D O n (vis + v) anyV ∧ Chg (exT B X) w w' := by
  obtain ⟨r, hr⟩ : ∃ r, rankL (sbits (O l k)) j.toNat x = r := ⟨_, rfl⟩
  obtain ⟨wa, hwa⟩ : ∃ wa, wa = w.alloc (.cells #[.pointer (some ⟨D.Q l k, 0, none⟩), .int .i64 l, .int .i64 k] 79) := ⟨_, rfl⟩
  obtain ⟨wb, hwb⟩ : ∃ wb, wb = wa.alloc (.cells #[.int .i64 j] 3) := ⟨_, rfl⟩
  obtain ⟨wc, hwc⟩ : ∃ wc, wc = wb.alloc (.cells #[.bool x] 4) := ⟨_, rfl⟩
  obtain ⟨wd, hwd⟩ : ∃ wd, wd = wc.alloc (.cells #[.int .i64 0] 3) := ⟨_, rfl⟩
  have sa : wa.heap.size = w.heap.size + 1 := by rw [hwa]; simp
  have sb : wb.heap.size = w.heap.size + 2 := by rw [hwb]; simp [sa]
  have sc : wc.heap.size = w.heap.size + 3 := by rw [hwc]; simp [sb]
  have ba : Below w.heap.size w wa := by rw [hwa]; exact below_al w _
  have bb : Below wa.heap.size wa wb := by rw [hwb]; exact below_al wa _
  have bc : Below wb.heap.size wb wc := by rw [hwc]; exact below_al wb _
  have bd : Below wc.heap.size wc wd := by rw [hwd]; exact below_al wc _
  have bx0 : wa.heap[w.heap.size]? = some (.cells #[.pointer (some ⟨D.Q l k, 0, none⟩), .int .i64 l, .int .i64 k] 79 (0, 0)) := by rw [hwa]; exact heap_alloc_new w _
  have bx1 : Box1 wb (w.heap.size + 1) (.int .i64 j) 3 := by rw [hwb, ← sa]; exact Box1.new wa _ _
  have bx2 : Box1 wc (w.heap.size + 2) (.bool x) 4 := by rw [hwc, ← sb]; exact Box1.new wb _ _
  have bx3 : Box1 wd (w.heap.size + 3) (.int .i64 0) 3 := by rw [hwd, ← sc]; exact Box1.new wc _ _
  have ball : Below w.heap.size w wd := ba.trans ((bb.trans ((bc.trans (bd.mono (by omega))).mono (by omega))).mono (by omega))
  have d0 : wd.heap[w.heap.size]? = some (.cells #[.pointer (some ⟨D.Q l k, 0, none⟩), .int .i64 l, .int .i64 k] 79 (0, 0)) := by
    have h2 : Below (w.heap.size + 1) wa wd := (bb.trans ((bc.trans (bd.mono (by omega))).mono (by omega))).mono (by omega)
    exact (Chg.of_below (S := fun _ => False) (h2.mono (by omega))).heap bx0 id
  have d1 : Box1 wd (w.heap.size + 1) (.int .i64 j) 3 := (bx1.below bc).below bd
  have d2 : Box1 wd (w.heap.size + 2) (.bool x) 4 := bx2.below bd
  have hX4 : WaveE B (fun i => X i ∨ (w.heap.size ≤ i ∧ i < w.heap.size + 4)) wd p D O n vis anyV := h.less ball (fun i hi => hi.elim Or.inl (fun g => Or.inr g.1)) (fun i hi => hi.elim (fun g => Nat.lt_of_lt_of_le (h.x i g) ball.size) (fun g => by have := bx3.lt; omega))
  have HLOOK := Lib.hid (wLook hX4 hl hk hvis hM (Y := fun i => i = w.heap.size + 3) (fun i e => Or.inr (by omega)) O 72 #[.pointer (some ⟨w.heap.size + 1, 0, none⟩), .pointer (some ⟨w.heap.size + 2, 0, none⟩), .pointer (some ⟨w.heap.size + 3, 0, none⟩)]
    (enters_of Tryz.func72 (by kernel_rfl) rfl) (fun w' => Box1 w' (w.heap.size + 3) (.int .i64 r) 3) (fun w1 w2 hb hc => hb.chg hc (fun e => by have := h.cells.2.2.2.2; omega))
    (fun w0 Z hXZ hb hE => by
      rw [← hr]
      exact wRank1 hE hl hk (hXZ _ (Or.inr (by omega))) (hXZ _ (Or.inr (by omega))) (hXZ _ (Or.inr (by omega))) (d1.below hb) (d2.below hb) (bx3.below hb)))
  have c0 : wd.cell? ⟨w.heap.size, 0, none⟩ = some (.pointer (some ⟨D.Q l k, 0, none⟩)) := by rw [cell_of_row _ w.heap.size 0 _ _ _ d0]; rfl
  have c1 : wd.cell? ⟨w.heap.size, 1, none⟩ = some (.int .i64 l) := by rw [cell_of_row _ w.heap.size 1 _ _ _ d0]; rfl
  have c2 : wd.cell? ⟨w.heap.size, 2, none⟩ = some (.int .i64 k) := by rw [cell_of_row _ w.heap.size 2 _ _ _ d0]; rfl
  have HBA := Lib.hid ball
  have HLE := Lib.hid h.le
  have HXL := Lib.hid h.x
  rw [hr]
  clear hr h ba bb bc bd bx0 bx1 bx2 bx3 ball d0 d1 d2 hX4 hl hk sa sb sc
  unfold shelfV at HLOOK ⊢
  obtain ⟨q, hq⟩ : ∃ q, D.Q l k = q := ⟨_, rfl⟩
  rw [hq] at c0 HLOOK hwa ⊢
  clear hq
  subst hwa hwb hwc
  go_enter Tryz.func54, Tryz.ntmps54
  go_wp2_with fail
  rw [← hwd]
  refine HLOOK.out.mono ?_
  rintro e w1 ⟨rfl, v, hv, hE, hC, hR⟩
  have c3 := hR.cell
  have HE := Lib.hid hE
  have HC := Lib.hid hC
  clear hE hC hR HLOOK c0 c1 c2 hwd
  go_wp2_with fail
  go_ret
  refine ⟨rfl, v, hv, HE.out.mono (fun i hi => Or.inl hi), (Chg.of_below (S := exT B X) HBA.out).trans HC.out (fun i hi => ?_)⟩
  rcases hi with hi | hi
  · exact Or.inl (exT_mono (fun i hi => Or.inl hi) hi)
  · right; omega

end Go.Proofs.YtacoeohmdngnkaaGreatDoor

namespace Go.Proofs.YtacoeohmdngnkaaGreatDoor
set_option linter.unusedVariables false
set_option linter.unusedSimpArgs false
open Go.RowKit

/-- A wave's trees hold the levels' bits; how high they are at most. -/
def LvlO (O : Nat → Nat → Option ST) (L : List Nat) : Prop := ∀ l k, l < 9 → k < pw l → sbits (O l k) = lvl L l k
def HiO (O : Nat → Nat → Option ST) (H : Nat) : Prop := ∀ l k, l < 9 → k < pw l → shigh (O l k) ≤ H
def Syms (L : List Nat) : Prop := ∀ s ∈ L, s < 257
theorem Syms.lt {L : List Nat} (h : Syms L) : ∀ s ∈ L, s < 512 := fun s hs => by have := h s hs; omega
theorem pth_pw {s l : Nat} (hs : s < 257) (h : l < 9) : pth s l < pw l := pth_lt (by omega) (by omega)

set_option maxRecDepth 1000000 in
/-- The row of a level, out of the array of them. -/
theorem idx_row (D : WD) {l : Nat} (h : l < 9) (w : World) : (Instr.index 73 (rowsV D) (.int .i64 (l : Int))).run Tryz.prog w = .ok (.slice (some ⟨D.G l, 0, none⟩) (pw l) (D.C l)) w := by
  have : l = 0 ∨ l = 1 ∨ l = 2 ∨ l = 3 ∨ l = 4 ∨ l = 5 ∨ l = 6 ∨ l = 7 ∨ l = 8 := by omega
  rcases this with rfl | rfl | rfl | rfl | rfl | rfl | rfl | rfl | rfl <;> rfl

set_option maxHeartbeats 3200000 in
set_option maxRecDepth 100000 in
theorem wRank_any {B : Nat} {X : Nat → Prop} {w : World} {p : Nat} {D : WD} {O : Nat → Nat → Option ST} {L : List Nat} {vis : Int} (h : WaveE B X w p D O L.length vis anyV) (hO : LvlO O L) (hL : Syms L) (hn : L.length ≤ 1000000000) {H : Nat} (hH : HiO O H) (hHm : H ≤ 1000000000) (k : Int) (s : Nat) (hs : s < 257) :
    Calls Tryz.prog 32 #[.pointer (some ⟨p, 0, none⟩), .int .i64 k, .int .i64 s] w fun e w' =>
      e = .returned (.int .i64 (rankS L k.toNat s)) ∧ ∃ vis' : Int, 0 ≤ vis' ∧ vis' ≤ 9 * (H + 1) ∧ WaveE B X w' p D O L.length vis' anyV ∧ Chg (exT B X) w w' := by
  obtain ⟨kk, hkk⟩ : ∃ kk : Nat, kk = min k.toNat L.length := ⟨_, rfl⟩
  have hkL : kk ≤ L.length := by omega
  have hrs : rankS L k.toNat s = cntP L 9 (pth s 9) kk := by
    rw [pth_nine, cntP_nine]
    unfold rankS
    by_cases hc : k.toNat ≤ L.length
    · rw [hkk, Nat.min_eq_left hc]
    · rw [hkk, Nat.min_eq_right (by omega), List.take_of_length_le (by omega), List.take_of_length_le (Nat.le_refl _)]
  rw [hrs]
  have hmm : max k 0 ≤ (L.length : Int) → max k 0 = (kk : Int) := fun h => by omega
  have hmx : ¬ max k 0 ≤ (L.length : Int) → (L.length : Int) = (kk : Int) := fun h => by omega
  have hmm0 : min (max k 0) (L.length : Int) = (kk : Int) := by omega
  obtain ⟨hc0, c9, c10, fz, hp⟩ := h.cells
  have z10 := fz 10
  have HW := Lib.hid h
  have HST := Lib.hid (h.setVis 0)
  have x0 := hc0 0 (by omega)
  have x1 := hc0 1 (by omega)
  have x2 := hc0 2 (by omega)
  have x3 := hc0 3 (by omega)
  have x4 := hc0 4 (by omega)
  have x5 := hc0 5 (by omega)
  have x6 := hc0 6 (by omega)
  have x7 := hc0 7 (by omega)
  have x8 := hc0 8 (by omega)
  have his : symIs (s : Int) = true := symIs_true (by omega) (by omega)
  have HIS : Hid (∀ w, Calls Tryz.prog 30 #[.int .i64 s] w fun e w' => e = .returned (.bool true) ∧ w = w') := fun w => by rw [← his]; exact symIs_any s w
  have HO := Lib.hid hO
  have HHi := Lib.hid hH
  have HLS := Lib.hid hL
  have HKL := Lib.hid hkL
  have HLEN := Lib.hid hn
  clear h hc0 fz hrs his hO hH hL hkk hmm hmx hn
  go_enter Tryz.func32, Tryz.ntmps32
  go_wp2_with fail
  refine (HIS.out _).mono ?_
  rintro e w' ⟨rfl, rfl⟩
  go_wp2_with fail
  clear hmm0 x0 x1 x2 x3 x4 x5 x6 x7 x8 c9 c10 z10
  go_loopw [1, 28] (fun v x wr => ∃ l : Nat, l ≤ 9 ∧ x = .int .i64 l ∧ v = .int .i64 (cntP L l (pth s l) kk : Nat) ∧ ∃ vis' : Int, 0 ≤ vis' ∧ vis' ≤ l * (H + 1) ∧ WaveE B X wr p D O L.length vis' anyV ∧ Chg (exT B X) w wr) (fun _ x _ => 9 - (intOf x).toNat)
  case atStart => exact ⟨0, by omega, rfl, by rw [pth_zero (by omega), cntP_zero HLS.out.lt kk hkL], 0, by omega, by simp, HST.out.1, HST.out.2⟩
  case round => as_aux_lemma =>
    clear HST HW
    obtain ⟨l, hl, rfl, rfl, vis', hv0, hv1, hE, hC⟩ := hrel
    have HE := Lib.hid hE
    have HC := Lib.hid hC
    clear hE hC
    by_cases hlt : l < 9
    · have hix : ∀ w : World, (Instr.index 73 (.agg #[D.row 0, D.row 1, D.row 2, D.row 3, D.row 4, D.row 5, D.row 6, D.row 7, D.row 8]) (.int .i64 (l : Int))).run Tryz.prog w = .ok (.slice (some ⟨D.G l, 0, none⟩) (pw l) (D.C l)) w := idx_row D hlt
      have hpp := pth_pw hs hlt
      obtain ⟨r0, r1, r2⟩ := HE.out.shelf hlt hpp
      have HSF : Hid (∀ (w' : World) (v : Int), WaveE B X w' p D O L.length v anyV → w'.cell? ⟨D.G l, pth s l * 3, none⟩ = some (.pointer (some ⟨D.Q l (pth s l), 0, none⟩)) ∧ w'.cell? ⟨D.G l, pth s l * 3 + 1, none⟩ = some (.int .i64 l) ∧ w'.cell? ⟨D.G l, pth s l * 3 + 2, none⟩ = some (.int .i64 (pth s l : Nat))) := fun w' v h => h.shelf hlt hpp
      have HPA := Lib.hid (fun w => path_nat hs hl w)
      have HBI := Lib.hid (fun w => bit_nat hs hlt w)
      have hHl := HHi.out l (pth s l) hlt hpp
      have hv1' : vis' ≤ 9 * ((H : Int) + 1) := by
        have h1 : (l : Int) * ((H : Int) + 1) ≤ 9 * ((H : Int) + 1) := Int.mul_le_mul_of_nonneg_right (by omega) (by omega)
        omega
      have HRK := Lib.hid (fun (w' : World) (h : WaveE B X w' p D O L.length vis' anyV) => wRankS h hlt hpp ⟨hv0, by omega⟩ (by omega) (cntP L l (pth s l) kk : Nat) (bitS s l))
      have HNX : Hid (rankL (sbits (O l (pth s l))) (((cntP L l (pth s l) kk : Nat) : Int)).toNat (bitS s l) = cntP L (l + 1) (pth s (l + 1)) kk) := by
        show _ = _
        rw [HO.out l _ hlt hpp, Int.toNat_natCast, wrank_next L hlt, pth_succ hlt]
      have HVB : Hid (∀ v : Nat, v ≤ shigh (O l (pth s l)) + 1 → 0 ≤ vis' + (v : Int) ∧ vis' + (v : Int) ≤ ((l + 1 : Nat) : Int) * ((H : Int) + 1)) := fun v hv => by
        have e : ((l + 1 : Nat) : Int) * ((H : Int) + 1) = (l : Int) * ((H : Int) + 1) + ((H : Int) + 1) := by push_cast; rw [Int.add_mul]; omega
        rw [e]
        constructor <;> omega
      rw [HNX.out] at HRK
      clear hHl hv1' HNX hv0 hv1
      generalize pth s l = π at *
      generalize bitS s l = bt at *
      have i0 : (0 : Int) ≤ (π : Int) := by omega
      have i1 : (π : Int) < ((pw l : Nat) : Int) := by omega
      unfold shelfV at HRK
      generalize D.Q l π = q at *
      generalize D.G l = g at *
      generalize D.C l = gc at *
      go_wp2_with fail
      -- REGION rk
      refine reg_start (fun w' => w'.cell? ⟨g, π * 3, none⟩ = some (.pointer (some ⟨q, 0, none⟩)) ∧ w'.cell? ⟨g, π * 3 + 1, none⟩ = some (.int .i64 l) ∧ w'.cell? ⟨g, π * 3 + 2, none⟩ = some (.int .i64 π)) (by kernel_rfl) ?hirk (fun hHeld => ?_)
      case hirk => (refine ⟨?_, ?_, ?_⟩ <;> go_simp)
      refine rt 0 hHeld ?_
      refine rt 1 hHeld ?_
      refine rt 2 hHeld ?_
      refine rt 3 hHeld ?_
      refine rt 7 hHeld ?_
      refine rt 8 hHeld ?_
      refine rt 9 hHeld ?_
      refine reg_loud (i := 4) rfl (by kernel_rfl) rfl (fun K hK => ?_)
      go_simp
      ((refine (HPA.out _).mono ?_))
      rintro e w2 ⟨rfl, rfl⟩
      refine hK.out _ _ (hHeld) (fun hNew => ?_)
      clear hK K hHeld
      have hHeld := hNew
      clear hNew
      try simp only [Act.put, List.setIfInBounds_toArray, List.set_cons_zero, List.set_cons_succ]
      refine rt 5 hHeld ?_
      refine rt 6 hHeld ?_
      refine reg_loud (i := 10) rfl (by kernel_rfl) rfl (fun K hK => ?_)
      go_simp
      ((refine (HBI.out _).mono ?_))
      rintro e w2 ⟨rfl, rfl⟩
      refine hK.out _ _ (hHeld) (fun hNew => ?_)
      clear hK K hHeld
      have hHeld := hNew
      clear hNew
      try simp only [Act.put, List.setIfInBounds_toArray, List.set_cons_zero, List.set_cons_succ]
      refine reg_loud (i := 11) rfl (by kernel_rfl) rfl (fun K hK => ?_)
      go_simp
      ((refine (HRK.out _ (HE.out.drewN 1)).mono ?_))
      rintro e w2 ⟨rfl, v1, hv1, hE1, hC1⟩
      have HE1 := Lib.hid hE1
      have HC1 := Lib.hid hC1
      have HSH := Lib.hid (HSF.out _ _ hE1)
      clear hE1 hC1
      refine hK.out _ _ (HSH.out) (fun hNew => ?_)
      clear hK K hHeld
      have hHeld := hNew
      clear hNew
      try simp only [Act.put, List.setIfInBounds_toArray, List.set_cons_zero, List.set_cons_succ]
      refine rt 12 hHeld ?_
      refine reg_done (by kernel_rfl) ?_ _
      -- END OF REGION rk
      clear hHeld
      go_wp2_with fail
      go_roundw
      case rel => exact ⟨l + 1, by omega, by go_num, rfl, _, (HVB.out v1 hv1).1, (HVB.out v1 hv1).2, HE1.out, (HC.out.drewN 1).trans HC1.out (fun j hj => Or.inl hj)⟩
      case measure => simp [intOf]; omega
    · obtain rfl : l = 9 := by omega
      go_wp2_with fail
      go_ret
      exact ⟨rfl, vis', hv0, by simpa using hv1, HE.out, HC.out⟩

end Go.Proofs.YtacoeohmdngnkaaGreatDoor

namespace Go.Proofs.YtacoeohmdngnkaaGreatDoor
set_option linter.unusedVariables false
set_option linter.unusedSimpArgs false
open Go.RowKit

set_option maxHeartbeats 1600000 in
theorem wNext (D : WD) {l k : Nat} (hk : k < 256) (b : Bool) (w : World) :
    Calls Tryz.prog 62 #[shelfV D l k, .bool b] w fun e w' => e = .returned (.int .i64 (2 * k + bnum b : Nat)) ∧ Below w.heap.size w w' := by
  have hb0 := Lib.hid (below_al w (.cells #[.pointer (some ⟨D.Q l k, 0, none⟩), .int .i64 l, .int .i64 k] 79))
  unfold shelfV
  generalize D.Q l k = q at *
  cases b
  · go_enter Tryz.func62, Tryz.ntmps62
    go_wp2_with fail
    go_ret
    exact ⟨ret_int (by simp [bnum]), hb0.out⟩
  · go_enter Tryz.func62, Tryz.ntmps62
    go_wp2_with fail
    go_ret
    exact ⟨ret_int (by simp [bnum]), hb0.out⟩

set_option maxHeartbeats 1600000 in
theorem wGet1 {B : Nat} {Z : Nat → Prop} {w : World} {p n : Nat} {D : WD} {O : Nat → Nat → Option ST} {vis : Int} (h : WaveE B Z w p D O n vis anyV) {l k : Nat} (hl : l < 9) (hk : k < pw l) {b1 b2 : Nat} (z1 : Z b1) (z2 : Z b2) {j : Nat} (hj : j < (sbits (O l k)).length) {v0 : Value}
    (h1 : Box1 w b1 (.int .i64 j) 3) (h2 : Box1 w b2 v0 4) :
    Calls Tryz.prog 60 #[shelfV D l k, .pointer (some ⟨b1, 0, none⟩), .pointer (some ⟨b2, 0, none⟩)] w fun e w' => e = .returned (.tuple #[]) ∧ DoPost B Z (fun i => i = b2) w w' p D O n vis l k (shigh (O l k) + 1) ∧ Box1 w' b2 (.bool (bitAt (sbits (O l k)) j)) 4 := by
  have hb0 := below_al w (.cells #[.pointer (some ⟨D.Q l k, 0, none⟩), .int .i64 l, .int .i64 k] 79)
  obtain ⟨W, hW⟩ : ∃ W, W = w.alloc (.cells #[.pointer (some ⟨D.Q l k, 0, none⟩), .int .i64 l, .int .i64 k] 79) := ⟨_, rfl⟩
  rw [← hW] at hb0
  have c1 := (h1.below hb0).cell
  have HRK := Lib.hid ((h.below hb0).tGet hl hk j hj)
  have HB2 := Lib.hid (h2.below hb0)
  have HB0 := Lib.hid hb0
  have HZ2 := Lib.hid z2
  clear h h1 h2 hb0 z1 z2 hl hk hj
  unfold shelfV
  obtain ⟨r, hr⟩ : ∃ r, bitAt (sbits (O l k)) j = r := ⟨_, rfl⟩
  rw [hr] at HRK ⊢
  clear hr
  obtain ⟨q, hq⟩ : ∃ q, D.Q l k = q := ⟨_, rfl⟩
  rw [hq] at HRK hW ⊢
  clear hq
  subst hW
  go_enter Tryz.func60, Tryz.ntmps60
  go_wp2_with fail
  refine HRK.out.mono ?_
  rintro e w1 ⟨rfl, hE1, hC1⟩
  have hb2 := HB2.out.chg hC1 (fun hk => hk.2 HZ2.out)
  have HB2' := Lib.hid hb2
  have c3 := hb2.cell
  have f3 := hb2.frz
  have HE1 := Lib.hid hE1
  have HC1 := Lib.hid hC1
  clear hE1 hC1 hb2 HRK
  go_wp2_with fail
  go_end0
  refine ⟨rfl, ⟨HE1.out.setBox HZ2.out _, ?_⟩, HB2'.out.set _⟩
  exact ((Chg.of_below (S := fun j => exT B Z j ∨ j = b2) HB0.out).trans (HC1.out.mono (fun j hj => Or.inl hj)) (fun j hj => Or.inl hj)).setCell _ (Or.inl (Or.inr rfl)) _

/-- Three cells of a block. -/
def Box3 (w : World) (b : Nat) (v0 v1 v2 : Value) (T : TypeId) : Prop := w.heap[b]? = some (.cells #[v0, v1, v2] T (0, 0))
theorem Box3.cells {w : World} {b : Nat} {v0 v1 v2 : Value} {T : TypeId} (h : Box3 w b v0 v1 v2 T) : w.cell? ⟨b, 0, none⟩ = some v0 ∧ w.cell? ⟨b, 1, none⟩ = some v1 ∧ w.cell? ⟨b, 2, none⟩ = some v2 :=
  ⟨by rw [cell_of_row w b 0 _ _ _ h]; rfl, by rw [cell_of_row w b 1 _ _ _ h]; rfl, by rw [cell_of_row w b 2 _ _ _ h]; rfl⟩
theorem Box3.chg {w w' : World} {b : Nat} {v0 v1 v2 : Value} {T : TypeId} {S : Nat → Prop} (h : Box3 w b v0 v1 v2 T) (hc : Chg S w w') (hn : ¬ S b) : Box3 w' b v0 v1 v2 T := hc.heap h hn
theorem Box3.lt {w : World} {b : Nat} {v0 v1 v2 : Value} {T : TypeId} (h : Box3 w b v0 v1 v2 T) : b < w.heap.size := (Array.getElem?_eq_some_iff.1 h).1

theorem keepB {w w' : World} {b b' : Nat} {v0 v1 v2 v3 : Value} (h : (w.cell? ⟨b, 0, none⟩ = some v0 ∧ w.cell? ⟨b, 1, none⟩ = some v1 ∧ w.cell? ⟨b, 2, none⟩ = some v2) ∧ w.cell? ⟨b', 0, none⟩ = some v3) (hb : Below w.heap.size w w') :
    (w'.cell? ⟨b, 0, none⟩ = some v0 ∧ w'.cell? ⟨b, 1, none⟩ = some v1 ∧ w'.cell? ⟨b, 2, none⟩ = some v2) ∧ w'.cell? ⟨b', 0, none⟩ = some v3 := by
  have h1 := World.block_lt_of_cell? w _ h.1.1
  have h2 := World.block_lt_of_cell? w _ h.2
  exact ⟨⟨(hb.cell (p := ⟨b, 0, none⟩) h1).trans h.1.1, (hb.cell (p := ⟨b, 1, none⟩) h1).trans h.1.2.1, (hb.cell (p := ⟨b, 2, none⟩) h1).trans h.1.2.2⟩, (hb.cell (p := ⟨b', 0, none⟩) h2).trans h.2⟩
theorem keepSt {w : World} {b b' c : Nat} {v0 v1 v2 v3 u : Value} (h : (w.cell? ⟨b, 0, none⟩ = some v0 ∧ w.cell? ⟨b, 1, none⟩ = some v1 ∧ w.cell? ⟨b, 2, none⟩ = some v2) ∧ w.cell? ⟨b', 0, none⟩ = some v3) (hb : b ≠ c) (hb' : b' ≠ c) :
    ((w.setCell ⟨c, 0, none⟩ u).cell? ⟨b, 0, none⟩ = some v0 ∧ (w.setCell ⟨c, 0, none⟩ u).cell? ⟨b, 1, none⟩ = some v1 ∧ (w.setCell ⟨c, 0, none⟩ u).cell? ⟨b, 2, none⟩ = some v2) ∧ (w.setCell ⟨c, 0, none⟩ u).cell? ⟨b', 0, none⟩ = some v3 := by
  have hc : Chg (fun j => j = c) w (w.setCell ⟨c, 0, none⟩ u) := Chg.refl.setCell (S := fun j => j = c) ⟨c, 0, none⟩ (Or.inl rfl) u
  exact ⟨⟨hc.cell (p := ⟨b, 0, none⟩) h.1.1 hb, hc.cell (p := ⟨b, 1, none⟩) h.1.2.1 hb, hc.cell (p := ⟨b, 2, none⟩) h.1.2.2 hb⟩, hc.cell (p := ⟨b', 0, none⟩) h.2 hb'⟩

set_option maxHeartbeats 6400000 in
set_option maxRecDepth 100000 in
theorem wGet_any {B : Nat} {X : Nat → Prop} {w : World} {p : Nat} {D : WD} {O : Nat → Nat → Option ST} {L : List Nat} {vis : Int} (h : WaveE B X w p D O L.length vis anyV) (hO : LvlO O L) (hL : Syms L) (hn : L.length ≤ 1000000000) {H : Nat} (hH : HiO O H) (hHm : H ≤ 1000000000) (k s : Nat) (hk : L[k]? = some s) :
    Calls Tryz.prog 38 #[.pointer (some ⟨p, 0, none⟩), .int .i64 k] w fun e w' =>
      e = .returned (.tuple #[.int .i64 s, .int .i64 0]) ∧ ∃ vis' : Int, 0 ≤ vis' ∧ vis' ≤ 18 * (H + 1) ∧ WaveE B X w' p D O L.length vis' anyV ∧ Chg (exT B X) w w' := by
  have hkL := (List.getElem?_eq_some_iff.1 hk).1
  have hs : s < 257 := hL s (List.mem_of_getElem? hk)
  have hb0 := below_al w (.cells #[.int .i64 k] 3)
  obtain ⟨W, hW⟩ : ∃ W, W = w.alloc (.cells #[.int .i64 k] 3) := ⟨_, rfl⟩
  have hbx : Box1 W w.heap.size (.int .i64 k) 3 := by rw [hW]; exact Box1.new w _ _
  rw [← hW] at hb0
  have hX1 : WaveE B (fun i => X i ∨ i = w.heap.size) W p D O L.length vis anyV := h.less hb0 (fun i hi => hi.elim Or.inl (fun e => Or.inr (by omega))) (fun i hi => hi.elim (fun g => Nat.lt_of_lt_of_le (h.x i g) hb0.size) (fun e => by subst e; exact hbx.lt))
  have hpn : p ≠ w.heap.size := by have := h.cells.2.2.2.2; omega
  have HX := Lib.hid h.x
  have HLE := Lib.hid h.le
  obtain ⟨hc0, c9, c10, fz, hp⟩ := hX1.cells
  have z10 := fz 10
  have kc := hbx.cell
  have HST := Lib.hid (hX1.setVis 0)
  have HKB : Hid (∀ v, Box1 (W.setCell ⟨p, 10, none⟩ v) w.heap.size (.int .i64 k) 3) := fun v => hbx.chg (S := fun j => j = p) (Chg.refl.setCell (S := fun j => j = p) ⟨p, 10, none⟩ (Or.inl rfl) _) (fun e => hpn e.symm)
  have HB0 := Lib.hid hb0
  have x0 := hc0 0 (by omega)
  have x1 := hc0 1 (by omega)
  have x2 := hc0 2 (by omega)
  have x3 := hc0 3 (by omega)
  have x4 := hc0 4 (by omega)
  have x5 := hc0 5 (by omega)
  have x6 := hc0 6 (by omega)
  have x7 := hc0 7 (by omega)
  have x8 := hc0 8 (by omega)
  have HO := Lib.hid hO
  have HHi := Lib.hid hH
  have HLS := Lib.hid hL
  have HK := Lib.hid hk
  have HLEN := Lib.hid hn
  have d0 : decide ((k : Int) < 0) = false := decide_eq_false (by omega)
  have d1 : decide (L.length ≤ k) = false := decide_eq_false (by omega)
  have d2 : decide ((L.length : Int) ≤ (k : Int)) = false := decide_eq_false (by omega)
  have HPN := Lib.hid hpn
  clear h hc0 fz hO hH hL hn hX1 hb0 hbx hk
  subst hW
  go_enter Tryz.func38, Tryz.ntmps38
  go_wp2_with fail
  go_quiet (fail)
  go_wp2_with fail
  have HS0 : Hid (WaveE B (fun i => X i ∨ i = w.heap.size) (((w.alloc (.cells #[.int .i64 k] 3)).setCell ⟨p, 10, none⟩ (.int .i64 0)).drewN nq) p D O L.length 0 anyV ∧ Box1 (((w.alloc (.cells #[.int .i64 k] 3)).setCell ⟨p, 10, none⟩ (.int .i64 0)).drewN nq) w.heap.size (.int .i64 k) 3 ∧ Chg (exT B X) w (((w.alloc (.cells #[.int .i64 k] 3)).setCell ⟨p, 10, none⟩ (.int .i64 0)).drewN nq)) :=
    ⟨HST.out.1.drewN nq, HKB.out _, ((Chg.of_below (S := exT B X) HB0.out).trans (HST.out.2.mono (fun j hj => exT_mono (fun i hi => Or.inl hi) hj)) (fun j hj => Or.inl hj)).drewN nq⟩
  generalize ((w.alloc (.cells #[.int .i64 k] 3)).setCell ⟨p, 10, none⟩ (.int .i64 0)).drewN nq = ws at *
  clear HST HKB HB0 x0 x1 x2 x3 x4 x5 x6 x7 x8 c9 c10 z10 kc d0 d1 d2 hp hpn
  go_loopw [6, 30] (fun v x wr => ∃ l : Nat, l ≤ 9 ∧ x = .int .i64 l ∧ v = .int .i64 (pth s l : Nat) ∧ ∃ vis' : Int, 0 ≤ vis' ∧ vis' ≤ l * (2 * (H + 1)) ∧ WaveE B (fun i => X i ∨ i = w.heap.size) wr p D O L.length vis' anyV ∧ Box1 wr w.heap.size (.int .i64 (cntP L l (pth s l) k : Nat)) 3 ∧ Chg (exT B X) w wr) (fun _ x _ => 9 - (intOf x).toNat)
  case atStart => exact ⟨0, by omega, rfl, by rw [pth_zero (by omega)]; rfl, 0, by omega, by simp, HS0.out.1, by rw [pth_zero (by omega), cntP_zero HLS.out.lt k (by omega)]; exact HS0.out.2.1, HS0.out.2.2⟩
  case round => as_aux_lemma =>
    clear HS0
    obtain ⟨l, hl, rfl, rfl, vis', hv0, hv1, hE, hKB, hC⟩ := hrel
    by_cases hlt : l < 9
    · have hix : ∀ w : World, (Instr.index 73 (.agg #[D.row 0, D.row 1, D.row 2, D.row 3, D.row 4, D.row 5, D.row 6, D.row 7, D.row 8]) (.int .i64 (l : Int))).run Tryz.prog w = .ok (.slice (some ⟨D.G l, 0, none⟩) (pw l) (D.C l)) w := idx_row D hlt
      have hpp := pth_pw hs hlt
      have hpl := pw_le hlt
      obtain ⟨r0, r1, r2⟩ := hE.shelf hlt hpp
      obtain ⟨g1, g2⟩ := lvl_at HK.out l
      have hHl := HHi.out l (pth s l) hlt hpp
      have hv1' : vis' ≤ 9 * (2 * ((H : Int) + 1)) := by
        have h1 : (l : Int) * (2 * ((H : Int) + 1)) ≤ 9 * (2 * ((H : Int) + 1)) := Int.mul_le_mul_of_nonneg_right (by omega) (by omega)
        omega
      obtain ⟨π, hπ⟩ : ∃ π, pth s l = π := ⟨_, rfl⟩
      obtain ⟨bt, hbt⟩ : ∃ bt, bitS s l = bt := ⟨_, rfl⟩
      obtain ⟨ct, hct⟩ : ∃ ct, cntP L l (pth s l) k = ct := ⟨_, rfl⟩
      have HOB := HO.out l (pth s l) hlt hpp
      have hnx : rankL (sbits (O l π)) ct bt = cntP L (l + 1) (pth s (l + 1)) k := by
        rw [← hπ, ← hbt, ← hct, HOB, wrank_next L hlt, pth_succ hlt]
      have hpn : 2 * π + bnum bt = pth s (l + 1) := by rw [← hπ, ← hbt, pth_succ hlt]
      rw [hct] at hKB g1 g2
      rw [hπ] at hpp r0 r1 r2 g1 g2 hHl HOB ⊢
      rw [hbt] at g2
      rw [← HOB] at g1 g2
      obtain ⟨wa, hwa⟩ : ∃ wa, wa = wr.alloc (.cells #[.pointer (some ⟨D.Q l π, 0, none⟩), .int .i64 l, .int .i64 π] 79) := ⟨_, rfl⟩
      obtain ⟨wb, hwb⟩ : ∃ wb, wb = wa.alloc (.cells #[.bool false] 4) := ⟨_, rfl⟩
      have sa : wa.heap.size = wr.heap.size + 1 := by rw [hwa]; simp
      have ba : Below wr.heap.size wr wa := by rw [hwa]; exact below_al wr _
      have bb : Below wa.heap.size wa wb := by rw [hwb]; exact below_al wa _
      have ball : Below wr.heap.size wr wb := ba.trans (bb.mono ba.size)
      have bx9 : Box3 wb wr.heap.size (.pointer (some ⟨D.Q l π, 0, none⟩)) (.int .i64 l) (.int .i64 π) 79 := (Chg.of_below (S := fun _ => False) bb).heap (by rw [hwa]; exact heap_alloc_new wr _) id
      have bx10 : Box1 wb (wr.heap.size + 1) (.bool false) 4 := by rw [hwb, ← sa]; exact Box1.new wa _ _
      have hkl := hKB.lt
      have hX3 : WaveE B (fun i => (X i ∨ i = w.heap.size) ∨ (i = wr.heap.size ∨ i = wr.heap.size + 1)) wb p D O L.length vis' anyV := hE.less ball (fun i hi => hi.elim Or.inl (fun g => Or.inr (by omega))) (fun i hi => hi.elim (fun g => Nat.lt_of_lt_of_le (hE.x i g) ball.size) (fun g => by have := bx10.lt; omega))
      have HLOOK := Lib.hid (wLook hX3 hlt hpp ⟨hv0, by omega⟩ (M := shigh (O l π) + 1) (by omega) (Y := fun i => i = wr.heap.size + 1) (fun i e => Or.inr (Or.inr e)) O 60 #[.pointer (some ⟨w.heap.size, 0, none⟩), .pointer (some ⟨wr.heap.size + 1, 0, none⟩)]
        (enters_of Tryz.func60 (by kernel_rfl) rfl) (fun w' => Box1 w' (wr.heap.size + 1) (.bool bt) 4) (fun w1 w2 hb hc => hb.chg hc (fun e => by have := hE.cells.2.2.2.2; omega))
        (fun w0 Z hXZ hb hE0 => by
          have := wGet1 hE0 hlt hpp (hXZ _ (Or.inl (Or.inr rfl))) (hXZ _ (Or.inr (Or.inr rfl))) g1 ((hKB.below ball).below hb) (bx10.below hb)
          rw [g2] at this; exact this))
      have HBL : Hid (Below wr.heap.size wr wb) := ball
      have HB9 := Lib.hid bx9
      have HKB2 := Lib.hid (hKB.below ball)
      have HKL := Lib.hid hkl
      have hwE := hE.le
      have HC := Lib.hid hC
      have HNX := Lib.hid hnx
      have HPN2 := Lib.hid hpn
      have HVB : Hid (∀ v1 v2 : Nat, v1 ≤ shigh (O l π) + 1 → v2 ≤ shigh (O l π) + 1 → 0 ≤ vis' + (v1 : Int) + (v2 : Int) ∧ vis' + (v1 : Int) + (v2 : Int) ≤ ((l + 1 : Nat) : Int) * (2 * ((H : Int) + 1))) := fun v1 v2 h1 h2 => by
        have e : ((l + 1 : Nat) : Int) * (2 * ((H : Int) + 1)) = (l : Int) * (2 * ((H : Int) + 1)) + 2 * ((H : Int) + 1) := by push_cast; rw [Int.add_mul]; omega
        rw [e]
        constructor <;> omega
      have HRK : Hid (∀ (w' : World) (v : Nat), v ≤ shigh (O l π) + 1 → WaveE B (fun i => (X i ∨ i = w.heap.size) ∨ (i = wr.heap.size ∨ i = wr.heap.size + 1)) w' p D O L.length (vis' + v) anyV → Calls Tryz.prog 54 #[.pointer (some ⟨p, 0, none⟩), shelfV D l π, .int .i64 ct, .bool bt] w' fun e w'' =>
          e = .returned (.int .i64 (cntP L (l + 1) (pth s (l + 1)) k : Nat)) ∧ ∃ v' : Nat, v' ≤ shigh (O l π) + 1 ∧ WaveE B (fun i => (X i ∨ i = w.heap.size) ∨ (i = wr.heap.size ∨ i = wr.heap.size + 1)) w'' p D O L.length (vis' + v + v') anyV ∧ Chg (exT B (fun i => (X i ∨ i = w.heap.size) ∨ (i = wr.heap.size ∨ i = wr.heap.size + 1))) w' w'') := fun w' v hv h => by
        have := wRankS h hlt hpp ⟨by omega, by omega⟩ (by omega) (ct : Int) bt
        rw [Int.toNat_natCast, hnx] at this
        exact this
      have HNXT : Hid (∀ w', Calls Tryz.prog 62 #[shelfV D l π, .bool bt] w' fun e w'' => e = .returned (.int .i64 (pth s (l + 1) : Nat)) ∧ Below w'.heap.size w' w'') := fun w' => by
        have := wNext D (l := l) (k := π) (by omega) bt w'
        rw [hpn] at this; exact this
      have i0 : (0 : Int) ≤ (π : Int) := by omega
      have i1 : (π : Int) < ((pw l : Nat) : Int) := by omega
      have HPP := Lib.hid hpp
      clear hE hKB hC HOB g1 g2 hHl hv1' hv0 hv1 hct hπ hbt hnx hpn sa ba bb ball bx9 bx10 hkl hX3 hpp hpl
      unfold shelfV at HLOOK HRK HNXT
      generalize D.Q l π = q at *
      generalize D.G l = g at *
      generalize D.C l = gc at *
      subst hwa
      go_wp2_with fail
      rw [← hwb]
      refine HLOOK.out.mono ?_
      rintro e w2 ⟨rfl, v1, hv1, hE2, hC2, hR2⟩
      have hb9 : Box3 w2 wr.heap.size (.pointer (some ⟨q, 0, none⟩)) (.int .i64 l) (.int .i64 π) 79 := hC2.heap HB9.out (fun hk => hk.elim (fun hk => hk.2 (Or.inr (Or.inl rfl))) (fun e => by omega))
      have hkb2 := HKB2.out.chg hC2 (fun hk => hk.elim (fun hk => hk.2 (Or.inl (Or.inr rfl))) (fun e => by have := HKL.out; omega))
      obtain ⟨b90, b91, b92⟩ := hb9.cells
      have b10 := hR2.cell
      have kc2 := hkb2.cell
      have HSK : Hid (∀ w', Chg (exT B (fun i => (X i ∨ i = w.heap.size) ∨ (i = wr.heap.size ∨ i = wr.heap.size + 1))) (w2.drewN 1) w' → (w'.cell? ⟨wr.heap.size, 0, none⟩ = some (.pointer (some ⟨q, 0, none⟩)) ∧ w'.cell? ⟨wr.heap.size, 1, none⟩ = some (.int .i64 l) ∧ w'.cell? ⟨wr.heap.size, 2, none⟩ = some (.int .i64 π)) ∧ w'.cell? ⟨wr.heap.size + 1, 0, none⟩ = some (.bool bt)) := fun w' hc => by
        have h9 : Box3 w' wr.heap.size (.pointer (some ⟨q, 0, none⟩)) (.int .i64 l) (.int .i64 π) 79 := hc.heap hb9 (fun hk => hk.2 (Or.inr (Or.inl rfl)))
        have h10 : Box1 w' (wr.heap.size + 1) (.bool bt) 4 := Box1.chg (w := w2.drewN 1) hR2 hc (fun hk => hk.2 (Or.inr (Or.inr rfl)))
        exact ⟨h9.cells, h10.cell⟩
      have HE2 := Lib.hid hE2
      have HKB3 := Lib.hid hkb2
      have HW2 : Hid (Chg (exT B X) w w2) := (HC.out.trans (Chg.of_below (S := exT B X) HBL.out) (fun j hj => Or.inl hj)).trans hC2 (fun j hj => hj.elim (fun h => Or.inl (exT_mono (fun i hi => Or.inl (Or.inl hi)) h)) (fun e => by right; have := HKL.out; omega))
      clear hE2 hC2 hR2 hb9 hkb2 HLOOK HB9 HKB2 HBL HC hwb
      go_wp2_with fail
      -- REGION get
      refine reg_start (fun w' => (w'.cell? ⟨wr.heap.size, 0, none⟩ = some (.pointer (some ⟨q, 0, none⟩)) ∧ w'.cell? ⟨wr.heap.size, 1, none⟩ = some (.int .i64 l) ∧ w'.cell? ⟨wr.heap.size, 2, none⟩ = some (.int .i64 π)) ∧ w'.cell? ⟨wr.heap.size + 1, 0, none⟩ = some (.bool bt)) (by kernel_rfl) (HSK.out _ Chg.refl) (fun hHeld => ?_)
      refine rt 0 hHeld ?_
      refine rt 1 hHeld ?_
      refine rt 3 hHeld ?_
      refine rt 5 hHeld ?_
      refine rt 6 hHeld ?_
      refine reg_loud (i := 2) rfl (by kernel_rfl) rfl (fun K hK => ?_)
      go_simp
      refine hK.out _ _ (hHeld) (fun hNew => ?_)
      clear hK K hHeld
      have hHeld := hNew
      clear hNew
      try simp only [Act.put, List.setIfInBounds_toArray, List.set_cons_zero, List.set_cons_succ]
      refine reg_loud (i := 4) rfl (by kernel_rfl) rfl (fun K hK => ?_)
      go_simp
      ((refine (HRK.out _ v1 hv1 (HE2.out.drewN 1)).mono ?_))
      rintro e w3 ⟨rfl, v2, hv2, hE3, hC3⟩
      have HE3 := Lib.hid hE3
      have HC3 := Lib.hid hC3
      clear hE3 hC3
      refine hK.out _ _ (HSK.out _ HC3.out) (fun hNew => ?_)
      clear hK K hHeld
      have hHeld := hNew
      clear hNew
      try simp only [Act.put, List.setIfInBounds_toArray, List.set_cons_zero, List.set_cons_succ]
      refine reg_loud (i := 7) rfl (by kernel_rfl) rfl (fun K hK => ?_)
      go_simp
      ((refine (HNXT.out _).mono ?_))
      rintro e w4 ⟨rfl, hb4⟩
      have hk4 := (Box1.chg (w := w2.drewN 1) HKB3.out HC3.out (fun hk => hk.2 (Or.inl (Or.inr rfl)))).below hb4
      have k4 := hk4.cell
      have f4 := hk4.frz
      have HK4 := Lib.hid hk4
      have HE4 := Lib.hid (HE3.out.below hb4)
      have HW4 : Hid (Chg (exT B X) w w4) := ((HW2.out.drewN 1).trans HC3.out (fun j hj => Or.inl (exT_mono (fun i hi => Or.inl (Or.inl hi)) hj))).trans (Chg.of_below (S := exT B X) hb4) (fun j hj => Or.inl hj)
      clear hk4
      refine hK.out _ _ (keepB hHeld hb4) (fun hNew => ?_)
      clear hK K hHeld
      have hHeld := hNew
      clear hNew
      try simp only [Act.put, List.setIfInBounds_toArray, List.set_cons_zero, List.set_cons_succ]
      refine reg_loud (i := 8) rfl (by kernel_rfl) rfl (fun K hK => ?_)
      go_simp
      refine hK.out _ _ (keepSt hHeld (by have := HKL.out; omega) (by have := HKL.out; omega)) (fun hNew => ?_)
      clear hK K hHeld
      have hHeld := hNew
      clear hNew
      try simp only [Act.put, List.setIfInBounds_toArray, List.set_cons_zero, List.set_cons_succ]
      refine rt 9 hHeld ?_
      refine reg_done (by kernel_rfl) ?_ _
      -- END OF REGION get
      clear hHeld
      go_wp2_with fail
      go_roundw
      case rel => exact ⟨l + 1, by omega, by go_num, rfl, _, (HVB.out v1 v2 hv1 hv2).1, (HVB.out v1 v2 hv1 hv2).2, (HE4.out.mono (fun i hi => Or.inl hi)).chg (Z := fun j => j = w.heap.size) (Chg.refl.setCell (S := fun j => j = w.heap.size) ⟨w.heap.size, 0, none⟩ (Or.inl rfl) _) (fun k hk _ e => hk.2 (Or.inr e)), HK4.out.set _, HW4.out.setCell _ (Or.inr (Nat.le_refl _)) _⟩
      case measure => simp [intOf]; omega
    · obtain rfl : l = 9 := by omega
      have hp9 := pth_nine s
      have HC := Lib.hid hC
      have HE := Lib.hid hE
      clear hC hE hKB
      go_wp2_with fail
      go_ret2
      exact ⟨by rw [hp9]; rfl, vis', hv0, by omega, HE.out.mono (fun i hi => Or.inl hi), HC.out⟩

end Go.Proofs.YtacoeohmdngnkaaGreatDoor

namespace Go.Proofs.YtacoeohmdngnkaaGreatDoor
set_option linter.unusedVariables false
set_option linter.unusedSimpArgs false
open Go.RowKit

/-- The place of the s with j such ones ahead; -1. -/
def selS (L : List Nat) (j : Int) (s : Nat) : Int := match (List.range L.length).find? fun i => decide (L[i]? = some s) && decide ((rankS L i s : Int) = j) with
  | some i => (i : Int)
  | none => -1
theorem rankS_succ {L : List Nat} {k : Nat} (s : Nat) (h : k < L.length) : rankS L (k + 1) s = rankS L k s + (if L[k]? = some s then 1 else 0) := by
  unfold rankS
  rw [List.take_add_one, List.getElem?_eq_getElem h, Option.toList_some, List.count_append, List.count_singleton]
  congr 1
  by_cases e : L[k] = s <;> simp [e]
theorem rankS_mono (L : List Nat) {i j : Nat} (s : Nat) (h : i ≤ j) : rankS L i s ≤ rankS L j s := by
  unfold rankS
  exact List.Sublist.count_le _ (List.take_sublist_take_left h)
theorem rankS_over {L : List Nat} {k : Nat} (s : Nat) (h : L.length ≤ k) : rankS L k s = L.count s := by unfold rankS; rw [List.take_of_length_le h]
theorem rankS_le (L : List Nat) (k s : Nat) : rankS L k s ≤ k ∧ rankS L k s ≤ L.count s := by
  constructor
  · unfold rankS
    have := List.count_le_length (a := s) (l := L.take k)
    rw [List.length_take] at this; omega
  · rw [← rankS_over (L := L) (k := max k L.length) s (by omega)]
    exact rankS_mono L s (by omega)
theorem selS_hit {L : List Nat} {k s : Nat} {j : Int} (hk : L[k]? = some s) (hp : (rankS L k s : Int) = j) : selS L j s = k := by
  have hlt := (List.getElem?_eq_some_iff.1 hk).1
  unfold selS
  have : (List.range L.length).find? (fun i => decide (L[i]? = some s) && decide ((rankS L i s : Int) = j)) = some k := by
    rw [List.find?_range_eq_some]
    refine ⟨by simp [hk, hp], by simpa using hlt, fun i hi => ?_⟩
    simp only [Bool.not_eq_true', Bool.and_eq_false_iff, decide_eq_false_iff_not]
    by_cases e : L[i]? = some s
    · right
      have h1 := rankS_succ s (L := L) (k := i) (by omega)
      rw [if_pos e] at h1
      have h2 := rankS_mono L (i := i + 1) (j := k) s (by omega)
      omega
    · exact Or.inl e
  rw [this]
theorem selS_none {L : List Nat} {j : Int} {s : Nat} (h : ∀ i, L[i]? = some s → (rankS L i s : Int) ≠ j) : selS L j s = -1 := by
  unfold selS
  have : (List.range L.length).find? (fun i => decide (L[i]? = some s) && decide ((rankS L i s : Int) = j)) = none := by
    rw [List.find?_eq_none]
    intro i _
    simp only [Bool.and_eq_true, decide_eq_true_eq, not_and]
    exact fun e => h i e
  rw [this]
theorem selS_neg {L : List Nat} {j : Int} {s : Nat} (h : j < 0) : selS L j s = -1 := selS_none (fun i _ => by omega)
theorem selS_many {L : List Nat} {j : Int} {s : Nat} (h : (L.count s : Int) ≤ j) : selS L j s = -1 := selS_none (fun i hi => by
  have hlt := (List.getElem?_eq_some_iff.1 hi).1
  have h1 := rankS_succ s hlt
  rw [if_pos hi] at h1
  have h2 := (rankS_le L (i + 1) s).2
  omega)
theorem selS_ex : ∀ (n : Nat) (L : List Nat) (s j : Nat), n ≤ L.length → j < rankS L n s → ∃ k, k < n ∧ L[k]? = some s ∧ rankS L k s = j
  | 0, L, s, j, _, h => by simp [rankS] at h
  | n + 1, L, s, j, hn, h => by
    have h1 := rankS_succ s (L := L) (k := n) (by omega)
    by_cases e : L[n]? = some s
    · rw [if_pos e] at h1
      by_cases e2 : j = rankS L n s
      · exact ⟨n, by omega, e, e2.symm⟩
      · obtain ⟨k, a, b, c⟩ := selS_ex n L s j (by omega) (by omega)
        exact ⟨k, by omega, b, c⟩
    · rw [if_neg e] at h1
      obtain ⟨k, a, b, c⟩ := selS_ex n L s j (by omega) (by omega)
      exact ⟨k, by omega, b, c⟩

theorem keepS3 {w : World} {a b c d : Nat} {va vb vc u : Value} (h : w.cell? ⟨a, 0, none⟩ = some va ∧ w.cell? ⟨b, 0, none⟩ = some vb ∧ w.cell? ⟨c, 0, none⟩ = some vc) (hn : a ≠ d ∧ b ≠ d ∧ c ≠ d) :
    (w.setCell ⟨d, 0, none⟩ u).cell? ⟨a, 0, none⟩ = some va ∧ (w.setCell ⟨d, 0, none⟩ u).cell? ⟨b, 0, none⟩ = some vb ∧ (w.setCell ⟨d, 0, none⟩ u).cell? ⟨c, 0, none⟩ = some vc := by
  have hc : Chg (fun j => j = d) w (w.setCell ⟨d, 0, none⟩ u) := Chg.refl.setCell (S := fun j => j = d) ⟨d, 0, none⟩ (Or.inl rfl) u
  exact ⟨hc.cell (p := ⟨a, 0, none⟩) h.1 hn.1, hc.cell (p := ⟨b, 0, none⟩) h.2.1 hn.2.1, hc.cell (p := ⟨c, 0, none⟩) h.2.2 hn.2.2⟩

set_option maxHeartbeats 3200000 in
theorem wSel1 {B : Nat} {Z : Nat → Prop} {w : World} {p n : Nat} {D : WD} {O : Nat → Nat → Option ST} {vis : Int} (h : WaveE B Z w p D O n vis anyV) (hTab : BitTab w) (hN : 0 < B) {l k s : Nat} (hs : s < 257) (hl : l < 9) (hk : k < pw l) {b1 b2 b3 : Nat} (z1 : Z b1) (z2 : Z b2) (z3 : Z b3) (hn2 : b2 ≠ b1) (hn3 : b3 ≠ b1) {j : Int}
    (h1 : Box1 w b1 (.int .i64 j) 3) (h2 : Box1 w b2 (.int .i64 s) 3) (h3 : Box1 w b3 (.int .i64 l) 3) :
    Calls Tryz.prog 63 #[shelfV D l k, .pointer (some ⟨b1, 0, none⟩), .pointer (some ⟨b2, 0, none⟩), .pointer (some ⟨b3, 0, none⟩)] w fun e w' => e = .returned (.tuple #[]) ∧ DoPost B Z (fun i => i = b1) w w' p D O n vis l k (shigh (O l k) + 1) ∧ Box1 w' b1 (.int .i64 (selL (sbits (O l k)) j (bitS s l))) 3 := by
  have hb0 := below_al w (.cells #[.pointer (some ⟨D.Q l k, 0, none⟩), .int .i64 l, .int .i64 k] 79)
  obtain ⟨W, hW⟩ : ∃ W, W = w.alloc (.cells #[.pointer (some ⟨D.Q l k, 0, none⟩), .int .i64 l, .int .i64 k] 79) := ⟨_, rfl⟩
  have hbx : Box3 W w.heap.size (.pointer (some ⟨D.Q l k, 0, none⟩)) (.int .i64 l) (.int .i64 k) 79 := by rw [hW]; exact heap_alloc_new w _
  rw [← hW] at hb0
  have c1 := (h1.below hb0).cell
  have c2 := (h2.below hb0).cell
  have c3 := (h3.below hb0).cell
  have HBIT := Lib.hid (fun w => bit_nat hs hl w)
  have hE' : WaveE B (fun i => Z i ∨ i = w.heap.size) W p D O n vis anyV := h.less hb0 (fun i hi => hi.elim Or.inl (fun e => Or.inr (by omega))) (fun i hi => hi.elim (fun g => Nat.lt_of_lt_of_le (h.x i g) hb0.size) (fun e => by subst e; exact hbx.lt))
  have HSEL := Lib.hid ((hE'.drewN 1).tSelect hl hk (BitTab.below' hTab ⟨hb0.os, hb0.tape, hb0.output, hb0.size, hb0.block⟩) hN j (bitS s l))
  have HB1 := Lib.hid (h1.below hb0)
  have HB0 := Lib.hid hb0
  have HZ1 := Lib.hid z1
  have hsbx := hbx.cells.1
  have HSK : Hid (∀ w', Chg (exT B (fun i => Z i ∨ i = w.heap.size)) (W.drewN 1) w' → (w'.cell? ⟨w.heap.size, 0, none⟩ = some (.pointer (some ⟨D.Q l k, 0, none⟩)) ∧ w'.cell? ⟨b2, 0, none⟩ = some (.int .i64 s) ∧ w'.cell? ⟨b3, 0, none⟩ = some (.int .i64 l))) := fun w' hc =>
    ⟨(Box3.chg (w := W.drewN 1) hbx hc (fun hk => hk.2 (Or.inr rfl))).cells.1, (Box1.chg (w := W.drewN 1) (Box1.below (w' := W) h2 hb0) hc (fun hk => hk.2 (Or.inl z2))).cell, (Box1.chg (w := W.drewN 1) (Box1.below (w' := W) h3 hb0) hc (fun hk => hk.2 (Or.inl z3))).cell⟩
  have HNE : Hid (w.heap.size ≠ b1 ∧ b2 ≠ b1 ∧ b3 ≠ b1) := ⟨fun e => by have := h1.lt; omega, hn2, hn3⟩
  clear h h1 h2 h3 hb0 z1 z2 z3 hl hk hTab hbx hE'
  unfold shelfV
  obtain ⟨r, hr⟩ : ∃ r, selL (sbits (O l k)) j (bitS s l) = r := ⟨_, rfl⟩
  rw [hr] at HSEL ⊢
  clear hr
  generalize bitS s l = bt at *
  obtain ⟨q, hq⟩ : ∃ q, D.Q l k = q := ⟨_, rfl⟩
  rw [hq] at HSEL hW hsbx HSK ⊢
  clear hq
  have HWW := Lib.hid hW
  go_enter Tryz.func63, Tryz.ntmps63
  go_wp2_with fail
  rw [← hW]
  clear hW
  -- REGION s1
  refine reg_start (fun w' => w'.cell? ⟨w.heap.size, 0, none⟩ = some (.pointer (some ⟨q, 0, none⟩)) ∧ w'.cell? ⟨b2, 0, none⟩ = some (.int .i64 s) ∧ w'.cell? ⟨b3, 0, none⟩ = some (.int .i64 l)) (by kernel_rfl) (HSK.out _ Chg.refl) (fun hHeld => ?_)
  refine rt 0 hHeld ?_
  refine rt 1 hHeld ?_
  refine rt 3 hHeld ?_
  refine rt 4 hHeld ?_
  refine reg_loud2 (i := 2) (j := 5) rfl rfl (by kernel_rfl) rfl rfl (fun K hK => ?bs12) (fun K hK => ?bs15)
  case bs12 => 
    go_simp
    refine hK.out _ _ (hHeld) (fun hNew => ?_)
    clear hK K hHeld
    have hHeld := hNew
    clear hNew
    try simp only [Act.put, List.setIfInBounds_toArray, List.set_cons_zero, List.set_cons_succ]
    refine reg_loud (i := 5) rfl (by kernel_rfl) rfl (fun K hK => ?_)
    go_simp
    ((refine (HBIT.out _).mono ?_))
    rintro e w2 ⟨rfl, rfl⟩
    refine hK.out _ _ (hHeld) (fun hNew => ?_)
    clear hK K hHeld
    have hHeld := hNew
    clear hNew
    try simp only [Act.put, List.setIfInBounds_toArray, List.set_cons_zero, List.set_cons_succ]
    refine reg_loud (i := 6) rfl (by kernel_rfl) rfl (fun K hK => ?_)
    go_simp
    ((refine HSEL.out.mono ?_))
    rintro e w2 ⟨rfl, hE2, hC2⟩
    have hb1 := Box1.chg (w := W.drewN 1) HB1.out hC2 (fun hk => hk.2 (Or.inl HZ1.out))
    have k1 := hb1.cell
    have kf1 := hb1.frz
    have HK1 := Lib.hid hb1
    have HE2 := Lib.hid hE2
    have HC2 := Lib.hid hC2
    clear hb1 hE2 hC2
    refine hK.out _ _ (HSK.out _ HC2.out) (fun hNew => ?_)
    clear hK K hHeld
    have hHeld := hNew
    clear hNew
    try simp only [Act.put, List.setIfInBounds_toArray, List.set_cons_zero, List.set_cons_succ]
    refine reg_loud (i := 7) rfl (by kernel_rfl) rfl (fun K hK => ?_)
    go_simp
    refine hK.out _ _ (keepS3 hHeld HNE.out) (fun hNew => ?_)
    clear hK K hHeld
    have hHeld := hNew
    clear hNew
    try simp only [Act.put, List.setIfInBounds_toArray, List.set_cons_zero, List.set_cons_succ]
    refine reg_done (by kernel_rfl) ?_ _
    clear hHeld
    go_wp2_with fail
    go_end0
    refine ⟨rfl, ⟨(HE2.out.mono (fun i hi => Or.inl hi)).setBox HZ1.out _, ?_⟩, HK1.out.set _⟩
    exact (((Chg.of_below (S := fun j => exT B Z j ∨ j = b1) HB0.out).drewN 1).trans (HC2.out.mono (fun j hj => Or.inl (exT_mono (fun i hi => Or.inl hi) hj))) (fun j hj => Or.inl hj)).setCell _ (Or.inl (Or.inr rfl)) _
  case bs15 => 
    go_simp
    ((refine (HBIT.out _).mono ?_))
    rintro e w2 ⟨rfl, rfl⟩
    refine hK.out _ _ (hHeld) (fun hNew => ?_)
    clear hK K hHeld
    have hHeld := hNew
    clear hNew
    try simp only [Act.put, List.setIfInBounds_toArray, List.set_cons_zero, List.set_cons_succ]
    refine reg_loud (i := 2) rfl (by kernel_rfl) rfl (fun K hK => ?_)
    go_simp
    refine hK.out _ _ (hHeld) (fun hNew => ?_)
    clear hK K hHeld
    have hHeld := hNew
    clear hNew
    try simp only [Act.put, List.setIfInBounds_toArray, List.set_cons_zero, List.set_cons_succ]
    refine reg_loud (i := 6) rfl (by kernel_rfl) rfl (fun K hK => ?_)
    go_simp
    ((refine HSEL.out.mono ?_))
    rintro e w2 ⟨rfl, hE2, hC2⟩
    have hb1 := Box1.chg (w := W.drewN 1) HB1.out hC2 (fun hk => hk.2 (Or.inl HZ1.out))
    have k1 := hb1.cell
    have kf1 := hb1.frz
    have HK1 := Lib.hid hb1
    have HE2 := Lib.hid hE2
    have HC2 := Lib.hid hC2
    clear hb1 hE2 hC2
    refine hK.out _ _ (HSK.out _ HC2.out) (fun hNew => ?_)
    clear hK K hHeld
    have hHeld := hNew
    clear hNew
    try simp only [Act.put, List.setIfInBounds_toArray, List.set_cons_zero, List.set_cons_succ]
    refine reg_loud (i := 7) rfl (by kernel_rfl) rfl (fun K hK => ?_)
    go_simp
    refine hK.out _ _ (keepS3 hHeld HNE.out) (fun hNew => ?_)
    clear hK K hHeld
    have hHeld := hNew
    clear hNew
    try simp only [Act.put, List.setIfInBounds_toArray, List.set_cons_zero, List.set_cons_succ]
    refine reg_done (by kernel_rfl) ?_ _
    clear hHeld
    go_wp2_with fail
    go_end0
    refine ⟨rfl, ⟨(HE2.out.mono (fun i hi => Or.inl hi)).setBox HZ1.out _, ?_⟩, HK1.out.set _⟩
    exact (((Chg.of_below (S := fun j => exT B Z j ∨ j = b1) HB0.out).drewN 1).trans (HC2.out.mono (fun j hj => Or.inl (exT_mono (fun i hi => Or.inl hi) hj))) (fun j hj => Or.inl hj)).setCell _ (Or.inl (Or.inr rfl)) _
  -- END OF REGION s1

def adOf : Value → Addr
  | .pointer (some a) => a
  | _ => ⟨0, 0, none⟩

set_option maxHeartbeats 6400000 in
set_option maxRecDepth 100000 in
theorem wSelect_any {B : Nat} {X : Nat → Prop} {w : World} {p : Nat} {D : WD} {O : Nat → Nat → Option ST} {L : List Nat} {vis : Int} (h : WaveE B X w p D O L.length vis anyV) (hTab : BitTab w) (hNT : 0 < B) (hO : LvlO O L) (hL : Syms L) (hn : L.length ≤ 1000000000) {H : Nat} (hH : HiO O H) (hHm : H ≤ 1000000000) (j : Int) (s : Nat) (hs : s < 257) :
    Calls Tryz.prog 43 #[.pointer (some ⟨p, 0, none⟩), .int .i64 j, .int .i64 s] w fun e w' =>
      e = .returned (.int .i64 (selS L j s)) ∧ ∃ vis' : Int, WaveE B X w' p D O L.length vis' anyV ∧ Chg (exT B X) w w' := by
  obtain ⟨wa, hwa⟩ : ∃ wa, wa = w.alloc (.cells #[.int .i64 j] 3) := ⟨_, rfl⟩
  obtain ⟨wb, hwb⟩ : ∃ wb, wb = wa.alloc (.cells #[.int .i64 s] 3) := ⟨_, rfl⟩
  have sa : wa.heap.size = w.heap.size + 1 := by rw [hwa]; simp
  have ba : Below w.heap.size w wa := by rw [hwa]; exact below_al w _
  have bb : Below wa.heap.size wa wb := by rw [hwb]; exact below_al wa _
  have ball : Below w.heap.size w wb := ba.trans (bb.mono ba.size)
  have bj : Box1 wb w.heap.size (.int .i64 j) 3 := (by rw [hwa]; exact Box1.new w _ _ : Box1 wa w.heap.size (.int .i64 j) 3).below bb
  have bs : Box1 wb (w.heap.size + 1) (.int .i64 s) 3 := by rw [hwb, ← sa]; exact Box1.new wa _ _
  have hX1 : WaveE B (fun i => X i ∨ (i = w.heap.size ∨ i = w.heap.size + 1)) wb p D O L.length vis anyV := h.less ball (fun i hi => hi.elim Or.inl (fun e => Or.inr (by omega))) (fun i hi => hi.elim (fun g => Nat.lt_of_lt_of_le (h.x i g) ball.size) (fun e => by have := bs.lt; omega))
  obtain ⟨hc0, c9, c10, fz, hp⟩ := hX1.cells
  have cj := bj.cell
  have cs := bs.cell
  have HRK : Hid (Calls Tryz.prog 32 #[.pointer (some ⟨p, 0, none⟩), .int .i64 L.length, .int .i64 s] (wb.drewN 1) fun e w' =>
      e = .returned (.int .i64 (L.count s : Nat)) ∧ ∃ vis' : Int, 0 ≤ vis' ∧ vis' ≤ 9 * (H + 1) ∧ WaveE B (fun i => X i ∨ (i = w.heap.size ∨ i = w.heap.size + 1)) w' p D O L.length vis' anyV ∧ Chg (exT B (fun i => X i ∨ (i = w.heap.size ∨ i = w.heap.size + 1))) (wb.drewN 1) w') := by
    have := wRank_any (hX1.drewN 1) hO hL hn hH hHm (L.length : Int) s hs
    rw [Int.toNat_natCast, rankS_over s (Nat.le_refl _)] at this
    exact this
  have HX := Lib.hid h.x
  have HLE := Lib.hid h.le
  have HO := Lib.hid hO
  have HHi := Lib.hid hH
  have HLS := Lib.hid hL
  have HLEN := Lib.hid hn
  have HBJ := Lib.hid bj
  have HBS := Lib.hid bs
  have HBL := Lib.hid ball
  have HX1 := Lib.hid hX1
  have HTB := Lib.hid hTab
  have HPW := Lib.hid h.cells.2.2.2.2
  clear h hc0 fz hO hH hL hn hX1 ball bj bs ba bb sa hTab
  by_cases hj : j < 0
  · have d0 : decide (j < 0) = true := decide_eq_true hj
    have hsl := selS_neg (L := L) (s := s) hj
    have HSL := Lib.hid hsl.symm
    clear hsl
    subst hwa
    rw [hwb] at c9 c10 cj cs hp
    go_enter Tryz.func43, Tryz.ntmps43
    go_wp2_with fail
    go_quiet (fail)
    go_wp2_with fail
    go_ret
    rw [HSL.out]
    have hb := HBL.out
    have hx := HX1.out
    rw [hwb] at hb hx
    exact ⟨rfl, vis, (hx.mono (fun i hi => Or.inl hi)).drewN _, (Chg.of_below hb).drewN _⟩
  · have d0 : decide (j < 0) = false := decide_eq_false hj
    subst hwa
    have HWB := Lib.hid hwb
    rw [hwb] at c9 c10 cj cs hp
    go_enter Tryz.func43, Tryz.ntmps43
    go_wp2_with fail
    rw [← hwb] at c9 c10 cj cs hp ⊢
    clear hwb
    -- REGION sel
    refine reg_start (fun w' => w'.cell? ⟨w.heap.size, 0, none⟩ = some (.int .i64 j) ∧ w'.cell? ⟨w.heap.size + 1, 0, none⟩ = some (.int .i64 s) ∧ w'.cell? ⟨p, 9, none⟩ = some (.int .i64 L.length)) (by kernel_rfl) (⟨cj, cs, c9⟩) (fun hHeld => ?_)
    refine rt 0 hHeld ?_
    refine rt 1 hHeld ?_
    refine rt 2 hHeld ?_
    refine rt 3 hHeld ?_
    refine rt 4 hHeld ?_
    refine rt 5 hHeld ?_
    refine rt 6 hHeld ?_
    refine rt 7 hHeld ?_
    refine rt 8 hHeld ?_
    refine rt 9 hHeld ?_
    refine rt 10 hHeld ?_
    refine rt 11 hHeld ?_
    refine rt 12 hHeld ?_
    refine rt 13 hHeld ?_
    refine reg_loud (i := 14) rfl (by kernel_rfl) rfl (fun K hK => ?_)
    go_simp
    ((refine HRK.out.mono ?_))
    rintro e w2 ⟨rfl, v1, v1a, v1b, hE2, hC2⟩
    have hj2 := Box1.chg (w := wb.drewN 1) HBJ.out hC2 (fun hk => hk.2 (Or.inr (Or.inl rfl)))
    have hs2 := Box1.chg (w := wb.drewN 1) HBS.out hC2 (fun hk => hk.2 (Or.inr (Or.inr rfl)))
    have HS2 : Hid (w2.cell? ⟨w.heap.size, 0, none⟩ = some (.int .i64 j) ∧ w2.cell? ⟨w.heap.size + 1, 0, none⟩ = some (.int .i64 s) ∧ w2.cell? ⟨p, 9, none⟩ = some (.int .i64 L.length)) := ⟨hj2.cell, hs2.cell, hE2.cells.2.1⟩
    have HE2 := Lib.hid hE2
    have HJ2 := Lib.hid hj2
    have HB2 := Lib.hid hs2
    have HC2 : Hid (Chg (exT B X) w w2) := ((Chg.of_below (S := exT B X) HBL.out).drewN 1).trans hC2 (fun j hj => Or.inl (exT_mono (fun i hi => Or.inl hi) hj))
    clear hj2 hs2 hE2 hC2
    refine hK.out _ _ (HS2.out) (fun hNew => ?_)
    clear hK K hHeld
    have hHeld := hNew
    clear hNew
    try simp only [Act.put, List.setIfInBounds_toArray, List.set_cons_zero, List.set_cons_succ]
    refine rt 15 hHeld ?_
    refine rt 16 hHeld ?_
    refine reg_done (by kernel_rfl) ?_ _
    -- END OF REGION sel
    obtain ⟨kj, ks, kp⟩ := hHeld
    clear c9 c10 cj cs
    by_cases hm : (L.count s : Int) ≤ j
    · have d1 : decide ((L.count s : Int) ≤ j) = true := decide_eq_true hm
      have HSL : Hid (-1 = selS L j s) := (selS_many hm).symm
      go_wp2_with fail
      go_ret
      rw [HSL.out]
      exact ⟨rfl, v1, HE2.out.mono (fun i hi => Or.inl hi), HC2.out⟩
    · have d1 : decide ((L.count s : Int) ≤ j) = false := decide_eq_false hm
      go_wp2_with fail
      obtain ⟨J, rfl⟩ := Int.eq_ofNat_of_zero_le (by omega : 0 ≤ j)
      obtain ⟨K, _, hK, hKr⟩ := selS_ex L.length L s J (Nat.le_refl _) (by rw [rankS_over s (Nat.le_refl _)]; omega)
      have HSL : Hid ((K : Int) = selS L J s) := (selS_hit hK (by rw [hKr])).symm
      have HK := Lib.hid hK
      have d1n : decide (L.count s ≤ J) = false := decide_eq_false (by omega)
      have hcj : J = cntP L 9 (pth s 9) K := by rw [pth_nine, cntP_nine, hKr]
      have HCJ := Lib.hid hcj
      clear hm d0 hj hK hKr HRK HBL HX1 hcj
      have bl := Box1.new w2 (.int .i64 8) 3
      have hbl := below_al w2 (.cells #[.int .i64 8] 3)
      have HS0 : Hid (WaveE B (fun i => (X i ∨ (i = w.heap.size ∨ i = w.heap.size + 1)) ∨ i = w2.heap.size) (w2.alloc (.cells #[.int .i64 8] 3)) p D O L.length v1 anyV ∧ Box1 (w2.alloc (.cells #[.int .i64 8] 3)) w.heap.size (.int .i64 (cntP L 9 (pth s 9) K : Nat)) 3 ∧ Box1 (w2.alloc (.cells #[.int .i64 8] 3)) (w.heap.size + 1) (.int .i64 s) 3 ∧ Box1 (w2.alloc (.cells #[.int .i64 8] 3)) w2.heap.size (.int .i64 8) 3 ∧ Chg (exT B X) w (w2.alloc (.cells #[.int .i64 8] 3)) ∧ w.heap.size + 1 < w2.heap.size) := by
        refine ⟨HE2.out.less hbl (fun i hi => hi.elim Or.inl (fun e => Or.inr (by omega))) (fun i hi => hi.elim (fun g => Nat.lt_of_lt_of_le (HE2.out.x i g) hbl.size) (fun e => by subst e; exact bl.lt)), ?_, HB2.out.below hbl, bl, HC2.out.trans (Chg.of_below (S := exT B X) hbl) (fun j hj => Or.inl hj), HB2.out.lt⟩
        rw [← HCJ.out]; exact HJ2.out.below hbl
      clear bl hbl HE2 HJ2 HB2 HC2 kj ks kp HS2 d1 d1n
      generalize w2.alloc (.cells #[.int .i64 8] 3) = wl at *
      go_loopw [7] (fun v wr => ∃ (m lb : Nat) (x : Int), m ≤ 9 ∧ v = .pointer (some ⟨lb, 0, none⟩) ∧ x = (m : Int) - 1 ∧ w.heap.size + 1 < lb ∧ (∃ vis' : Int, 0 ≤ vis' ∧ vis' ≤ 18 * (H + 1) - m * (H + 1) ∧ WaveE B (fun i => (X i ∨ (i = w.heap.size ∨ i = w.heap.size + 1)) ∨ i = lb) wr p D O L.length vis' anyV) ∧ Box1 wr w.heap.size (.int .i64 (cntP L m (pth s m) K : Nat)) 3 ∧ Box1 wr (w.heap.size + 1) (.int .i64 s) 3 ∧ Box1 wr lb (.int .i64 x) 3 ∧ Chg (exT B X) w wr) (fun v wr => (intOf ((wr.cell? (adOf v)).getD undef) + 1).toNat)
      case atStart => exact ⟨9, w2.heap.size, 8, Nat.le_refl _, rfl, rfl, HS0.out.2.2.2.2.2, ⟨v1, v1a, by omega, HS0.out.1⟩, HS0.out.2.1, HS0.out.2.2.1, HS0.out.2.2.2.1, HS0.out.2.2.2.2.1⟩
      case round => as_aux_lemma =>
        clear HS0
        obtain ⟨m, lb, x, hm9, rfl, hx, hlb, ⟨vis', hv0, hv1, hE⟩, hJ, hS, hB, hC⟩ := hrel
        obtain rfl | ⟨l, rfl⟩ : m = 0 ∨ ∃ l, m = l + 1 := by
          cases m with
          | zero => exact Or.inl rfl
          | succ l => exact Or.inr ⟨l, rfl⟩
        · obtain rfl : x = -1 := by omega
          have k0 := hJ.cell
          have k1 := hB.cell
          have HE := Lib.hid hE
          have HC := Lib.hid hC
          have HKK : Hid ((cntP L 0 (pth s 0) K : Nat) = K) := by
            show _ = _
            rw [pth_zero (by omega), cntP_zero HLS.out.lt K (by have := (List.getElem?_eq_some_iff.1 HK.out).1; omega)]
          clear hE hC hJ hS hB hv0 hv1 hx hm9
          go_wp2_with fail
          go_ret
          rw [HKK.out, HSL.out]
          exact ⟨rfl, vis', HE.out.mono (fun i hi => Or.inl (Or.inl hi)), HC.out⟩
        · obtain rfl : x = (l : Int) := by omega
          have hlt : l < 9 := by omega
          have hpp := pth_pw hs hlt
          obtain ⟨r0, r1, r2⟩ := hE.shelf hlt hpp
          have rr := hE.cells.1 l hlt
          have hHl := HHi.out l (pth s l) hlt hpp
          have hse : selL (sbits (O l (pth s l))) ((cntP L (l + 1) (pth s (l + 1)) K : Nat) : Int) (bitS s l) = (cntP L l (pth s l) K : Nat) := by
            rw [HO.out l _ hlt hpp]; exact sel_next HK.out hlt
          have hmul : ((l + 1 : Nat) : Int) * ((H : Int) + 1) = (l : Int) * ((H : Int) + 1) + ((H : Int) + 1) := by push_cast; rw [Int.add_mul]; omega
          have hmul0 : 0 ≤ (l : Int) * ((H : Int) + 1) := Int.mul_nonneg (by omega) (by omega)
          rw [hmul] at hv1
          have hpwr := hE.cells.2.2.2.2
          have HLK : Hid (∀ w', w'.heap = wr.heap → WaveE B (fun i => (X i ∨ (i = w.heap.size ∨ i = w.heap.size + 1)) ∨ i = lb) w' p D O L.length vis' anyV → Box1 w' w.heap.size (.int .i64 (cntP L (l + 1) (pth s (l + 1)) K : Nat)) 3 → Box1 w' (w.heap.size + 1) (.int .i64 s) 3 → Box1 w' lb (.int .i64 (l : Int)) 3 → BitTab w' →
              Calls Tryz.prog 59 #[.pointer (some ⟨p, 0, none⟩), shelfV D l (pth s l), .func (.func 63) #[] #[.pointer (some ⟨w.heap.size, 0, none⟩), .pointer (some ⟨w.heap.size + 1, 0, none⟩), .pointer (some ⟨lb, 0, none⟩)]] w' fun e w'' =>
                e = .returned (.tuple #[]) ∧ ∃ v : Nat, v ≤ shigh (O l (pth s l)) + 1 ∧ WaveE B (fun i => (X i ∨ (i = w.heap.size ∨ i = w.heap.size + 1)) ∨ i = lb) w'' p D O L.length (vis' + v) anyV ∧ Chg (fun j => exT B (fun i => (X i ∨ (i = w.heap.size ∨ i = w.heap.size + 1)) ∨ i = lb) j ∨ j = w.heap.size) w' w'' ∧ Box1 w'' w.heap.size (.int .i64 (cntP L l (pth s l) K : Nat)) 3) := fun w' _ h1 h2 h3 h4 h5 => by
            refine wLook h1 hlt hpp ⟨hv0, by omega⟩ (M := shigh (O l (pth s l)) + 1) (by omega) (Y := fun i => i = w.heap.size) (fun i e => Or.inl (Or.inr (Or.inl e))) _ _ _ (enters_of Tryz.func63 (by kernel_rfl) rfl) (fun w' => Box1 w' w.heap.size (.int .i64 (cntP L l (pth s l) K : Nat)) 3) (fun w1 w2 hb hc => hb.chg hc (fun e => by have := HPW.out; omega)) (fun w0 Z hXZ hb hE0 => ?_)
            have := wSel1 hE0 (h5.below' hb) hNT hs hlt hpp (hXZ _ (Or.inl (Or.inr (Or.inl rfl)))) (hXZ _ (Or.inl (Or.inr (Or.inr rfl)))) (hXZ _ (Or.inr rfl)) (by omega) (by omega) (h2.below hb) (h3.below hb) (h4.below hb)
            rw [hse] at this; exact this
          have HPA := Lib.hid (fun w => path_nat hs (by omega : l ≤ 9) w)
          have kl := hB.cell
          have ks := hS.cell
          have HTB2 : Hid (BitTab wr) := HTB.out.below ((Chg.below hC (fun b hb => hb.1)) HLE.out) hNT
          have HE := Lib.hid hE
          have HJ := Lib.hid hJ
          have HS := Lib.hid hS
          have HB := Lib.hid hB
          have HC := Lib.hid hC
          have HV0 := Lib.hid hv0
          have HV1 := Lib.hid hv1
          have HHL := Lib.hid hHl
          have HLT := Lib.hid hlt
          have HCF : Hid (∀ (w' : World) (v : Int) (X' : Nat → Prop), WaveE B X' w' p D O L.length v anyV → (w'.cell? ⟨p, l, none⟩ = some (.slice (some ⟨D.G l, 0, none⟩) (pw l) (D.C l)) ∧ w'.cell? ⟨D.G l, pth s l * 3, none⟩ = some (.pointer (some ⟨D.Q l (pth s l), 0, none⟩)) ∧ w'.cell? ⟨D.G l, pth s l * 3 + 1, none⟩ = some (.int .i64 l) ∧ w'.cell? ⟨D.G l, pth s l * 3 + 2, none⟩ = some (.int .i64 (pth s l : Nat)))) := fun w' v X' h => ⟨h.cells.1 l hlt, h.shelf hlt hpp⟩
          have rr : wr.cell? ⟨p, l, none⟩ = some (.slice (some ⟨D.G l, 0, none⟩) (pw l) (D.C l)) := rr
          have i0 : (0 : Int) ≤ (l : Int) := by omega
          have i9 : (l : Int) < 9 := by omega
          have j0 : (0 : Int) ≤ ((pth s l : Nat) : Int) := by omega
          have j1 : ((pth s l : Nat) : Int) < ((pw l : Nat) : Int) := by omega
          clear hE hJ hS hB hC hv0 hv1 hHl hse hmul hmul0 hx hpp
          unfold shelfV at HLK
          obtain ⟨π, hπ⟩ : ∃ π, pth s l = π := ⟨_, rfl⟩
          have HPI := Lib.hid hπ
          rw [hπ] at HLK HPA HHL HCF r0 r1 r2 j0 j1
          clear hπ
          generalize D.Q l π = q at *
          generalize D.G l = g at *
          generalize D.C l = gc at *
          go_wp2_with fail
          -- REGION sel6
          refine reg_start (fun w' => w'.cell? ⟨lb, 0, none⟩ = some (.int .i64 (l : Int)) ∧ w'.cell? ⟨w.heap.size + 1, 0, none⟩ = some (.int .i64 s) ∧ w'.cell? ⟨p, l, none⟩ = some (.slice (some ⟨g, 0, none⟩) (pw l) gc) ∧ w'.cell? ⟨g, π * 3, none⟩ = some (.pointer (some ⟨q, 0, none⟩)) ∧ w'.cell? ⟨g, π * 3 + 1, none⟩ = some (.int .i64 l) ∧ w'.cell? ⟨g, π * 3 + 2, none⟩ = some (.int .i64 (π : Nat))) (by kernel_rfl) (⟨kl, ks, rr, r0, r1, r2⟩) (fun hHeld => ?_)
          refine rt 0 hHeld ?_
          refine rt 1 hHeld ?_
          refine rt 2 hHeld ?_
          refine rt 3 hHeld ?_
          refine rt 4 hHeld ?_
          refine rt 5 hHeld ?_
          refine rt 6 hHeld ?_
          refine rt 7 hHeld ?_
          refine rt 8 hHeld ?_
          refine rt 12 hHeld ?_
          refine reg_loud (i := 9) rfl (by kernel_rfl) rfl (fun K hK => ?_)
          go_simp
          ((refine (HPA.out _).mono ?_))
          rintro e w2 ⟨rfl, rfl⟩
          refine hK.out _ _ (hHeld) (fun hNew => ?_)
          clear hK K hHeld
          have hHeld := hNew
          clear hNew
          try simp only [Act.put, List.setIfInBounds_toArray, List.set_cons_zero, List.set_cons_succ]
          refine rt 10 hHeld ?_
          refine rt 11 hHeld ?_
          refine reg_loud (i := 13) rfl (by kernel_rfl) rfl (fun K hK => ?_)
          go_simp
          ((refine (HLK.out (wr.drewN 1) rfl (HE.out.drewN 1) HJ.out HS.out HB.out HTB2.out).mono ?_))
          rintro e w2 ⟨rfl, v, hv, hE2, hC2, hJ2⟩
          have hs2 : Box1 w2 (w.heap.size + 1) (.int .i64 s) 3 := Box1.chg (w := wr.drewN 1) HS.out hC2 (fun hk => hk.elim (fun hk => hk.2 (Or.inl (Or.inr (Or.inr rfl)))) (fun e => by omega))
          have hl2 : Box1 w2 lb (.int .i64 (l : Int)) 3 := Box1.chg (w := wr.drewN 1) HB.out hC2 (fun hk => hk.elim (fun hk => hk.2 (Or.inr rfl)) (fun e => by omega))
          have HS2 : Hid (w2.cell? ⟨lb, 0, none⟩ = some (.int .i64 (l : Int)) ∧ w2.cell? ⟨w.heap.size + 1, 0, none⟩ = some (.int .i64 s) ∧ w2.cell? ⟨p, l, none⟩ = some (.slice (some ⟨g, 0, none⟩) (pw l) gc) ∧ w2.cell? ⟨g, π * 3, none⟩ = some (.pointer (some ⟨q, 0, none⟩)) ∧ w2.cell? ⟨g, π * 3 + 1, none⟩ = some (.int .i64 l) ∧ w2.cell? ⟨g, π * 3 + 2, none⟩ = some (.int .i64 (π : Nat))) := ⟨hl2.cell, hs2.cell, HCF.out _ _ _ hE2⟩
          have kl2 := hl2.cell
          have kf2 := hl2.frz
          have HJ2 := Lib.hid hJ2
          have HB2 := Lib.hid hs2
          have HL2 := Lib.hid hl2
          have HE2 := Lib.hid hE2
          have HV2 := Lib.hid hv
          have HC2 : Hid (Chg (exT B X) w w2) := (HC.out.drewN 1).trans hC2 (fun j hj => hj.elim (fun hj => Or.inl (exT_mono (fun i hi => Or.inl (Or.inl hi)) hj)) (fun e => Or.inr (by omega)))
          clear hs2 hl2 hE2 hC2 hJ2 hv
          refine hK.out _ _ (HS2.out) (fun hNew => ?_)
          clear hK K hHeld
          have hHeld := hNew
          clear hNew
          try simp only [Act.put, List.setIfInBounds_toArray, List.set_cons_zero, List.set_cons_succ]
          refine reg_done (by kernel_rfl) ?_ _
          -- END OF REGION sel6
          clear hHeld rr r0 r1 r2 kl ks i0 i9 j0 j1
          have bl := Box1.new w2 (.int .i64 ((l : Int) - 1)) 3
          have hbl := below_al w2 (.cells #[.int .i64 ((l : Int) - 1)] 3)
          have HNB : Hid ((∃ vis' : Int, 0 ≤ vis' ∧ vis' ≤ 18 * ((H : Int) + 1) - l * ((H : Int) + 1) ∧ WaveE B (fun i => (X i ∨ (i = w.heap.size ∨ i = w.heap.size + 1)) ∨ i = w2.heap.size) (w2.alloc (.cells #[.int .i64 ((l : Int) - 1)] 3)) p D O L.length vis' anyV) ∧ Box1 (w2.alloc (.cells #[.int .i64 ((l : Int) - 1)] 3)) w.heap.size (.int .i64 (cntP L l π K : Nat)) 3 ∧ Box1 (w2.alloc (.cells #[.int .i64 ((l : Int) - 1)] 3)) (w.heap.size + 1) (.int .i64 s) 3 ∧ Box1 (w2.alloc (.cells #[.int .i64 ((l : Int) - 1)] 3)) w2.heap.size (.int .i64 ((l : Int) - 1)) 3 ∧ Chg (exT B X) w (w2.alloc (.cells #[.int .i64 ((l : Int) - 1)] 3)) ∧ w.heap.size + 1 < w2.heap.size) := by
            refine ⟨⟨vis' + v, by have := HV0.out; omega, by have := HV1.out; have := HV2.out; have := HHL.out; omega, HE2.out.less hbl (fun i hi => hi.elim (fun g => Or.inl (Or.inl g)) (fun e => Or.inr (by omega))) (fun i hi => hi.elim (fun g => Nat.lt_of_lt_of_le (HE2.out.x i (Or.inl g)) hbl.size) (fun e => by subst e; exact bl.lt))⟩, HJ2.out.below hbl, HB2.out.below hbl, bl, HC2.out.trans (Chg.of_below (S := exT B X) hbl) (fun j hj => Or.inl hj), HB2.out.lt⟩
          have HMS : Hid ((intOf (((w2.alloc (.cells #[.int .i64 ((l : Int) - 1)] 3)).cell? ⟨w2.heap.size, 0, none⟩).getD undef) + 1).toNat < (intOf ((wr.cell? ⟨lb, 0, none⟩).getD undef) + 1).toNat) := by
            rw [bl.cell, HB.out.cell]
            show ((l : Int) - 1 + 1).toNat < ((l : Int) + 1).toNat
            omega
          clear bl hbl
          go_wp2_with fail
          go_roundw
          case rel =>
            have hq := HNB.out
            exact ⟨l, w2.heap.size, _, by have := HLT.out; omega, rfl, rfl, hq.2.2.2.2.2, hq.1, by rw [HPI.out]; exact hq.2.1, hq.2.2.1, hq.2.2.2.1, hq.2.2.2.2.1⟩
          case measure => exact HMS.out

end Go.Proofs.YtacoeohmdngnkaaGreatDoor

namespace Go.Proofs.YtacoeohmdngnkaaGreatDoor
set_option linter.unusedVariables false
set_option linter.unusedSimpArgs false

end Go.Proofs.YtacoeohmdngnkaaGreatDoor

namespace Go.Proofs.YtacoeohmdngnkaaGreatDoor
set_option linter.unusedVariables false
set_option linter.unusedSimpArgs false

/-- A list of symbols as numbers. -/
def intL (L : List Nat) : List Int := L.map Int.ofNat
theorem intL_len (L : List Nat) : (intL L).length = L.length := by simp [intL]
theorem intL_sy {L : List Nat} {k s : Nat} (h : L[k]? = some s) : sy (intL L) k = (s : Int) := by
  unfold sy intL; rw [List.getElem?_map, h]; rfl
theorem intL_inj {L M : List Nat} (h : intL L = intL M) : L = M := by
  have := congrArg (List.map Int.toNat) h
  unfold intL at this
  rw [List.map_map, List.map_map] at this
  have e : (Int.toNat ∘ Int.ofNat) = id := by funext x; rfl
  rwa [e, List.map_id, List.map_id] at this
theorem intL_of {m : List Int} (h : ∀ x ∈ m, 0 ≤ x) : m = intL (m.map Int.toNat) := by
  unfold intL
  rw [List.map_map]
  conv => lhs; rw [← List.map_id m]
  apply List.map_congr_left
  intro x hx
  have := h x hx
  show x = ((x.toNat : Nat) : Int)
  omega
theorem cnt_rank (L : List Nat) (k s : Nat) : cnt ((intL L).take k) (s : Int) = rankS L k s := by
  unfold cnt rankS intL
  rw [← List.map_take, List.countP_map, List.count]
  congr 1
  funext x
  by_cases e : x = s
  · subst e; simp
  · have e2 : ¬ (x : Int) = (s : Int) := by omega
    show ((x : Int) == (s : Int)) = (x == s)
    rw [beq_eq_false_iff_ne.2 e2, beq_eq_false_iff_ne.2 e]
theorem cnt_all (L : List Nat) (s : Nat) : cnt (intL L) (s : Int) = L.count s := by
  have := cnt_rank L L.length s
  rw [List.take_of_length_le (by rw [intL_len]; exact Nat.le_refl _)] at this
  rw [this, rankS_over s (Nat.le_refl _)]

/-- Rows of a text and its transform. -/
structure RW (t : List Int) (r : List Nat) (L : List Nat) : Prop where
  byte : ByteL t
  rows : IsRows (symsT t) r
  last : lastL (symsT t) r = intL L
def ro (r : List Nat) (i : Nat) : Nat := r[i]?.getD 0

section
variable {t : List Int} {r L : List Nat}
theorem RW.isLast (h : RW t r L) : IsLast t (intL L) := ⟨h.byte, r, h.rows, h.last⟩
theorem RW.of {m : List Int} (h : IsLast t m) : ∃ r, RW t r (m.map Int.toNat) ∧ m = intL (m.map Int.toNat) := by
  have e := intL_of (fun x hx => (h.range x hx).1)
  obtain ⟨hb, r, hr, hl⟩ := h
  exact ⟨r, ⟨hb, hr, by rw [hl]; exact e⟩, e⟩
theorem RW.rlen (h : RW t r L) : r.length = t.length + 1 := by rw [h.rows.len, symsT_len]
theorem RW.len (h : RW t r L) : L.length = t.length + 1 := by rw [← intL_len, h.isLast.len]
theorem RW.syms (h : RW t r L) : ∀ s ∈ L, s < 257 := by
  intro s hs
  have := h.isLast.range (s : Int) (List.mem_map.2 ⟨s, hs, rfl⟩)
  omega
theorem RW.get (h : RW t r L) {i : Nat} (hi : i ≤ t.length) : ∃ s, L[i]? = some s ∧ s < 257 := by
  have hl := h.len
  exact ⟨_, List.getElem?_eq_getElem (by omega), h.syms _ (List.getElem_mem _)⟩
theorem RW.roE (h : RW t r L) {i : Nat} (hi : i ≤ t.length) : ∃ hi' : i < r.length, r[i] = ro r i := by
  have := h.rlen
  exact ⟨by omega, by unfold ro; rw [getD_eq]⟩
theorem RW.roLt (h : RW t r L) {i : Nat} (hi : i ≤ t.length) : ro r i ≤ t.length := by
  obtain ⟨h1, h2⟩ := h.roE hi
  have := h.rows.lt h1
  rw [symsT_len, h2] at this; omega
theorem RW.inj (h : RW t r L) {i j : Nat} (hi : i ≤ t.length) (hj : j ≤ t.length) (e : ro r i = ro r j) : i = j := by
  obtain ⟨h1, h2⟩ := h.roE hi
  obtain ⟨h3, h4⟩ := h.roE hj
  rw [← h2, ← h4] at e
  have hnd := List.pairwise_iff_getElem.1 h.rows.nodup
  rcases Nat.lt_trichotomy i j with hc | hc | hc
  · exact absurd e (hnd i j h1 h3 hc)
  · exact hc
  · exact absurd e.symm (hnd j i h3 h1 hc)
theorem RW.ex (h : RW t r L) {q : Nat} (hq : q ≤ t.length) : ∃ i, i ≤ t.length ∧ ro r i = q := by
  obtain ⟨i, hi, e⟩ := h.rows.find (a := q) (by rw [symsT_len]; omega)
  have := h.rlen
  exact ⟨i, by omega, by unfold ro; rw [getD_eq hi, e]⟩
/-- The symbol of the transform stands one ahead. -/
theorem RW.sym (h : RW t r L) {i s : Nat} (hs : L[i]? = some s) : (s : Int) = sy (symsT t) ((ro r i + t.length) % (t.length + 1)) := by
  have hi : i ≤ t.length := by have := (List.getElem?_eq_some_iff.1 hs).1; have := h.len; omega
  obtain ⟨h1, h2⟩ := h.roE hi
  have := lastL_sy (l := symsT t) h1
  rw [h.last, intL_sy hs, h2, symsT_len] at this
  rw [this]
  rfl
/-- Back. -/
theorem RW.back (h : RW t r L) {i s : Nat} (hs : L[i]? = some s) : belowL (intL L) (s : Int) + rankS L i s ≤ t.length ∧ ro r (belowL (intL L) (s : Int) + rankS L i s) = (ro r i + t.length) % (t.length + 1) := by
  have hi : i ≤ t.length := by have := (List.getElem?_eq_some_iff.1 hs).1; have := h.len; omega
  obtain ⟨h1, h2⟩ := h.roE hi
  obtain ⟨h3, h4⟩ := lf_rows (symsT_is h.byte) h.rows h1
  have e : lfL (lastL (symsT t) r) i = belowL (intL L) (s : Int) + rankS L i s := by
    unfold lfL
    rw [h.last, intL_sy hs, cnt_rank]
  simp only [e] at h3 h4
  have hl := h.rlen
  refine ⟨by omega, ?_⟩
  unfold ro at h2 ⊢
  rw [getD_eq h3, h4, getD_eq h1, symsT_len]
  rfl
theorem back_step {n p : Nat} (hp : p ≤ n) : ((p + 1) % (n + 1) + n) % (n + 1) = p := by
  rcases Nat.lt_or_ge p n with h | h
  · rw [Nat.mod_eq_of_lt (by omega : p + 1 < n + 1), show p + 1 + n = p + (n + 1) by omega, Nat.add_mod_right, Nat.mod_eq_of_lt (by omega)]
  · obtain rfl : p = n := by omega
    rw [Nat.mod_self, Nat.zero_add, Nat.mod_eq_of_lt (by omega)]
/-- The first symbol of a row. -/
def frow (t : List Int) (r : List Nat) (i : Nat) : Nat := (sy (symsT t) (ro r i)).toNat
theorem RW.frowI (h : RW t r L) {i : Nat} (hi : i ≤ t.length) : (frow t r i : Int) = sy (symsT t) (ro r i) ∧ frow t r i < 257 := by
  have h1 := h.roLt hi
  have h2 : sy (symsT t) (ro r i) ∈ symsT t := by
    rw [sy_in (by rw [symsT_len]; omega)]; exact List.getElem_mem _
  have := symsT_range h.byte _ h2
  unfold frow
  omega
theorem RW.belowE (h : RW t r L) (s : Int) : belowL (intL L) s = (List.range (t.length + 1)).countP (fun q => decide (sy (symsT t) q < s)) := by
  unfold belowL
  rw [h.isLast.perm.countP_eq]
  have e := congrArg (List.countP fun x => decide (x < s)) (range_map_sy (symsT t))
  rw [List.countP_map, symsT_len] at e
  exact e.symm
theorem cnt_just : ∀ {n x : Nat}, x < n → (List.range n).countP (fun q => decide (q = x)) = 1
  | 0, x, h => by omega
  | n + 1, x, h => by
    rw [List.range_succ, List.countP_append]
    by_cases e : x = n
    · subst e
      rw [List.countP_eq_zero.2 (fun q hq => by have := List.mem_range.1 hq; simp; omega)]
      simp
    · rw [cnt_just (show x < n by omega)]
      have : ¬ n = x := fun h => e h.symm
      simp [this]
/-- A row lies among those that begin with its first symbol. -/
theorem RW.first (h : RW t r L) {i : Nat} (hi : i ≤ t.length) : belowL (intL L) (frow t r i : Int) ≤ i ∧ i < belowL (intL L) ((frow t r i : Int) + 1) := by
  obtain ⟨h1, h2⟩ := h.roE hi
  obtain ⟨h3, _⟩ := h.frowI hi
  have hp := pos_count h.rows h1
  rw [symsT_len, h2] at hp
  have hlt := h.roLt hi
  rw [h.belowE, h.belowE, h3]
  constructor
  · conv => rhs; rw [← hp]
    refine List.countP_mono_left (fun q _ hq => ?_)
    rw [sufB_iff, suf_cons]
    exact Or.inl (by simpa using hq)
  · have h4 := countP_or' (l := List.range (t.length + 1)) (f := fun q => sufB (symsT t) q (ro r i) || decide (q = ro r i)) (g := fun q => sufB (symsT t) q (ro r i)) (h := fun q => decide (q = ro r i)) (fun _ _ => rfl) (fun q _ hh => by
      obtain ⟨a, b⟩ := hh
      simp only [decide_eq_true_eq] at b
      subst b
      exact sufLt.irrefl (sufB_iff.1 a))
    rw [hp, cnt_just (by omega)] at h4
    have h5 : (List.range (t.length + 1)).countP (fun q => sufB (symsT t) q (ro r i) || decide (q = ro r i)) ≤ (List.range (t.length + 1)).countP (fun q => decide (sy (symsT t) q < sy (symsT t) (ro r i) + 1)) := by
      refine List.countP_mono_left (fun q _ hq => ?_)
      simp only [Bool.or_eq_true, decide_eq_true_eq] at hq ⊢
      rcases hq with hq | hq
      · rw [sufB_iff, suf_cons] at hq
        rcases hq with hq | hq <;> omega
      · subst hq; omega
    omega
/-- On. -/
theorem RW.on (h : RW t r L) {i : Nat} (hi : i ≤ t.length) : ∃ j, j ≤ t.length ∧ ro r j = (ro r i + 1) % (t.length + 1) ∧ L[j]? = some (frow t r i) ∧ belowL (intL L) (frow t r i : Int) + rankS L j (frow t r i) = i := by
  have hlt := h.roLt hi
  obtain ⟨j, hj, ej⟩ := h.ex (q := (ro r i + 1) % (t.length + 1)) (by have := Nat.mod_lt (ro r i + 1) (show 0 < t.length + 1 by omega); omega)
  obtain ⟨s, hs, _⟩ := h.get hj
  have hsy := h.sym hs
  rw [ej, back_step hlt] at hsy
  have hf := (h.frowI hi).1
  obtain rfl : s = frow t r i := by omega
  obtain ⟨hb1, hb2⟩ := h.back hs
  rw [ej, back_step hlt] at hb2
  exact ⟨j, hj, ej, hs, h.inj hb1 hi hb2⟩
theorem RW.onSel (h : RW t r L) {i : Nat} (hi : i ≤ t.length) : ∃ j, j ≤ t.length ∧ ro r j = (ro r i + 1) % (t.length + 1) ∧ L[j]? = some (frow t r i) ∧ selS L ((i : Int) - (belowL (intL L) (frow t r i : Int) : Nat)) (frow t r i) = j := by
  obtain ⟨j, h1, h2, h3, h4⟩ := h.on hi
  exact ⟨j, h1, h2, h3, selS_hit h3 (by omega)⟩
theorem RW.zero (h : RW t r L) : ro r 0 = t.length := by
  obtain ⟨h0, e⟩ := row_first (symsT_is h.byte) h.rows
  unfold ro
  rw [getD_eq h0, e, symsT_len]; rfl
theorem belowL_mono (m : List Int) {a b : Int} (h : a ≤ b) : belowL m a ≤ belowL m b := by
  unfold belowL
  refine List.countP_mono_left (fun q _ hq => ?_)
  simp only [decide_eq_true_eq] at hq ⊢
  omega
theorem belowL_next (L : List Nat) (s : Nat) : belowL (intL L) ((s : Int) + 1) = belowL (intL L) (s : Int) + L.count s := by
  have := belowL_succ (m := intL L) (s := s)
  rw [cnt_all] at this
  exact_mod_cast this
theorem belowL_le (L : List Nat) (s : Int) : belowL (intL L) s ≤ L.length := by
  unfold belowL
  exact Nat.le_trans List.countP_le_length (by rw [intL_len]; exact Nat.le_refl _)

/-- What the tally of a transform answers of a row. -/
theorem RW.which (h : RW t r L) {i : Nat} (hi : i ≤ t.length) : IsWhich (Tl.of (intL L)) i (frow t r i : Nat) := by
  have hb : ∀ s : Nat, bl (Tl.of (intL L)).N s = (belowL (intL L) (s : Int) : Int) := belowL_bl (fun x hx => by obtain ⟨y, _, rfl⟩ := List.mem_map.1 hx; exact Int.natCast_nonneg y)
  have hall : (Tl.of (intL L)).all = ((t.length + 1 : Nat) : Int) := by
    show ((intL L).length : Int) = _
    rw [intL_len, h.len]
  obtain ⟨h1, h2⟩ := h.first hi
  refine ⟨fun hk => by rw [hall] at hk; omega, fun _ => ⟨frow t r i, (h.frowI hi).2, rfl, ?_, ?_⟩⟩
  · rw [hb]; omega
  · rw [hb]
    have e : (((frow t r i + 1 : Nat)) : Int) = (frow t r i : Int) + 1 := by omega
    rw [e]; omega

/-- Narrowing. -/
def nar (L : List Nat) (k s : Nat) : Nat := belowL (intL L) (s : Int) + rankS L k s
theorem nar_le (L : List Nat) (k s : Nat) : nar L k s ≤ L.length := by
  unfold nar
  have h1 := belowL_next L s
  have h2 := belowL_le L ((s : Int) + 1)
  have h3 := (rankS_le L k s).2
  omega
theorem nar_mono (L : List Nat) {j k : Nat} (h : j ≤ k) (s : Nat) : nar L j s ≤ nar L k s := by
  unfold nar
  have := rankS_mono L s h
  omega
/-- A pattern stands at a place. -/
def patAt (t : List Int) (u : List Int) (q : Nat) : Prop := ∀ d, d < u.length → sy (symsT t) (q + d) = sy u d + 1
theorem patAt_nil (t : List Int) (q : Nat) : patAt t [] q := fun d hd => absurd hd (by simp)
theorem patAt_cons {t u : List Int} {x : Int} {q : Nat} : patAt t (x :: u) q ↔ sy (symsT t) q = x + 1 ∧ patAt t u (q + 1) := by
  constructor
  · intro h
    refine ⟨by have := h 0 (by simp); simpa [sy] using this, fun d hd => ?_⟩
    have := h (d + 1) (by simpa using hd)
    rw [show q + (d + 1) = q + 1 + d by omega] at this
    rw [this]; simp [sy]
  · rintro ⟨h1, h2⟩ d hd
    cases d with
    | zero => simpa [sy] using h1
    | succ d =>
      have := h2 d (by simpa using hd)
      rw [show q + (d + 1) = q + 1 + d by omega, this]; simp [sy]
/-- The rows from lo to hi are those where a pattern stands. -/
def Nar (t : List Int) (r : List Nat) (u : List Int) (lo hi : Nat) : Prop := lo ≤ hi ∧ hi ≤ t.length + 1 ∧ ∀ i, i ≤ t.length → (patAt t u (ro r i) ↔ lo ≤ i ∧ i < hi)
theorem Nar.nil (h : RW t r L) : Nar t r [] 0 (t.length + 1) := ⟨by omega, Nat.le_refl _, fun i hi => ⟨fun _ => by omega, fun _ => patAt_nil _ _⟩⟩
theorem Nar.cons (h : RW t r L) {u : List Int} {lo hi b : Nat} (hn : Nar t r u lo hi) (hb : b < 256) : Nar t r ((b : Int) :: u) (nar L lo (b + 1)) (nar L hi (b + 1)) := by
  obtain ⟨h1, h2, h3⟩ := hn
  have hlen := h.len
  refine ⟨nar_mono L h1 _, by have := nar_le L hi (b + 1); omega, fun i hi' => ?_⟩
  have hfr := h.frowI hi'
  have hfi := h.first hi'
  rw [patAt_cons, ← hfr.1]
  have hbn := belowL_next L (b + 1)
  have hr1 := (rankS_le L hi (b + 1)).2
  by_cases e : frow t r i = b + 1
  · obtain ⟨j, hj, hrj, hLj, hij⟩ := h.on hi'
    rw [e] at hLj hij
    have hlt := h.roLt hi'
    have hnz : ro r i ≠ t.length := by
      intro hz
      have := hfr.1
      rw [hz, symsT_end] at this
      omega
    rw [Nat.mod_eq_of_lt (by omega)] at hrj
    have h4 := h3 j hj
    rw [hrj] at h4
    have hjl : j < L.length := by omega
    have hrs := rankS_succ (b + 1) hjl
    rw [if_pos hLj] at hrs
    unfold nar
    constructor
    · rintro ⟨_, hp⟩
      obtain ⟨g1, g2⟩ := h4.1 hp
      have q1 := rankS_mono L (b + 1) g1
      have q2 := rankS_mono L (b + 1) (show j + 1 ≤ hi from g2)
      omega
    · rintro ⟨g1, g2⟩
      refine ⟨by omega, h4.2 ⟨?_, ?_⟩⟩
      · rcases Nat.lt_or_ge j lo with hc | hc
        · have := rankS_mono L (b + 1) (show j + 1 ≤ lo from hc); omega
        · exact hc
      · rcases Nat.lt_or_ge j hi with hc | hc
        · exact hc
        · have := rankS_mono L (b + 1) hc; omega
  · constructor
    · rintro ⟨g, _⟩; omega
    · rintro ⟨g1, g2⟩
      exfalso
      unfold nar at g1 g2
      rcases Nat.lt_or_ge (frow t r i) (b + 1) with hc | hc
      · have := belowL_mono (intL L) (a := (frow t r i : Int) + 1) (b := ((b + 1 : Nat) : Int)) (by omega)
        omega
      · have := belowL_mono (intL L) (a := ((b + 1 : Nat) : Int) + 1) (b := (frow t r i : Int)) (by omega)
        omega
/-- As many rows as places. -/
theorem Nar.count (h : RW t r L) {u : List Int} {lo hi : Nat} (hn : Nar t r u lo hi) {f : Nat → Bool} (hf : ∀ q, q ≤ t.length → (f q = true ↔ patAt t u q)) : (List.range (t.length + 1)).countP f = hi - lo := by
  obtain ⟨h1, h2, h3⟩ := hn
  have hp := h.rows.1
  rw [symsT_len] at hp
  rw [← hp.countP_eq]
  have hrl := h.rlen
  have e1 : r = (List.range (t.length + 1)).map (ro r) := by
    apply List.ext_getElem
    · simp [hrl]
    · intro i h4 h5
      simp only [List.getElem_map, List.getElem_range]
      unfold ro; rw [getD_eq h4]
  rw [e1, List.countP_map]
  have e2 : (List.range (t.length + 1)).countP (f ∘ ro r) = (List.range (t.length + 1)).countP (fun i => decide (lo ≤ i) && decide (i < hi)) := by
    refine List.countP_congr (fun i hi' => ?_)
    have hi2 := List.mem_range.1 hi'
    simp only [Function.comp, Bool.and_eq_true, decide_eq_true_eq]
    rw [hf _ (h.roLt (by omega)), h3 i (by omega)]
  rw [e2]
  have key : ∀ n, (List.range n).countP (fun i => decide (lo ≤ i) && decide (i < hi)) = min hi n - lo := by
    intro n
    induction n with
    | zero => simp
    | succ n ih =>
      rw [List.range_succ, List.countP_append, ih]
      by_cases hc : lo ≤ n ∧ n < hi
      · simp [hc.1, hc.2]; omega
      · have : (decide (lo ≤ n) && decide (n < hi)) = false := by
          rw [Bool.and_eq_false_iff, decide_eq_false_iff_not, decide_eq_false_iff_not]; omega
        simp [this]; omega
  rw [key]; omega
end

end Go.Proofs.YtacoeohmdngnkaaGreatDoor

namespace Go.Proofs.YtacoeohmdngnkaaGreatDoor
set_option linter.unusedVariables false
set_option linter.unusedSimpArgs false
open Go.RowKit

theorem wLen_any {B : Nat} {X : Nat → Prop} {w : World} {p n : Nat} {D : WD} {O : Nat → Nat → Option ST} {vis : Int} {Vb : Nat → Nat → Int → Prop} (h : WaveE B X w p D O n vis Vb) : Calls Tryz.prog 47 #[.pointer (some ⟨p, 0, none⟩)] w fun e w' => e = .returned (.int .i64 n) ∧ w = w' := by
  obtain ⟨hc0, c9, c10, fz, hp⟩ := h.cells
  clear h hc0 fz
  go_enter Tryz.func47, Tryz.ntmps47
  go_wp2_with fail
  go_ret
  exact ⟨rfl, rfl⟩
end Go.Proofs.YtacoeohmdngnkaaGreatDoor

namespace Go.Proofs.YtacoeohmdngnkaaGreatDoor
set_option linter.unusedVariables false
set_option linter.unusedSimpArgs false
open Go.RowKit

/-- A block of a row's cells. -/
def RowC (w : World) (g : Nat) (xs : List Value) (T : TypeId) : Prop := w.heap[g]? = some (.cells xs.toArray T (0, 0))
theorem RowC.new (w : World) (xs : List Value) (T : TypeId) : RowC (w.alloc (.cells xs.toArray T)) w.heap.size xs T := heap_alloc_new w _
theorem RowC.lt {w : World} {g : Nat} {xs : List Value} {T : TypeId} (h : RowC w g xs T) : g < w.heap.size := (Array.getElem?_eq_some_iff.1 h).1
theorem RowC.chg {S : Nat → Prop} {w w' : World} {g : Nat} {xs : List Value} {T : TypeId} (h : RowC w g xs T) (hc : Chg S w w') (hn : ¬ S g) : RowC w' g xs T := hc.heap h hn
theorem RowC.set {w : World} {g : Nat} {xs : List Value} {T : TypeId} (h : RowC w g xs T) (j : Nat) (u : Value) : RowC (w.setCell ⟨g, j, none⟩ u) g (xs.set j u) T := by
  have := heap_setCell_same w g j _ _ u h
  unfold RowC
  rw [this, List.setIfInBounds_toArray]
theorem RowC.frz {w : World} {g : Nat} {xs : List Value} {T : TypeId} (h : RowC w g xs T) (j : Nat) : w.frozen? ⟨g, j, none⟩ = false := frozen_of_row w g j _ _ h

theorem RowC.cell {w : World} {g : Nat} {xs : List Value} {T : TypeId} (h : RowC w g xs T) {j : Nat} {v : Value} (hj : xs[j]? = some v) : w.cell? ⟨g, j, none⟩ = some v := by
  rw [cell_of_row w g j _ _ _ h, List.getElem?_toArray, hj]

/-- What All has written so far. -/
def symsV (L : List Nat) (k : Nat) : List Value := vecL (fun i => .int .i64 (if i < k then ((L[i]?.getD 0 : Nat) : Int) else 0)) L.length
theorem symsV_zero (L : List Nat) : vecL (fun _ => Value.int .i64 0) L.length = symsV L 0 := by simp [symsV]
theorem symsV_set (L : List Nat) {k s : Nat} (h : L[k]? = some s) : (symsV L k).set k (.int .i64 s) = symsV L (k + 1) := by
  unfold symsV
  rw [vecL_set]
  congr 1
  funext i
  by_cases e : i = k
  · subst e; simp [h]
  · by_cases e2 : i < k
    · have e3 : i < k + 1 := by omega
      simp [e, e2, e3]
    · have e3 : ¬ i < k + 1 := by omega
      simp [e, e2, e3]
theorem symsV_all (L : List Nat) : symsV L L.length = L.map (fun s : Nat => Value.int .i64 s) := by
  apply List.ext_getElem?
  intro i
  by_cases hi : i < L.length
  · rw [symsV, vecL_get hi, List.getElem?_map]
    simp [hi]
  · rw [List.getElem?_eq_none (by rw [symsV, vecL_len]; omega), List.getElem?_eq_none (by rw [List.length_map]; omega)]

theorem WaveE.setRow {B : Nat} {Z : Nat → Prop} {w : World} {p n : Nat} {D : WD} {O : Nat → Nat → Option ST} {vis : Int} {Vb : Nat → Nat → Int → Prop} (h : WaveE B Z w p D O n vis Vb) {b : Nat} (hb : Z b) (j : Nat) (u : Value) : WaveE B Z (w.setCell ⟨b, j, none⟩ u) p D O n vis Vb :=
  h.chg (Z := fun j => j = b) (Chg.refl.setCell (S := fun j => j = b) ⟨b, j, none⟩ (Or.inl rfl) u) (fun k hk _ e => hk.2 (by subst e; exact hb))

set_option maxHeartbeats 3200000 in
set_option maxRecDepth 100000 in
theorem wAll_any {B : Nat} {X : Nat → Prop} {w : World} {p : Nat} {D : WD} {O : Nat → Nat → Option ST} {L : List Nat} {vis : Int} (h : WaveE B X w p D O L.length vis anyV) (hO : LvlO O L) (hL : Syms L) (hn : L.length ≤ 1000000000) {H : Nat} (hH : HiO O H) (hHm : H ≤ 1000000000) :
    Calls Tryz.prog 46 #[.pointer (some ⟨p, 0, none⟩)] w fun e w' =>
      ∃ g, e = .returned (.slice (some ⟨g, 0, none⟩) L.length L.length) ∧ w.heap.size ≤ g ∧ RowC w' g (L.map (fun s : Nat => Value.int .i64 s)) 3 ∧ WaveE B (fun i => X i ∨ i = g) w' p D O L.length vis anyV ∧ Chg (exT B X) w w' := by
  have hb0 := below_al w (.cells (symsV L 0).toArray 3)
  have hr0 := RowC.new w (symsV L 0) 3
  have hX1 : WaveE B (fun i => X i ∨ i = w.heap.size) (w.alloc (.cells (symsV L 0).toArray 3)) p D O L.length vis anyV := h.less hb0 (fun i hi => hi.elim Or.inl (fun e => Or.inr (by omega))) (fun i hi => hi.elim (fun g => Nat.lt_of_lt_of_le (h.x i g) hb0.size) (fun e => by subst e; exact hr0.lt))
  have hmk : ∀ w : World, _ := make_ints L.length hn
  simp only [symsV_zero] at hmk
  obtain ⟨hc0, c9, c10, fz, hp⟩ := h.cells
  have HS0 : Hid (WaveE B (fun i => X i ∨ i = w.heap.size) (w.alloc (.cells (symsV L 0).toArray 3)) p D O L.length vis anyV ∧ RowC (w.alloc (.cells (symsV L 0).toArray 3)) w.heap.size (symsV L 0) 3 ∧ Chg (exT B X) w (w.alloc (.cells (symsV L 0).toArray 3))) := ⟨hX1, hr0, Chg.of_below (S := exT B X) hb0⟩
  have HO := Lib.hid hO
  have HHi := Lib.hid hH
  have HLS := Lib.hid hL
  have HLEN := Lib.hid hn
  have HPW := Lib.hid hp
  clear h hc0 fz hO hH hL hn hX1 hb0 hr0
  go_enter Tryz.func46, Tryz.ntmps46
  go_wp2_with fail
  generalize w.alloc (.cells (symsV L 0).toArray 3) = ws at *
  clear hmk c9 c10 hp
  go_loopw [19] (fun x wr => ∃ k : Nat, k ≤ L.length ∧ x = .int .i64 k ∧ RowC wr w.heap.size (symsV L k) 3 ∧ (∃ vis' : Int, WaveE B (fun i => X i ∨ i = w.heap.size) wr p D O L.length vis' anyV) ∧ Chg (exT B X) w wr) (fun x _ => L.length - (intOf x).toNat)
  case atStart => exact ⟨0, Nat.zero_le _, rfl, HS0.out.2.1, ⟨vis, HS0.out.1⟩, HS0.out.2.2⟩
  case round => as_aux_lemma =>
    clear HS0
    obtain ⟨k, hk, rfl, hr, ⟨vis', hE⟩, hC⟩ := hrel
    have hpr := hE.cells.2.2.2.2
    have hn1 := HLEN.out
    by_cases hlt : k < L.length
    · have i0 : (0 : Int) ≤ (k : Int) := by omega
      have i1 : (k : Int) < (L.length : Int) := by omega
      obtain ⟨s, hs⟩ : ∃ s, L[k]? = some s := ⟨_, List.getElem?_eq_getElem hlt⟩
      have HG := Lib.hid (wGet_any hE HO.out HLS.out HLEN.out HHi.out hHm k s hs)
      have HR := Lib.hid hr
      have HC := Lib.hid hC
      have HLT := Lib.hid hlt
      have HK := Lib.hid hs
      clear hE hr hC hs
      go_wp2_with fail
      refine HG.out.mono ?_
      rintro e w2 ⟨rfl, v2, hv0, hv1, hE2, hC2⟩
      have hr2 := HR.out.chg hC2 (fun hk => hk.2 (Or.inr rfl))
      have frz := hr2.frz k
      have kcl := hr2.cell (j := k) (vecL_get HLT.out)
      have HE2 := Lib.hid hE2
      have HR2 := Lib.hid hr2
      have HC2 : Hid (Chg (exT B X) w w2) := HC.out.trans hC2 (fun j hj => Or.inl (exT_mono (fun i hi => Or.inl hi) hj))
      clear hE2 hr2 hC2 hv0 hv1
      go_wp2_with fail
      go_roundw
      case rel => exact ⟨k + 1, HLT.out, by go_num, by rw [← symsV_set L HK.out]; exact HR2.out.set _ _, ⟨v2, HE2.out.setRow (Or.inr rfl) _ _⟩, HC2.out.setCell _ (Or.inr (Nat.le_refl _)) _⟩
      case measure => have := HLT.out; simp [intOf]; omega
    · obtain rfl : k = L.length := by omega
      obtain ⟨hc0, c9, c10, fz, hp⟩ := hE.cells
      have z10 := fz 10
      have HST := Lib.hid (hE.setVis vis)
      have HR := Lib.hid hr
      have HC := Lib.hid hC
      have hpw : p ≠ w.heap.size := by have := HPW.out; omega
      have HPN := Lib.hid hpw
      clear hE hr hC hc0 fz hpw
      go_wp2_with fail
      go_ret
      refine ⟨_, rfl, Nat.le_refl _, ?_, HST.out.1, HC.out.trans HST.out.2 (fun j hj => Or.inl (exT_mono (fun i hi => Or.inl hi) hj))⟩
      rw [← symsV_all]
      exact HR.out.chg (S := fun j => j = p) (Chg.refl.setCell (S := fun j => j = p) ⟨p, 10, none⟩ (Or.inl rfl) _) (fun e => HPN.out e.symm)

end Go.Proofs.YtacoeohmdngnkaaGreatDoor
