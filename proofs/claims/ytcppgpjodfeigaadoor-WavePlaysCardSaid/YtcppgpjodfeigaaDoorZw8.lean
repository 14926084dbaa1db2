/- Lemmas and contracts under the claims of this seat: Contracts of package sym's small functions (Is, Of, Byte, Bit, Path), for whatever arguments. Package sym's answers in natural numbers. Contracts of package wave: look, rank, next, Len, Visits. Contracts of package wave: rank (of a shelf). Contract of package wave: Rank. Contract of package wave: Get. Contracts of package wave: refusals, nobody, Len, Visits, Level. Contracts of package wave: All, Level. Contract of package wave: New. Package wave's New of what is no symbol; waves beside other rows, as laws see them. -/
import Derived.Test.YtcppgpjodfeigaaDoorProg
import Derived.WalkKit
import Derived.WalkLawsBesides
import Derived.Lib.Hide
import Derived.Lib.RabinKarpLaws
import Derived.Test.YtcppgpjodfeigaaDoorZw1
import Derived.Test.YtcppgpjodfeigaaDoorZw6
import Derived.IntWalk
import Derived.Test.YtcppgpjodfeigaaDoorZw7
import Derived.Test.YtcppgpjodfeigaaDoorZw3

namespace Go.Proofs.YtcppgpjodfeigaaDoor
open Go.RowKit

/-- A number is a symbol. -/
def symIs (s : Int) : Bool := decide (0 ≤ s ∧ s < 257)
/-- A symbol's path of a level. -/
def symPath (s l : Int) : Int := if 0 ≤ s ∧ s < 257 ∧ 0 ≤ l ∧ l ≤ 9 then s / 2 ^ (9 - l).toNat else -1
/-- A symbol's bit of a level. -/
def symBit (s l : Int) : Bool := decide (0 ≤ s ∧ s < 257 ∧ 0 ≤ l ∧ l < 9 ∧ s / 2 ^ (8 - l).toNat % 2 = 1)

theorem symIs_true {s : Int} (h0 : 0 ≤ s) (h1 : s < 257) : symIs s = true := by simp [symIs, h0, h1]
theorem symIs_false {s : Int} (h : ¬ (0 ≤ s ∧ s < 257)) : symIs s = false := by simp only [symIs]; exact decide_eq_false h

theorem and_one_i64 (x : Int) (h0 : 0 ≤ x) (h1 : x < 9223372036854775808) : bits BinOp.and IntKind.i64 x 1 = x % 2 := by
  have h := Go.Proofs.and_one x.toNat (by omega)
  rw [Int.toNat_of_nonneg h0] at h
  rw [h]; omega

theorem shr_bd (s : Int) (n : Nat) (h0 : 0 ≤ s) (h1 : s < 257) : 0 ≤ s / 2 ^ n ∧ s / 2 ^ n < 257 := by
  have h2 : (0 : Int) < 2 ^ n := Int.pow_pos (by omega)
  refine ⟨Int.ediv_nonneg h0 (by omega), ?_⟩
  have := Int.ediv_le_self (2 ^ n) h0
  omega

theorem symIs_any (s : Int) (w : World) : Calls Tryd.prog 80 #[.int .i64 s] w fun e w' => e = .returned (.bool (symIs s)) ∧ w = w' := by
  by_cases h0 : 0 ≤ s
  · by_cases h1 : s < 257
    · have e : symIs s = true := symIs_true h0 h1
      rw [e]
      go_enter Tryd.func80, Tryd.ntmps80
      go_wp2
      go_ret
      exact ⟨rfl, rfl⟩
    · have e : symIs s = false := symIs_false (by omega)
      rw [e]
      go_enter Tryd.func80, Tryd.ntmps80
      go_wp2
      go_ret
      exact ⟨rfl, rfl⟩
  · have e : symIs s = false := symIs_false (by omega)
    rw [e]
    go_enter Tryd.func80, Tryd.ntmps80
    go_wp2
    go_ret
    exact ⟨rfl, rfl⟩

theorem symPath_any (s l : Int) (w : World) : Calls Tryd.prog 81 #[.int .i64 s, .int .i64 l] w fun e w' => e = .returned (.int .i64 (symPath s l)) ∧ w = w' := by
  by_cases hs : 0 ≤ s ∧ s < 257
  · have e : symIs s = true := symIs_true hs.1 hs.2
    obtain ⟨hs0, hs1⟩ := hs
    by_cases h2 : 0 ≤ l
    · have hd : decide (l < 0) = false := by simp; omega
      by_cases h3 : l ≤ 9
      · have hp : symPath s l = s / 2 ^ (9 - l).toNat := if_pos ⟨hs0, hs1, h2, h3⟩
        rw [hp]
        clear hp
        have hd2 : decide (9 < l) = false := by simp; omega
        go_enter Tryd.func81, Tryd.ntmps81
        go_wp2_with (go_at_call 80; refine (symIs_any _ _).mono ?_; rintro e w' ⟨rfl, rfl⟩)
        go_ret
        exact ⟨rfl, rfl⟩
      · have hp : symPath s l = -1 := if_neg (by omega)
        rw [hp]
        clear hp
        have hd2 : decide (9 < l) = true := by simp; omega
        go_enter Tryd.func81, Tryd.ntmps81
        go_wp2_with (go_at_call 80; refine (symIs_any _ _).mono ?_; rintro e w' ⟨rfl, rfl⟩)
        go_ret
        exact ⟨rfl, rfl⟩
    · have hp : symPath s l = -1 := if_neg (by omega)
      rw [hp]
      clear hp
      have hd : decide (l < 0) = true := by simp; omega
      go_enter Tryd.func81, Tryd.ntmps81
      go_wp2_with (go_at_call 80; refine (symIs_any _ _).mono ?_; rintro e w' ⟨rfl, rfl⟩)
      go_ret
      exact ⟨rfl, rfl⟩
  · have e : symIs s = false := symIs_false hs
    have hp : symPath s l = -1 := if_neg (by omega)
    rw [hp]
    clear hp
    go_enter Tryd.func81, Tryd.ntmps81
    go_wp2_with (go_at_call 80; refine (symIs_any _ _).mono ?_; rintro e w' ⟨rfl, rfl⟩)
    go_ret
    exact ⟨rfl, rfl⟩

theorem symBit_in {s l : Int} (h0 : 0 ≤ s) (h1 : s < 257) (h2 : 0 ≤ l) (h3 : l < 9) : (bits BinOp.and IntKind.i64 (s / 2 ^ (8 - l).toNat) 1 == 1) = symBit s l := by
  have hb := shr_bd s (8 - l).toNat h0 h1
  rw [and_one_i64 _ hb.1 (by omega)]
  simp only [symBit, h0, h1, h2, h3, true_and]
  rfl

theorem symBit_any (s l : Int) (w : World) : Calls Tryd.prog 82 #[.int .i64 s, .int .i64 l] w fun e w' => e = .returned (.bool (symBit s l)) ∧ w = w' := by
  by_cases hs : 0 ≤ s ∧ s < 257
  · have e : symIs s = true := symIs_true hs.1 hs.2
    obtain ⟨hs0, hs1⟩ := hs
    by_cases h2 : 0 ≤ l
    · have hd : decide (l < 0) = false := by simp; omega
      by_cases h3 : l < 9
      · rw [← symBit_in hs0 hs1 h2 h3]
        have hd2 : decide (9 ≤ l) = false := by simp; omega
        go_enter Tryd.func82, Tryd.ntmps82
        go_wp2_with (go_at_call 80; refine (symIs_any _ _).mono ?_; rintro e w' ⟨rfl, rfl⟩)
        go_ret
        exact ⟨rfl, rfl⟩
      · have hp : symBit s l = false := decide_eq_false (by omega)
        rw [hp]
        clear hp
        have hd2 : decide (9 ≤ l) = true := by simp; omega
        go_enter Tryd.func82, Tryd.ntmps82
        go_wp2_with (go_at_call 80; refine (symIs_any _ _).mono ?_; rintro e w' ⟨rfl, rfl⟩)
        go_ret
        exact ⟨rfl, rfl⟩
    · have hp : symBit s l = false := decide_eq_false (by omega)
      rw [hp]
      clear hp
      have hd : decide (l < 0) = true := by simp; omega
      go_enter Tryd.func82, Tryd.ntmps82
      go_wp2_with (go_at_call 80; refine (symIs_any _ _).mono ?_; rintro e w' ⟨rfl, rfl⟩)
      go_ret
      exact ⟨rfl, rfl⟩
  · have e : symIs s = false := symIs_false hs
    have hp : symBit s l = false := decide_eq_false (fun h => hs ⟨h.1, h.2.1⟩)
    rw [hp]
    clear hp
    go_enter Tryd.func82, Tryd.ntmps82
    go_wp2_with (go_at_call 80; refine (symIs_any _ _).mono ?_; rintro e w' ⟨rfl, rfl⟩)
    go_ret
    exact ⟨rfl, rfl⟩

end Go.Proofs.YtcppgpjodfeigaaDoor

namespace Go.Proofs.YtcppgpjodfeigaaDoor

theorem symPath_nat {s l : Nat} (hs : s < 257) (hl : l ≤ 9) : symPath (s : Int) (l : Int) = (pth s l : Nat) := by
  unfold symPath pth
  rw [if_pos ⟨by omega, by omega, by omega, by omega⟩, show (9 - (l : Int)).toNat = 9 - l by omega, Int.natCast_ediv, Int.natCast_pow]
  rfl
theorem symBit_nat {s l : Nat} (hs : s < 257) (hl : l < 9) : symBit (s : Int) (l : Int) = bitS s l := by
  unfold symBit bitS
  rw [show (8 - (l : Int)).toNat = 8 - l by omega]
  congr 1
  have h : (s : Int) / 2 ^ (8 - l) = ((s / 2 ^ (8 - l) : Nat) : Int) := by rw [Int.natCast_ediv, Int.natCast_pow]; rfl
  rw [h]
  apply propext
  constructor
  · rintro ⟨_, _, _, _, h⟩; omega
  · intro h; exact ⟨by omega, by omega, by omega, by omega, by omega⟩
theorem path_nat {s l : Nat} (hs : s < 257) (hl : l ≤ 9) (w : World) : Calls Tryd.prog 81 #[.int .i64 s, .int .i64 l] w fun e w' => e = .returned (.int .i64 (pth s l : Nat)) ∧ w = w' := by
  have := symPath_any s l w; rwa [symPath_nat hs hl] at this
theorem bit_nat {s l : Nat} (hs : s < 257) (hl : l < 9) (w : World) : Calls Tryd.prog 82 #[.int .i64 s, .int .i64 l] w fun e w' => e = .returned (.bool (bitS s l)) ∧ w = w' := by
  have := symBit_any s l w; rwa [symBit_nat hs hl] at this

end Go.Proofs.YtcppgpjodfeigaaDoor

namespace Go.Proofs.YtcppgpjodfeigaaDoor
set_option linter.unusedVariables false
set_option linter.unusedSimpArgs false
open Go.RowKit

theorem exT_mono {B : Nat} {X Y : Nat → Prop} (h : ∀ k, X k → Y k) {k : Nat} (hk : exT B Y k) : exT B X k := ⟨hk.1, fun hx => hk.2 (h k hx)⟩

/-- What a closure does with a shelf: one tree is another one; the blocks Y are the closure's own. -/
def DoPost (B : Nat) (X Y : Nat → Prop) (w w' : World) (p : Nat) (D : WD) (O' : Nat → Nat → Option ST) (n : Nat) (vis : Int) (l k M : Nat) : Prop :=
  WaveE B X w' p D O' n vis (fun l' k' v => l' = l → k' = k → 0 ≤ v ∧ v ≤ M) ∧ Chg (fun j => exT B X j ∨ Y j) w w'

theorem lookFin {B : Nat} {X Y : Nat → Prop} {w W w1 : World} {p n b : Nat} {D : WD} {O' : Nat → Nat → Option ST} {vis : Int} {M v1 : Nat} {R : World → Prop} (hE : WaveE B (fun j => X j ∨ j = b) w1 p D O' n vis anyV) (hc : Chg (fun j => exT B (fun j => X j ∨ j = b) j ∨ Y j) W w1) (hr : R w1)
    (hR : ∀ w1 w2, R w1 → Chg (fun j => j = p) w1 w2 → R w2) (hvM : v1 ≤ M) (hb : Below w.heap.size w W) (hX : ∀ k, X k → k < w.heap.size) (hY : ∀ j, Y j → X j) (hle : B ≤ w.heap.size) (m : Nat) :
    Ending.returned (.tuple #[]) = Ending.returned (.tuple #[]) ∧ ∃ v : Nat, v ≤ M ∧ WaveE B X ((w1.drewN m).setCell ⟨p, 10, none⟩ (.int .i64 (vis + v1))) p D O' n (vis + v) anyV ∧ Chg (fun j => exT B X j ∨ Y j) w ((w1.drewN m).setCell ⟨p, 10, none⟩ (.int .i64 (vis + v1))) ∧ R ((w1.drewN m).setCell ⟨p, 10, none⟩ (.int .i64 (vis + v1))) := by
  have h1 := ((hE.mono (Y := X) (fun k hk => Or.inl hk)).drewN m).setVis (vis + v1)
  have h2 : Chg (fun j => exT B X j ∨ Y j) W w1 := hc.mono (fun j hj => hj.imp (fun h => exT_mono (fun k hk => Or.inl hk) h) id)
  refine ⟨rfl, v1, hvM, h1.1, ?_, hR _ _ hr ((Chg.refl.drewN m).setCell (S := fun j => j = p) ⟨p, 10, none⟩ (Or.inl rfl) _)⟩
  exact ((Chg.of_below (S := fun j => exT B X j ∨ Y j) hb).trans (h2.drewN m) (fun j hj => Or.inl hj)).trans (h1.2.mono (fun j hj => Or.inl hj)) (fun j hj => Or.inl hj)

set_option maxHeartbeats 3200000 in
set_option maxRecDepth 100000 in
theorem wLook {B : Nat} {X Y : Nat → Prop} {w : World} {p n : Nat} {D : WD} {O : Nat → Nat → Option ST} {vis : Int} (h : WaveE B X w p D O n vis anyV) {l k : Nat} (hl : l < 9) (hk : k < pw l) (hvis : 0 ≤ vis ∧ vis ≤ 1000000000000) {M : Nat} (hM : M ≤ 1000000000000)
    (hY : ∀ j, Y j → X j) (O' : Nat → Nat → Option ST) (g : Nat) (lb : Array Value) (eg : ∀ args w, (callFunc g args).run Tryd.prog w = .ok (.enter g args) w) (R : World → Prop) (hR : ∀ w1 w2, R w1 → Chg (fun j => j = p) w1 w2 → R w2)
    (hcall : ∀ (w0 : World) (Z : Nat → Prop), (∀ j, X j → Z j) → Below w.heap.size w w0 → WaveE B Z w0 p D O n vis anyV → Calls Tryd.prog g (#[shelfV D l k] ++ lb) w0 fun e w1 => e = .returned (.tuple #[]) ∧ DoPost B Z Y w0 w1 p D O' n vis l k M ∧ R w1) :
    Calls Tryd.prog 85 #[.pointer (some ⟨p, 0, none⟩), shelfV D l k, .func (.func g) #[] lb] w fun e w' =>
      e = .returned (.tuple #[]) ∧ ∃ v : Nat, v ≤ M ∧ WaveE B X w' p D O' n (vis + v) anyV ∧ Chg (fun j => exT B X j ∨ Y j) w w' ∧ R w' := by
  have hb0 := below_al w (.cells #[.pointer (some ⟨D.Q l k, 0, none⟩), .int .i64 l, .int .i64 k] 104)
  have hbx := heap_alloc_new w (.cells #[.pointer (some ⟨D.Q l k, 0, none⟩), .int .i64 l, .int .i64 k] 104)
  obtain ⟨W, hW⟩ : ∃ W, W = w.alloc (.cells #[.pointer (some ⟨D.Q l k, 0, none⟩), .int .i64 l, .int .i64 k] 104) := ⟨_, rfl⟩
  have hCALL : Hid (∀ j, Calls Tryd.prog g (#[shelfV D l k] ++ lb) (W.drewN j) fun e w1 => e = .returned (.tuple #[]) ∧ DoPost B (fun j => X j ∨ j = w.heap.size) Y (W.drewN j) w1 p D O' n vis l k M ∧ R w1) := by
    intro j
    rw [← hW] at hb0 hbx
    refine hcall (W.drewN j) _ (fun j h => Or.inl h) ⟨hb0.os, hb0.tape, hb0.output, hb0.size, hb0.block⟩ ((h.less hb0 (Y := fun j => X j ∨ j = w.heap.size) (fun j hj => hj.elim Or.inl (fun e => Or.inr (by omega))) (fun j hj => hj.elim (fun hx => Nat.lt_of_lt_of_le (h.x j hx) hb0.size) (fun e => by subst e; exact (Array.getElem?_eq_some_iff.1 hbx).1))).drewN j)
  have hXl := Lib.hid h.x
  have hle := Lib.hid h.le
  have c0 : W.cell? ⟨w.heap.size, 0, none⟩ = some (.pointer (some ⟨D.Q l k, 0, none⟩)) ∧ W.cell? ⟨w.heap.size, 1, none⟩ = some (.int .i64 l) ∧ W.cell? ⟨w.heap.size, 2, none⟩ = some (.int .i64 k) := by
    rw [hW]
    exact ⟨by rw [cell_of_row _ w.heap.size 0 _ _ _ hbx]; rfl, by rw [cell_of_row _ w.heap.size 1 _ _ _ hbx]; rfl, by rw [cell_of_row _ w.heap.size 2 _ _ _ hbx]; rfl⟩
  obtain ⟨c0, c1, c2⟩ := c0
  have hHX := Lib.hid hbx
  have hHB := Lib.hid hb0
  have hYX := Lib.hid hY
  have hRR := Lib.hid hR
  have hKL : Hid (l < 9 ∧ k < pw l) := ⟨hl, hk⟩
  have hpw := Lib.hid h.cells.2.2.2.2
  clear h hcall hbx hb0 hY hR hl hk
  unfold shelfV at hCALL ⊢
  obtain ⟨q, hq⟩ : ∃ q, D.Q l k = q := ⟨_, rfl⟩
  rw [hq] at c0 hCALL hHX hHB hW ⊢
  have hQ := Lib.hid hq
  clear hq
  go_enter Tryd.func85, Tryd.ntmps85
  go_wp2_with fail
  rw [← hW] at hHX hHB ⊢
  have HWC : Hid (W = W.drewN 0) := rfl
  refine (hCALL.out 0).mono ?_
  rintro e w1 ⟨rfl, ⟨hE1, hc1⟩, hr1⟩
  have hc1 : Chg (fun j => exT B (fun j => X j ∨ j = w.heap.size) j ∨ Y j) W w1 := hc1
  have hnb : ¬ (exT B (fun j => X j ∨ j = w.heap.size) w.heap.size ∨ Y w.heap.size) := by
    rintro (hx | hx)
    · exact hx.2 (Or.inr rfl)
    · have := hXl.out _ (hYX.out _ hx); omega
  have b0 : w1.cell? ⟨w.heap.size, 0, none⟩ = some (.pointer (some ⟨q, 0, none⟩)) := hc1.cell (p := ⟨w.heap.size, 0, none⟩) c0 hnb
  obtain ⟨_, _, v10, fz, hp1⟩ := hE1.cells
  have z10 := fz 10
  obtain ⟨S1, made1, x1, hx1, ht1, _, _⟩ := hE1.step hKL.out.1 hKL.out.2
  obtain ⟨hx0, hxM⟩ := hx1 rfl rfl
  obtain ⟨v1, rfl⟩ := Int.eq_ofNat_of_zero_le hx0
  rw [hQ.out] at ht1
  have hvM : v1 ≤ M := by exact_mod_cast hxM
  have HVI : Hid (∀ j, Calls Tryd.prog 72 #[.pointer (some ⟨q, 0, none⟩)] (w1.drewN j) fun e w'' => e = .returned (.int .i64 (v1 : Int)) ∧ w1.drewN j = w'') := fun j => tVisits_is (ht1.drewN j)
  have HE1 := Lib.hid (hE1.any)
  have HC1 := Lib.hid hc1
  have HR1 := Lib.hid hr1
  have hnp : p ≠ w.heap.size := by have := hpw.out; omega
  have hwr : IntKind.i64.wrap (vis + (v1 : Int)) = vis + (v1 : Int) := IntWalk.i64_in _ (by omega)
  clear hE1 hc1 hr1 hnb c0 c1 c2 ht1 hx1 hx0 hxM fz hCALL
  go_wp2_with fail
  -- REGION look
  refine reg_start (fun w' => w'.cell? ⟨w.heap.size, 0, none⟩ = some (.pointer (some ⟨q, 0, none⟩))) (by kernel_rfl) ?hilk (fun hHeld => ?_)
  case hilk => (go_simp)
  refine reg_take (i := 0) (v := ?vlk0) rfl (by kernel_rfl) rfl hHeld ?ylk0 ?rlk0
  case ylk0 => (intro w hSw; (try dsimp only at hSw); go_simp; all_goals with_reducible rfl)
  try simp only [Act.put, List.setIfInBounds_toArray, List.set_cons_zero, List.set_cons_succ]
  refine reg_take (i := 1) (v := ?vlk1) rfl (by kernel_rfl) rfl hHeld ?ylk1 ?rlk1
  case ylk1 => (intro w hSw; (try dsimp only at hSw); go_simp; all_goals with_reducible rfl)
  try simp only [Act.put, List.setIfInBounds_toArray, List.set_cons_zero, List.set_cons_succ]
  refine reg_take (i := 2) (v := ?vlk2) rfl (by kernel_rfl) rfl hHeld ?ylk2 ?rlk2
  case ylk2 => (intro w hSw; (try dsimp only at hSw); go_simp; all_goals with_reducible rfl)
  try simp only [Act.put, List.setIfInBounds_toArray, List.set_cons_zero, List.set_cons_succ]
  refine reg_take (i := 4) (v := ?vlk4) rfl (by kernel_rfl) rfl hHeld ?ylk4 ?rlk4
  case ylk4 => (intro w hSw; (try dsimp only at hSw); go_simp; all_goals with_reducible rfl)
  try simp only [Act.put, List.setIfInBounds_toArray, List.set_cons_zero, List.set_cons_succ]
  refine reg_take (i := 5) (v := ?vlk5) rfl (by kernel_rfl) rfl hHeld ?ylk5 ?rlk5
  case ylk5 => (intro w hSw; (try dsimp only at hSw); go_simp; all_goals with_reducible rfl)
  try simp only [Act.put, List.setIfInBounds_toArray, List.set_cons_zero, List.set_cons_succ]
  refine reg_loud2 (i := 3) (j := 6) rfl rfl (by kernel_rfl) rfl rfl (fun K hK => ?blk3) (fun K hK => ?blk6)
  case blk3 => 
    go_simp
    refine hK.out _ _ ?kplka3 (fun hNew => ?_)
    case kplka3 => (go_simp)
    clear hK K hHeld
    have hHeld := hNew
    clear hNew
    try simp only [Act.put, List.setIfInBounds_toArray, List.set_cons_zero, List.set_cons_succ]
    refine reg_loud (i := 6) rfl (by kernel_rfl) rfl (fun K hK => ?_)
    go_simp
    ((refine (HVI.out _).mono ?_))
    rintro e w2 ⟨rfl, rfl⟩
    refine hK.out _ _ ?kplka6 (fun hNew => ?_)
    case kplka6 => (go_simp)
    clear hK K hHeld
    have hHeld := hNew
    clear hNew
    try simp only [Act.put, List.setIfInBounds_toArray, List.set_cons_zero, List.set_cons_succ]
    refine reg_take (i := 7) (v := ?vlka7) rfl (by kernel_rfl) rfl hHeld ?ylka7 ?rlka7
    case ylka7 => (intro w hSw; (try dsimp only at hSw); go_simp; all_goals with_reducible rfl)
    try simp only [Act.put, List.setIfInBounds_toArray, List.set_cons_zero, List.set_cons_succ]
    refine reg_take (i := 8) (v := ?vlka8) rfl (by kernel_rfl) rfl hHeld ?ylka8 ?rlka8
    case ylka8 => (intro w hSw; (try dsimp only at hSw); go_simp; all_goals with_reducible rfl)
    try simp only [Act.put, List.setIfInBounds_toArray, List.set_cons_zero, List.set_cons_succ]
    refine reg_take (i := 9) (v := ?vlka9) rfl (by kernel_rfl) rfl hHeld ?ylka9 ?rlka9
    case ylka9 => (intro w hSw; (try dsimp only at hSw); go_simp; all_goals with_reducible rfl)
    try simp only [Act.put, List.setIfInBounds_toArray, List.set_cons_zero, List.set_cons_succ]
    refine reg_loud (i := 10) rfl (by kernel_rfl) rfl (fun K hK => ?_)
    go_simp
    refine hK.out _ _ ?kplka10 (fun hNew => ?_)
    case kplka10 => (go_simp)
    clear hK K hHeld
    have hHeld := hNew
    clear hNew
    try simp only [Act.put, List.setIfInBounds_toArray, List.set_cons_zero, List.set_cons_succ]
    refine reg_done (by kernel_rfl) ?_ _
    clear hHeld
    go_wp2_with fail
    go_end0
    exact lookFin HE1.out HC1.out HR1.out hRR.out hvM hHB.out hXl.out hYX.out hle.out _
  case blk6 => 
    go_simp
    ((refine (HVI.out _).mono ?_))
    rintro e w2 ⟨rfl, rfl⟩
    refine hK.out _ _ ?kplkb6 (fun hNew => ?_)
    case kplkb6 => (go_simp)
    clear hK K hHeld
    have hHeld := hNew
    clear hNew
    try simp only [Act.put, List.setIfInBounds_toArray, List.set_cons_zero, List.set_cons_succ]
    refine reg_loud (i := 3) rfl (by kernel_rfl) rfl (fun K hK => ?_)
    go_simp
    refine hK.out _ _ ?kplkb3 (fun hNew => ?_)
    case kplkb3 => (go_simp)
    clear hK K hHeld
    have hHeld := hNew
    clear hNew
    try simp only [Act.put, List.setIfInBounds_toArray, List.set_cons_zero, List.set_cons_succ]
    refine reg_take (i := 7) (v := ?vlkb7) rfl (by kernel_rfl) rfl hHeld ?ylkb7 ?rlkb7
    case ylkb7 => (intro w hSw; (try dsimp only at hSw); go_simp; all_goals with_reducible rfl)
    try simp only [Act.put, List.setIfInBounds_toArray, List.set_cons_zero, List.set_cons_succ]
    refine reg_take (i := 8) (v := ?vlkb8) rfl (by kernel_rfl) rfl hHeld ?ylkb8 ?rlkb8
    case ylkb8 => (intro w hSw; (try dsimp only at hSw); go_simp; all_goals with_reducible rfl)
    try simp only [Act.put, List.setIfInBounds_toArray, List.set_cons_zero, List.set_cons_succ]
    refine reg_take (i := 9) (v := ?vlkb9) rfl (by kernel_rfl) rfl hHeld ?ylkb9 ?rlkb9
    case ylkb9 => (intro w hSw; (try dsimp only at hSw); go_simp; all_goals with_reducible rfl)
    try simp only [Act.put, List.setIfInBounds_toArray, List.set_cons_zero, List.set_cons_succ]
    refine reg_loud (i := 10) rfl (by kernel_rfl) rfl (fun K hK => ?_)
    go_simp
    refine hK.out _ _ ?kplkb10 (fun hNew => ?_)
    case kplkb10 => (go_simp)
    clear hK K hHeld
    have hHeld := hNew
    clear hNew
    try simp only [Act.put, List.setIfInBounds_toArray, List.set_cons_zero, List.set_cons_succ]
    refine reg_done (by kernel_rfl) ?_ _
    clear hHeld
    go_wp2_with fail
    go_end0
    exact lookFin HE1.out HC1.out HR1.out hRR.out hvM hHB.out hXl.out hYX.out hle.out _
  -- END OF REGION look

end Go.Proofs.YtcppgpjodfeigaaDoor

namespace Go.Proofs.YtcppgpjodfeigaaDoor
set_option linter.unusedVariables false
set_option linter.unusedSimpArgs false
open Go.RowKit

/-- A block that holds one cell. -/
def Box1 (w : World) (b : Nat) (v : Value) (T : TypeId) : Prop := w.heap[b]? = some (.cells #[v] T (0, 0))
section
variable {w w' : World} {b : Nat} {v : Value} {T : TypeId}
theorem Box1.cell (h : Box1 w b v T) : w.cell? ⟨b, 0, none⟩ = some v := by rw [cell_of_row w b 0 _ _ _ h]; rfl
theorem Box1.frz (h : Box1 w b v T) : w.frozen? ⟨b, 0, none⟩ = false := frozen_of_row w b 0 _ _ h
theorem Box1.lt (h : Box1 w b v T) : b < w.heap.size := (Array.getElem?_eq_some_iff.1 h).1
theorem Box1.chg {S : Nat → Prop} (h : Box1 w b v T) (hc : Chg S w w') (hn : ¬ S b) : Box1 w' b v T := hc.heap h hn
theorem Box1.below (h : Box1 w b v T) (hb : Below w.heap.size w w') : Box1 w' b v T := (Chg.of_below (S := fun _ => False) hb).heap h id
theorem Box1.set (h : Box1 w b v T) (u : Value) : Box1 (w.setCell ⟨b, 0, none⟩ u) b u T := heap_setCell_same w b 0 _ _ u h
theorem Box1.new (w : World) (v : Value) (T : TypeId) : Box1 (w.alloc (.cells #[v] T)) w.heap.size v T := heap_alloc_new w _
end
theorem WaveE.setBox {B : Nat} {Z : Nat → Prop} {w : World} {p n : Nat} {D : WD} {O : Nat → Nat → Option ST} {vis : Int} {Vb : Nat → Nat → Int → Prop} (h : WaveE B Z w p D O n vis Vb) {b : Nat} (hb : Z b) (u : Value) : WaveE B Z (w.setCell ⟨b, 0, none⟩ u) p D O n vis Vb :=
  h.chg (Z := fun j => j = b) (Chg.refl.setCell (S := fun j => j = b) ⟨b, 0, none⟩ (Or.inl rfl) u) (fun k hk _ e => hk.2 (by subst e; exact hb))

set_option maxHeartbeats 1600000 in
theorem wRank1 {B : Nat} {Z : Nat → Prop} {w : World} {p n : Nat} {D : WD} {O : Nat → Nat → Option ST} {vis : Int} (h : WaveE B Z w p D O n vis anyV) {l k : Nat} (hl : l < 9) (hk : k < pw l) {b1 b2 b3 : Nat} (z1 : Z b1) (z2 : Z b2) (z3 : Z b3) {j : Int} {x : Bool} {v0 : Value}
    (h1 : Box1 w b1 (.int .i64 j) 3) (h2 : Box1 w b2 (.bool x) 4) (h3 : Box1 w b3 v0 3) :
    Calls Tryd.prog 108 #[shelfV D l k, .pointer (some ⟨b1, 0, none⟩), .pointer (some ⟨b2, 0, none⟩), .pointer (some ⟨b3, 0, none⟩)] w fun e w' => e = .returned (.tuple #[]) ∧ DoPost B Z (fun i => i = b3) w w' p D O n vis l k (shigh (O l k) + 1) ∧ Box1 w' b3 (.int .i64 (rankL (sbits (O l k)) j.toNat x)) 3 := by
  have hb0 := below_al w (.cells #[.pointer (some ⟨D.Q l k, 0, none⟩), .int .i64 l, .int .i64 k] 104)
  obtain ⟨W, hW⟩ : ∃ W, W = w.alloc (.cells #[.pointer (some ⟨D.Q l k, 0, none⟩), .int .i64 l, .int .i64 k] 104) := ⟨_, rfl⟩
  have hbx := heap_alloc_new w (.cells #[.pointer (some ⟨D.Q l k, 0, none⟩), .int .i64 l, .int .i64 k] 104)
  rw [← hW] at hb0 hbx
  have c0 : W.cell? ⟨w.heap.size, 0, none⟩ = some (.pointer (some ⟨D.Q l k, 0, none⟩)) := by rw [cell_of_row _ w.heap.size 0 _ _ _ hbx]; rfl
  have c1 := (h1.below hb0).cell
  have c2 := (h2.below hb0).cell
  have HE := Lib.hid (h.below hb0)
  have HRK := Lib.hid ((h.below hb0).tRank hl hk j x)
  have HB3 := Lib.hid (h3.below hb0)
  have HB0 := Lib.hid hb0
  have HZ3 := Lib.hid z3
  clear h h1 h2 h3 hb0 hbx z1 z2 z3 hl hk
  unfold shelfV
  obtain ⟨r, hr⟩ : ∃ r, rankL (sbits (O l k)) j.toNat x = r := ⟨_, rfl⟩
  rw [hr] at HRK ⊢
  clear hr
  obtain ⟨q, hq⟩ : ∃ q, D.Q l k = q := ⟨_, rfl⟩
  rw [hq] at c0 HRK hW ⊢
  clear hq
  subst hW
  go_enter Tryd.func108, Tryd.ntmps108
  go_wp2_with fail
  refine HRK.out.mono ?_
  rintro e w1 ⟨rfl, hE1, hC1⟩
  have hb3 := HB3.out.chg hC1 (fun hk => hk.2 HZ3.out)
  have HB3' := Lib.hid hb3
  have c3 := hb3.cell
  have f3 := hb3.frz
  have HE1 := Lib.hid hE1
  have HC1 := Lib.hid hC1
  clear hE1 hC1 hb3 HRK
  go_wp2_with fail
  go_end0
  refine ⟨rfl, ⟨HE1.out.setBox HZ3.out _, ?_⟩, HB3'.out.set _⟩
  exact ((Chg.of_below (S := fun j => exT B Z j ∨ j = b3) HB0.out).trans (HC1.out.mono (fun j hj => Or.inl hj)) (fun j hj => Or.inl hj)).setCell _ (Or.inl (Or.inr rfl)) _

set_option maxHeartbeats 3200000 in
set_option maxRecDepth 100000 in
theorem wRankS {B : Nat} {X : Nat → Prop} {w : World} {p n : Nat} {D : WD} {O : Nat → Nat → Option ST} {vis : Int} (h : WaveE B X w p D O n vis anyV) {l k : Nat} (hl : l < 9) (hk : k < pw l) (hvis : 0 ≤ vis ∧ vis ≤ 1000000000000) (hM : shigh (O l k) + 1 ≤ 1000000000000) (j : Int) (x : Bool) :
    Calls Tryd.prog 87 #[.pointer (some ⟨p, 0, none⟩), shelfV D l k, .int .i64 j, .bool x] w fun e w' =>
      e = .returned (.int .i64 (rankL (sbits (O l k)) j.toNat x)) ∧ ∃ v : Nat, v ≤ shigh (O l k) + 1 ∧ WaveE B X w' p D O n (vis + v) anyV ∧ Chg (exT B X) w w' := by
  obtain ⟨r, hr⟩ : ∃ r, rankL (sbits (O l k)) j.toNat x = r := ⟨_, rfl⟩
  obtain ⟨wa, hwa⟩ : ∃ wa, wa = w.alloc (.cells #[.pointer (some ⟨D.Q l k, 0, none⟩), .int .i64 l, .int .i64 k] 104) := ⟨_, rfl⟩
  obtain ⟨wb, hwb⟩ : ∃ wb, wb = wa.alloc (.cells #[.int .i64 j] 3) := ⟨_, rfl⟩
  obtain ⟨wc, hwc⟩ : ∃ wc, wc = wb.alloc (.cells #[.bool x] 4) := ⟨_, rfl⟩
  obtain ⟨wd, hwd⟩ : ∃ wd, wd = wc.alloc (.cells #[.int .i64 0] 3) := ⟨_, rfl⟩
  have sa : wa.heap.size = w.heap.size + 1 := by rw [hwa]; simp
  have sb : wb.heap.size = w.heap.size + 2 := by rw [hwb]; simp [sa]
  have sc : wc.heap.size = w.heap.size + 3 := by rw [hwc]; simp [sb]
  have ba : Below w.heap.size w wa := by rw [hwa]; exact below_al w _
  have bb : Below wa.heap.size wa wb := by rw [hwb]; exact below_al wa _
  have bc : Below wb.heap.size wb wc := by rw [hwc]; exact below_al wb _
  have bd : Below wc.heap.size wc wd := by rw [hwd]; exact below_al wc _
  have bx0 : wa.heap[w.heap.size]? = some (.cells #[.pointer (some ⟨D.Q l k, 0, none⟩), .int .i64 l, .int .i64 k] 104 (0, 0)) := by rw [hwa]; exact heap_alloc_new w _
  have bx1 : Box1 wb (w.heap.size + 1) (.int .i64 j) 3 := by rw [hwb, ← sa]; exact Box1.new wa _ _
  have bx2 : Box1 wc (w.heap.size + 2) (.bool x) 4 := by rw [hwc, ← sb]; exact Box1.new wb _ _
  have bx3 : Box1 wd (w.heap.size + 3) (.int .i64 0) 3 := by rw [hwd, ← sc]; exact Box1.new wc _ _
  have ball : Below w.heap.size w wd := ba.trans ((bb.trans ((bc.trans (bd.mono (by omega))).mono (by omega))).mono (by omega))
  have d0 : wd.heap[w.heap.size]? = some (.cells #[.pointer (some ⟨D.Q l k, 0, none⟩), .int .i64 l, .int .i64 k] 104 (0, 0)) := by
    have h2 : Below (w.heap.size + 1) wa wd := (bb.trans ((bc.trans (bd.mono (by omega))).mono (by omega))).mono (by omega)
    exact (Chg.of_below (S := fun _ => False) (h2.mono (by omega))).heap bx0 id
  have d1 : Box1 wd (w.heap.size + 1) (.int .i64 j) 3 := (bx1.below bc).below bd
  have d2 : Box1 wd (w.heap.size + 2) (.bool x) 4 := bx2.below bd
  have hX4 : WaveE B (fun i => X i ∨ (w.heap.size ≤ i ∧ i < w.heap.size + 4)) wd p D O n vis anyV := h.less ball (fun i hi => hi.elim Or.inl (fun g => Or.inr g.1)) (fun i hi => hi.elim (fun g => Nat.lt_of_lt_of_le (h.x i g) ball.size) (fun g => by have := bx3.lt; omega))
  have HLOOK := Lib.hid (wLook hX4 hl hk hvis hM (Y := fun i => i = w.heap.size + 3) (fun i e => Or.inr (by omega)) O 108 #[.pointer (some ⟨w.heap.size + 1, 0, none⟩), .pointer (some ⟨w.heap.size + 2, 0, none⟩), .pointer (some ⟨w.heap.size + 3, 0, none⟩)]
    (enters_of Tryd.func108 (by kernel_rfl) rfl) (fun w' => Box1 w' (w.heap.size + 3) (.int .i64 r) 3) (fun w1 w2 hb hc => hb.chg hc (fun e => by have := h.cells.2.2.2.2; omega))
    (fun w0 Z hXZ hb hE => by
      rw [← hr]
      exact wRank1 hE hl hk (hXZ _ (Or.inr (by omega))) (hXZ _ (Or.inr (by omega))) (hXZ _ (Or.inr (by omega))) (d1.below hb) (d2.below hb) (bx3.below hb)))
  have c0 : wd.cell? ⟨w.heap.size, 0, none⟩ = some (.pointer (some ⟨D.Q l k, 0, none⟩)) := by rw [cell_of_row _ w.heap.size 0 _ _ _ d0]; rfl
  have c1 : wd.cell? ⟨w.heap.size, 1, none⟩ = some (.int .i64 l) := by rw [cell_of_row _ w.heap.size 1 _ _ _ d0]; rfl
  have c2 : wd.cell? ⟨w.heap.size, 2, none⟩ = some (.int .i64 k) := by rw [cell_of_row _ w.heap.size 2 _ _ _ d0]; rfl
  have HBA := Lib.hid ball
  have HLE := Lib.hid h.le
  have HXL := Lib.hid h.x
  rw [hr]
  clear hr h ba bb bc bd bx0 bx1 bx2 bx3 ball d0 d1 d2 hX4 hl hk sa sb sc
  unfold shelfV at HLOOK ⊢
  obtain ⟨q, hq⟩ : ∃ q, D.Q l k = q := ⟨_, rfl⟩
  rw [hq] at c0 HLOOK hwa ⊢
  clear hq
  subst hwa hwb hwc
  go_enter Tryd.func87, Tryd.ntmps87
  go_wp2_with fail
  rw [← hwd]
  refine HLOOK.out.mono ?_
  rintro e w1 ⟨rfl, v, hv, hE, hC, hR⟩
  have c3 := hR.cell
  have HE := Lib.hid hE
  have HC := Lib.hid hC
  clear hE hC hR HLOOK c0 c1 c2 hwd
  go_wp2_with fail
  go_ret
  refine ⟨rfl, v, hv, HE.out.mono (fun i hi => Or.inl hi), (Chg.of_below (S := exT B X) HBA.out).trans HC.out (fun i hi => ?_)⟩
  rcases hi with hi | hi
  · exact Or.inl (exT_mono (fun i hi => Or.inl hi) hi)
  · right; omega

end Go.Proofs.YtcppgpjodfeigaaDoor

namespace Go.Proofs.YtcppgpjodfeigaaDoor
set_option linter.unusedVariables false
set_option linter.unusedSimpArgs false
open Go.RowKit

/-- A wave's trees hold the levels' bits; how high they are at most. -/
def LvlO (O : Nat → Nat → Option ST) (L : List Nat) : Prop := ∀ l k, l < 9 → k < pw l → sbits (O l k) = lvl L l k
def HiO (O : Nat → Nat → Option ST) (H : Nat) : Prop := ∀ l k, l < 9 → k < pw l → shigh (O l k) ≤ H
def Syms (L : List Nat) : Prop := ∀ s ∈ L, s < 257
theorem Syms.lt {L : List Nat} (h : Syms L) : ∀ s ∈ L, s < 512 := fun s hs => by have := h s hs; omega
theorem pth_pw {s l : Nat} (hs : s < 257) (h : l < 9) : pth s l < pw l := pth_lt (by omega) (by omega)

set_option maxRecDepth 1000000 in
/-- The row of a level, out of the array of them. -/
theorem idx_row (D : WD) {l : Nat} (h : l < 9) (w : World) : (Instr.index 99 (rowsV D) (.int .i64 (l : Int))).run Tryd.prog w = .ok (.slice (some ⟨D.G l, 0, none⟩) (pw l) (D.C l)) w := by
  have : l = 0 ∨ l = 1 ∨ l = 2 ∨ l = 3 ∨ l = 4 ∨ l = 5 ∨ l = 6 ∨ l = 7 ∨ l = 8 := by omega
  rcases this with rfl | rfl | rfl | rfl | rfl | rfl | rfl | rfl | rfl <;> rfl

set_option maxHeartbeats 3200000 in
set_option maxRecDepth 100000 in
theorem wRank_any {B : Nat} {X : Nat → Prop} {w : World} {p : Nat} {D : WD} {O : Nat → Nat → Option ST} {L : List Nat} {vis : Int} (h : WaveE B X w p D O L.length vis anyV) (hO : LvlO O L) (hL : Syms L) (hn : L.length ≤ 1000000000) {H : Nat} (hH : HiO O H) (hHm : H ≤ 1000000000) (k : Int) (s : Nat) (hs : s < 257) :
    Calls Tryd.prog 46 #[.pointer (some ⟨p, 0, none⟩), .int .i64 k, .int .i64 s] w fun e w' =>
      e = .returned (.int .i64 (rankS L k.toNat s)) ∧ ∃ vis' : Int, 0 ≤ vis' ∧ vis' ≤ 9 * (H + 1) ∧ WaveE B X w' p D O L.length vis' anyV ∧ Chg (exT B X) w w' := by
  obtain ⟨kk, hkk⟩ : ∃ kk : Nat, kk = min k.toNat L.length := ⟨_, rfl⟩
  have hkL : kk ≤ L.length := by omega
  have hrs : rankS L k.toNat s = cntP L 9 (pth s 9) kk := by
    rw [pth_nine, cntP_nine]
    unfold rankS
    by_cases hc : k.toNat ≤ L.length
    · rw [hkk, Nat.min_eq_left hc]
    · rw [hkk, Nat.min_eq_right (by omega), List.take_of_length_le (by omega), List.take_of_length_le (Nat.le_refl _)]
  rw [hrs]
  have hmm : max k 0 ≤ (L.length : Int) → max k 0 = (kk : Int) := fun h => by omega
  have hmx : ¬ max k 0 ≤ (L.length : Int) → (L.length : Int) = (kk : Int) := fun h => by omega
  have hmm0 : min (max k 0) (L.length : Int) = (kk : Int) := by omega
  obtain ⟨hc0, c9, c10, fz, hp⟩ := h.cells
  have z10 := fz 10
  have HW := Lib.hid h
  have HST := Lib.hid (h.setVis 0)
  have x0 := hc0 0 (by omega)
  have x1 := hc0 1 (by omega)
  have x2 := hc0 2 (by omega)
  have x3 := hc0 3 (by omega)
  have x4 := hc0 4 (by omega)
  have x5 := hc0 5 (by omega)
  have x6 := hc0 6 (by omega)
  have x7 := hc0 7 (by omega)
  have x8 := hc0 8 (by omega)
  have his : symIs (s : Int) = true := symIs_true (by omega) (by omega)
  have HIS : Hid (∀ w, Calls Tryd.prog 80 #[.int .i64 s] w fun e w' => e = .returned (.bool true) ∧ w = w') := fun w => by rw [← his]; exact symIs_any s w
  have HO := Lib.hid hO
  have HHi := Lib.hid hH
  have HLS := Lib.hid hL
  have HKL := Lib.hid hkL
  have HLEN := Lib.hid hn
  clear h hc0 fz hrs his hO hH hL hkk hmm hmx hn
  go_enter Tryd.func46, Tryd.ntmps46
  go_wp2_with fail
  refine (HIS.out _).mono ?_
  rintro e w' ⟨rfl, rfl⟩
  go_wp2_with fail
  clear hmm0 x0 x1 x2 x3 x4 x5 x6 x7 x8 c9 c10 z10
  go_loopw [1, 28] (fun v x wr => ∃ l : Nat, l ≤ 9 ∧ x = .int .i64 l ∧ v = .int .i64 (cntP L l (pth s l) kk : Nat) ∧ ∃ vis' : Int, 0 ≤ vis' ∧ vis' ≤ l * (H + 1) ∧ WaveE B X wr p D O L.length vis' anyV ∧ Chg (exT B X) w wr) (fun _ x _ => 9 - (intOf x).toNat)
  case atStart => exact ⟨0, by omega, rfl, by rw [pth_zero (by omega), cntP_zero HLS.out.lt kk hkL], 0, by omega, by simp, HST.out.1, HST.out.2⟩
  case round => as_aux_lemma =>
    clear HST HW
    obtain ⟨l, hl, rfl, rfl, vis', hv0, hv1, hE, hC⟩ := hrel
    have HE := Lib.hid hE
    have HC := Lib.hid hC
    clear hE hC
    by_cases hlt : l < 9
    · have hix : ∀ w : World, (Instr.index 99 (.agg #[D.row 0, D.row 1, D.row 2, D.row 3, D.row 4, D.row 5, D.row 6, D.row 7, D.row 8]) (.int .i64 (l : Int))).run Tryd.prog w = .ok (.slice (some ⟨D.G l, 0, none⟩) (pw l) (D.C l)) w := idx_row D hlt
      have hpp := pth_pw hs hlt
      obtain ⟨r0, r1, r2⟩ := HE.out.shelf hlt hpp
      have HSF : Hid (∀ (w' : World) (v : Int), WaveE B X w' p D O L.length v anyV → w'.cell? ⟨D.G l, pth s l * 3, none⟩ = some (.pointer (some ⟨D.Q l (pth s l), 0, none⟩)) ∧ w'.cell? ⟨D.G l, pth s l * 3 + 1, none⟩ = some (.int .i64 l) ∧ w'.cell? ⟨D.G l, pth s l * 3 + 2, none⟩ = some (.int .i64 (pth s l : Nat))) := fun w' v h => h.shelf hlt hpp
      have HPA := Lib.hid (fun w => path_nat hs hl w)
      have HBI := Lib.hid (fun w => bit_nat hs hlt w)
      have hHl := HHi.out l (pth s l) hlt hpp
      have hv1' : vis' ≤ 9 * ((H : Int) + 1) := by
        have h1 : (l : Int) * ((H : Int) + 1) ≤ 9 * ((H : Int) + 1) := Int.mul_le_mul_of_nonneg_right (by omega) (by omega)
        omega
      have HRK := Lib.hid (fun (w' : World) (h : WaveE B X w' p D O L.length vis' anyV) => wRankS h hlt hpp ⟨hv0, by omega⟩ (by omega) (cntP L l (pth s l) kk : Nat) (bitS s l))
      have HNX : Hid (rankL (sbits (O l (pth s l))) (((cntP L l (pth s l) kk : Nat) : Int)).toNat (bitS s l) = cntP L (l + 1) (pth s (l + 1)) kk) := by
        show _ = _
        rw [HO.out l _ hlt hpp, Int.toNat_natCast, wrank_next L hlt, pth_succ hlt]
      have HVB : Hid (∀ v : Nat, v ≤ shigh (O l (pth s l)) + 1 → 0 ≤ vis' + (v : Int) ∧ vis' + (v : Int) ≤ ((l + 1 : Nat) : Int) * ((H : Int) + 1)) := fun v hv => by
        have e : ((l + 1 : Nat) : Int) * ((H : Int) + 1) = (l : Int) * ((H : Int) + 1) + ((H : Int) + 1) := by push_cast; rw [Int.add_mul]; omega
        rw [e]
        constructor <;> omega
      rw [HNX.out] at HRK
      clear hHl hv1' HNX hv0 hv1
      generalize pth s l = π at *
      generalize bitS s l = bt at *
      have i0 : (0 : Int) ≤ (π : Int) := by omega
      have i1 : (π : Int) < ((pw l : Nat) : Int) := by omega
      unfold shelfV at HRK
      generalize D.Q l π = q at *
      generalize D.G l = g at *
      generalize D.C l = gc at *
      go_wp2_with fail
      -- REGION rk
      refine reg_start (fun w' => w'.cell? ⟨g, π * 3, none⟩ = some (.pointer (some ⟨q, 0, none⟩)) ∧ w'.cell? ⟨g, π * 3 + 1, none⟩ = some (.int .i64 l) ∧ w'.cell? ⟨g, π * 3 + 2, none⟩ = some (.int .i64 π)) (by kernel_rfl) ?hirk (fun hHeld => ?_)
      case hirk => (refine ⟨?_, ?_, ?_⟩ <;> go_simp)
      refine reg_take (i := 0) (v := ?vrk0) rfl (by kernel_rfl) rfl hHeld ?yrk0 ?rrk0
      case yrk0 => (intro w hSw; (try dsimp only at hSw); go_simp; all_goals with_reducible rfl)
      try simp only [Act.put, List.setIfInBounds_toArray, List.set_cons_zero, List.set_cons_succ]
      refine reg_take (i := 1) (v := ?vrk1) rfl (by kernel_rfl) rfl hHeld ?yrk1 ?rrk1
      case yrk1 => (intro w hSw; (try dsimp only at hSw); go_simp; all_goals with_reducible rfl)
      try simp only [Act.put, List.setIfInBounds_toArray, List.set_cons_zero, List.set_cons_succ]
      refine reg_take (i := 2) (v := ?vrk2) rfl (by kernel_rfl) rfl hHeld ?yrk2 ?rrk2
      case yrk2 => (intro w hSw; (try dsimp only at hSw); go_simp; all_goals with_reducible rfl)
      try simp only [Act.put, List.setIfInBounds_toArray, List.set_cons_zero, List.set_cons_succ]
      refine reg_take (i := 3) (v := ?vrk3) rfl (by kernel_rfl) rfl hHeld ?yrk3 ?rrk3
      case yrk3 => (intro w hSw; (try dsimp only at hSw); go_simp; all_goals with_reducible rfl)
      try simp only [Act.put, List.setIfInBounds_toArray, List.set_cons_zero, List.set_cons_succ]
      refine reg_take (i := 7) (v := ?vrk7) rfl (by kernel_rfl) rfl hHeld ?yrk7 ?rrk7
      case yrk7 => (intro w hSw; (try dsimp only at hSw); go_simp; all_goals with_reducible rfl)
      try simp only [Act.put, List.setIfInBounds_toArray, List.set_cons_zero, List.set_cons_succ]
      refine reg_take (i := 8) (v := ?vrk8) rfl (by kernel_rfl) rfl hHeld ?yrk8 ?rrk8
      case yrk8 => (intro w hSw; (try dsimp only at hSw); go_simp; all_goals with_reducible rfl)
      try simp only [Act.put, List.setIfInBounds_toArray, List.set_cons_zero, List.set_cons_succ]
      refine reg_take (i := 9) (v := ?vrk9) rfl (by kernel_rfl) rfl hHeld ?yrk9 ?rrk9
      case yrk9 => (intro w hSw; (try dsimp only at hSw); go_simp; all_goals with_reducible rfl)
      try simp only [Act.put, List.setIfInBounds_toArray, List.set_cons_zero, List.set_cons_succ]
      refine reg_loud (i := 4) rfl (by kernel_rfl) rfl (fun K hK => ?_)
      go_simp
      ((refine (HPA.out _).mono ?_))
      rintro e w2 ⟨rfl, rfl⟩
      refine hK.out _ _ (hHeld) (fun hNew => ?_)
      clear hK K hHeld
      have hHeld := hNew
      clear hNew
      try simp only [Act.put, List.setIfInBounds_toArray, List.set_cons_zero, List.set_cons_succ]
      refine reg_take (i := 5) (v := ?vrk5) rfl (by kernel_rfl) rfl hHeld ?yrk5 ?rrk5
      case yrk5 => (intro w hSw; (try dsimp only at hSw); go_simp; all_goals with_reducible rfl)
      try simp only [Act.put, List.setIfInBounds_toArray, List.set_cons_zero, List.set_cons_succ]
      refine reg_take (i := 6) (v := ?vrk6) rfl (by kernel_rfl) rfl hHeld ?yrk6 ?rrk6
      case yrk6 => (intro w hSw; (try dsimp only at hSw); go_simp; all_goals with_reducible rfl)
      try simp only [Act.put, List.setIfInBounds_toArray, List.set_cons_zero, List.set_cons_succ]
      refine reg_loud (i := 10) rfl (by kernel_rfl) rfl (fun K hK => ?_)
      go_simp
      ((refine (HBI.out _).mono ?_))
      rintro e w2 ⟨rfl, rfl⟩
      refine hK.out _ _ (hHeld) (fun hNew => ?_)
      clear hK K hHeld
      have hHeld := hNew
      clear hNew
      try simp only [Act.put, List.setIfInBounds_toArray, List.set_cons_zero, List.set_cons_succ]
      refine reg_loud (i := 11) rfl (by kernel_rfl) rfl (fun K hK => ?_)
      go_simp
      ((refine (HRK.out _ (HE.out.drewN 1)).mono ?_))
      rintro e w2 ⟨rfl, v1, hv1, hE1, hC1⟩
      have HE1 := Lib.hid hE1
      have HC1 := Lib.hid hC1
      have HSH := Lib.hid (HSF.out _ _ hE1)
      clear hE1 hC1
      refine hK.out _ _ (HSH.out) (fun hNew => ?_)
      clear hK K hHeld
      have hHeld := hNew
      clear hNew
      try simp only [Act.put, List.setIfInBounds_toArray, List.set_cons_zero, List.set_cons_succ]
      refine reg_take (i := 12) (v := ?vrk12) rfl (by kernel_rfl) rfl hHeld ?yrk12 ?rrk12
      case yrk12 => (intro w hSw; (try dsimp only at hSw); go_simp; all_goals with_reducible rfl)
      try simp only [Act.put, List.setIfInBounds_toArray, List.set_cons_zero, List.set_cons_succ]
      refine reg_done (by kernel_rfl) ?_ _
      -- END OF REGION rk
      clear hHeld
      go_wp2_with fail
      go_roundw
      case rel => exact ⟨l + 1, by omega, by go_num, rfl, _, (HVB.out v1 hv1).1, (HVB.out v1 hv1).2, HE1.out, (HC.out.drewN 1).trans HC1.out (fun j hj => Or.inl hj)⟩
      case measure => simp [intOf]; omega
    · obtain rfl : l = 9 := by omega
      go_wp2_with fail
      go_ret
      exact ⟨rfl, vis', hv0, by simpa using hv1, HE.out, HC.out⟩

end Go.Proofs.YtcppgpjodfeigaaDoor

namespace Go.Proofs.YtcppgpjodfeigaaDoor
set_option linter.unusedVariables false
set_option linter.unusedSimpArgs false
open Go.RowKit

set_option maxHeartbeats 1600000 in
theorem wNext (D : WD) {l k : Nat} (hk : k < 256) (b : Bool) (w : World) :
    Calls Tryd.prog 88 #[shelfV D l k, .bool b] w fun e w' => e = .returned (.int .i64 (2 * k + bnum b : Nat)) ∧ Below w.heap.size w w' := by
  have hb0 := Lib.hid (below_al w (.cells #[.pointer (some ⟨D.Q l k, 0, none⟩), .int .i64 l, .int .i64 k] 104))
  unfold shelfV
  generalize D.Q l k = q at *
  cases b
  · go_enter Tryd.func88, Tryd.ntmps88
    go_wp2_with fail
    go_ret
    exact ⟨ret_int (by simp [bnum]), hb0.out⟩
  · go_enter Tryd.func88, Tryd.ntmps88
    go_wp2_with fail
    go_ret
    exact ⟨ret_int (by simp [bnum]), hb0.out⟩

set_option maxHeartbeats 1600000 in
theorem wGet1 {B : Nat} {Z : Nat → Prop} {w : World} {p n : Nat} {D : WD} {O : Nat → Nat → Option ST} {vis : Int} (h : WaveE B Z w p D O n vis anyV) {l k : Nat} (hl : l < 9) (hk : k < pw l) {b1 b2 : Nat} (z1 : Z b1) (z2 : Z b2) {j : Nat} (hj : j < (sbits (O l k)).length) {v0 : Value}
    (h1 : Box1 w b1 (.int .i64 j) 3) (h2 : Box1 w b2 v0 4) :
    Calls Tryd.prog 86 #[shelfV D l k, .pointer (some ⟨b1, 0, none⟩), .pointer (some ⟨b2, 0, none⟩)] w fun e w' => e = .returned (.tuple #[]) ∧ DoPost B Z (fun i => i = b2) w w' p D O n vis l k (shigh (O l k) + 1) ∧ Box1 w' b2 (.bool (bitAt (sbits (O l k)) j)) 4 := by
  have hb0 := below_al w (.cells #[.pointer (some ⟨D.Q l k, 0, none⟩), .int .i64 l, .int .i64 k] 104)
  obtain ⟨W, hW⟩ : ∃ W, W = w.alloc (.cells #[.pointer (some ⟨D.Q l k, 0, none⟩), .int .i64 l, .int .i64 k] 104) := ⟨_, rfl⟩
  rw [← hW] at hb0
  have c1 := (h1.below hb0).cell
  have HRK := Lib.hid ((h.below hb0).tGet hl hk j hj)
  have HB2 := Lib.hid (h2.below hb0)
  have HB0 := Lib.hid hb0
  have HZ2 := Lib.hid z2
  clear h h1 h2 hb0 z1 z2 hl hk hj
  unfold shelfV
  obtain ⟨r, hr⟩ : ∃ r, bitAt (sbits (O l k)) j = r := ⟨_, rfl⟩
  rw [hr] at HRK ⊢
  clear hr
  obtain ⟨q, hq⟩ : ∃ q, D.Q l k = q := ⟨_, rfl⟩
  rw [hq] at HRK hW ⊢
  clear hq
  subst hW
  go_enter Tryd.func86, Tryd.ntmps86
  go_wp2_with fail
  refine HRK.out.mono ?_
  rintro e w1 ⟨rfl, hE1, hC1⟩
  have hb2 := HB2.out.chg hC1 (fun hk => hk.2 HZ2.out)
  have HB2' := Lib.hid hb2
  have c3 := hb2.cell
  have f3 := hb2.frz
  have HE1 := Lib.hid hE1
  have HC1 := Lib.hid hC1
  clear hE1 hC1 hb2 HRK
  go_wp2_with fail
  go_end0
  refine ⟨rfl, ⟨HE1.out.setBox HZ2.out _, ?_⟩, HB2'.out.set _⟩
  exact ((Chg.of_below (S := fun j => exT B Z j ∨ j = b2) HB0.out).trans (HC1.out.mono (fun j hj => Or.inl hj)) (fun j hj => Or.inl hj)).setCell _ (Or.inl (Or.inr rfl)) _

/-- Three cells of a block. -/
def Box3 (w : World) (b : Nat) (v0 v1 v2 : Value) (T : TypeId) : Prop := w.heap[b]? = some (.cells #[v0, v1, v2] T (0, 0))
theorem Box3.cells {w : World} {b : Nat} {v0 v1 v2 : Value} {T : TypeId} (h : Box3 w b v0 v1 v2 T) : w.cell? ⟨b, 0, none⟩ = some v0 ∧ w.cell? ⟨b, 1, none⟩ = some v1 ∧ w.cell? ⟨b, 2, none⟩ = some v2 :=
  ⟨by rw [cell_of_row w b 0 _ _ _ h]; rfl, by rw [cell_of_row w b 1 _ _ _ h]; rfl, by rw [cell_of_row w b 2 _ _ _ h]; rfl⟩
theorem Box3.chg {w w' : World} {b : Nat} {v0 v1 v2 : Value} {T : TypeId} {S : Nat → Prop} (h : Box3 w b v0 v1 v2 T) (hc : Chg S w w') (hn : ¬ S b) : Box3 w' b v0 v1 v2 T := hc.heap h hn
theorem Box3.lt {w : World} {b : Nat} {v0 v1 v2 : Value} {T : TypeId} (h : Box3 w b v0 v1 v2 T) : b < w.heap.size := (Array.getElem?_eq_some_iff.1 h).1

theorem keepB {w w' : World} {b b' : Nat} {v0 v1 v2 v3 : Value} (h : (w.cell? ⟨b, 0, none⟩ = some v0 ∧ w.cell? ⟨b, 1, none⟩ = some v1 ∧ w.cell? ⟨b, 2, none⟩ = some v2) ∧ w.cell? ⟨b', 0, none⟩ = some v3) (hb : Below w.heap.size w w') :
    (w'.cell? ⟨b, 0, none⟩ = some v0 ∧ w'.cell? ⟨b, 1, none⟩ = some v1 ∧ w'.cell? ⟨b, 2, none⟩ = some v2) ∧ w'.cell? ⟨b', 0, none⟩ = some v3 := by
  have h1 := World.block_lt_of_cell? w _ h.1.1
  have h2 := World.block_lt_of_cell? w _ h.2
  exact ⟨⟨(hb.cell (p := ⟨b, 0, none⟩) h1).trans h.1.1, (hb.cell (p := ⟨b, 1, none⟩) h1).trans h.1.2.1, (hb.cell (p := ⟨b, 2, none⟩) h1).trans h.1.2.2⟩, (hb.cell (p := ⟨b', 0, none⟩) h2).trans h.2⟩
theorem keepSt {w : World} {b b' c : Nat} {v0 v1 v2 v3 u : Value} (h : (w.cell? ⟨b, 0, none⟩ = some v0 ∧ w.cell? ⟨b, 1, none⟩ = some v1 ∧ w.cell? ⟨b, 2, none⟩ = some v2) ∧ w.cell? ⟨b', 0, none⟩ = some v3) (hb : b ≠ c) (hb' : b' ≠ c) :
    ((w.setCell ⟨c, 0, none⟩ u).cell? ⟨b, 0, none⟩ = some v0 ∧ (w.setCell ⟨c, 0, none⟩ u).cell? ⟨b, 1, none⟩ = some v1 ∧ (w.setCell ⟨c, 0, none⟩ u).cell? ⟨b, 2, none⟩ = some v2) ∧ (w.setCell ⟨c, 0, none⟩ u).cell? ⟨b', 0, none⟩ = some v3 := by
  have hc : Chg (fun j => j = c) w (w.setCell ⟨c, 0, none⟩ u) := Chg.refl.setCell (S := fun j => j = c) ⟨c, 0, none⟩ (Or.inl rfl) u
  exact ⟨⟨hc.cell (p := ⟨b, 0, none⟩) h.1.1 hb, hc.cell (p := ⟨b, 1, none⟩) h.1.2.1 hb, hc.cell (p := ⟨b, 2, none⟩) h.1.2.2 hb⟩, hc.cell (p := ⟨b', 0, none⟩) h.2 hb'⟩

set_option maxHeartbeats 6400000 in
set_option maxRecDepth 100000 in
theorem wGet_any {B : Nat} {X : Nat → Prop} {w : World} {p : Nat} {D : WD} {O : Nat → Nat → Option ST} {L : List Nat} {vis : Int} (h : WaveE B X w p D O L.length vis anyV) (hO : LvlO O L) (hL : Syms L) (hn : L.length ≤ 1000000000) {H : Nat} (hH : HiO O H) (hHm : H ≤ 1000000000) (k s : Nat) (hk : L[k]? = some s) :
    Calls Tryd.prog 45 #[.pointer (some ⟨p, 0, none⟩), .int .i64 k] w fun e w' =>
      e = .returned (.tuple #[.int .i64 s, .int .i64 0]) ∧ ∃ vis' : Int, 0 ≤ vis' ∧ vis' ≤ 18 * (H + 1) ∧ WaveE B X w' p D O L.length vis' anyV ∧ Chg (exT B X) w w' := by
  have hkL := (List.getElem?_eq_some_iff.1 hk).1
  have hs : s < 257 := hL s (List.mem_of_getElem? hk)
  have hb0 := below_al w (.cells #[.int .i64 k] 3)
  obtain ⟨W, hW⟩ : ∃ W, W = w.alloc (.cells #[.int .i64 k] 3) := ⟨_, rfl⟩
  have hbx : Box1 W w.heap.size (.int .i64 k) 3 := by rw [hW]; exact Box1.new w _ _
  rw [← hW] at hb0
  have hX1 : WaveE B (fun i => X i ∨ i = w.heap.size) W p D O L.length vis anyV := h.less hb0 (fun i hi => hi.elim Or.inl (fun e => Or.inr (by omega))) (fun i hi => hi.elim (fun g => Nat.lt_of_lt_of_le (h.x i g) hb0.size) (fun e => by subst e; exact hbx.lt))
  have hpn : p ≠ w.heap.size := by have := h.cells.2.2.2.2; omega
  have HX := Lib.hid h.x
  have HLE := Lib.hid h.le
  obtain ⟨hc0, c9, c10, fz, hp⟩ := hX1.cells
  have z10 := fz 10
  have kc := hbx.cell
  have HST := Lib.hid (hX1.setVis 0)
  have HKB : Hid (∀ v, Box1 (W.setCell ⟨p, 10, none⟩ v) w.heap.size (.int .i64 k) 3) := fun v => hbx.chg (S := fun j => j = p) (Chg.refl.setCell (S := fun j => j = p) ⟨p, 10, none⟩ (Or.inl rfl) _) (fun e => hpn e.symm)
  have HB0 := Lib.hid hb0
  have x0 := hc0 0 (by omega)
  have x1 := hc0 1 (by omega)
  have x2 := hc0 2 (by omega)
  have x3 := hc0 3 (by omega)
  have x4 := hc0 4 (by omega)
  have x5 := hc0 5 (by omega)
  have x6 := hc0 6 (by omega)
  have x7 := hc0 7 (by omega)
  have x8 := hc0 8 (by omega)
  have HO := Lib.hid hO
  have HHi := Lib.hid hH
  have HLS := Lib.hid hL
  have HK := Lib.hid hk
  have HLEN := Lib.hid hn
  have d0 : decide ((k : Int) < 0) = false := decide_eq_false (by omega)
  have d1 : decide (L.length ≤ k) = false := decide_eq_false (by omega)
  have d2 : decide ((L.length : Int) ≤ (k : Int)) = false := decide_eq_false (by omega)
  have HPN := Lib.hid hpn
  clear h hc0 fz hO hH hL hn hX1 hb0 hbx hk
  subst hW
  go_enter Tryd.func45, Tryd.ntmps45
  go_wp2_with fail
  go_quiet (fail)
  go_wp2_with fail
  have HS0 : Hid (WaveE B (fun i => X i ∨ i = w.heap.size) (((w.alloc (.cells #[.int .i64 k] 3)).setCell ⟨p, 10, none⟩ (.int .i64 0)).drewN nq) p D O L.length 0 anyV ∧ Box1 (((w.alloc (.cells #[.int .i64 k] 3)).setCell ⟨p, 10, none⟩ (.int .i64 0)).drewN nq) w.heap.size (.int .i64 k) 3 ∧ Chg (exT B X) w (((w.alloc (.cells #[.int .i64 k] 3)).setCell ⟨p, 10, none⟩ (.int .i64 0)).drewN nq)) :=
    ⟨HST.out.1.drewN nq, HKB.out _, ((Chg.of_below (S := exT B X) HB0.out).trans (HST.out.2.mono (fun j hj => exT_mono (fun i hi => Or.inl hi) hj)) (fun j hj => Or.inl hj)).drewN nq⟩
  generalize ((w.alloc (.cells #[.int .i64 k] 3)).setCell ⟨p, 10, none⟩ (.int .i64 0)).drewN nq = ws at *
  clear HST HKB HB0 x0 x1 x2 x3 x4 x5 x6 x7 x8 c9 c10 z10 kc d0 d1 d2 hp hpn
  go_loopw [6, 30] (fun v x wr => ∃ l : Nat, l ≤ 9 ∧ x = .int .i64 l ∧ v = .int .i64 (pth s l : Nat) ∧ ∃ vis' : Int, 0 ≤ vis' ∧ vis' ≤ l * (2 * (H + 1)) ∧ WaveE B (fun i => X i ∨ i = w.heap.size) wr p D O L.length vis' anyV ∧ Box1 wr w.heap.size (.int .i64 (cntP L l (pth s l) k : Nat)) 3 ∧ Chg (exT B X) w wr) (fun _ x _ => 9 - (intOf x).toNat)
  case atStart => exact ⟨0, by omega, rfl, by rw [pth_zero (by omega)]; rfl, 0, by omega, by simp, HS0.out.1, by rw [pth_zero (by omega), cntP_zero HLS.out.lt k (by omega)]; exact HS0.out.2.1, HS0.out.2.2⟩
  case round => as_aux_lemma =>
    clear HS0
    obtain ⟨l, hl, rfl, rfl, vis', hv0, hv1, hE, hKB, hC⟩ := hrel
    by_cases hlt : l < 9
    · have hix : ∀ w : World, (Instr.index 99 (.agg #[D.row 0, D.row 1, D.row 2, D.row 3, D.row 4, D.row 5, D.row 6, D.row 7, D.row 8]) (.int .i64 (l : Int))).run Tryd.prog w = .ok (.slice (some ⟨D.G l, 0, none⟩) (pw l) (D.C l)) w := idx_row D hlt
      have hpp := pth_pw hs hlt
      have hpl := pw_le hlt
      obtain ⟨r0, r1, r2⟩ := hE.shelf hlt hpp
      obtain ⟨g1, g2⟩ := lvl_at HK.out l
      have hHl := HHi.out l (pth s l) hlt hpp
      have hv1' : vis' ≤ 9 * (2 * ((H : Int) + 1)) := by
        have h1 : (l : Int) * (2 * ((H : Int) + 1)) ≤ 9 * (2 * ((H : Int) + 1)) := Int.mul_le_mul_of_nonneg_right (by omega) (by omega)
        omega
      obtain ⟨π, hπ⟩ : ∃ π, pth s l = π := ⟨_, rfl⟩
      obtain ⟨bt, hbt⟩ : ∃ bt, bitS s l = bt := ⟨_, rfl⟩
      obtain ⟨ct, hct⟩ : ∃ ct, cntP L l (pth s l) k = ct := ⟨_, rfl⟩
      have HOB := HO.out l (pth s l) hlt hpp
      have hnx : rankL (sbits (O l π)) ct bt = cntP L (l + 1) (pth s (l + 1)) k := by
        rw [← hπ, ← hbt, ← hct, HOB, wrank_next L hlt, pth_succ hlt]
      have hpn : 2 * π + bnum bt = pth s (l + 1) := by rw [← hπ, ← hbt, pth_succ hlt]
      rw [hct] at hKB g1 g2
      rw [hπ] at hpp r0 r1 r2 g1 g2 hHl HOB ⊢
      rw [hbt] at g2
      rw [← HOB] at g1 g2
      obtain ⟨wa, hwa⟩ : ∃ wa, wa = wr.alloc (.cells #[.pointer (some ⟨D.Q l π, 0, none⟩), .int .i64 l, .int .i64 π] 104) := ⟨_, rfl⟩
      obtain ⟨wb, hwb⟩ : ∃ wb, wb = wa.alloc (.cells #[.bool false] 4) := ⟨_, rfl⟩
      have sa : wa.heap.size = wr.heap.size + 1 := by rw [hwa]; simp
      have ba : Below wr.heap.size wr wa := by rw [hwa]; exact below_al wr _
      have bb : Below wa.heap.size wa wb := by rw [hwb]; exact below_al wa _
      have ball : Below wr.heap.size wr wb := ba.trans (bb.mono ba.size)
      have bx9 : Box3 wb wr.heap.size (.pointer (some ⟨D.Q l π, 0, none⟩)) (.int .i64 l) (.int .i64 π) 104 := (Chg.of_below (S := fun _ => False) bb).heap (by rw [hwa]; exact heap_alloc_new wr _) id
      have bx10 : Box1 wb (wr.heap.size + 1) (.bool false) 4 := by rw [hwb, ← sa]; exact Box1.new wa _ _
      have hkl := hKB.lt
      have hX3 : WaveE B (fun i => (X i ∨ i = w.heap.size) ∨ (i = wr.heap.size ∨ i = wr.heap.size + 1)) wb p D O L.length vis' anyV := hE.less ball (fun i hi => hi.elim Or.inl (fun g => Or.inr (by omega))) (fun i hi => hi.elim (fun g => Nat.lt_of_lt_of_le (hE.x i g) ball.size) (fun g => by have := bx10.lt; omega))
      have HLOOK := Lib.hid (wLook hX3 hlt hpp ⟨hv0, by omega⟩ (M := shigh (O l π) + 1) (by omega) (Y := fun i => i = wr.heap.size + 1) (fun i e => Or.inr (Or.inr e)) O 86 #[.pointer (some ⟨w.heap.size, 0, none⟩), .pointer (some ⟨wr.heap.size + 1, 0, none⟩)]
        (enters_of Tryd.func86 (by kernel_rfl) rfl) (fun w' => Box1 w' (wr.heap.size + 1) (.bool bt) 4) (fun w1 w2 hb hc => hb.chg hc (fun e => by have := hE.cells.2.2.2.2; omega))
        (fun w0 Z hXZ hb hE0 => by
          have := wGet1 hE0 hlt hpp (hXZ _ (Or.inl (Or.inr rfl))) (hXZ _ (Or.inr (Or.inr rfl))) g1 ((hKB.below ball).below hb) (bx10.below hb)
          rw [g2] at this; exact this))
      have HBL : Hid (Below wr.heap.size wr wb) := ball
      have HB9 := Lib.hid bx9
      have HKB2 := Lib.hid (hKB.below ball)
      have HKL := Lib.hid hkl
      have hwE := hE.le
      have HC := Lib.hid hC
      have HNX := Lib.hid hnx
      have HPN2 := Lib.hid hpn
      have HVB : Hid (∀ v1 v2 : Nat, v1 ≤ shigh (O l π) + 1 → v2 ≤ shigh (O l π) + 1 → 0 ≤ vis' + (v1 : Int) + (v2 : Int) ∧ vis' + (v1 : Int) + (v2 : Int) ≤ ((l + 1 : Nat) : Int) * (2 * ((H : Int) + 1))) := fun v1 v2 h1 h2 => by
        have e : ((l + 1 : Nat) : Int) * (2 * ((H : Int) + 1)) = (l : Int) * (2 * ((H : Int) + 1)) + 2 * ((H : Int) + 1) := by push_cast; rw [Int.add_mul]; omega
        rw [e]
        constructor <;> omega
      have HRK : Hid (∀ (w' : World) (v : Nat), v ≤ shigh (O l π) + 1 → WaveE B (fun i => (X i ∨ i = w.heap.size) ∨ (i = wr.heap.size ∨ i = wr.heap.size + 1)) w' p D O L.length (vis' + v) anyV → Calls Tryd.prog 87 #[.pointer (some ⟨p, 0, none⟩), shelfV D l π, .int .i64 ct, .bool bt] w' fun e w'' =>
          e = .returned (.int .i64 (cntP L (l + 1) (pth s (l + 1)) k : Nat)) ∧ ∃ v' : Nat, v' ≤ shigh (O l π) + 1 ∧ WaveE B (fun i => (X i ∨ i = w.heap.size) ∨ (i = wr.heap.size ∨ i = wr.heap.size + 1)) w'' p D O L.length (vis' + v + v') anyV ∧ Chg (exT B (fun i => (X i ∨ i = w.heap.size) ∨ (i = wr.heap.size ∨ i = wr.heap.size + 1))) w' w'') := fun w' v hv h => by
        have := wRankS h hlt hpp ⟨by omega, by omega⟩ (by omega) (ct : Int) bt
        rw [Int.toNat_natCast, hnx] at this
        exact this
      have HNXT : Hid (∀ w', Calls Tryd.prog 88 #[shelfV D l π, .bool bt] w' fun e w'' => e = .returned (.int .i64 (pth s (l + 1) : Nat)) ∧ Below w'.heap.size w' w'') := fun w' => by
        have := wNext D (l := l) (k := π) (by omega) bt w'
        rw [hpn] at this; exact this
      have i0 : (0 : Int) ≤ (π : Int) := by omega
      have i1 : (π : Int) < ((pw l : Nat) : Int) := by omega
      have HPP := Lib.hid hpp
      clear hE hKB hC HOB g1 g2 hHl hv1' hv0 hv1 hct hπ hbt hnx hpn sa ba bb ball bx9 bx10 hkl hX3 hpp hpl
      unfold shelfV at HLOOK HRK HNXT
      generalize D.Q l π = q at *
      generalize D.G l = g at *
      generalize D.C l = gc at *
      subst hwa
      go_wp2_with fail
      rw [← hwb]
      refine HLOOK.out.mono ?_
      rintro e w2 ⟨rfl, v1, hv1, hE2, hC2, hR2⟩
      have hb9 : Box3 w2 wr.heap.size (.pointer (some ⟨q, 0, none⟩)) (.int .i64 l) (.int .i64 π) 104 := hC2.heap HB9.out (fun hk => hk.elim (fun hk => hk.2 (Or.inr (Or.inl rfl))) (fun e => by omega))
      have hkb2 := HKB2.out.chg hC2 (fun hk => hk.elim (fun hk => hk.2 (Or.inl (Or.inr rfl))) (fun e => by have := HKL.out; omega))
      obtain ⟨b90, b91, b92⟩ := hb9.cells
      have b10 := hR2.cell
      have kc2 := hkb2.cell
      have HSK : Hid (∀ w', Chg (exT B (fun i => (X i ∨ i = w.heap.size) ∨ (i = wr.heap.size ∨ i = wr.heap.size + 1))) (w2.drewN 1) w' → (w'.cell? ⟨wr.heap.size, 0, none⟩ = some (.pointer (some ⟨q, 0, none⟩)) ∧ w'.cell? ⟨wr.heap.size, 1, none⟩ = some (.int .i64 l) ∧ w'.cell? ⟨wr.heap.size, 2, none⟩ = some (.int .i64 π)) ∧ w'.cell? ⟨wr.heap.size + 1, 0, none⟩ = some (.bool bt)) := fun w' hc => by
        have h9 : Box3 w' wr.heap.size (.pointer (some ⟨q, 0, none⟩)) (.int .i64 l) (.int .i64 π) 104 := hc.heap hb9 (fun hk => hk.2 (Or.inr (Or.inl rfl)))
        have h10 : Box1 w' (wr.heap.size + 1) (.bool bt) 4 := Box1.chg (w := w2.drewN 1) hR2 hc (fun hk => hk.2 (Or.inr (Or.inr rfl)))
        exact ⟨h9.cells, h10.cell⟩
      have HE2 := Lib.hid hE2
      have HKB3 := Lib.hid hkb2
      have HW2 : Hid (Chg (exT B X) w w2) := (HC.out.trans (Chg.of_below (S := exT B X) HBL.out) (fun j hj => Or.inl hj)).trans hC2 (fun j hj => hj.elim (fun h => Or.inl (exT_mono (fun i hi => Or.inl (Or.inl hi)) h)) (fun e => by right; have := HKL.out; omega))
      clear hE2 hC2 hR2 hb9 hkb2 HLOOK HB9 HKB2 HBL HC hwb
      go_wp2_with fail
      -- REGION get
      refine reg_start (fun w' => (w'.cell? ⟨wr.heap.size, 0, none⟩ = some (.pointer (some ⟨q, 0, none⟩)) ∧ w'.cell? ⟨wr.heap.size, 1, none⟩ = some (.int .i64 l) ∧ w'.cell? ⟨wr.heap.size, 2, none⟩ = some (.int .i64 π)) ∧ w'.cell? ⟨wr.heap.size + 1, 0, none⟩ = some (.bool bt)) (by kernel_rfl) (HSK.out _ Chg.refl) (fun hHeld => ?_)
      refine reg_take (i := 0) (v := ?vgt0) rfl (by kernel_rfl) rfl hHeld ?ygt0 ?rgt0
      case ygt0 => (intro w hSw; (try dsimp only at hSw); go_simp; all_goals with_reducible rfl)
      try simp only [Act.put, List.setIfInBounds_toArray, List.set_cons_zero, List.set_cons_succ]
      refine reg_take (i := 1) (v := ?vgt1) rfl (by kernel_rfl) rfl hHeld ?ygt1 ?rgt1
      case ygt1 => (intro w hSw; (try dsimp only at hSw); go_simp; all_goals with_reducible rfl)
      try simp only [Act.put, List.setIfInBounds_toArray, List.set_cons_zero, List.set_cons_succ]
      refine reg_take (i := 3) (v := ?vgt3) rfl (by kernel_rfl) rfl hHeld ?ygt3 ?rgt3
      case ygt3 => (intro w hSw; (try dsimp only at hSw); go_simp; all_goals with_reducible rfl)
      try simp only [Act.put, List.setIfInBounds_toArray, List.set_cons_zero, List.set_cons_succ]
      refine reg_take (i := 5) (v := ?vgt5) rfl (by kernel_rfl) rfl hHeld ?ygt5 ?rgt5
      case ygt5 => (intro w hSw; (try dsimp only at hSw); go_simp; all_goals with_reducible rfl)
      try simp only [Act.put, List.setIfInBounds_toArray, List.set_cons_zero, List.set_cons_succ]
      refine reg_take (i := 6) (v := ?vgt6) rfl (by kernel_rfl) rfl hHeld ?ygt6 ?rgt6
      case ygt6 => (intro w hSw; (try dsimp only at hSw); go_simp; all_goals with_reducible rfl)
      try simp only [Act.put, List.setIfInBounds_toArray, List.set_cons_zero, List.set_cons_succ]
      refine reg_loud (i := 2) rfl (by kernel_rfl) rfl (fun K hK => ?_)
      go_simp
      refine hK.out _ _ (hHeld) (fun hNew => ?_)
      clear hK K hHeld
      have hHeld := hNew
      clear hNew
      try simp only [Act.put, List.setIfInBounds_toArray, List.set_cons_zero, List.set_cons_succ]
      refine reg_loud (i := 4) rfl (by kernel_rfl) rfl (fun K hK => ?_)
      go_simp
      ((refine (HRK.out _ v1 hv1 (HE2.out.drewN 1)).mono ?_))
      rintro e w3 ⟨rfl, v2, hv2, hE3, hC3⟩
      have HE3 := Lib.hid hE3
      have HC3 := Lib.hid hC3
      clear hE3 hC3
      refine hK.out _ _ (HSK.out _ HC3.out) (fun hNew => ?_)
      clear hK K hHeld
      have hHeld := hNew
      clear hNew
      try simp only [Act.put, List.setIfInBounds_toArray, List.set_cons_zero, List.set_cons_succ]
      refine reg_loud (i := 7) rfl (by kernel_rfl) rfl (fun K hK => ?_)
      go_simp
      ((refine (HNXT.out _).mono ?_))
      rintro e w4 ⟨rfl, hb4⟩
      have hk4 := (Box1.chg (w := w2.drewN 1) HKB3.out HC3.out (fun hk => hk.2 (Or.inl (Or.inr rfl)))).below hb4
      have k4 := hk4.cell
      have f4 := hk4.frz
      have HK4 := Lib.hid hk4
      have HE4 := Lib.hid (HE3.out.below hb4)
      have HW4 : Hid (Chg (exT B X) w w4) := ((HW2.out.drewN 1).trans HC3.out (fun j hj => Or.inl (exT_mono (fun i hi => Or.inl (Or.inl hi)) hj))).trans (Chg.of_below (S := exT B X) hb4) (fun j hj => Or.inl hj)
      clear hk4
      refine hK.out _ _ (keepB hHeld hb4) (fun hNew => ?_)
      clear hK K hHeld
      have hHeld := hNew
      clear hNew
      try simp only [Act.put, List.setIfInBounds_toArray, List.set_cons_zero, List.set_cons_succ]
      refine reg_loud (i := 8) rfl (by kernel_rfl) rfl (fun K hK => ?_)
      go_simp
      refine hK.out _ _ (keepSt hHeld (by have := HKL.out; omega) (by have := HKL.out; omega)) (fun hNew => ?_)
      clear hK K hHeld
      have hHeld := hNew
      clear hNew
      try simp only [Act.put, List.setIfInBounds_toArray, List.set_cons_zero, List.set_cons_succ]
      refine reg_take (i := 9) (v := ?vgt9) rfl (by kernel_rfl) rfl hHeld ?ygt9 ?rgt9
      case ygt9 => (intro w hSw; (try dsimp only at hSw); go_simp; all_goals with_reducible rfl)
      try simp only [Act.put, List.setIfInBounds_toArray, List.set_cons_zero, List.set_cons_succ]
      refine reg_done (by kernel_rfl) ?_ _
      -- END OF REGION get
      clear hHeld
      go_wp2_with fail
      go_roundw
      case rel => exact ⟨l + 1, by omega, by go_num, rfl, _, (HVB.out v1 v2 hv1 hv2).1, (HVB.out v1 v2 hv1 hv2).2, (HE4.out.mono (fun i hi => Or.inl hi)).chg (Z := fun j => j = w.heap.size) (Chg.refl.setCell (S := fun j => j = w.heap.size) ⟨w.heap.size, 0, none⟩ (Or.inl rfl) _) (fun k hk _ e => hk.2 (Or.inr e)), HK4.out.set _, HW4.out.setCell _ (Or.inr (Nat.le_refl _)) _⟩
      case measure => simp [intOf]; omega
    · obtain rfl : l = 9 := by omega
      have hp9 := pth_nine s
      have HC := Lib.hid hC
      have HE := Lib.hid hE
      clear hC hE hKB
      go_wp2_with fail
      go_ret2
      exact ⟨by rw [hp9]; rfl, vis', hv0, by omega, HE.out.mono (fun i hi => Or.inl hi), HC.out⟩

end Go.Proofs.YtcppgpjodfeigaaDoor

namespace Go.Proofs.YtcppgpjodfeigaaDoor
set_option linter.unusedVariables false
set_option linter.unusedSimpArgs false
open Go.RowKit

theorem WaveE.bad {B : Nat} {X : Nat → Prop} {w W : World} {p n : Nat} {D : WD} {O : Nat → Nat → Option ST} {vis : Int} {Vb : Nat → Nat → Int → Prop} (h : WaveE B X w p D O n vis Vb) (hb : Below w.heap.size w W) (m : Nat) :
    WaveE B X ((W.setCell ⟨p, 10, none⟩ (.int .i64 0)).drewN m) p D O n 0 Vb ∧ Chg (exT B X) w ((W.setCell ⟨p, 10, none⟩ (.int .i64 0)).drewN m) := by
  obtain ⟨h1, h2⟩ := (h.below hb).setVis 0
  exact ⟨h1.drewN m, ((Chg.of_below (S := exT B X) hb).trans h2 (fun j hj => Or.inl hj)).drewN m⟩

set_option maxHeartbeats 1600000 in
theorem wGet_bad {B : Nat} {X : Nat → Prop} {w : World} {p n : Nat} {D : WD} {O : Nat → Nat → Option ST} {vis : Int} {Vb : Nat → Nat → Int → Prop} (h : WaveE B X w p D O n vis Vb) (k : Int) (hk : k < 0 ∨ (n : Int) ≤ k) :
    Calls Tryd.prog 45 #[.pointer (some ⟨p, 0, none⟩), .int .i64 k] w fun e w' => e = .returned (.tuple #[.int .i64 (-1), .int .i64 2]) ∧ WaveE B X w' p D O n 0 Vb ∧ Chg (exT B X) w w' := by
  have hb0 := below_al w (.cells #[.int .i64 k] 3)
  have hbad := Lib.hid (fun m => h.bad hb0 m)
  obtain ⟨W, hW⟩ : ∃ W, W = w.alloc (.cells #[.int .i64 k] 3) := ⟨_, rfl⟩
  have hbx : Box1 W w.heap.size (.int .i64 k) 3 := by rw [hW]; exact Box1.new w _ _
  have hpn : p ≠ w.heap.size := by have := h.cells.2.2.2.2; omega
  rw [← hW] at hb0 hbad
  obtain ⟨hc0, c9, c10, fz, hp⟩ := (h.below hb0).cells
  have z10 := fz 10
  have kc := hbx.cell
  clear h hc0 fz hb0 hbx
  subst hW
  by_cases hk0 : k < 0
  · have d0 : decide (k < 0) = true := decide_eq_true hk0
    clear hk
    go_enter Tryd.func45, Tryd.ntmps45
    go_wp2_with fail
    go_quiet (fail)
    go_wp2_with fail
    go_ret2
    first | exact ⟨rfl, hbad.out _⟩ | exact ⟨rfl, hbad.out 0⟩
  · have d0 : decide (k < 0) = false := decide_eq_false hk0
    have d1 : decide ((n : Int) ≤ k) = true := decide_eq_true (by omega)
    clear hk
    go_enter Tryd.func45, Tryd.ntmps45
    go_wp2_with fail
    go_quiet (fail)
    go_wp2_with fail
    go_ret2
    first | exact ⟨rfl, hbad.out _⟩ | exact ⟨rfl, hbad.out 0⟩

set_option maxHeartbeats 1600000 in
theorem wDelete_bad {B : Nat} {X : Nat → Prop} {w : World} {p n : Nat} {D : WD} {O : Nat → Nat → Option ST} {vis : Int} {Vb : Nat → Nat → Int → Prop} (h : WaveE B X w p D O n vis Vb) (k : Int) (hk : k < 0 ∨ (n : Int) ≤ k) :
    Calls Tryd.prog 49 #[.pointer (some ⟨p, 0, none⟩), .int .i64 k] w fun e w' => e = .returned (.tuple #[.int .i64 (-1), .int .i64 2]) ∧ WaveE B X w' p D O n 0 Vb ∧ Chg (exT B X) w w' := by
  have hb0 := below_al w (.cells #[.int .i64 k] 3)
  have hbad := Lib.hid (fun m => h.bad hb0 m)
  obtain ⟨W, hW⟩ : ∃ W, W = w.alloc (.cells #[.int .i64 k] 3) := ⟨_, rfl⟩
  have hbx : Box1 W w.heap.size (.int .i64 k) 3 := by rw [hW]; exact Box1.new w _ _
  have hpn : p ≠ w.heap.size := by have := h.cells.2.2.2.2; omega
  rw [← hW] at hb0 hbad
  obtain ⟨hc0, c9, c10, fz, hp⟩ := (h.below hb0).cells
  have z10 := fz 10
  have kc := hbx.cell
  clear h hc0 fz hb0 hbx
  subst hW
  by_cases hk0 : k < 0
  · have d0 : decide (k < 0) = true := decide_eq_true hk0
    clear hk
    go_enter Tryd.func49, Tryd.ntmps49
    go_wp2_with fail
    go_quiet (fail)
    go_wp2_with fail
    go_ret2
    first | exact ⟨rfl, hbad.out _⟩ | exact ⟨rfl, hbad.out 0⟩
  · have d0 : decide (k < 0) = false := decide_eq_false hk0
    have d1 : decide ((n : Int) ≤ k) = true := decide_eq_true (by omega)
    clear hk
    go_enter Tryd.func49, Tryd.ntmps49
    go_wp2_with fail
    go_quiet (fail)
    go_wp2_with fail
    go_ret2
    first | exact ⟨rfl, hbad.out _⟩ | exact ⟨rfl, hbad.out 0⟩

set_option maxHeartbeats 1600000 in
theorem wInsert_bad {B : Nat} {X : Nat → Prop} {w : World} {p n : Nat} {D : WD} {O : Nat → Nat → Option ST} {vis : Int} {Vb : Nat → Nat → Int → Prop} (h : WaveE B X w p D O n vis Vb) (k s : Int) (hk : symIs s = false ∨ k < 0 ∨ (n : Int) < k) :
    Calls Tryd.prog 48 #[.pointer (some ⟨p, 0, none⟩), .int .i64 k, .int .i64 s] w fun e w' => e = .returned (.int .i64 (if symIs s then 2 else 1)) ∧ WaveE B X w' p D O n 0 Vb ∧ Chg (exT B X) w w' := by
  have hb0 := below_al w (.cells #[.int .i64 k] 3)
  have hbad := Lib.hid (fun m => h.bad hb0 m)
  obtain ⟨W, hW⟩ : ∃ W, W = w.alloc (.cells #[.int .i64 k] 3) := ⟨_, rfl⟩
  have hbx : Box1 W w.heap.size (.int .i64 k) 3 := by rw [hW]; exact Box1.new w _ _
  have hpn : p ≠ w.heap.size := by have := h.cells.2.2.2.2; omega
  rw [← hW] at hb0 hbad
  obtain ⟨hc0, c9, c10, fz, hp⟩ := (h.below hb0).cells
  have z10 := fz 10
  have kc := hbx.cell
  obtain ⟨b, hb⟩ : ∃ b, symIs s = b := ⟨_, rfl⟩
  have HIS : Hid (∀ w, Calls Tryd.prog 80 #[.int .i64 s] w fun e w' => e = .returned (.bool b) ∧ w = w') := Lib.hid (fun w => by rw [← hb]; exact symIs_any s w)
  rw [hb] at hk ⊢
  clear hb
  clear h hc0 fz hb0 hbx
  subst hW
  cases b
  · clear hk
    go_enter Tryd.func48, Tryd.ntmps48
    go_wp2_with fail
    refine (HIS.out _).mono ?_
    rintro e w' ⟨rfl, rfl⟩
    go_wp2_with fail
    go_ret
    first | exact ⟨rfl, hbad.out _⟩ | exact ⟨rfl, hbad.out 0⟩
  · have hk := hk.resolve_left (by decide)
    by_cases hk0 : k < 0
    · have d0 : decide (k < 0) = true := decide_eq_true hk0
      clear hk
      go_enter Tryd.func48, Tryd.ntmps48
      go_wp2_with fail
      refine (HIS.out _).mono ?_
      rintro e w' ⟨rfl, rfl⟩
      go_wp2_with fail
      go_quiet (fail)
      go_wp2_with fail
      go_ret
      first | exact ⟨rfl, hbad.out _⟩ | exact ⟨rfl, hbad.out 0⟩
    · have d0 : decide (k < 0) = false := decide_eq_false hk0
      have d1 : decide ((n : Int) < k) = true := decide_eq_true (by omega)
      clear hk
      go_enter Tryd.func48, Tryd.ntmps48
      go_wp2_with fail
      refine (HIS.out _).mono ?_
      rintro e w' ⟨rfl, rfl⟩
      go_wp2_with fail
      go_quiet (fail)
      go_wp2_with fail
      go_ret
      first | exact ⟨rfl, hbad.out _⟩ | exact ⟨rfl, hbad.out 0⟩

set_option maxHeartbeats 1600000 in
theorem wRank_bad {B : Nat} {X : Nat → Prop} {w : World} {p n : Nat} {D : WD} {O : Nat → Nat → Option ST} {vis : Int} {Vb : Nat → Nat → Int → Prop} (h : WaveE B X w p D O n vis Vb) (k s : Int) (hs : symIs s = false) :
    Calls Tryd.prog 46 #[.pointer (some ⟨p, 0, none⟩), .int .i64 k, .int .i64 s] w fun e w' => e = .returned (.int .i64 0) ∧ WaveE B X w' p D O n 0 Vb ∧ Chg (exT B X) w w' := by
  have hbad := Lib.hid (fun m => h.bad (Below.refl w.heap.size w) m)
  obtain ⟨hc0, c9, c10, fz, hp⟩ := h.cells
  have z10 := fz 10
  have HIS : Hid (∀ w, Calls Tryd.prog 80 #[.int .i64 s] w fun e w' => e = .returned (.bool false) ∧ w = w') := Lib.hid (fun w => by rw [← hs]; exact symIs_any s w)
  clear h hc0 fz hs
  go_enter Tryd.func46, Tryd.ntmps46
  go_wp2_with fail
  refine (HIS.out _).mono ?_
  rintro e w' ⟨rfl, rfl⟩
  go_wp2_with fail
  go_ret
  first | exact ⟨rfl, hbad.out _⟩ | exact ⟨rfl, hbad.out 0⟩

set_option maxHeartbeats 3200000 in
set_option maxRecDepth 100000 in
theorem wSelect_bad {B : Nat} {X : Nat → Prop} {w : World} {p n : Nat} {D : WD} {O : Nat → Nat → Option ST} {vis : Int} {Vb : Nat → Nat → Int → Prop} (h : WaveE B X w p D O n vis Vb) (j s : Int) (hs : symIs s = false) :
    Calls Tryd.prog 47 #[.pointer (some ⟨p, 0, none⟩), .int .i64 j, .int .i64 s] w fun e w' => e = .returned (.int .i64 (-1)) ∧ (∃ vis', WaveE B X w' p D O n vis' Vb) ∧ Chg (exT B X) w w' := by
  obtain ⟨wa, hwa⟩ : ∃ wa, wa = w.alloc (.cells #[.int .i64 j] 3) := ⟨_, rfl⟩
  obtain ⟨wb, hwb⟩ : ∃ wb, wb = wa.alloc (.cells #[.int .i64 s] 3) := ⟨_, rfl⟩
  have sa : wa.heap.size = w.heap.size + 1 := by rw [hwa]; simp
  have ba : Below w.heap.size w wa := by rw [hwa]; exact below_al w _
  have bb : Below wa.heap.size wa wb := by rw [hwb]; exact below_al wa _
  have ball : Below w.heap.size w wb := ba.trans (bb.mono ba.size)
  have bj : Box1 wb w.heap.size (.int .i64 j) 3 := (by rw [hwa]; exact Box1.new w _ _ : Box1 wa w.heap.size (.int .i64 j) 3).below bb
  have bs : Box1 wb (w.heap.size + 1) (.int .i64 s) 3 := by rw [hwb, ← sa]; exact Box1.new wa _ _
  have hX1 : WaveE B (fun i => X i ∨ (i = w.heap.size ∨ i = w.heap.size + 1)) wb p D O n vis Vb := h.less ball (fun i hi => hi.elim Or.inl (fun e => Or.inr (by omega))) (fun i hi => hi.elim (fun g => Nat.lt_of_lt_of_le (h.x i g) ball.size) (fun e => by have := bs.lt; omega))
  obtain ⟨hc0, c9, c10, fz, hp⟩ := hX1.cells
  have cj := bj.cell
  have cs := bs.cell
  have HRK : Hid (Calls Tryd.prog 46 #[.pointer (some ⟨p, 0, none⟩), .int .i64 n, .int .i64 s] (wb.drewN 1) fun e w' =>
      e = .returned (.int .i64 0) ∧ WaveE B (fun i => X i ∨ (i = w.heap.size ∨ i = w.heap.size + 1)) w' p D O n 0 Vb ∧ Chg (exT B (fun i => X i ∨ (i = w.heap.size ∨ i = w.heap.size + 1))) (wb.drewN 1) w') := by
    exact wRank_bad (hX1.drewN 1) _ _ hs
  have HX := Lib.hid h.x
  have HLE := Lib.hid h.le
  have HBJ := Lib.hid bj
  have HBS := Lib.hid bs
  have HBL := Lib.hid ball
  have HX1 := Lib.hid hX1
  have HPW := Lib.hid h.cells.2.2.2.2
  clear h hc0 fz hs hX1 ball bj bs ba bb sa
  by_cases hj : j < 0
  · have d0 : decide (j < 0) = true := decide_eq_true hj
    subst hwa
    rw [hwb] at c9 c10 cj cs hp
    go_enter Tryd.func47, Tryd.ntmps47
    go_wp2_with fail
    go_quiet (fail)
    go_wp2_with fail
    go_ret
    have hb := HBL.out
    have hx := HX1.out
    rw [hwb] at hb hx
    exact ⟨rfl, ⟨vis, (hx.mono (fun i hi => Or.inl hi)).drewN _⟩, (Chg.of_below hb).drewN _⟩
  · have d0 : decide (j < 0) = false := decide_eq_false hj
    subst hwa
    have HWB := Lib.hid hwb
    rw [hwb] at c9 c10 cj cs hp
    go_enter Tryd.func47, Tryd.ntmps47
    go_wp2_with fail
    rw [← hwb] at c9 c10 cj cs hp ⊢
    clear hwb
    -- REGION sel
    refine reg_start (fun w' => w'.cell? ⟨w.heap.size, 0, none⟩ = some (.int .i64 j) ∧ w'.cell? ⟨w.heap.size + 1, 0, none⟩ = some (.int .i64 s) ∧ w'.cell? ⟨p, 9, none⟩ = some (.int .i64 n)) (by kernel_rfl) (⟨cj, cs, c9⟩) (fun hHeld => ?_)
    refine reg_take (i := 0) (v := ?vsl0) rfl (by kernel_rfl) rfl hHeld ?ysl0 ?rsl0
    case ysl0 => (intro w hSw; (try dsimp only at hSw); go_simp; all_goals with_reducible rfl)
    try simp only [Act.put, List.setIfInBounds_toArray, List.set_cons_zero, List.set_cons_succ]
    refine reg_take (i := 1) (v := ?vsl1) rfl (by kernel_rfl) rfl hHeld ?ysl1 ?rsl1
    case ysl1 => (intro w hSw; (try dsimp only at hSw); go_simp; all_goals with_reducible rfl)
    try simp only [Act.put, List.setIfInBounds_toArray, List.set_cons_zero, List.set_cons_succ]
    refine reg_take (i := 2) (v := ?vsl2) rfl (by kernel_rfl) rfl hHeld ?ysl2 ?rsl2
    case ysl2 => (intro w hSw; (try dsimp only at hSw); go_simp; all_goals with_reducible rfl)
    try simp only [Act.put, List.setIfInBounds_toArray, List.set_cons_zero, List.set_cons_succ]
    refine reg_take (i := 3) (v := ?vsl3) rfl (by kernel_rfl) rfl hHeld ?ysl3 ?rsl3
    case ysl3 => (intro w hSw; (try dsimp only at hSw); go_simp; all_goals with_reducible rfl)
    try simp only [Act.put, List.setIfInBounds_toArray, List.set_cons_zero, List.set_cons_succ]
    refine reg_take (i := 4) (v := ?vsl4) rfl (by kernel_rfl) rfl hHeld ?ysl4 ?rsl4
    case ysl4 => (intro w hSw; (try dsimp only at hSw); go_simp; all_goals with_reducible rfl)
    try simp only [Act.put, List.setIfInBounds_toArray, List.set_cons_zero, List.set_cons_succ]
    refine reg_take (i := 5) (v := ?vsl5) rfl (by kernel_rfl) rfl hHeld ?ysl5 ?rsl5
    case ysl5 => (intro w hSw; (try dsimp only at hSw); go_simp; all_goals with_reducible rfl)
    try simp only [Act.put, List.setIfInBounds_toArray, List.set_cons_zero, List.set_cons_succ]
    refine reg_take (i := 6) (v := ?vsl6) rfl (by kernel_rfl) rfl hHeld ?ysl6 ?rsl6
    case ysl6 => (intro w hSw; (try dsimp only at hSw); go_simp; all_goals with_reducible rfl)
    try simp only [Act.put, List.setIfInBounds_toArray, List.set_cons_zero, List.set_cons_succ]
    refine reg_take (i := 7) (v := ?vsl7) rfl (by kernel_rfl) rfl hHeld ?ysl7 ?rsl7
    case ysl7 => (intro w hSw; (try dsimp only at hSw); go_simp; all_goals with_reducible rfl)
    try simp only [Act.put, List.setIfInBounds_toArray, List.set_cons_zero, List.set_cons_succ]
    refine reg_take (i := 8) (v := ?vsl8) rfl (by kernel_rfl) rfl hHeld ?ysl8 ?rsl8
    case ysl8 => (intro w hSw; (try dsimp only at hSw); go_simp; all_goals with_reducible rfl)
    try simp only [Act.put, List.setIfInBounds_toArray, List.set_cons_zero, List.set_cons_succ]
    refine reg_take (i := 9) (v := ?vsl9) rfl (by kernel_rfl) rfl hHeld ?ysl9 ?rsl9
    case ysl9 => (intro w hSw; (try dsimp only at hSw); go_simp; all_goals with_reducible rfl)
    try simp only [Act.put, List.setIfInBounds_toArray, List.set_cons_zero, List.set_cons_succ]
    refine reg_take (i := 10) (v := ?vsl10) rfl (by kernel_rfl) rfl hHeld ?ysl10 ?rsl10
    case ysl10 => (intro w hSw; (try dsimp only at hSw); go_simp; all_goals with_reducible rfl)
    try simp only [Act.put, List.setIfInBounds_toArray, List.set_cons_zero, List.set_cons_succ]
    refine reg_take (i := 11) (v := ?vsl11) rfl (by kernel_rfl) rfl hHeld ?ysl11 ?rsl11
    case ysl11 => (intro w hSw; (try dsimp only at hSw); go_simp; all_goals with_reducible rfl)
    try simp only [Act.put, List.setIfInBounds_toArray, List.set_cons_zero, List.set_cons_succ]
    refine reg_take (i := 12) (v := ?vsl12) rfl (by kernel_rfl) rfl hHeld ?ysl12 ?rsl12
    case ysl12 => (intro w hSw; (try dsimp only at hSw); go_simp; all_goals with_reducible rfl)
    try simp only [Act.put, List.setIfInBounds_toArray, List.set_cons_zero, List.set_cons_succ]
    refine reg_take (i := 13) (v := ?vsl13) rfl (by kernel_rfl) rfl hHeld ?ysl13 ?rsl13
    case ysl13 => (intro w hSw; (try dsimp only at hSw); go_simp; all_goals with_reducible rfl)
    try simp only [Act.put, List.setIfInBounds_toArray, List.set_cons_zero, List.set_cons_succ]
    refine reg_loud (i := 14) rfl (by kernel_rfl) rfl (fun K hK => ?_)
    go_simp
    ((refine HRK.out.mono ?_))
    rintro e w2 ⟨rfl, hE2, hC2⟩
    have hj2 := Box1.chg (w := wb.drewN 1) HBJ.out hC2 (fun hk => hk.2 (Or.inr (Or.inl rfl)))
    have hs2 := Box1.chg (w := wb.drewN 1) HBS.out hC2 (fun hk => hk.2 (Or.inr (Or.inr rfl)))
    have HS2 : Hid (w2.cell? ⟨w.heap.size, 0, none⟩ = some (.int .i64 j) ∧ w2.cell? ⟨w.heap.size + 1, 0, none⟩ = some (.int .i64 s) ∧ w2.cell? ⟨p, 9, none⟩ = some (.int .i64 n)) := ⟨hj2.cell, hs2.cell, hE2.cells.2.1⟩
    have HE2 := Lib.hid hE2
    have HJ2 := Lib.hid hj2
    have HB2 := Lib.hid hs2
    have HC2 : Hid (Chg (exT B X) w w2) := ((Chg.of_below (S := exT B X) HBL.out).drewN 1).trans hC2 (fun j hj => Or.inl (exT_mono (fun i hi => Or.inl hi) hj))
    clear hj2 hs2 hE2 hC2
    refine hK.out _ _ (HS2.out) (fun hNew => ?_)
    clear hK K hHeld
    have hHeld := hNew
    clear hNew
    try simp only [Act.put, List.setIfInBounds_toArray, List.set_cons_zero, List.set_cons_succ]
    refine reg_take (i := 15) (v := ?vsl15) rfl (by kernel_rfl) rfl hHeld ?ysl15 ?rsl15
    case ysl15 => (intro w hSw; (try dsimp only at hSw); go_simp; all_goals with_reducible rfl)
    try simp only [Act.put, List.setIfInBounds_toArray, List.set_cons_zero, List.set_cons_succ]
    refine reg_take (i := 16) (v := ?vsl16) rfl (by kernel_rfl) rfl hHeld ?ysl16 ?rsl16
    case ysl16 => (intro w hSw; (try dsimp only at hSw); go_simp; all_goals with_reducible rfl)
    try simp only [Act.put, List.setIfInBounds_toArray, List.set_cons_zero, List.set_cons_succ]
    refine reg_done (by kernel_rfl) ?_ _
    -- END OF REGION sel
    obtain ⟨kj, ks, kp⟩ := hHeld
    clear c9 c10 cj cs
    have d1 : decide ((0 : Int) ≤ j) = true := decide_eq_true (by omega)
    go_wp2_with fail
    go_ret
    exact ⟨rfl, ⟨0, HE2.out.mono (fun i hi => Or.inl hi)⟩, HC2.out⟩

theorem wNil_insert (w : World) (k s : Int) : Calls Tryd.prog 48 #[.pointer none, .int .i64 k, .int .i64 s] w fun e w' => e = .returned (.int .i64 6) ∧ Below w.heap.size w w' := by
  have hb0 := Lib.hid (below_al w (.cells #[.int .i64 k] 3))
  go_enter Tryd.func48, Tryd.ntmps48
  go_wp2_with fail
  go_ret
  exact ⟨rfl, hb0.out⟩
theorem wNil_rank (w : World) (k s : Int) : Calls Tryd.prog 46 #[.pointer none, .int .i64 k, .int .i64 s] w fun e w' => e = .returned (.int .i64 0) ∧ w = w' := by
  go_enter Tryd.func46, Tryd.ntmps46
  go_wp2_with fail
  go_ret
  exact ⟨rfl, rfl⟩
theorem wNil_len (w : World) : Calls Tryd.prog 59 #[.pointer none] w fun e w' => e = .returned (.int .i64 0) ∧ w = w' := by
  go_enter Tryd.func59, Tryd.ntmps59
  go_wp2_with fail
  go_ret
  exact ⟨rfl, rfl⟩
theorem wLen_any {B : Nat} {X : Nat → Prop} {w : World} {p n : Nat} {D : WD} {O : Nat → Nat → Option ST} {vis : Int} {Vb : Nat → Nat → Int → Prop} (h : WaveE B X w p D O n vis Vb) : Calls Tryd.prog 59 #[.pointer (some ⟨p, 0, none⟩)] w fun e w' => e = .returned (.int .i64 n) ∧ w = w' := by
  obtain ⟨hc0, c9, c10, fz, hp⟩ := h.cells
  clear h hc0 fz
  go_enter Tryd.func59, Tryd.ntmps59
  go_wp2_with fail
  go_ret
  exact ⟨rfl, rfl⟩
theorem wVisits_any {B : Nat} {X : Nat → Prop} {w : World} {p n : Nat} {D : WD} {O : Nat → Nat → Option ST} {vis : Int} {Vb : Nat → Nat → Int → Prop} (h : WaveE B X w p D O n vis Vb) : Calls Tryd.prog 92 #[.pointer (some ⟨p, 0, none⟩)] w fun e w' => e = .returned (.int .i64 vis) ∧ w = w' := by
  obtain ⟨hc0, c9, c10, fz, hp⟩ := h.cells
  clear h hc0 fz
  go_enter Tryd.func92, Tryd.ntmps92
  go_wp2_with fail
  go_ret
  exact ⟨rfl, rfl⟩

end Go.Proofs.YtcppgpjodfeigaaDoor

namespace Go.Proofs.YtcppgpjodfeigaaDoor
set_option linter.unusedVariables false
set_option linter.unusedSimpArgs false
open Go.RowKit

/-- A block of a row's cells. -/
def RowC (w : World) (g : Nat) (xs : List Value) (T : TypeId) : Prop := w.heap[g]? = some (.cells xs.toArray T (0, 0))
theorem RowC.new (w : World) (xs : List Value) (T : TypeId) : RowC (w.alloc (.cells xs.toArray T)) w.heap.size xs T := heap_alloc_new w _
theorem RowC.lt {w : World} {g : Nat} {xs : List Value} {T : TypeId} (h : RowC w g xs T) : g < w.heap.size := (Array.getElem?_eq_some_iff.1 h).1
theorem RowC.chg {S : Nat → Prop} {w w' : World} {g : Nat} {xs : List Value} {T : TypeId} (h : RowC w g xs T) (hc : Chg S w w') (hn : ¬ S g) : RowC w' g xs T := hc.heap h hn
theorem RowC.set {w : World} {g : Nat} {xs : List Value} {T : TypeId} (h : RowC w g xs T) (j : Nat) (u : Value) : RowC (w.setCell ⟨g, j, none⟩ u) g (xs.set j u) T := by
  have := heap_setCell_same w g j _ _ u h
  unfold RowC
  rw [this, List.setIfInBounds_toArray]
theorem RowC.frz {w : World} {g : Nat} {xs : List Value} {T : TypeId} (h : RowC w g xs T) (j : Nat) : w.frozen? ⟨g, j, none⟩ = false := frozen_of_row w g j _ _ h

theorem RowC.cell {w : World} {g : Nat} {xs : List Value} {T : TypeId} (h : RowC w g xs T) {j : Nat} {v : Value} (hj : xs[j]? = some v) : w.cell? ⟨g, j, none⟩ = some v := by
  rw [cell_of_row w g j _ _ _ h, List.getElem?_toArray, hj]

/-- What All has written so far. -/
def symsV (L : List Nat) (k : Nat) : List Value := vecL (fun i => .int .i64 (if i < k then ((L[i]?.getD 0 : Nat) : Int) else 0)) L.length
theorem symsV_zero (L : List Nat) : vecL (fun _ => Value.int .i64 0) L.length = symsV L 0 := by simp [symsV]
theorem symsV_set (L : List Nat) {k s : Nat} (h : L[k]? = some s) : (symsV L k).set k (.int .i64 s) = symsV L (k + 1) := by
  unfold symsV
  rw [vecL_set]
  congr 1
  funext i
  by_cases e : i = k
  · subst e; simp [h]
  · by_cases e2 : i < k
    · have e3 : i < k + 1 := by omega
      simp [e, e2, e3]
    · have e3 : ¬ i < k + 1 := by omega
      simp [e, e2, e3]
theorem symsV_all (L : List Nat) : symsV L L.length = L.map (fun s : Nat => Value.int .i64 s) := by
  apply List.ext_getElem?
  intro i
  by_cases hi : i < L.length
  · rw [symsV, vecL_get hi, List.getElem?_map]
    simp [hi]
  · rw [List.getElem?_eq_none (by rw [symsV, vecL_len]; omega), List.getElem?_eq_none (by rw [List.length_map]; omega)]

theorem WaveE.setRow {B : Nat} {Z : Nat → Prop} {w : World} {p n : Nat} {D : WD} {O : Nat → Nat → Option ST} {vis : Int} {Vb : Nat → Nat → Int → Prop} (h : WaveE B Z w p D O n vis Vb) {b : Nat} (hb : Z b) (j : Nat) (u : Value) : WaveE B Z (w.setCell ⟨b, j, none⟩ u) p D O n vis Vb :=
  h.chg (Z := fun j => j = b) (Chg.refl.setCell (S := fun j => j = b) ⟨b, j, none⟩ (Or.inl rfl) u) (fun k hk _ e => hk.2 (by subst e; exact hb))

set_option maxHeartbeats 3200000 in
set_option maxRecDepth 100000 in
theorem wAll_any {B : Nat} {X : Nat → Prop} {w : World} {p : Nat} {D : WD} {O : Nat → Nat → Option ST} {L : List Nat} {vis : Int} (h : WaveE B X w p D O L.length vis anyV) (hO : LvlO O L) (hL : Syms L) (hn : L.length ≤ 1000000000) {H : Nat} (hH : HiO O H) (hHm : H ≤ 1000000000) :
    Calls Tryd.prog 51 #[.pointer (some ⟨p, 0, none⟩)] w fun e w' =>
      ∃ g, e = .returned (.slice (some ⟨g, 0, none⟩) L.length L.length) ∧ w.heap.size ≤ g ∧ RowC w' g (L.map (fun s : Nat => Value.int .i64 s)) 3 ∧ WaveE B (fun i => X i ∨ i = g) w' p D O L.length vis anyV ∧ Chg (exT B X) w w' := by
  have hb0 := below_al w (.cells (symsV L 0).toArray 3)
  have hr0 := RowC.new w (symsV L 0) 3
  have hX1 : WaveE B (fun i => X i ∨ i = w.heap.size) (w.alloc (.cells (symsV L 0).toArray 3)) p D O L.length vis anyV := h.less hb0 (fun i hi => hi.elim Or.inl (fun e => Or.inr (by omega))) (fun i hi => hi.elim (fun g => Nat.lt_of_lt_of_le (h.x i g) hb0.size) (fun e => by subst e; exact hr0.lt))
  have hmk : ∀ w : World, _ := make_ints L.length hn
  simp only [symsV_zero] at hmk
  obtain ⟨hc0, c9, c10, fz, hp⟩ := h.cells
  have HS0 : Hid (WaveE B (fun i => X i ∨ i = w.heap.size) (w.alloc (.cells (symsV L 0).toArray 3)) p D O L.length vis anyV ∧ RowC (w.alloc (.cells (symsV L 0).toArray 3)) w.heap.size (symsV L 0) 3 ∧ Chg (exT B X) w (w.alloc (.cells (symsV L 0).toArray 3))) := ⟨hX1, hr0, Chg.of_below (S := exT B X) hb0⟩
  have HO := Lib.hid hO
  have HHi := Lib.hid hH
  have HLS := Lib.hid hL
  have HLEN := Lib.hid hn
  have HPW := Lib.hid hp
  clear h hc0 fz hO hH hL hn hX1 hb0 hr0
  go_enter Tryd.func51, Tryd.ntmps51
  go_wp2_with fail
  generalize w.alloc (.cells (symsV L 0).toArray 3) = ws at *
  clear hmk c9 c10 hp
  go_loopw [19] (fun x wr => ∃ k : Nat, k ≤ L.length ∧ x = .int .i64 k ∧ RowC wr w.heap.size (symsV L k) 3 ∧ (∃ vis' : Int, WaveE B (fun i => X i ∨ i = w.heap.size) wr p D O L.length vis' anyV) ∧ Chg (exT B X) w wr) (fun x _ => L.length - (intOf x).toNat)
  case atStart => exact ⟨0, Nat.zero_le _, rfl, HS0.out.2.1, ⟨vis, HS0.out.1⟩, HS0.out.2.2⟩
  case round => as_aux_lemma =>
    clear HS0
    obtain ⟨k, hk, rfl, hr, ⟨vis', hE⟩, hC⟩ := hrel
    have hpr := hE.cells.2.2.2.2
    have hn1 := HLEN.out
    by_cases hlt : k < L.length
    · have i0 : (0 : Int) ≤ (k : Int) := by omega
      have i1 : (k : Int) < (L.length : Int) := by omega
      obtain ⟨s, hs⟩ : ∃ s, L[k]? = some s := ⟨_, List.getElem?_eq_getElem hlt⟩
      have HG := Lib.hid (wGet_any hE HO.out HLS.out HLEN.out HHi.out hHm k s hs)
      have HR := Lib.hid hr
      have HC := Lib.hid hC
      have HLT := Lib.hid hlt
      have HK := Lib.hid hs
      clear hE hr hC hs
      go_wp2_with fail
      refine HG.out.mono ?_
      rintro e w2 ⟨rfl, v2, hv0, hv1, hE2, hC2⟩
      have hr2 := HR.out.chg hC2 (fun hk => hk.2 (Or.inr rfl))
      have frz := hr2.frz k
      have kcl := hr2.cell (j := k) (vecL_get HLT.out)
      have HE2 := Lib.hid hE2
      have HR2 := Lib.hid hr2
      have HC2 : Hid (Chg (exT B X) w w2) := HC.out.trans hC2 (fun j hj => Or.inl (exT_mono (fun i hi => Or.inl hi) hj))
      clear hE2 hr2 hC2 hv0 hv1
      go_wp2_with fail
      go_roundw
      case rel => exact ⟨k + 1, HLT.out, by go_num, by rw [← symsV_set L HK.out]; exact HR2.out.set _ _, ⟨v2, HE2.out.setRow (Or.inr rfl) _ _⟩, HC2.out.setCell _ (Or.inr (Nat.le_refl _)) _⟩
      case measure => have := HLT.out; simp [intOf]; omega
    · obtain rfl : k = L.length := by omega
      obtain ⟨hc0, c9, c10, fz, hp⟩ := hE.cells
      have z10 := fz 10
      have HST := Lib.hid (hE.setVis vis)
      have HR := Lib.hid hr
      have HC := Lib.hid hC
      have hpw : p ≠ w.heap.size := by have := HPW.out; omega
      have HPN := Lib.hid hpw
      clear hE hr hC hc0 fz hpw
      go_wp2_with fail
      go_ret
      refine ⟨_, rfl, Nat.le_refl _, ?_, HST.out.1, HC.out.trans HST.out.2 (fun j hj => Or.inl (exT_mono (fun i hi => Or.inl hi) hj))⟩
      rw [← symsV_all]
      exact HR.out.chg (S := fun j => j = p) (Chg.refl.setCell (S := fun j => j = p) ⟨p, 10, none⟩ (Or.inl rfl) _) (fun e => HPN.out e.symm)

/-- What Level answers. -/
def lvB (O : Nat → Nat → Option ST) (l k : Int) : List Bool := if 0 ≤ l ∧ l < 9 ∧ 0 ≤ k ∧ k < (pw l.toNat : Nat) then sbits (O l.toNat k.toNat) else []

set_option maxHeartbeats 3200000 in
set_option maxRecDepth 100000 in
theorem wLevel_any {B : Nat} {X : Nat → Prop} {w : World} {p n : Nat} {D : WD} {O : Nat → Nat → Option ST} {vis : Int} {Vb : Nat → Nat → Int → Prop} (h : WaveE B X w p D O n vis Vb) (l k : Int) :
    Calls Tryd.prog 43 #[.pointer (some ⟨p, 0, none⟩), .int .i64 l, .int .i64 k] w (GivesB w.heap.size w (lvB O l k)) := by
  have hpw := h.cells.2.2.2.2
  by_cases h0 : l < 0
  · have HNIL : Hid (lvB O l k = []) := Lib.hid (by unfold lvB; exact if_neg (by omega))
    have d0 : decide (l < 0) = true := decide_eq_true h0
    clear h
    go_enter Tryd.func43, Tryd.ntmps43
    go_wp2_with fail
    go_ret
    rw [HNIL.out]
    exact ⟨_, rfl, World.ownsRow_nil _ _ _ _, Below.refl _ _⟩
  · have d0 : decide (l < 0) = false := decide_eq_false h0
    by_cases h1 : 9 ≤ l
    · have HNIL : Hid (lvB O l k = []) := Lib.hid (by unfold lvB; exact if_neg (by omega))
      have d1 : decide (9 ≤ l) = true := decide_eq_true h1
      clear h
      go_enter Tryd.func43, Tryd.ntmps43
      go_wp2_with fail
      go_ret
      rw [HNIL.out]
      exact ⟨_, rfl, World.ownsRow_nil _ _ _ _, Below.refl _ _⟩
    · have d1 : decide (9 ≤ l) = false := decide_eq_false h1
      by_cases h2 : k < 0
      · have HNIL : Hid (lvB O l k = []) := Lib.hid (by unfold lvB; exact if_neg (by omega))
        have d2 : decide (k < 0) = true := decide_eq_true h2
        clear h
        go_enter Tryd.func43, Tryd.ntmps43
        go_wp2_with fail
        go_ret
        rw [HNIL.out]
        exact ⟨_, rfl, World.ownsRow_nil _ _ _ _, Below.refl _ _⟩
      · have d2 : decide (k < 0) = false := decide_eq_false h2
        obtain ⟨l, rfl⟩ := Int.eq_ofNat_of_zero_le (by omega : 0 ≤ l)
        have hl : l < 9 := by omega
        have i0 : (0 : Int) ≤ (l : Int) := by omega
        have i9 : (l : Int) < 9 := by omega
        have rr : w.cell? ⟨p, l, none⟩ = some (.slice (some ⟨D.G l, 0, none⟩) (pw l) (D.C l)) := h.cells.1 l hl
        by_cases h3 : ((pw l : Nat) : Int) ≤ k
        · have HNIL : Hid (lvB O l k = []) := Lib.hid (by unfold lvB; rw [Int.toNat_natCast]; exact if_neg (by omega))
          have d3 : decide (((pw l : Nat) : Int) ≤ k) = true := decide_eq_true h3
          clear h
          generalize D.G l = g at *
          generalize D.C l = gc at *
          go_enter Tryd.func43, Tryd.ntmps43
          go_wp2_with fail
          go_ret
          rw [HNIL.out]
          exact ⟨_, rfl, World.ownsRow_nil _ _ _ _, Below.refl _ _⟩
        · have d3 : decide (((pw l : Nat) : Int) ≤ k) = false := decide_eq_false h3
          have hk0 : 0 ≤ k := by omega
          have hLV : lvB O l k = sbits (O l k.toNat) := by unfold lvB; rw [Int.toNat_natCast]; exact if_pos ⟨by omega, by omega, hk0, by omega⟩
          rw [hLV]
          have hpp : k.toNat < pw l := by omega
          have j1 : k < ((pw l : Nat) : Int) := by omega
          obtain ⟨r0, r1, r2⟩ := h.shelf hl hpp
          have HTA := Lib.hid (h.tAll hl hpp)
          clear h hLV hpp r1 r2
          generalize D.Q l k.toNat = q at *
          generalize D.G l = g at *
          generalize D.C l = gc at *
          go_enter Tryd.func43, Tryd.ntmps43
          go_wp2_with fail
          refine HTA.out.mono ?_
          rintro e w1 ⟨v, rfl, hown, hb⟩
          go_wp2_with fail
          go_ret
          exact ⟨_, rfl, hown, hb⟩

end Go.Proofs.YtcppgpjodfeigaaDoor

namespace Go.Proofs.YtcppgpjodfeigaaDoor
set_option linter.unusedVariables false
set_option linter.unusedSimpArgs false
open Go.RowKit

def wsV (s : Nat) : Value := .int .i64 s
/-- A cell of the row that is read. -/
theorem sym_cell {w : World} {a : Option Addr} {L : List Nat} (hr : ReadsV w a (L.map wsV)) {k s : Nat} (hk : L[k]? = some s) : ∃ b off, a = some ⟨b, off, none⟩ ∧ b < w.heap.size ∧ ∀ w', Below w.heap.size w w' → w'.cell? ⟨b, off + k, none⟩ = some (.int .i64 s) := by
  have hlt := (List.getElem?_eq_some_iff.1 hk).1
  obtain ⟨b, off, rfl, hb, hc⟩ := hr k (by rw [List.length_map]; exact hlt)
  exact ⟨b, off, rfl, hb, fun w' hbl => (hbl.cell (p := ⟨b, off + k, none⟩) hb).trans (hc k _ (by rw [List.getElem?_map, hk]; rfl))⟩

/-- How many shelves are there, at a level's shelf k. -/
def cntL (l k : Nat) : Nat → Nat := fun l' => if l' < l then pw l' else if l' = l then k else 0
theorem cntL_self (l k : Nat) : cntL l k l = k := by simp [cntL]
theorem cntL_zero : cntL 0 0 = fun _ => 0 := by funext l'; simp [cntL]
theorem cntL_inc (l k : Nat) : incC (cntL l k) l = cntL l (k + 1) := by
  funext l'
  unfold incC cntL
  by_cases h : l' = l
  · subst h; simp
  · simp [h]
theorem cntL_next (l : Nat) : cntL l (pw l) = cntL (l + 1) 0 := by
  funext l'
  unfold cntL
  by_cases h1 : l' < l
  · simp [h1, (by omega : l' < l + 1)]
  · by_cases h2 : l' = l
    · subst h2; simp
    · have h3 : ¬ l' < l + 1 := by omega
      simp [h1, h2, h3]
theorem cntL_done : ∀ l, l < 9 → cntL 9 0 l = pw l := fun l h => by simp [cntL, h]
def BitsOK (O : Nat → Nat → Option ST) (L : List Nat) (l k : Nat) : Prop := ∀ l' k', (l' < l ∧ k' < pw l') ∨ (l' = l ∧ k' < k) → sbits (O l' k') = lvl L l' k'
theorem BitsOK.zero (O : Nat → Nat → Option ST) (L : List Nat) : BitsOK O L 0 0 := fun l' k' h => by omega
theorem BitsOK.next {O : Nat → Nat → Option ST} {L : List Nat} {l : Nat} (h : BitsOK O L l (pw l)) : BitsOK O L (l + 1) 0 := fun l' k' hh => h l' k' (by
  rcases hh with ⟨h1, h2⟩ | ⟨_, h2⟩
  · by_cases e : l' = l
    · subst e; exact Or.inr ⟨rfl, h2⟩
    · exact Or.inl ⟨by omega, h2⟩
  · omega)
theorem BitsOK.push {O : Nat → Nat → Option ST} {L : List Nat} {l k : Nat} (h : BitsOK O L l k) {o : Option ST} (ho : sbits o = lvl L l k) : BitsOK (updO O l k o) L l (k + 1) := fun l' k' hh => by
  by_cases e : l' = l ∧ k' = k
  · obtain ⟨rfl, rfl⟩ := e
    rw [updO_same]; exact ho
  · rw [updO_ne _ _ (by omega)]
    exact h l' k' (by omega)
theorem BitsOK.done {O : Nat → Nat → Option ST} {L : List Nat} (h : BitsOK O L 9 0) : LvlO O L := fun l k hl hk => h l k (Or.inl ⟨hl, hk⟩)

theorem own_capLe {w : World} {base : Nat} {e : TypeId} {size n c : Nat} {a : Option Addr} {xs : List Value} (h : w.ownsRow base e size (.slice a n c) n xs) : n ≤ c := by
  rcases h.2 with ⟨h, _⟩ | ⟨g, cap, cur, hv, _, _, hc, _⟩
  · injection h with _ h1 h2; omega
  · injection hv with _ h1 h2; omega

set_option maxHeartbeats 6400000 in
set_option maxRecDepth 100000 in
theorem wNew_good {w : World} {a : Option Addr} {c : Nat} (L : List Nat) (hr : ReadsV w a (L.map wsV)) (hL : Syms L) (hn : L.length ≤ 1000000) :
    Calls Tryd.prog 40 #[.slice a L.length c] w fun e w' => ∃ p D O, e = .returned (.tuple #[.pointer (some ⟨p, 0, none⟩), .int .i64 0]) ∧ WaveE w.heap.size (fun _ => False) w' p D O L.length 0 anyV ∧ LvlO O L ∧ Below w.heap.size w w' := by
  have HR := Lib.hid hr
  have HLS := Lib.hid hL
  have hb0 := below_al w (.cells (headG (fun _ => .slice none 0 0) L.length) 101)
  have hP0 := WavePt.start (base := w.heap.size) w L.length (Nat.le_refl _) (fun _ _ => 0) (fun _ _ => none) (fun _ _ _ => False)
  have HS0 : Hid (WavePt (w.alloc (.cells (headG (fun _ => .slice none 0 0) L.length) 101)) w.heap.size w.heap.size (fun _ => .slice none 0 0) (fun _ => 0) (fun _ _ => 0) (fun _ _ => none) (fun _ _ _ => False) L.length ∧ Below w.heap.size w (w.alloc (.cells (headG (fun _ => .slice none 0 0) L.length) 101))) := ⟨hP0, hb0⟩
  unfold headG at HS0
  clear hb0 hP0 hr hL
  go_enter Tryd.func40, Tryd.ntmps40
  go_wp2_with fail
  generalize w.alloc (.cells #[.slice none 0 0, .slice none 0 0, .slice none 0 0, .slice none 0 0, .slice none 0 0, .slice none 0 0, .slice none 0 0, .slice none 0 0, .slice none 0 0, .int .i64 L.length, .int .i64 0] 101) = w0 at *
  go_loopw [20] (fun x wr => ∃ k : Nat, k ≤ L.length ∧ x = .int .i64 k ∧ wr = w0) (fun x _ => L.length - (intOf x).toNat)
  case atStart => exact ⟨0, Nat.zero_le _, rfl, rfl⟩
  case round => as_aux_lemma =>
    obtain ⟨k, hk, rfl, rfl⟩ := hrel
    by_cases hlt : k < L.length
    · obtain ⟨s, hs⟩ : ∃ s, L[k]? = some s := ⟨_, List.getElem?_eq_getElem hlt⟩
      obtain ⟨b, off, rfl, hbl, hcl⟩ := sym_cell HR.out hs
      have hc := hcl _ HS0.out.2
      have hs257 := HLS.out s (List.mem_of_getElem? hs)
      have his : symIs (s : Int) = true := symIs_true (by omega) (by omega)
      have HIS : Hid (∀ w, Calls Tryd.prog 80 #[.int .i64 s] w fun e w' => e = .returned (.bool true) ∧ w = w') := fun w => by rw [← his]; exact symIs_any s w
      have i0 : (0 : Int) ≤ (k : Int) := by omega
      have i1 : (k : Int) < (L.length : Int) := by omega
      clear hcl his hs
      go_wp2_with fail
      refine (HIS.out _).mono ?_
      rintro e w' ⟨rfl, rfl⟩
      go_wp2_with fail
      go_roundw
      case rel => exact ⟨k + 1, by omega, by go_num, trivial⟩
      case measure => simp [intOf]; omega
    · obtain rfl : k = L.length := by omega
      go_wp2_with fail
      clear hk hlt
      go_loopw [28] (fun x wr => ∃ l : Nat, l ≤ 9 ∧ x = .int .i64 l ∧ ∃ V Q O S, WavePt wr w.heap.size w.heap.size V (cntL l 0) Q O S L.length ∧ BitsOK O L l 0 ∧ (∀ l', l ≤ l' → V l' = .slice none 0 0) ∧ Below w.heap.size w wr) (fun x _ => 9 - (intOf x).toNat)
      case atStart => exact ⟨0, by omega, rfl, _, _, _, _, by rw [cntL_zero]; exact HS0.out.1, BitsOK.zero _ _, fun _ _ => rfl, HS0.out.2⟩
      case round => as_aux_lemma =>
        clear HS0
        obtain ⟨l, hl, rfl, V, Q, O, S, hP, hO, hVn, hb⟩ := hrel
        by_cases hlt : l < 9
        · have hpl := pw_le hlt
          have hmk : ∀ w : World, _ := make_rows (pw l) (by omega)
          have d9 : decide ((l : Int) < 9) = true := decide_eq_true (by omega)
          have hsh : wrap64 ((2 : Int) ^ l) = ((pw l : Nat) : Int) := by
            have : l = 0 ∨ l = 1 ∨ l = 2 ∨ l = 3 ∨ l = 4 ∨ l = 5 ∨ l = 6 ∨ l = 7 ∨ l = 8 := by omega
            rcases this with rfl | rfl | rfl | rfl | rfl | rfl | rfl | rfl | rfl <;> simp [wrap64, pw]
          have HP := Lib.hid hP
          have HO := Lib.hid hO
          have HB := Lib.hid hb
          have HVN := Lib.hid hVn
          have HB0 : Hid (BitsR (wr.alloc (.cells (vecL (fun _ => .slice none 0 0) (pw l)).toArray 23)) wr.heap.size wr.heap.size (pw l) (fun _ => .slice none 0 0) (firstL L l 0) ∧ Below wr.heap.size wr (wr.alloc (.cells (vecL (fun _ => .slice none 0 0) (pw l)).toArray 23))) := Lib.hid ⟨by rw [firstL_zero]; exact BitsR.start wr (pw l) (Nat.le_refl _), below_al wr _⟩
          clear hP hO hb hVn
          go_wp2_with fail
          clear hsh hmk d9
          generalize wr.alloc (.cells (vecL (fun _ => .slice none 0 0) (pw l)).toArray 23) = wm at *
          obtain ⟨wl, hwl⟩ : ∃ wl, wl = wr := ⟨_, rfl⟩
          rw [← hwl] at HP HB HB0 ⊢
          clear hwl
          go_loopw [37] (fun x wr => ∃ j : Nat, j ≤ L.length ∧ x = .int .i64 j ∧ ∃ vs, BitsR wr wl.heap.size wl.heap.size (pw l) vs (firstL L l j) ∧ Below wl.heap.size wl wr) (fun x _ => L.length - (intOf x).toNat)
          case atStart => exact ⟨0, by omega, rfl, _, HB0.out.1, HB0.out.2⟩
          case round => as_aux_lemma =>
            clear HB0
            obtain ⟨j, hj, rfl, vs, hR, hbl⟩ := hrel
            by_cases hjl : j < L.length
            · obtain ⟨s, hs⟩ : ∃ s, L[j]? = some s := ⟨_, List.getElem?_eq_getElem hjl⟩
              obtain ⟨b, off, rfl, hbk, hcl⟩ := sym_cell HR.out hs
              have hc := hcl wr (HB.out.trans (hbl.mono HB.out.size))
              have hs257 := HLS.out s (List.mem_of_getElem? hs)
              have hpp := pth_pw hs257 hlt
              have i0 : (0 : Int) ≤ (j : Int) := by omega
              have i1 : (j : Int) < (L.length : Int) := by omega
              have HFS := Lib.hid (firstL_succ (l := l) hs)
              have HPA := Lib.hid (fun w => path_nat hs257 (by omega : l ≤ 9) w)
              have HBI := Lib.hid (fun w => bit_nat hs257 hlt w)
              have HLL := Lib.hid (lvl_lenLe L l (pth s l) j)
              clear hcl hs
              generalize pth s l = π at *
              generalize bitS s l = bt at *
              have j0 : (0 : Int) ≤ (π : Int) := by omega
              have j1 : (π : Int) < ((pw l : Nat) : Int) := by omega
              have kc := hR.cell hpp
              have kf := hR.frz π
              have HRR := Lib.hid hR
              have HBL := Lib.hid hbl
              have HPP := Lib.hid hpp
              have HJL := Lib.hid hjl
              clear hR hbl hpp
              have hlw : wl.heap.size < wr.heap.size := HRR.out.lt
              have HLW := Lib.hid hlw
              go_wp2_with fail
              refine (HPA.out _).mono ?_
              rintro e w' ⟨rfl, rfl⟩
              go_wp2_with fail
              -- REGION bits
              refine reg_start (fun _ => True) (by kernel_rfl) (trivial) (fun hHeld => ?_)
              refine reg_take (i := 0) (v := ?vbt0) rfl (by kernel_rfl) rfl hHeld ?ybt0 ?rbt0
              case ybt0 => (intro w hSw; (try dsimp only at hSw); go_simp; all_goals with_reducible rfl)
              try simp only [Act.put, List.setIfInBounds_toArray, List.set_cons_zero, List.set_cons_succ]
              refine reg_take (i := 1) (v := ?vbt1) rfl (by kernel_rfl) rfl hHeld ?ybt1 ?rbt1
              case ybt1 => (intro w hSw; (try dsimp only at hSw); go_simp; all_goals with_reducible rfl)
              try simp only [Act.put, List.setIfInBounds_toArray, List.set_cons_zero, List.set_cons_succ]
              refine reg_take (i := 2) (v := ?vbt2) rfl (by kernel_rfl) rfl hHeld ?ybt2 ?rbt2
              case ybt2 => (intro w hSw; (try dsimp only at hSw); go_simp; all_goals with_reducible rfl)
              try simp only [Act.put, List.setIfInBounds_toArray, List.set_cons_zero, List.set_cons_succ]
              refine reg_take (i := 3) (v := ?vbt3) rfl (by kernel_rfl) rfl hHeld ?ybt3 ?rbt3
              case ybt3 => (intro w hSw; (try dsimp only at hSw); go_simp; all_goals with_reducible rfl)
              try simp only [Act.put, List.setIfInBounds_toArray, List.set_cons_zero, List.set_cons_succ]
              refine reg_take (i := 4) (v := ?vbt4) rfl (by kernel_rfl) rfl hHeld ?ybt4 ?rbt4
              case ybt4 => (intro w hSw; (try dsimp only at hSw); go_simp; all_goals with_reducible rfl)
              try simp only [Act.put, List.setIfInBounds_toArray, List.set_cons_zero, List.set_cons_succ]
              refine reg_take (i := 6) (v := ?vbt6) rfl (by kernel_rfl) rfl hHeld ?ybt6 ?rbt6
              case ybt6 => (intro w hSw; (try dsimp only at hSw); go_simp; all_goals with_reducible rfl)
              try simp only [Act.put, List.setIfInBounds_toArray, List.set_cons_zero, List.set_cons_succ]
              refine reg_take (i := 7) (v := ?vbt7) rfl (by kernel_rfl) rfl hHeld ?ybt7 ?rbt7
              case ybt7 => (intro w hSw; (try dsimp only at hSw); go_simp; all_goals with_reducible rfl)
              try simp only [Act.put, List.setIfInBounds_toArray, List.set_cons_zero, List.set_cons_succ]
              refine reg_loud2 (i := 5) (j := 8) rfl rfl (by kernel_rfl) rfl rfl (fun K hK => ?bbt5) (fun K hK => ?bbt8)
              case bbt5 => 
                go_simp
                refine hK.out _ _ (trivial) (fun hNew => ?_)
                clear hK K hHeld
                have hHeld := hNew
                clear hNew
                try simp only [Act.put, List.setIfInBounds_toArray, List.set_cons_zero, List.set_cons_succ]
                refine reg_loud (i := 8) rfl (by kernel_rfl) rfl (fun K hK => ?_)
                go_simp
                ((refine (HBI.out _).mono ?_))
                rintro e w2 ⟨rfl, rfl⟩
                refine hK.out _ _ (trivial) (fun hNew => ?_)
                clear hK K hHeld
                have hHeld := hNew
                clear hNew
                try simp only [Act.put, List.setIfInBounds_toArray, List.set_cons_zero, List.set_cons_succ]
                refine reg_loud (i := 9) rfl (by kernel_rfl) rfl (fun K hK => ?_)
                go_simp
                refine hK.out _ _ (trivial) (fun hNew => ?_)
                clear hK K hHeld
                have hHeld := hNew
                clear hNew
                try simp only [Act.put, List.setIfInBounds_toArray, List.set_cons_zero, List.set_cons_succ]
                refine reg_loud (i := 10) rfl (by kernel_rfl) rfl (fun K hK => ?_)
                refine wp_pushK _ _ 23 rfl wl.heap.size 4 Tryd.infoBoolR Tryd.underlying23 rfl (by decide) _ _ _ rfl (World.ownsRow.alloc (HRR.out.rows π HPP.out) _) wr.heap.size 1 [.bool bt] rfl rfl ?hus ?h1 ?c1 ?c2 ?c3 ?_
                case hus =>
                  intro j u hj
                  have hx := cell_of_row _ wr.heap.size j _ _ _ (heap_alloc_new wr (.cells #[.bool bt] 4))
                  refine Eq.trans hx ?_
                  simpa using hj
                case h1 => intro u hu; simp at hu; subst hu; rfl
                case c1 => have := HLL.out; unfold maxLen; omega
                case c2 => have := HLL.out; omega
                case c3 => have := HLW.out; simp; omega
                intro g cap w3 hown hgrow hor hlt3
                have HM3 := Lib.hid (HRR.out.mid HPP.out (w2 := (wr.alloc (.cells #[.bool bt] 4)).drew) (below_al wr _).drew hgrow)
                have HPU := Lib.hid (HRR.out.push HPP.out (x := bt) (w2 := (wr.alloc (.cells #[.bool bt] 4)).drew) (below_al wr _).drew rfl hown hgrow hor)
                have HBN := Lib.hid (HBL.out.trans (HPU.out.2.below (B := wl.heap.size) (fun j hj => hj.elim (fun e => by omega) (fun e => ((HRR.out.rows π HPP.out).lt j e).1)) (by have := HLW.out; omega)))
                have kc3 := HM3.out.1
                have kf3 := HM3.out.2
                clear hown hgrow hor hlt3
                refine hK.out _ _ (trivial) (fun hNew => ?_)
                clear hK K hHeld
                have hHeld := hNew
                clear hNew
                try simp only [Act.put, List.setIfInBounds_toArray, List.set_cons_zero, List.set_cons_succ]
                refine reg_take (i := 11) (v := ?vbta11) rfl (by kernel_rfl) rfl hHeld ?ybta11 ?rbta11
                case ybta11 => (intro w hSw; (try dsimp only at hSw); go_simp; all_goals with_reducible rfl)
                try simp only [Act.put, List.setIfInBounds_toArray, List.set_cons_zero, List.set_cons_succ]
                refine reg_loud (i := 12) rfl (by kernel_rfl) rfl (fun K hK => ?_)
                go_simp
                refine hK.out _ _ (trivial) (fun hNew => ?_)
                clear hK K hHeld
                have hHeld := hNew
                clear hNew
                try simp only [Act.put, List.setIfInBounds_toArray, List.set_cons_zero, List.set_cons_succ]
                refine reg_done (by kernel_rfl) ?_ _
                clear hHeld
                go_wp2_with fail
                go_roundw
                case rel => exact ⟨j + 1, by have := HJL.out; omega, by go_num, _, by rw [HFS.out]; exact HPU.out.1, HBN.out⟩
                case measure => have := HJL.out; simp [intOf]; omega
              case bbt8 => 
                go_simp
                ((refine (HBI.out _).mono ?_))
                rintro e w2 ⟨rfl, rfl⟩
                refine hK.out _ _ (trivial) (fun hNew => ?_)
                clear hK K hHeld
                have hHeld := hNew
                clear hNew
                try simp only [Act.put, List.setIfInBounds_toArray, List.set_cons_zero, List.set_cons_succ]
                refine reg_loud2 (i := 5) (j := 9) rfl rfl (by kernel_rfl) rfl rfl (fun K hK => ?bbtb5) (fun K hK => ?bbtb9)
                case bbtb5 => 
                  go_simp
                  refine hK.out _ _ (trivial) (fun hNew => ?_)
                  clear hK K hHeld
                  have hHeld := hNew
                  clear hNew
                  try simp only [Act.put, List.setIfInBounds_toArray, List.set_cons_zero, List.set_cons_succ]
                  refine reg_loud (i := 9) rfl (by kernel_rfl) rfl (fun K hK => ?_)
                  go_simp
                  refine hK.out _ _ (trivial) (fun hNew => ?_)
                  clear hK K hHeld
                  have hHeld := hNew
                  clear hNew
                  try simp only [Act.put, List.setIfInBounds_toArray, List.set_cons_zero, List.set_cons_succ]
                  refine reg_loud (i := 10) rfl (by kernel_rfl) rfl (fun K hK => ?_)
                  refine wp_pushK _ _ 23 rfl wl.heap.size 4 Tryd.infoBoolR Tryd.underlying23 rfl (by decide) _ _ _ rfl (World.ownsRow.alloc (HRR.out.rows π HPP.out) _) wr.heap.size 1 [.bool bt] rfl rfl ?hus ?h1 ?c1 ?c2 ?c3 ?_
                  case hus =>
                    intro j u hj
                    have hx := cell_of_row _ wr.heap.size j _ _ _ (heap_alloc_new wr (.cells #[.bool bt] 4))
                    refine Eq.trans hx ?_
                    simpa using hj
                  case h1 => intro u hu; simp at hu; subst hu; rfl
                  case c1 => have := HLL.out; unfold maxLen; omega
                  case c2 => have := HLL.out; omega
                  case c3 => have := HLW.out; simp; omega
                  intro g cap w3 hown hgrow hor hlt3
                  have HM3 := Lib.hid (HRR.out.mid HPP.out (w2 := (wr.alloc (.cells #[.bool bt] 4)).drew) (below_al wr _).drew hgrow)
                  have HPU := Lib.hid (HRR.out.push HPP.out (x := bt) (w2 := (wr.alloc (.cells #[.bool bt] 4)).drew) (below_al wr _).drew rfl hown hgrow hor)
                  have HBN := Lib.hid (HBL.out.trans (HPU.out.2.below (B := wl.heap.size) (fun j hj => hj.elim (fun e => by omega) (fun e => ((HRR.out.rows π HPP.out).lt j e).1)) (by have := HLW.out; omega)))
                  have kc3 := HM3.out.1
                  have kf3 := HM3.out.2
                  clear hown hgrow hor hlt3
                  refine hK.out _ _ (trivial) (fun hNew => ?_)
                  clear hK K hHeld
                  have hHeld := hNew
                  clear hNew
                  try simp only [Act.put, List.setIfInBounds_toArray, List.set_cons_zero, List.set_cons_succ]
                  refine reg_take (i := 11) (v := ?vbtba11) rfl (by kernel_rfl) rfl hHeld ?ybtba11 ?rbtba11
                  case ybtba11 => (intro w hSw; (try dsimp only at hSw); go_simp; all_goals with_reducible rfl)
                  try simp only [Act.put, List.setIfInBounds_toArray, List.set_cons_zero, List.set_cons_succ]
                  refine reg_loud (i := 12) rfl (by kernel_rfl) rfl (fun K hK => ?_)
                  go_simp
                  refine hK.out _ _ (trivial) (fun hNew => ?_)
                  clear hK K hHeld
                  have hHeld := hNew
                  clear hNew
                  try simp only [Act.put, List.setIfInBounds_toArray, List.set_cons_zero, List.set_cons_succ]
                  refine reg_done (by kernel_rfl) ?_ _
                  clear hHeld
                  go_wp2_with fail
                  go_roundw
                  case rel => exact ⟨j + 1, by have := HJL.out; omega, by go_num, _, by rw [HFS.out]; exact HPU.out.1, HBN.out⟩
                  case measure => have := HJL.out; simp [intOf]; omega
                case bbtb9 => 
                  go_simp
                  refine hK.out _ _ (trivial) (fun hNew => ?_)
                  clear hK K hHeld
                  have hHeld := hNew
                  clear hNew
                  try simp only [Act.put, List.setIfInBounds_toArray, List.set_cons_zero, List.set_cons_succ]
                  refine reg_loud (i := 5) rfl (by kernel_rfl) rfl (fun K hK => ?_)
                  go_simp
                  refine hK.out _ _ (trivial) (fun hNew => ?_)
                  clear hK K hHeld
                  have hHeld := hNew
                  clear hNew
                  try simp only [Act.put, List.setIfInBounds_toArray, List.set_cons_zero, List.set_cons_succ]
                  refine reg_loud (i := 10) rfl (by kernel_rfl) rfl (fun K hK => ?_)
                  refine wp_pushK _ _ 23 rfl wl.heap.size 4 Tryd.infoBoolR Tryd.underlying23 rfl (by decide) _ _ _ rfl (World.ownsRow.alloc (HRR.out.rows π HPP.out) _) wr.heap.size 1 [.bool bt] rfl rfl ?hus ?h1 ?c1 ?c2 ?c3 ?_
                  case hus =>
                    intro j u hj
                    have hx := cell_of_row _ wr.heap.size j _ _ _ (heap_alloc_new wr (.cells #[.bool bt] 4))
                    refine Eq.trans hx ?_
                    simpa using hj
                  case h1 => intro u hu; simp at hu; subst hu; rfl
                  case c1 => have := HLL.out; unfold maxLen; omega
                  case c2 => have := HLL.out; omega
                  case c3 => have := HLW.out; simp; omega
                  intro g cap w3 hown hgrow hor hlt3
                  have HM3 := Lib.hid (HRR.out.mid HPP.out (w2 := (wr.alloc (.cells #[.bool bt] 4)).drew) (below_al wr _).drew hgrow)
                  have HPU := Lib.hid (HRR.out.push HPP.out (x := bt) (w2 := (wr.alloc (.cells #[.bool bt] 4)).drew) (below_al wr _).drew rfl hown hgrow hor)
                  have HBN := Lib.hid (HBL.out.trans (HPU.out.2.below (B := wl.heap.size) (fun j hj => hj.elim (fun e => by omega) (fun e => ((HRR.out.rows π HPP.out).lt j e).1)) (by have := HLW.out; omega)))
                  have kc3 := HM3.out.1
                  have kf3 := HM3.out.2
                  clear hown hgrow hor hlt3
                  refine hK.out _ _ (trivial) (fun hNew => ?_)
                  clear hK K hHeld
                  have hHeld := hNew
                  clear hNew
                  try simp only [Act.put, List.setIfInBounds_toArray, List.set_cons_zero, List.set_cons_succ]
                  refine reg_take (i := 11) (v := ?vbtbb11) rfl (by kernel_rfl) rfl hHeld ?ybtbb11 ?rbtbb11
                  case ybtbb11 => (intro w hSw; (try dsimp only at hSw); go_simp; all_goals with_reducible rfl)
                  try simp only [Act.put, List.setIfInBounds_toArray, List.set_cons_zero, List.set_cons_succ]
                  refine reg_loud (i := 12) rfl (by kernel_rfl) rfl (fun K hK => ?_)
                  go_simp
                  refine hK.out _ _ (trivial) (fun hNew => ?_)
                  clear hK K hHeld
                  have hHeld := hNew
                  clear hNew
                  try simp only [Act.put, List.setIfInBounds_toArray, List.set_cons_zero, List.set_cons_succ]
                  refine reg_done (by kernel_rfl) ?_ _
                  clear hHeld
                  go_wp2_with fail
                  go_roundw
                  case rel => exact ⟨j + 1, by have := HJL.out; omega, by go_num, _, by rw [HFS.out]; exact HPU.out.1, HBN.out⟩
                  case measure => have := HJL.out; simp [intOf]; omega
              -- END OF REGION bits
            · obtain rfl : j = L.length := by omega
              have hpl2 : w.heap.size < wl.heap.size := HP.out.tyP.lt
              have HPL := Lib.hid hpl2
              have HP1 : Hid (WavePt wr w.heap.size w.heap.size V (cntL l 0) Q O S L.length) := Lib.hid (HP.out.below hbl)
              have HBE : Hid (Below w.heap.size w wr) := Lib.hid (HB.out.trans (hbl.mono HB.out.size))
              have HRR := Lib.hid hR
              clear hR hbl hpl2 HB HP hj hjl
              go_wp2_with fail
              obtain ⟨we, hwe⟩ : ∃ we, we = wr := ⟨_, rfl⟩
              rw [← hwe] at HP1 HBE HRR ⊢
              clear hwe
              go_loopw [59] (fun x wr => ∃ k : Nat, k ≤ pw l ∧ x = .int .i64 k ∧ ∃ V Q O S, WavePt wr w.heap.size w.heap.size V (cntL l k) Q O S L.length ∧ BitsOK O L l k ∧ Chg (fun j => j = w.heap.size) we wr ∧ (∀ g, (V l).ownBlock = some g → we.heap.size ≤ g) ∧ (∀ l', l < l' → V l' = .slice none 0 0)) (fun x _ => pw l - (intOf x).toNat)
              case atStart => exact ⟨0, by omega, rfl, V, Q, O, S, HP1.out, HO.out, Chg.refl, fun g hg => by rw [HVN.out l (Nat.le_refl _)] at hg; simp [Value.ownBlock] at hg, fun l' hl' => HVN.out l' (by omega)⟩
              case round => as_aux_lemma =>
                clear HP1 HO HVN
                clear V Q O S
                obtain ⟨k, hk, rfl, V, Q, O, S, hP, hO, hC, hG, hVn⟩ := hrel
                have HC := Lib.hid hC
                by_cases hkp : k < pw l
                · have hBR : BitsR wr wl.heap.size wl.heap.size (pw l) vs (firstL L l L.length) := HRR.out.chg hC (fun j hj e => by have := HPL.out; omega)
                  have hown := hBR.rows k hkp
                  rw [firstL_all] at hown
                  obtain ⟨a', c', hv, _, _⟩ := own_slice hown
                  have hkc := hBR.cell hkp
                  rw [hv] at hown hkc
                  have hlv : (lvl L l k).length ≤ L.length := by have := lvl_lenLe L l k L.length; rwa [firstL_all] at this
                  have hcap := own_capLe hown
                  have HNEW : Hid (∀ m, Calls Tryd.prog 18 #[.slice a' (lvl L l k).length c'] (wr.drewN m) fun e w' => ∃ q S' o, e = .returned (.pointer (some ⟨q, 0, none⟩)) ∧ (∃ mm, TreeIs S' w' q o mm 0) ∧ (∀ j, S' j → wr.heap.size ≤ j) ∧ sbits o = lvl L l k ∧ Chg (fun _ => False) wr w') := Lib.hid (fun m => by
                    refine (tNew_is (wr.drewN m) (lvl L l k) (readsV_own (w := wr.drewN m) hown) hcap (by omega)).mono ?_
                    rintro e w' ⟨q, S', o, rfl, h1, h2, h3, h4⟩
                    exact ⟨q, S', o, rfl, ⟨_, h1⟩, h2, h3, ((Chg.refl (S := fun _ => False) (w := wr)).drewN m).trans h4 (fun b hb => hb.elim)⟩)
                  have i0 : (0 : Int) ≤ (k : Int) := by omega
                  have i1 : (k : Int) < ((pw l : Nat) : Int) := by omega
                  have l0 : (0 : Int) ≤ (l : Int) := by omega
                  have l9 : (l : Int) < 9 := by omega
                  have pc : wr.cell? ⟨w.heap.size, l, none⟩ = some (V l) := by rw [cell_of_row wr w.heap.size l _ _ _ hP.head, headG_get V _ hlt]
                  have hpw : w.heap.size < wr.heap.size := hP.tyP.lt
                  have HPP := Lib.hid hP
                  have HO := Lib.hid hO
                  have HG := Lib.hid hG
                  have HVN := Lib.hid hVn
                  have HKP := Lib.hid hkp
                  have HPW := Lib.hid hpw
                  have HLT := Lib.hid hlt
                  clear hP hO hC hG hVn hBR hown hv hcap hlv
                  go_wp2_with fail
                  -- REGION tree
                  refine reg_start (fun _ => True) (by kernel_rfl) (trivial) (fun hHeld => ?_)
                  refine reg_take (i := 0) (v := ?vtr0) rfl (by kernel_rfl) rfl hHeld ?ytr0 ?rtr0
                  case ytr0 => (intro w hSw; (try dsimp only at hSw); go_simp; all_goals with_reducible rfl)
                  try simp only [Act.put, List.setIfInBounds_toArray, List.set_cons_zero, List.set_cons_succ]
                  refine reg_take (i := 1) (v := ?vtr1) rfl (by kernel_rfl) rfl hHeld ?ytr1 ?rtr1
                  case ytr1 => (intro w hSw; (try dsimp only at hSw); go_simp; all_goals with_reducible rfl)
                  try simp only [Act.put, List.setIfInBounds_toArray, List.set_cons_zero, List.set_cons_succ]
                  refine reg_take (i := 2) (v := ?vtr2) rfl (by kernel_rfl) rfl hHeld ?ytr2 ?rtr2
                  case ytr2 => (intro w hSw; (try dsimp only at hSw); go_simp; all_goals with_reducible rfl)
                  try simp only [Act.put, List.setIfInBounds_toArray, List.set_cons_zero, List.set_cons_succ]
                  refine reg_take (i := 3) (v := ?vtr3) rfl (by kernel_rfl) rfl hHeld ?ytr3 ?rtr3
                  case ytr3 => (intro w hSw; (try dsimp only at hSw); go_simp; all_goals with_reducible rfl)
                  try simp only [Act.put, List.setIfInBounds_toArray, List.set_cons_zero, List.set_cons_succ]
                  refine reg_take (i := 4) (v := ?vtr4) rfl (by kernel_rfl) rfl hHeld ?ytr4 ?rtr4
                  case ytr4 => (intro w hSw; (try dsimp only at hSw); go_simp; all_goals with_reducible rfl)
                  try simp only [Act.put, List.setIfInBounds_toArray, List.set_cons_zero, List.set_cons_succ]
                  refine reg_take (i := 5) (v := ?vtr5) rfl (by kernel_rfl) rfl hHeld ?ytr5 ?rtr5
                  case ytr5 => (intro w hSw; (try dsimp only at hSw); go_simp; all_goals with_reducible rfl)
                  try simp only [Act.put, List.setIfInBounds_toArray, List.set_cons_zero, List.set_cons_succ]
                  refine reg_take (i := 6) (v := ?vtr6) rfl (by kernel_rfl) rfl hHeld ?ytr6 ?rtr6
                  case ytr6 => (intro w hSw; (try dsimp only at hSw); go_simp; all_goals with_reducible rfl)
                  try simp only [Act.put, List.setIfInBounds_toArray, List.set_cons_zero, List.set_cons_succ]
                  refine reg_take (i := 8) (v := ?vtr8) rfl (by kernel_rfl) rfl hHeld ?ytr8 ?rtr8
                  case ytr8 => (intro w hSw; (try dsimp only at hSw); go_simp; all_goals with_reducible rfl)
                  try simp only [Act.put, List.setIfInBounds_toArray, List.set_cons_zero, List.set_cons_succ]
                  refine reg_take (i := 10) (v := ?vtr10) rfl (by kernel_rfl) rfl hHeld ?ytr10 ?rtr10
                  case ytr10 => (intro w hSw; (try dsimp only at hSw); go_simp; all_goals with_reducible rfl)
                  try simp only [Act.put, List.setIfInBounds_toArray, List.set_cons_zero, List.set_cons_succ]
                  refine reg_take (i := 11) (v := ?vtr11) rfl (by kernel_rfl) rfl hHeld ?ytr11 ?rtr11
                  case ytr11 => (intro w hSw; (try dsimp only at hSw); go_simp; all_goals with_reducible rfl)
                  try simp only [Act.put, List.setIfInBounds_toArray, List.set_cons_zero, List.set_cons_succ]
                  refine reg_take (i := 15) (v := ?vtr15) rfl (by kernel_rfl) rfl hHeld ?ytr15 ?rtr15
                  case ytr15 => (intro w hSw; (try dsimp only at hSw); go_simp; all_goals with_reducible rfl)
                  try simp only [Act.put, List.setIfInBounds_toArray, List.set_cons_zero, List.set_cons_succ]
                  refine reg_take (i := 16) (v := ?vtr16) rfl (by kernel_rfl) rfl hHeld ?ytr16 ?rtr16
                  case ytr16 => (intro w hSw; (try dsimp only at hSw); go_simp; all_goals with_reducible rfl)
                  try simp only [Act.put, List.setIfInBounds_toArray, List.set_cons_zero, List.set_cons_succ]
                  refine reg_loud2 (i := 7) (j := 9) rfl rfl (by kernel_rfl) rfl rfl (fun K hK => ?btr7) (fun K hK => ?btr9)
                  case btr7 => 
                    go_simp
                    refine hK.out _ _ (trivial) (fun hNew => ?_)
                    clear hK K hHeld
                    have hHeld := hNew
                    clear hNew
                    try simp only [Act.put, List.setIfInBounds_toArray, List.set_cons_zero, List.set_cons_succ]
                    refine reg_loud (i := 9) rfl (by kernel_rfl) rfl (fun K hK => ?_)
                    go_simp
                    ((refine (HNEW.out 1).mono ?_))
                    rintro e w2 ⟨q, S', o, rfl, ⟨mm, hT⟩, hS', hbits, hC2⟩
                    have pc2 : w2.cell? ⟨w.heap.size, l, none⟩ = some (V l) := hC2.cell (p := ⟨w.heap.size, l, none⟩) pc id
                    have hpw2 : w.heap.size < w2.heap.size := by have := hC2.size; have := HPW.out; omega
                    have HPW2 := Lib.hid hpw2
                    have HTR := Lib.hid hT
                    have HSS := Lib.hid hS'
                    have HBT := Lib.hid hbits
                    have HC2 := Lib.hid hC2
                    clear hT hS' hbits hC2 HNEW
                    refine hK.out _ _ (trivial) (fun hNew => ?_)
                    clear hK K hHeld
                    have hHeld := hNew
                    clear hNew
                    try simp only [Act.put, List.setIfInBounds_toArray, List.set_cons_zero, List.set_cons_succ]
                    refine reg_take (i := 12) (v := ?vtra12) rfl (by kernel_rfl) rfl hHeld ?ytra12 ?rtra12
                    case ytra12 => (intro w hSw; (try dsimp only at hSw); go_simp; all_goals with_reducible rfl)
                    try simp only [Act.put, List.setIfInBounds_toArray, List.set_cons_zero, List.set_cons_succ]
                    refine reg_loud (i := 13) rfl (by kernel_rfl) rfl (fun K hK => ?_)
                    go_simp
                    refine hK.out _ _ (trivial) (fun hNew => ?_)
                    clear hK K hHeld
                    have hHeld := hNew
                    clear hNew
                    try simp only [Act.put, List.setIfInBounds_toArray, List.set_cons_zero, List.set_cons_succ]
                    refine reg_loud (i := 14) rfl (by kernel_rfl) rfl (fun K hK => ?_)
                    have HROW := Lib.hid (HC2.out.own (by have := HPP.out.rows l HLT.out; rw [cntL_self] at this; exact this : wr.ownsRow w.heap.size 104 3 (V l) k (shC Q l k)) (fun _ _ => id))
                    refine wp_pushK _ _ 98 rfl w.heap.size 104 Tryd.infoShelf Tryd.underlying98 rfl (by decide) _ _ _ rfl (World.ownsRow.alloc HROW.out _) w2.heap.size 1 [.pointer (some ⟨q, 0, none⟩), .int .i64 l, .int .i64 k] rfl rfl ?hus ?h1 ?c1 ?c2 ?c3 ?_
                    case hus =>
                      intro j u hj
                      have hx := cell_of_row _ w2.heap.size j _ _ _ (heap_alloc_new w2 (.cells #[.pointer (some ⟨q, 0, none⟩), .int .i64 l, .int .i64 k] 104))
                      refine Eq.trans hx ?_
                      simpa using hj
                    case h1 => intro u hu; simp at hu; rcases hu with rfl | rfl | rfl <;> rfl
                    case c1 => have := HKP.out; unfold maxLen; omega
                    case c2 => have := HKP.out; omega
                    case c3 => have := HPW2.out; simp; omega
                    intro g cap w3 hown hgrow hor hlt3
                    have hgrow : (w2.alloc (.cells #[.pointer (some ⟨q, 0, none⟩), .int .i64 l, .int .i64 k] 104)).grownBy w3 (V l).ownBlock := hgrow
                    have hor : (V l).ownBlock = some g ∨ (w2.alloc (.cells #[.pointer (some ⟨q, 0, none⟩), .int .i64 l, .int .i64 k] 104)).heap.size ≤ g := hor
                    have HM3 := Lib.hid (HPP.out.mid HLT.out HC2.out (w2 := (w2.alloc (.cells #[.pointer (some ⟨q, 0, none⟩), .int .i64 l, .int .i64 k] 104))) (below_al w2 _) hgrow)
                    have hpu := HPP.out.push HLT.out (m := mm) (o := o) HTR.out HSS.out HC2.out (w2 := (w2.alloc (.cells #[.pointer (some ⟨q, 0, none⟩), .int .i64 l, .int .i64 k] 104))) (below_al w2 _) (v := .slice (some ⟨g, 0, none⟩) (k + 1) cap) (g := g) rfl (by rw [cntL_self]; exact hown) hgrow hor
                    rw [cntL_inc, cntL_self] at hpu
                    have HPU := Lib.hid hpu
                    have hor2 : (V l).ownBlock = some g ∨ we.heap.size ≤ g := hor.elim Or.inl (fun h => Or.inr (by simp at h; have := HC2.out.size; have := HC.out.size; omega))
                    have HOR := Lib.hid hor2
                    have HOK := Lib.hid (HO.out.push HBT.out)
                    have pc3 := HM3.out.1
                    have pf3 := HM3.out.2
                    clear hown hgrow hor hor2 hlt3 hpu pc2
                    refine hK.out _ _ (trivial) (fun hNew => ?_)
                    clear hK K hHeld
                    have hHeld := hNew
                    clear hNew
                    try simp only [Act.put, List.setIfInBounds_toArray, List.set_cons_zero, List.set_cons_succ]
                    refine reg_take (i := 17) (v := ?vtra17) rfl (by kernel_rfl) rfl hHeld ?ytra17 ?rtra17
                    case ytra17 => (intro w hSw; (try dsimp only at hSw); go_simp; all_goals with_reducible rfl)
                    try simp only [Act.put, List.setIfInBounds_toArray, List.set_cons_zero, List.set_cons_succ]
                    refine reg_loud (i := 18) rfl (by kernel_rfl) rfl (fun K hK => ?_)
                    go_simp
                    refine hK.out _ _ (trivial) (fun hNew => ?_)
                    clear hK K hHeld
                    have hHeld := hNew
                    clear hNew
                    try simp only [Act.put, List.setIfInBounds_toArray, List.set_cons_zero, List.set_cons_succ]
                    refine reg_done (by kernel_rfl) ?_ _
                    clear hHeld
                    go_wp2_with fail
                    go_roundw
                    case rel => exact ⟨k + 1, by have := HKP.out; omega, by go_num, _, _, _, _, HPU.out.1, HOK.out, HC.out.trans HPU.out.2 (fun j hj => hj.elim Or.inl (fun e => Or.inr (HG.out j e))), fun g' hg' => by
                      have e1 : putV V l (.slice (some ⟨g, 0, none⟩) (k + 1) cap) l = .slice (some ⟨g, 0, none⟩) (k + 1) cap := by simp [putV]
                      rw [e1] at hg'
                      simp only [Value.ownBlock, Option.some.injEq] at hg'
                      subst hg'
                      exact HOR.out.elim (fun e => HG.out _ e) id, fun l' hl' => by
                      have e1 : putV V l (.slice (some ⟨g, 0, none⟩) (k + 1) cap) l' = V l' := by unfold putV; rw [if_neg (by omega)]
                      rw [e1]; exact HVN.out l' hl'⟩
                    case measure => have := HKP.out; simp [intOf]; omega
                  case btr9 => 
                    go_simp
                    ((refine (HNEW.out 1).mono ?_))
                    rintro e w2 ⟨q, S', o, rfl, ⟨mm, hT⟩, hS', hbits, hC2⟩
                    have pc2 : w2.cell? ⟨w.heap.size, l, none⟩ = some (V l) := hC2.cell (p := ⟨w.heap.size, l, none⟩) pc id
                    have hpw2 : w.heap.size < w2.heap.size := by have := hC2.size; have := HPW.out; omega
                    have HPW2 := Lib.hid hpw2
                    have HTR := Lib.hid hT
                    have HSS := Lib.hid hS'
                    have HBT := Lib.hid hbits
                    have HC2 := Lib.hid hC2
                    clear hT hS' hbits hC2 HNEW
                    refine hK.out _ _ (trivial) (fun hNew => ?_)
                    clear hK K hHeld
                    have hHeld := hNew
                    clear hNew
                    try simp only [Act.put, List.setIfInBounds_toArray, List.set_cons_zero, List.set_cons_succ]
                    refine reg_take (i := 12) (v := ?vtrb12) rfl (by kernel_rfl) rfl hHeld ?ytrb12 ?rtrb12
                    case ytrb12 => (intro w hSw; (try dsimp only at hSw); go_simp; all_goals with_reducible rfl)
                    try simp only [Act.put, List.setIfInBounds_toArray, List.set_cons_zero, List.set_cons_succ]
                    refine reg_loud2 (i := 7) (j := 13) rfl rfl (by kernel_rfl) rfl rfl (fun K hK => ?btrb7) (fun K hK => ?btrb13)
                    case btrb7 => 
                      go_simp
                      refine hK.out _ _ (trivial) (fun hNew => ?_)
                      clear hK K hHeld
                      have hHeld := hNew
                      clear hNew
                      try simp only [Act.put, List.setIfInBounds_toArray, List.set_cons_zero, List.set_cons_succ]
                      refine reg_loud (i := 13) rfl (by kernel_rfl) rfl (fun K hK => ?_)
                      go_simp
                      refine hK.out _ _ (trivial) (fun hNew => ?_)
                      clear hK K hHeld
                      have hHeld := hNew
                      clear hNew
                      try simp only [Act.put, List.setIfInBounds_toArray, List.set_cons_zero, List.set_cons_succ]
                      refine reg_loud (i := 14) rfl (by kernel_rfl) rfl (fun K hK => ?_)
                      have HROW := Lib.hid (HC2.out.own (by have := HPP.out.rows l HLT.out; rw [cntL_self] at this; exact this : wr.ownsRow w.heap.size 104 3 (V l) k (shC Q l k)) (fun _ _ => id))
                      refine wp_pushK _ _ 98 rfl w.heap.size 104 Tryd.infoShelf Tryd.underlying98 rfl (by decide) _ _ _ rfl (World.ownsRow.alloc HROW.out _) w2.heap.size 1 [.pointer (some ⟨q, 0, none⟩), .int .i64 l, .int .i64 k] rfl rfl ?hus ?h1 ?c1 ?c2 ?c3 ?_
                      case hus =>
                        intro j u hj
                        have hx := cell_of_row _ w2.heap.size j _ _ _ (heap_alloc_new w2 (.cells #[.pointer (some ⟨q, 0, none⟩), .int .i64 l, .int .i64 k] 104))
                        refine Eq.trans hx ?_
                        simpa using hj
                      case h1 => intro u hu; simp at hu; rcases hu with rfl | rfl | rfl <;> rfl
                      case c1 => have := HKP.out; unfold maxLen; omega
                      case c2 => have := HKP.out; omega
                      case c3 => have := HPW2.out; simp; omega
                      intro g cap w3 hown hgrow hor hlt3
                      have hgrow : (w2.alloc (.cells #[.pointer (some ⟨q, 0, none⟩), .int .i64 l, .int .i64 k] 104)).grownBy w3 (V l).ownBlock := hgrow
                      have hor : (V l).ownBlock = some g ∨ (w2.alloc (.cells #[.pointer (some ⟨q, 0, none⟩), .int .i64 l, .int .i64 k] 104)).heap.size ≤ g := hor
                      have HM3 := Lib.hid (HPP.out.mid HLT.out HC2.out (w2 := (w2.alloc (.cells #[.pointer (some ⟨q, 0, none⟩), .int .i64 l, .int .i64 k] 104))) (below_al w2 _) hgrow)
                      have hpu := HPP.out.push HLT.out (m := mm) (o := o) HTR.out HSS.out HC2.out (w2 := (w2.alloc (.cells #[.pointer (some ⟨q, 0, none⟩), .int .i64 l, .int .i64 k] 104))) (below_al w2 _) (v := .slice (some ⟨g, 0, none⟩) (k + 1) cap) (g := g) rfl (by rw [cntL_self]; exact hown) hgrow hor
                      rw [cntL_inc, cntL_self] at hpu
                      have HPU := Lib.hid hpu
                      have hor2 : (V l).ownBlock = some g ∨ we.heap.size ≤ g := hor.elim Or.inl (fun h => Or.inr (by simp at h; have := HC2.out.size; have := HC.out.size; omega))
                      have HOR := Lib.hid hor2
                      have HOK := Lib.hid (HO.out.push HBT.out)
                      have pc3 := HM3.out.1
                      have pf3 := HM3.out.2
                      clear hown hgrow hor hor2 hlt3 hpu pc2
                      refine hK.out _ _ (trivial) (fun hNew => ?_)
                      clear hK K hHeld
                      have hHeld := hNew
                      clear hNew
                      try simp only [Act.put, List.setIfInBounds_toArray, List.set_cons_zero, List.set_cons_succ]
                      refine reg_take (i := 17) (v := ?vtrba17) rfl (by kernel_rfl) rfl hHeld ?ytrba17 ?rtrba17
                      case ytrba17 => (intro w hSw; (try dsimp only at hSw); go_simp; all_goals with_reducible rfl)
                      try simp only [Act.put, List.setIfInBounds_toArray, List.set_cons_zero, List.set_cons_succ]
                      refine reg_loud (i := 18) rfl (by kernel_rfl) rfl (fun K hK => ?_)
                      go_simp
                      refine hK.out _ _ (trivial) (fun hNew => ?_)
                      clear hK K hHeld
                      have hHeld := hNew
                      clear hNew
                      try simp only [Act.put, List.setIfInBounds_toArray, List.set_cons_zero, List.set_cons_succ]
                      refine reg_done (by kernel_rfl) ?_ _
                      clear hHeld
                      go_wp2_with fail
                      go_roundw
                      case rel => exact ⟨k + 1, by have := HKP.out; omega, by go_num, _, _, _, _, HPU.out.1, HOK.out, HC.out.trans HPU.out.2 (fun j hj => hj.elim Or.inl (fun e => Or.inr (HG.out j e))), fun g' hg' => by
                        have e1 : putV V l (.slice (some ⟨g, 0, none⟩) (k + 1) cap) l = .slice (some ⟨g, 0, none⟩) (k + 1) cap := by simp [putV]
                        rw [e1] at hg'
                        simp only [Value.ownBlock, Option.some.injEq] at hg'
                        subst hg'
                        exact HOR.out.elim (fun e => HG.out _ e) id, fun l' hl' => by
                        have e1 : putV V l (.slice (some ⟨g, 0, none⟩) (k + 1) cap) l' = V l' := by unfold putV; rw [if_neg (by omega)]
                        rw [e1]; exact HVN.out l' hl'⟩
                      case measure => have := HKP.out; simp [intOf]; omega
                    case btrb13 => 
                      go_simp
                      refine hK.out _ _ (trivial) (fun hNew => ?_)
                      clear hK K hHeld
                      have hHeld := hNew
                      clear hNew
                      try simp only [Act.put, List.setIfInBounds_toArray, List.set_cons_zero, List.set_cons_succ]
                      refine reg_loud (i := 7) rfl (by kernel_rfl) rfl (fun K hK => ?_)
                      go_simp
                      refine hK.out _ _ (trivial) (fun hNew => ?_)
                      clear hK K hHeld
                      have hHeld := hNew
                      clear hNew
                      try simp only [Act.put, List.setIfInBounds_toArray, List.set_cons_zero, List.set_cons_succ]
                      refine reg_loud (i := 14) rfl (by kernel_rfl) rfl (fun K hK => ?_)
                      have HROW := Lib.hid (HC2.out.own (by have := HPP.out.rows l HLT.out; rw [cntL_self] at this; exact this : wr.ownsRow w.heap.size 104 3 (V l) k (shC Q l k)) (fun _ _ => id))
                      refine wp_pushK _ _ 98 rfl w.heap.size 104 Tryd.infoShelf Tryd.underlying98 rfl (by decide) _ _ _ rfl (World.ownsRow.alloc HROW.out _) w2.heap.size 1 [.pointer (some ⟨q, 0, none⟩), .int .i64 l, .int .i64 k] rfl rfl ?hus ?h1 ?c1 ?c2 ?c3 ?_
                      case hus =>
                        intro j u hj
                        have hx := cell_of_row _ w2.heap.size j _ _ _ (heap_alloc_new w2 (.cells #[.pointer (some ⟨q, 0, none⟩), .int .i64 l, .int .i64 k] 104))
                        refine Eq.trans hx ?_
                        simpa using hj
                      case h1 => intro u hu; simp at hu; rcases hu with rfl | rfl | rfl <;> rfl
                      case c1 => have := HKP.out; unfold maxLen; omega
                      case c2 => have := HKP.out; omega
                      case c3 => have := HPW2.out; simp; omega
                      intro g cap w3 hown hgrow hor hlt3
                      have hgrow : (w2.alloc (.cells #[.pointer (some ⟨q, 0, none⟩), .int .i64 l, .int .i64 k] 104)).grownBy w3 (V l).ownBlock := hgrow
                      have hor : (V l).ownBlock = some g ∨ (w2.alloc (.cells #[.pointer (some ⟨q, 0, none⟩), .int .i64 l, .int .i64 k] 104)).heap.size ≤ g := hor
                      have HM3 := Lib.hid (HPP.out.mid HLT.out HC2.out (w2 := (w2.alloc (.cells #[.pointer (some ⟨q, 0, none⟩), .int .i64 l, .int .i64 k] 104))) (below_al w2 _) hgrow)
                      have hpu := HPP.out.push HLT.out (m := mm) (o := o) HTR.out HSS.out HC2.out (w2 := (w2.alloc (.cells #[.pointer (some ⟨q, 0, none⟩), .int .i64 l, .int .i64 k] 104))) (below_al w2 _) (v := .slice (some ⟨g, 0, none⟩) (k + 1) cap) (g := g) rfl (by rw [cntL_self]; exact hown) hgrow hor
                      rw [cntL_inc, cntL_self] at hpu
                      have HPU := Lib.hid hpu
                      have hor2 : (V l).ownBlock = some g ∨ we.heap.size ≤ g := hor.elim Or.inl (fun h => Or.inr (by simp at h; have := HC2.out.size; have := HC.out.size; omega))
                      have HOR := Lib.hid hor2
                      have HOK := Lib.hid (HO.out.push HBT.out)
                      have pc3 := HM3.out.1
                      have pf3 := HM3.out.2
                      clear hown hgrow hor hor2 hlt3 hpu pc2
                      refine hK.out _ _ (trivial) (fun hNew => ?_)
                      clear hK K hHeld
                      have hHeld := hNew
                      clear hNew
                      try simp only [Act.put, List.setIfInBounds_toArray, List.set_cons_zero, List.set_cons_succ]
                      refine reg_take (i := 17) (v := ?vtrbb17) rfl (by kernel_rfl) rfl hHeld ?ytrbb17 ?rtrbb17
                      case ytrbb17 => (intro w hSw; (try dsimp only at hSw); go_simp; all_goals with_reducible rfl)
                      try simp only [Act.put, List.setIfInBounds_toArray, List.set_cons_zero, List.set_cons_succ]
                      refine reg_loud (i := 18) rfl (by kernel_rfl) rfl (fun K hK => ?_)
                      go_simp
                      refine hK.out _ _ (trivial) (fun hNew => ?_)
                      clear hK K hHeld
                      have hHeld := hNew
                      clear hNew
                      try simp only [Act.put, List.setIfInBounds_toArray, List.set_cons_zero, List.set_cons_succ]
                      refine reg_done (by kernel_rfl) ?_ _
                      clear hHeld
                      go_wp2_with fail
                      go_roundw
                      case rel => exact ⟨k + 1, by have := HKP.out; omega, by go_num, _, _, _, _, HPU.out.1, HOK.out, HC.out.trans HPU.out.2 (fun j hj => hj.elim Or.inl (fun e => Or.inr (HG.out j e))), fun g' hg' => by
                        have e1 : putV V l (.slice (some ⟨g, 0, none⟩) (k + 1) cap) l = .slice (some ⟨g, 0, none⟩) (k + 1) cap := by simp [putV]
                        rw [e1] at hg'
                        simp only [Value.ownBlock, Option.some.injEq] at hg'
                        subst hg'
                        exact HOR.out.elim (fun e => HG.out _ e) id, fun l' hl' => by
                        have e1 : putV V l (.slice (some ⟨g, 0, none⟩) (k + 1) cap) l' = V l' := by unfold putV; rw [if_neg (by omega)]
                        rw [e1]; exact HVN.out l' hl'⟩
                      case measure => have := HKP.out; simp [intOf]; omega
                  -- END OF REGION tree
                · obtain rfl : k = pw l := by omega
                  have HN := Lib.hid hO.next
                  have HP2 := Lib.hid hP
                  have HVN := Lib.hid hVn
                  have hbn : Below w.heap.size we wr := hC.below (fun j e => by omega) HBE.out.size
                  have HB2 := Lib.hid (HBE.out.trans hbn)
                  clear hP hO hC hG hVn hbn
                  go_wp2_with fail
                  go_roundw
                  case rel => exact ⟨l + 1, by omega, by go_num, V, Q, O, S, by rw [← cntL_next]; exact HP2.out, HN.out, fun l' hl' => HVN.out l' (by omega), HB2.out⟩
                  case measure => simp [intOf]; omega
        · obtain rfl : l = 9 := by omega
          have HD := Lib.hid (hP.done cntL_done hb.size)
          have HL := Lib.hid hO.done
          have HB := Lib.hid hb
          clear hP hO hb hVn
          go_wp2_with fail
          go_ret2
          obtain ⟨D, hD⟩ := HD.out
          exact ⟨_, D, O, rfl, hD, HL.out, HB.out⟩

end Go.Proofs.YtcppgpjodfeigaaDoor

namespace Go.Proofs.YtcppgpjodfeigaaDoor
set_option linter.unusedVariables false
set_option linter.unusedSimpArgs false
open Go.RowKit

set_option maxHeartbeats 3200000 in
set_option maxRecDepth 100000 in
theorem wNew_bad {w : World} {a : Option Addr} {c : Nat} {x : Int} (hr : ReadsV w a [.int .i64 x]) (hx : symIs x = false) :
    Calls Tryd.prog 40 #[.slice a 1 c] w fun e w' => e = .returned (.tuple #[.pointer none, .int .i64 1]) ∧ Below w.heap.size w w' := by
  obtain ⟨b, off, rfl, hb, hc⟩ := hr 0 (by simp)
  have hc0 : w.cell? ⟨b, off, none⟩ = some (.int .i64 x) := hc 0 _ rfl
  have HIS : Hid (∀ w, Calls Tryd.prog 80 #[.int .i64 x] w fun e w' => e = .returned (.bool false) ∧ w = w') := Lib.hid (fun w => by rw [← hx]; exact symIs_any x w)
  have HB := Lib.hid (fun o => below_al w o)
  clear hc hr hx
  go_enter Tryd.func40, Tryd.ntmps40
  go_wp2_with fail
  refine wp_loop_rounds 1 ?_
  rw [rounds_succ]
  go_wp2_with fail
  refine (HIS.out _).mono ?_
  rintro e w' ⟨rfl, rfl⟩
  go_wp2_with fail
  go_ret2
  exact ⟨rfl, HB.out _⟩

theorem oneS (m : List Nat) : ∀ u ∈ m.map wsV, u.oneCell' = true := fun u hu => by obtain ⟨b, _, rfl⟩ := List.mem_map.1 hu; rfl

set_option maxHeartbeats 3200000 in
theorem law7Syms_any (a : Option Addr) (c : Nat) (z : List Int) (most : Nat) (few : Bool) (w : World) (hr : Reads w .i64 a z) (hm : most ≤ 100000) (hz : z.length ≤ maxLen) :
    Calls Tryd.prog 39 #[.slice a z.length c, .int .i64 most, .bool few] w fun e w' => ∃ (m : List Nat) (v : Value), e = .returned v ∧ m.length = min z.length most ∧ Syms m ∧ w'.ownsRow w.heap.size 3 1 v m.length (m.map wsV) ∧ Below w.heap.size w w' := by
  unfold maxLen at hz
  go_enter Tryd.func39, Tryd.ntmps39
  go_wp2_with fail
  go_loopw [7, 8] (fun v i wr => ∃ (k : Nat) (m : List Nat), k ≤ z.length ∧ k ≤ most ∧ m.length = k ∧ i = .int .i64 k ∧ Syms m ∧ wr.ownsRow w.heap.size 3 1 v k (m.map wsV) ∧ Below w.heap.size w wr) (fun _ i _ => z.length - (intOf i).toNat)
  case atStart => exact ⟨0, [], Nat.zero_le _, Nat.zero_le _, rfl, rfl, fun s hs => by simp at hs, World.ownsRow_nil _ _ _ _, Below.refl _ _⟩
  case round =>
    obtain ⟨k, m, hk, hkm, hml, rfl, hS, hown, hb⟩ := hrel
    obtain ⟨vv, hvv⟩ : ∃ vv : Value, vv = u7 := ⟨_, rfl⟩
    by_cases hlt : k < z.length ∧ k < most
    · obtain ⟨h1, h2⟩ := hlt
      obtain ⟨b, off, rfl, hbl, hcells⟩ := hr.some (by omega)
      have hc0 : wr.cell? ⟨b, off + k, none⟩ = some (.int .i64 (z[k]?.getD 0)) := (hb.cell (p := ⟨b, off + k, none⟩) hbl).trans (hcells k h1)
      generalize z[k]?.getD 0 = x at *
      obtain ⟨u, hu0, hu1, hu⟩ : ∃ u : Int, 0 ≤ u ∧ u < 18446744073709551616 ∧ IntKind.u64.wrap x = u := ⟨IntKind.u64.wrap x, by rw [IntKind.wrap_u64]; omega, by rw [IntKind.wrap_u64]; omega, rfl⟩
      have hs := hb.size
      obtain ⟨v, c', rfl, _, _⟩ := own_slice hown
      have HB := Lib.hid hb
      have HML := Lib.hid hml
      have HSY := Lib.hid hS
      clear hcells hb hml hS
      cases few
      · obtain ⟨n, hn0, hn⟩ : ∃ n : Nat, n < 257 ∧ u % 257 = (n : Int) := ⟨(u % 257).toNat, by omega, by omega⟩
        have HNN := Lib.hid hn0
        go_wp2_with (at_builtin; refine wpList_push rfl _ _ 22 rfl w.heap.size 3 Tryd.infoIntG Tryd.underlying22 rfl _ _ _ rfl hown rfl rfl ?c1 ?c2 ?c3 ?_)
        case c1 => unfold maxLen; omega
        case c2 => omega
        case c3 => omega
        intro v' w1 hown' hgrow
        have HNX : Hid (Below w.heap.size w w1) := Lib.hid (HB.out.grown hgrow hs (fun j hj => (hown.lt j hj).1))
        have HO : Hid (w1.ownsRow w.heap.size 3 1 v' (k + 1) ((m ++ [n]).map wsV)) := Lib.hid (by
          rw [List.map_append]
          simpa [wsV] using hown')
        clear hown hown' hgrow
        go_wp2_with fail
        go_roundw
        case rel => exact ⟨k + 1, m ++ [n], by omega, by omega, by rw [List.length_append, HML.out]; rfl, by go_num, fun s hs => by
          rcases List.mem_append.1 hs with hs | hs
          · exact HSY.out s hs
          · simp at hs; have := HNN.out; omega, HO.out, HNX.out⟩
        case measure => simp [intOf]; omega
      · obtain ⟨n, hn0, hn⟩ : ∃ n : Nat, n < 4 ∧ u % 4 = (n : Int) := ⟨(u % 4).toNat, by omega, by omega⟩
        have HNN := Lib.hid hn0
        go_wp2_with (at_builtin; refine wpList_push rfl _ _ 22 rfl w.heap.size 3 Tryd.infoIntG Tryd.underlying22 rfl _ _ _ rfl hown rfl rfl ?c1 ?c2 ?c3 ?_)
        case c1 => unfold maxLen; omega
        case c2 => omega
        case c3 => omega
        intro v' w1 hown' hgrow
        have HNX : Hid (Below w.heap.size w w1) := Lib.hid (HB.out.grown hgrow hs (fun j hj => (hown.lt j hj).1))
        have HO : Hid (w1.ownsRow w.heap.size 3 1 v' (k + 1) ((m ++ [97 + n]).map wsV)) := Lib.hid (by
          rw [List.map_append]
          simpa [wsV] using hown')
        clear hown hown' hgrow
        go_wp2_with fail
        go_roundw
        case rel => exact ⟨k + 1, m ++ [97 + n], by omega, by omega, by rw [List.length_append, HML.out]; rfl, by go_num, fun s hs => by
          rcases List.mem_append.1 hs with hs | hs
          · exact HSY.out s hs
          · simp at hs; have := HNN.out; omega, HO.out, HNX.out⟩
        case measure => simp [intOf]; omega
    · have hor : k = z.length ∨ (k < z.length ∧ k = most) := by omega
      have HF : Hid (m.length = min z.length most ∧ Syms m ∧ wr.ownsRow w.heap.size 3 1 vv m.length (m.map wsV) ∧ Below w.heap.size w wr) := Lib.hid ⟨by omega, hS, by rw [hml, hvv]; exact hown, hb⟩
      subst hvv
      clear hS hown hb hml
      rcases hor with rfl | ⟨h1, rfl⟩
      · go_wp2_with fail
        go_ret
        exact ⟨m, _, rfl, HF.out⟩
      · have hd : decide ((k : Int) < (k : Int)) = false := by simp
        go_wp2_with fail
        go_ret
        exact ⟨m, _, rfl, HF.out⟩

end Go.Proofs.YtcppgpjodfeigaaDoor
