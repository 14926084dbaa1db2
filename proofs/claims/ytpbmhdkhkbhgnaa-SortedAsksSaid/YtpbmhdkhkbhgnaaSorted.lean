/- Contracts of package sorted: the closures of Rows. -/
import Derived.Test.YtpbmhdkhkbhgnaaSortedQ
import Derived.Test.YtpbmhdkhkbhgnaaReg
import Derived.Test.YtpbmhdkhkbhgnaaRowsV
import Derived.Deep.QuietTactic
import Derived.BigQuiet
namespace Go.Proofs.Ytpbmhdkhkbhgnaa
set_option linter.unusedVariables false
set_option linter.unusedSimpArgs false
open Go.RowKit

/-- What the closures of Rows read: how wide, how many, the ranks. -/
structure RkAt (w : World) (bw bn br g cap wide : Nat) (rk : List Int) : Prop where
  wide : w.cell? ⟨bw, 0, none⟩ = some (.int .i64 wide)
  n : w.cell? ⟨bn, 0, none⟩ = some (.int .i64 rk.length)
  row : w.cell? ⟨br, 0, none⟩ = some (.slice (some ⟨g, 0, none⟩) rk.length cap)
  rd : ∀ i, i < rk.length → w.cell? ⟨g, i, none⟩ = some (.int .i64 (sy rk i))

set_option maxHeartbeats 800000 in
theorem behind_any {w : World} {bw bn br g cap wide : Nat} {rk : List Int} (h : RkAt w bw bn br g cap wide rk) (i : Nat) (hi : i < rk.length) (hl : rk.length ≤ 1000000000) (hw : wide ≤ 1000000000) :
    Calls Try.prog 55 #[.int .i64 i, .pointer (some ⟨bw, 0, none⟩), .pointer (some ⟨bn, 0, none⟩), .pointer (some ⟨br, 0, none⟩)] w fun e w' => e = .returned (.int .i64 (sy rk (i + wide))) ∧ w = w' := by
  obtain ⟨h1, h2, h3, h4⟩ := h
  by_cases hc : i + wide < rk.length
  · have h5 := h4 (i + wide) hc
    clear h4
    generalize sy rk (i + wide) = x at *
    have d1 : decide ((i : Int) + (wide : Int) < (rk.length : Int)) = true := by simp; omega
    go_enter Try.func55, Try.ntmps55
    go_wp2_with fail
    go_ret
    exact ⟨rfl, rfl⟩
  · have e : sy rk (i + wide) = -1 := sy_over (by omega)
    rw [e]
    clear h4 e
    have d1 : decide ((i : Int) + (wide : Int) < (rk.length : Int)) = false := by simp; omega
    go_enter Try.func55, Try.ntmps55
    go_wp2_with fail
    go_ret
    exact ⟨rfl, rfl⟩

theorem quiet_left {P : Program} {f : FuncId} {args : Array Value} {w : World} {n : Nat} {v : Value}
    (h : Calls P f args (w.drewN n) fun e w' => e = .returned v ∧ w.drewN n = w') : Calls P f args (w.drewN n) fun e w'' => e = .returned v ∧ ∃ m, w'' = w.drewN m :=
  h.mono fun _ _ ⟨he, hm⟩ => ⟨he, n, hm.symm⟩
/-- A quiet call behind a quiet region. -/
theorem quiet_add_left {P : Program} {f : FuncId} {args : Array Value} {w : World} {a n : Nat} {v : Value}
    (h : Calls P f args (w.drewN (a + n)) fun e w' => e = .returned v ∧ w.drewN (a + n) = w') : Calls P f args (w.drewN (a + n)) fun e w'' => e = .returned v ∧ ∃ m, w'' = w.drewN (a + m) :=
  h.mono fun _ _ ⟨he, hm⟩ => ⟨he, n, hm.symm⟩
theorem RkAt.drewN {w : World} {bw bn br g cap wide : Nat} {rk : List Int} (h : RkAt w bw bn br g cap wide rk) (n : Nat) : RkAt (w.drewN n) bw bn br g cap wide rk := ⟨h.wide, h.n, h.row, h.rd⟩

set_option maxHeartbeats 1600000 in
theorem order_any {w : World} {bw bn br bf g cap wide : Nat} {rk : List Int} (h : RkAt w bw bn br g cap wide rk)
    (hf : w.cell? ⟨bf, 0, none⟩ = some (.func (.func 55) #[] #[.pointer (some ⟨bw, 0, none⟩), .pointer (some ⟨bn, 0, none⟩), .pointer (some ⟨br, 0, none⟩)]))
    (a b : Nat) (ha : a < rk.length) (hb : b < rk.length) (hl : rk.length ≤ 1000000000) (hw : wide ≤ 1000000000) (hr : ∀ i, -1 ≤ sy rk i ∧ sy rk i ≤ 1000000000) :
    Calls Try.prog 56 #[.int .i64 a, .int .i64 b, .pointer (some ⟨br, 0, none⟩), .pointer (some ⟨bf, 0, none⟩)] w fun e w' => e = .returned (.int .i64 (ordV rk wide a b)) ∧ ∃ n, w' = w.drewN n := by
  have ka := h.rd a ha
  have kb := h.rd b hb
  have kr := h.row
  have HA : Hid (∀ n, Calls Try.prog 55 #[.int .i64 a, .pointer (some ⟨bw, 0, none⟩), .pointer (some ⟨bn, 0, none⟩), .pointer (some ⟨br, 0, none⟩)] (w.drewN n) fun e w' => e = .returned (.int .i64 (sy rk (a + wide))) ∧ w.drewN n = w') := fun n => behind_any (h.drewN n) a ha hl hw
  have HB : Hid (∀ n, Calls Try.prog 55 #[.int .i64 b, .pointer (some ⟨bw, 0, none⟩), .pointer (some ⟨bn, 0, none⟩), .pointer (some ⟨br, 0, none⟩)] (w.drewN n) fun e w' => e = .returned (.int .i64 (sy rk (b + wide))) ∧ w.drewN n = w') := fun n => behind_any (h.drewN n) b hb hl hw
  obtain ⟨ra0, ra1⟩ := hr a
  obtain ⟨rb0, rb1⟩ := hr b
  obtain ⟨sa0, sa1⟩ := hr (a + wide)
  obtain ⟨sb0, sb1⟩ := hr (b + wide)
  have HV : Hid (ordV rk wide a b = if sy rk a = sy rk b then sy rk (a + wide) - sy rk (b + wide) else sy rk a - sy rk b) := rfl
  generalize sy rk a = x at *
  generalize sy rk b = y at *
  generalize sy rk (a + wide) = u at *
  generalize sy rk (b + wide) = v at *
  clear h hr
  have i0 : (0 : Int) ≤ (a : Int) := by omega
  have i1 : (a : Int) < (rk.length : Int) := by omega
  have j0 : (0 : Int) ≤ (b : Int) := by omega
  have j1 : (b : Int) < (rk.length : Int) := by omega
  have ew1 : IntKind.i64.wrap (x - y) = x - y := IntWalk.i64_in _ (by omega)
  by_cases hxy : x = y
  · have e : (x != y) = false := by simp [hxy]
    have HR : Hid (ordV rk wide a b = u - v) := by show _ = _; rw [HV.out, if_pos hxy]
    have HX := Lib.hid hxy
    have ew : IntKind.i64.wrap (u - v) = u - v := IntWalk.i64_in _ (by omega)
    clear hxy
    go_enter Try.func56, Try.ntmps56
    go_wp2_with fail
    go_quiet (fail)
    go_wp2_with fail
    go_quiet ((go_at_call 55; first | with_reducible exact quiet_add_left (HA.out _) | with_reducible exact quiet_add_left (HB.out _)))
    go_wp2_with fail
    go_ret
    exact ⟨ret_int HR.out.symm, _, World.drewN_drewN _ _ _⟩
  · have e : (x != y) = true := by simp [hxy]
    have HR : Hid (ordV rk wide a b = x - y) := by show _ = _; rw [HV.out, if_neg hxy]
    clear hxy
    go_enter Try.func56, Try.ntmps56
    go_wp2_with fail
    go_quiet (fail)
    go_wp2_with fail
    go_quiet (fail)
    go_wp2_with fail
    go_ret
    exact ⟨ret_int HR.out.symm, _, World.drewN_drewN _ _ _⟩

end Go.Proofs.Ytpbmhdkhkbhgnaa
