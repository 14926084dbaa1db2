/- Contracts of package tally: Add. -/
import Derived.Test.YtpbmhdkhkbhgnaaTally
namespace Go.Proofs.Ytpbmhdkhkbhgnaa
set_option linter.unusedVariables false
set_option linter.unusedSimpArgs false
open Go.RowKit

theorem tAdd_nil (s n : Int) (w : World) : Calls Try.prog 89 #[.pointer none, .int .i64 s, .int .i64 n] w fun e w' => e = .returned (.int .i64 6) ∧ w = w' := by
  go_enter Try.func89, Try.ntmps89
  go_wp2
  go_ret
  exact ⟨rfl, rfl⟩

theorem tAdd_bad {w : World} {p : Nat} {s n : Int} (hs : ¬ (0 ≤ s ∧ s < 257)) : Calls Try.prog 89 #[.pointer (some ⟨p, 0, none⟩), .int .i64 s, .int .i64 n] w fun e w' => e = .returned (.int .i64 1) ∧ w = w' := by
  have e : symIs s = false := symIs_false hs
  go_enter Try.func89, Try.ntmps89
  go_wp2_with (go_at_call 90; refine (symIs_any _ _).mono ?_; rintro e w' ⟨rfl, rfl⟩)
  go_ret
  exact ⟨rfl, rfl⟩

theorem tAdd_range {w : World} {p : Nat} {t : Tl} (h : IsTally w p t) {s n : Int} (hs0 : 0 ≤ s) (hs1 : s < 257) (hn : n < -t.N s.toNat ∨ 2147483648 - t.all < n) :
    Calls Try.prog 89 #[.pointer (some ⟨p, 0, none⟩), .int .i64 s, .int .i64 n] w fun e w' => e = .returned (.int .i64 2) ∧ w = w' := by
  have e : symIs s = true := symIs_true hs0 hs1
  have hc : w.cell? ⟨p, s.toNat, none⟩ = some (.int .i64 (t.N s.toNat)) := by rw [cell_of_row w p s.toNat _ _ _ h.at_, tlV_get t (by omega)]
  have hc2 : w.cell? ⟨p, 257, none⟩ = some (.int .i64 t.all) := by rw [cell_of_row w p 257 _ _ _ h.at_, tlV_all]
  have b1 := h.ok.pos s.toNat (by omega)
  have b2 := h.ok.le (s := s.toNat) (by omega)
  have b3 := h.ok.max
  have b4 := h.ok.all_pos
  generalize t.N s.toNat = N at *
  generalize t.all = all at *
  clear h
  by_cases h1 : n < -N
  · have d1 : decide (n < -N) = true := by simpa using h1
    clear hn
    go_enter Try.func89, Try.ntmps89
    go_wp2_with (go_at_call 90; refine (symIs_any _ _).mono ?_; rintro e w' ⟨rfl, rfl⟩)
    go_ret
    exact ⟨rfl, rfl⟩
  · have h2 : 2147483648 - all < n := by omega
    have d1 : decide (n < -N) = false := by simpa using h1
    have d2 : decide (2147483648 - all < n) = true := by simpa using h2
    clear hn
    go_enter Try.func89, Try.ntmps89
    go_wp2_with (go_at_call 90; refine (symIs_any _ _).mono ?_; rintro e w' ⟨rfl, rfl⟩)
    go_ret
    exact ⟨rfl, rfl⟩

set_option maxHeartbeats 1600000 in
theorem tAdd_good {w : World} {p : Nat} {t : Tl} (h : IsTally w p t) {s n : Int} (hs0 : 0 ≤ s) (hs1 : s < 257) (hn1 : -t.N s.toNat ≤ n) (hn2 : n ≤ 2147483648 - t.all) :
    Calls Try.prog 89 #[.pointer (some ⟨p, 0, none⟩), .int .i64 s, .int .i64 n] w fun e w' => e = .returned (.int .i64 0) ∧ IsTally w' p (t.add s.toNat n) ∧ Chg (fun k => k = p) w w' := by
  have e : symIs s = true := symIs_true hs0 hs1
  have hc : w.cell? ⟨p, s.toNat, none⟩ = some (.int .i64 (t.N s.toNat)) := by rw [cell_of_row w p s.toNat _ _ _ h.at_, tlV_get t (by omega)]
  have hc2 : w.cell? ⟨p, 257, none⟩ = some (.int .i64 t.all) := by rw [cell_of_row w p 257 _ _ _ h.at_, tlV_all]
  have hf : w.frozen? ⟨p, s.toNat, none⟩ = false := frozen_of_row w p _ _ _ h.at_
  have hf2 : w.frozen? ⟨p, 257, none⟩ = false := frozen_of_row w p _ _ _ h.at_
  have b1 := h.ok.pos s.toNat (by omega)
  have b2 := h.ok.le (s := s.toNat) (by omega)
  have b3 := h.ok.max
  have b4 := h.ok.all_pos
  have hok := Tl.add_ok h.ok (s := s.toNat) (by omega) hn1 hn2
  have HOK := Lib.hid hok
  have HAT := Lib.hid h.at_
  have HV := Lib.hid (tlV_add t (s := s.toNat) (by omega) n)
  generalize t.N s.toNat = N at *
  generalize hall : t.all = all at *
  have d1 : decide (n < -N) = false := by simp; omega
  have d2 : decide (2147483648 - all < n) = false := by simp; omega
  have hne : s.toNat ≠ 257 := by omega
  have HALL := Lib.hid hall
  clear h hok hall
  go_enter Try.func89, Try.ntmps89
  go_wp2_with (go_at_call 90; refine (symIs_any _ _).mono ?_; rintro e w' ⟨rfl, rfl⟩)
  go_region
  go_wp2
  go_ret
  refine ⟨rfl, ⟨HOK.out, ?_⟩, ?_⟩
  · have h1 := heap_setCell_same _ p 257 _ _ (.int .i64 (all + n)) (heap_setCell_same w p s.toNat _ _ (.int .i64 (N + n)) HAT.out)
    rw [HV.out] at h1
    exact h1
  · exact (((Chg.refl (S := fun k => k = p)).setCell ⟨p, s.toNat, none⟩ (Or.inl rfl) _).setCell ⟨p, 257, none⟩ (Or.inl rfl) _).drew

/-- What Add does, all in all. -/
def Tl.step (t : Tl) (s n : Int) : Int × Tl := if 0 ≤ s ∧ s < 257 then (if n < -t.N s.toNat ∨ 2147483648 - t.all < n then (2, t) else (0, t.add s.toNat n)) else (1, t)

theorem tAdd_any {w : World} {p : Nat} {t : Tl} (h : IsTally w p t) (s n : Int) :
    Calls Try.prog 89 #[.pointer (some ⟨p, 0, none⟩), .int .i64 s, .int .i64 n] w fun e w' => e = .returned (.int .i64 (t.step s n).1) ∧ IsTally w' p (t.step s n).2 ∧ Chg (fun k => k = p) w w' := by
  by_cases hs : 0 ≤ s ∧ s < 257
  · by_cases hn : n < -t.N s.toNat ∨ 2147483648 - t.all < n
    · have e : t.step s n = (2, t) := by unfold Tl.step; rw [if_pos hs, if_pos hn]
      rw [e]
      refine (tAdd_range h hs.1 hs.2 hn).mono ?_
      rintro e w' ⟨rfl, rfl⟩
      exact ⟨rfl, h, Chg.refl⟩
    · have e : t.step s n = (0, t.add s.toNat n) := by unfold Tl.step; rw [if_pos hs, if_neg hn]
      rw [e]
      exact tAdd_good h hs.1 hs.2 (by omega) (by omega)
  · have e : t.step s n = (1, t) := by unfold Tl.step; rw [if_neg hs]
    rw [e]
    refine (tAdd_bad hs).mono ?_
    rintro e w' ⟨rfl, rfl⟩
    exact ⟨rfl, h, Chg.refl⟩

/-- New of symbols. -/
theorem tNew_good {w : World} {a : Option Addr} {c : Nat} {l : List Int} (hl : Reads w .i64 a l) (hs : ∀ x ∈ l, 0 ≤ x ∧ x < 257) (hlen : l.length ≤ 2147483648) :
    Calls Try.prog 59 #[.slice a l.length c] w fun e w' => e = .returned (.tuple #[.pointer (some ⟨w.heap.size, 0, none⟩), .int .i64 0]) ∧ IsTally w' w.heap.size (Tl.of l) ∧ Below w.heap.size w w' := by
  have hz := tzero
  have h0 : IsTally (w.alloc (.cells (tlV Tl.zero) 97)) w.heap.size Tl.zero := ⟨Tl.zero_ok, heap_alloc_new w _⟩
  generalize hV : tlV Tl.zero = V at *
  have H0 := Lib.hid h0
  clear h0 hV
  go_enter Try.func59, Try.ntmps59
  go_wp2_with fail
  go_loopw [12] (fun i wr => ∃ k : Nat, k ≤ l.length ∧ i = .int .i64 k ∧ IsTally wr w.heap.size (Tl.of (l.take k)) ∧ Below w.heap.size w wr) (fun i _ => l.length - (intOf i).toNat)
  case atStart => exact ⟨0, by omega, rfl, H0.out, (Below.refl _ _).alloc (Nat.le_refl _) _⟩
  case round =>
    obtain ⟨k, hk, rfl, hT, hb⟩ := hrel
    have hs1 := hb.size
    by_cases hlt : k < l.length
    · obtain ⟨b, off, rfl, hbl, hcells⟩ := hl.some (by omega)
      have hcx := (hb.cell (p := ⟨b, off + k, none⟩) hbl).trans (hcells k hlt)
      have hx := hs l[k] (List.getElem_mem _)
      have e : l.take (k + 1) = l.take k ++ [((l[k].toNat : Nat) : Int)] := by
        rw [List.take_succ_eq_append_getElem hlt, Int.toNat_of_nonneg hx.1]
      have e2 : Tl.of (l.take (k + 1)) = (Tl.of (l.take k)).add l[k].toNat 1 := by rw [e, Tl.of_snoc]
      have h1 := hT.ok.pos l[k].toNat (by omega)
      have h2 : (1 : Int) ≤ 2147483648 - (Tl.of (l.take k)).all := by
        show (1 : Int) ≤ 2147483648 - ((l.take k).length : Int)
        rw [List.length_take]; omega
      rw [List.getElem?_eq_getElem hlt, Option.getD_some] at hcx
      have hadd := tAdd_good hT hx.1 hx.2 (n := 1) (by omega) h2
      rw [← e2] at hadd
      have HADD := Lib.hid hadd
      generalize l[k] = x at *
      clear hcells e e2 h1 h2 hadd
      go_wp2_with fail
      refine HADD.out.mono ?_
      rintro e w2 ⟨rfl, hT2, hc2⟩
      have hb2 : Below w.heap.size w w2 := hb.trans (hc2.below (fun b hb => by subst hb; exact Nat.le_refl _) hs1)
      clear hT
      go_wp2_with fail
      go_roundw
      case rel => exact ⟨k + 1, by omega, by simp, hT2, hb2⟩
      case measure => simp [intOf]; omega
    · have hkl : k = l.length := by omega
      rw [hkl, List.take_length] at hT
      clear hkl
      go_wp2_with fail
      go_ret2
      exact ⟨rfl, hT, hb⟩

/-- New of one that is no symbol. -/
theorem tNew_bad {w : World} {a : Option Addr} {c : Nat} {x : Int} {l : List Int} (hl : Reads w .i64 a (x :: l)) (hx : ¬ (0 ≤ x ∧ x < 257)) (hlen : l.length ≤ 2147483648) :
    Calls Try.prog 59 #[.slice a (l.length + 1) c] w fun e w' => e = .returned (.tuple #[.pointer none, .int .i64 1]) ∧ Below w.heap.size w w' := by
  have hz := tzero
  generalize tlV Tl.zero = V at *
  obtain ⟨b, off, rfl, hbl, hcells⟩ := hl.some (by simp)
  have hc := hcells 0 (by simp)
  simp only [List.getElem?_cons_zero, Option.getD_some, Nat.add_zero] at hc
  clear hcells
  have hd : decide ((0 : Int) < ((l.length : Int) + 1)) = true := decide_eq_true (by omega)
  go_enter Try.func59, Try.ntmps59
  go_wp2_with fail
  refine wp_loop_rounds 1 ?_
  rw [rounds_succ]
  go_wp2_with fail
  refine (tAdd_bad hx).mono ?_
  rintro e w2 ⟨rfl, rfl⟩
  go_wp2_with fail
  go_ret2
  exact ⟨rfl, (Below.refl _ _).alloc (Nat.le_refl _) _⟩

/-- How many lesser ones there are. -/
def tBelow (t : Tl) (s : Int) : Int := bl t.N (clamp s)

theorem tBelow_any {w : World} {p : Nat} {t : Tl} (h : IsTally w p t) (s : Int) : Calls Try.prog 61 #[.pointer (some ⟨p, 0, none⟩), .int .i64 s] w fun e w' => e = .returned (.int .i64 (tBelow t s)) ∧ w = w' := by
  go_enter Try.func61, Try.ntmps61
  go_wp2_with fail
  have hcl : min (max s 0) 257 = (clamp s : Int) := by unfold clamp; omega
  have hc7 := clamp_le s
  rw [hcl]
  clear hcl
  have HR : Hid (tBelow t s = bl t.N (clamp s)) := rfl
  generalize clamp s = c at *
  go_loop [5, 10] (fun n i => ∃ k : Nat, k ≤ c ∧ i = .int .i64 k ∧ n = .int .i64 (bl t.N k)) (fun _ i => c - (intOf i).toNat)
  case atStart => exact ⟨0, by omega, rfl, rfl⟩
  case round =>
    obtain ⟨k, hk, rfl, rfl⟩ := hrel
    by_cases hlt : k < c
    · have h0 := bl_pos h.ok.pos (show k ≤ 257 by omega)
      have h1 := bl_mono h.ok.pos (show k + 1 ≤ 257 by omega) (Nat.le_refl _)
      rw [h.ok.sum] at h1
      have h2 := h.ok.max
      have h3 : bl t.N (k + 1) = bl t.N k + t.N k := rfl
      have h4 := h.ok.pos k (by omega)
      have ho : tOf t (k : Int) = t.N k := by unfold tOf; rw [if_pos (by omega)]; simp
      have H3 := Lib.hid h3
      have h5 : bl t.N k + t.N k ≤ 2147483648 := by omega
      have HO := Lib.hid ho
      clear h1 h2 h3 ho
      go_wp2_with fail
      refine (tOf_any h _).mono ?_
      rintro e w' ⟨rfl, rfl⟩
      rw [HO.out]
      go_wp2_with fail
      go_round
      case rel => exact ⟨k + 1, by omega, by simp, by rw [H3.out]⟩
      case measure => simp [intOf]; omega
    · obtain rfl : k = c := by omega
      go_wp2_with fail
      go_ret
      exact ⟨ret_int HR.out.symm, rfl⟩

theorem Try.info257 : (Try.prog.info? 37).map (·.size) = some 257 := by kernel_rfl
theorem Try.infoI : (Try.prog.info? 3).map (·.size) = some 1 := by kernel_rfl

/-- One cell out of an array of integers. -/
theorem run_index_ofV (N : Nat → Int) (k : Nat) (hk : k < 257) (w : World) : (Instr.index 37 (.agg (ofV N).toArray) (.int .i64 k)).run Try.prog w = .ok (.int .i64 (N k)) w := by
  have hi := Try.infoI
  obtain ⟨i, hi1, hi2⟩ := Option.map_eq_some_iff.1 hi
  have h1 : (0 : Int) ≤ (k : Int) ∧ (k : Int) < 257 := by omega
  have hg := ofV_get N hk
  simp [Instr.index, asIntOf, run_underlying Try.underlying37, run_underlying Try.underlying3, h1, sizeOf, typeInfo, hi1, hi2, part, isAgg, hg, hk]

end Go.Proofs.Ytpbmhdkhkbhgnaa
