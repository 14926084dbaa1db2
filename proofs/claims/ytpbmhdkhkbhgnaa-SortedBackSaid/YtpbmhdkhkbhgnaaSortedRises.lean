/- The walk of SortedRises. -/
import Derived.Test.YtpbmhdkhkbhgnaaSortedX
import Derived.WalkLawsBesides
namespace Go.Proofs.Ytpbmhdkhkbhgnaa
set_option linter.unusedVariables false
set_option linter.unusedSimpArgs false
open Go.RowKit

theorem str_list (xs : List Int) : (strOfNums xs).toList = xs.map fun n => UInt8.ofNat n.toNat := by
  rw [ByteArray.toList_eq]; exact strOfNums_data xs
theorem reads_ofV {w : World} {k : IntKind} {a : Option Addr} {xs : List Int} (h : ReadsV w a (xs.map (Value.int k))) : Reads w k a xs := by
  intro i hi
  obtain ⟨b, off, h1, h2, h3⟩ := h i (by simpa using hi)
  exact ⟨b, off, h1, h2, fun j hj => h3 j _ (by simp [hj])⟩
theorem suf_bytes {t : List Int} (ht : ByteL t) : ∀ d a b : Nat, d = t.length - a → a ≤ t.length → b ≤ t.length → sufLt (symsT t) a b → Op.bytesLess (strOfNums (t.drop a)).toList (strOfNums (t.drop b)).toList = true := by
  intro d
  induction d with
  | zero =>
    intro a b hd ha hb h
    obtain rfl : a = t.length := by omega
    have hbl : b < t.length := by
      rcases Nat.lt_or_ge b t.length with k | k
      · exact k
      · obtain rfl : b = t.length := by omega
        exact absurd h sufLt.irrefl
    rw [str_list, str_list, List.drop_length, List.drop_eq_getElem_cons hbl]
    rfl
  | succ d ih =>
    intro a b hd ha hb h
    have hal : a < t.length := by omega
    have hbl : b < t.length := by
      rcases Nat.lt_or_ge b t.length with k | k
      · exact k
      · obtain rfl : b = t.length := by omega
        have e1 := symsT_sy hal
        have e2 := symsT_end t
        have e3 := ht _ (List.getElem_mem hal)
        rcases suf_cons.1 h with k | ⟨k, _⟩ <;> omega
    have e1 := symsT_sy hal
    have e2 := symsT_sy hbl
    have b1 := ht _ (List.getElem_mem hal)
    have b2 := ht _ (List.getElem_mem hbl)
    rw [str_list, str_list, List.drop_eq_getElem_cons hal, List.drop_eq_getElem_cons hbl]
    simp only [List.map_cons, Op.bytesLess, Bool.or_eq_true, Bool.and_eq_true, decide_eq_true_eq, beq_iff_eq]
    rcases suf_cons.1 h with k | ⟨k, k2⟩
    · rw [e1, e2] at k
      left
      rw [UInt8.lt_iff_toNat_lt, UInt8.toNat_ofNat', UInt8.toNat_ofNat', Nat.mod_eq_of_lt (by omega), Nat.mod_eq_of_lt (by omega)]
      omega
    · rw [e1, e2] at k
      right
      have e : t[a] = t[b] := by omega
      refine ⟨by rw [e], ?_⟩
      have := ih (a + 1) (b + 1) (by omega) (by omega) (by omega) k2
      rwa [str_list, str_list] at this

theorem zero81 (w : World) : (zeroValue 35).run Try.prog w = .ok (.agg (vecL (fun _ => .bool false) 81).toArray) w := by kernel_rfl

set_option maxHeartbeats 6400000 in
set_option maxRecDepth 100000 in
theorem walk_SortedRises (w : World) (a0 : Option Addr) (c0 : Nat) (z0 : List Int) (w0 : ArgI .i64 w a0 c0 z0) (a1 : Bool) :
    Calls Try.prog 5 #[.slice a0 z0.length c0, .bool a1] w fun e w' => e = .returned (.bool true) ∧ Below w.heap.size w w' := by
  have hrd := w0.reads
  have hzm := Nat.le_trans w0.le w0.max
  clear w0
  go_enter Try.func5, Try.ntmps5
  go_wp2_with fail
  refine (lawText_any a0 c0 z0 80 a1 w hrd (by omega) hzm).mono ?_
  rintro e w1 ⟨ta, tc, t, rfl, hbt, htl, hot, hb1⟩
  have hs1 := hb1.size
  have HOT := Lib.hid hot
  clear hot hrd
  go_wp2_with fail
  refine (rows_at ta tc t rfl (own_reads HOT.out) hbt (by omega)).mono ?_
  rintro e w2 ⟨ra, rc, r, rfl, hr, hor, hb2⟩
  have hrl : r.length = t.length + 1 := by rw [hr.len, symsT_len]
  have hby := byteL_of hbt
  obtain ⟨h0, hr0⟩ := row_first (symsT_is hby) hr
  rw [symsT_len, Nat.add_sub_cancel] at hr0
  obtain ⟨g, cap, hv, _, hg1, _, _, hcell, _⟩ := own_some hor (by omega)
  injection hv with ha hb hc
  subst ha; subst hc
  have hlt : ∀ k (hk : k < r.length), r[k] < t.length + 1 := fun k hk => by have := hr.lt hk; rwa [symsT_len] at this
  have HCELL : Hid (∀ W, Below w2.heap.size w2 W → ∀ i, i < t.length + 1 → W.cell? ⟨g, i, none⟩ = some (.int .i64 ((r[i]?.getD 0 : Nat) : Int))) := by
    intro W hW i hi
    rw [(hW.cell (p := ⟨g, i, none⟩) hg1).trans (hcell i hi), List.getElem?_map, List.getElem?_eq_getElem (by omega)]; rfl
  have HLT : Hid (∀ i, i < t.length + 1 → r[i]?.getD 0 < t.length + 1) := fun i hi => by rw [getD_eq (by omega)]; exact hlt i (by omega)
  have HR0 : Hid (r[0]?.getD 0 = t.length) := (getD_eq h0).trans hr0
  have HR := Lib.hid hr
  have HRL := Lib.hid hrl
  have HOT2 := Lib.hid (own_below HOT.out hb2 (fun k hk => (own_lt HOT.out hk).2))
  have HB2 := Lib.hid (hb1.trans (hb2.mono hs1))
  have hs2 := HB2.out.size
  have e0 := HCELL.out w2 (Below.refl _ _) 0 (by omega)
  rw [HR0.out] at e0
  have hz := zero81
  have hq := heap_alloc_new w2 (.cells (vecL (fun _ => .bool false) 81).toArray 35)
  have HQ : Hid ((w2.alloc (.cells (vecL (fun _ => .bool false) 81).toArray 35)).heap[w2.heap.size]? = some (.cells (vecL (fun x => .bool (decide (∃ j, j < 0 ∧ r[j]?.getD 0 = x))) 81).toArray 35 (0, 0))) := by
    show _ = _
    have e : vecL (fun x => Value.bool (decide (∃ j, j < 0 ∧ r[j]?.getD 0 = x))) 81 = vecL (fun _ => .bool false) 81 := vecL_congr (fun i _ => by rw [decide_eq_false (fun ⟨j, hj, _⟩ => absurd hj (Nat.not_lt_zero j))])
    rw [e]
    exact hq
  have HBA := Lib.hid (HB2.out.alloc hs2 (.cells (vecL (fun _ => .bool false) 81).toArray 35))
  have HAL := Lib.hid (below_al w2 (.cells (vecL (fun _ => .bool false) 81).toArray 35))
  generalize hV : vecL (fun _ => Value.bool false) 81 = V at *
  clear hr hrl hr0 hcell hlt hor hb1 hb2 hV hq hb HOT h0
  go_wp2_with fail
  clear hz
  generalize w2.alloc (.cells V.toArray 35) = wa at *
  obtain ⟨Q, hQ⟩ : ∃ Q, w2.heap.size = Q := ⟨_, rfl⟩
  rw [hQ] at HQ ⊢
  have hgQ : g < Q := by omega
  have hQa : Q < wa.heap.size := (Array.getElem?_eq_some_iff.1 HQ.out).1
  have hQ2 : w2.heap.size ≤ Q := by omega
  have hQB : w.heap.size ≤ Q := by omega
  clear hQ
  go_loopw [8] (fun i wr => ∃ k : Nat, k ≤ t.length + 1 ∧ i = .int .i64 k ∧ wr.heap[Q]? = some (.cells (vecL (fun x => .bool (decide (∃ j, j < k ∧ r[j]?.getD 0 = x))) 81).toArray 35 (0, 0)) ∧ Below Q wa wr ∧ Below w.heap.size w wr) (fun i _ => t.length + 1 - (intOf i).toNat)
  case atStart => exact ⟨0, Nat.zero_le _, rfl, HQ.out, Below.refl _ _, HBA.out⟩
  case round =>
    obtain ⟨k, hk, rfl, hqk, hba, hb⟩ := hrel
    have hs := hb.size
    have hbq := hba.size
    by_cases hlt : k < t.length + 1
    · have hcl : ∀ j, j < t.length + 1 → wr.cell? ⟨g, j, none⟩ = some (.int .i64 ((r[j]?.getD 0 : Nat) : Int)) := fun j hj => (hba.cell (p := ⟨g, j, none⟩) hgQ).trans (HCELL.out wa HAL.out j hj)
      have e1 := hcl k hlt
      have hx := HLT.out k hlt
      have hnd : ¬ ∃ j, j < k ∧ r[j]?.getD 0 = r[k]?.getD 0 := by
        rintro ⟨j, hj, e⟩
        have h1 : j < r.length := by have := HRL.out; omega
        have h2 : k < r.length := by have := HRL.out; omega
        rw [getD_eq h1, getD_eq h2] at e
        exact List.pairwise_iff_getElem.1 HR.out.nodup j k h1 h2 hj e
      have e2 := vec_cell hqk (show r[k]?.getD 0 < 81 by omega)
      rw [decide_eq_false hnd] at e2
      have e3 : wr.frozen? ⟨Q, r[k]?.getD 0, none⟩ = false := frozen_of_row wr Q _ _ _ hqk
      have hq2 := vec_set (s := r[k]?.getD 0) hqk (.bool true)
      rw [vecL_congr (g := fun x => .bool (decide (∃ j, j < k + 1 ∧ r[j]?.getD 0 = x))) (fun x hx => ?_)] at hq2
      rotate_left
      · by_cases e : x = r[k]?.getD 0
        · rw [if_pos e]; congr 1; exact (decide_eq_true ⟨k, by omega, e.symm⟩).symm
        · rw [if_neg e]; congr 1
          rw [decide_eq_decide]
          constructor
          · rintro ⟨j, hj, hje⟩; exact ⟨j, by omega, hje⟩
          · rintro ⟨j, hj, hje⟩
            rcases Nat.lt_or_ge j k with q | q
            · exact ⟨j, q, hje⟩
            · obtain rfl : j = k := by omega
              exact absurd hje.symm e
      have HQ2 := Lib.hid hq2
      have hba2 : Below Q wa (wr.setCell ⟨Q, r[k]?.getD 0, none⟩ (.bool true)) := below_setQ hba (by omega) (Nat.le_refl _) _
      have hb2 : Below w.heap.size w (wr.setCell ⟨Q, r[k]?.getD 0, none⟩ (.bool true)) := below_setQ hb hs hQB _
      have HBA2 := Lib.hid hba2
      have HBB2 := Lib.hid hb2
      clear hnd hq2 hba2 hb2 hqk
      rcases Nat.eq_zero_or_pos k with rfl | hk0
      · clear hcl
        generalize r[0]?.getD 0 = x at *
        have d1 : decide (t.length < x) = false := decide_eq_false (by omega)
        go_wp2_with fail
        go_quiet (fail)
        go_wp2_with fail
        go_roundw
        case rel => exact ⟨0 + 1, by omega, by go_num, HQ2.out, below_dN HBA2.out _, below_dN HBB2.out _⟩
        case measure => simp [intOf]
      · obtain ⟨i, rfl⟩ : ∃ i, k = i + 1 := ⟨k - 1, by omega⟩
        have e4 := hcl i (by omega)
        have hy := HLT.out i (by omega)
        have hsuf : sufLt (symsT t) (r[i]?.getD 0) (r[i + 1]?.getD 0) := by
          have h1 : i < r.length := by have := HRL.out; omega
          have h2 : i + 1 < r.length := by have := HRL.out; omega
          rw [getD_eq h1, getD_eq h2]
          exact List.pairwise_iff_getElem.1 HR.out.2 i (i + 1) h1 h2 (by omega)
        have hless := suf_bytes hby _ _ _ rfl (by omega) (by omega) hsuf
        obtain ⟨_, _, hv, hnil, _⟩ := own_slice HOT2.out
        injection hv with q1 _ q3
        subst q1; subst q3
        have hcap : t.length ≤ tc := by
          rcases HOT2.out.2 with ⟨hv, h0⟩ | ⟨g', cap', cur, hv, _, _, h1, _⟩
          · rw [h0]; exact Nat.zero_le _
          · injection hv with _ _ e3; rw [e3]; exact h1
        have hrt : ReadsV (wr.setCell ⟨Q, r[i + 1]?.getD 0, none⟩ (.bool true)) ta (t.map (Value.int .u8)) :=
          readsV_own (own_below HOT2.out (HAL.out.trans (HBA2.out.mono (by omega)) : Below w2.heap.size w2 _) (fun k hk => (own_lt HOT2.out hk).2))
        generalize r[i]?.getD 0 = y at *
        generalize r[i + 1]?.getD 0 = x at *
        have hsl : ∀ (z : Nat), z ≤ t.length → ∀ (W : World), (Instr.slice 23 (.slice ta t.length tc) (some (.int .i64 (z : Int))) none none).run Try.prog W = .ok (.slice (offA ta z tc) (t.length - z) (tc - z)) W :=
          fun z hz W => run_sliceFrom (P := Try.prog) (w := W) (t := 23) (a := ta) (len := t.length) (cap := tc) (k := z) Try.underlying23 (by kernel_rfl) hz
        have hcv : ∀ (z : Nat), z ≤ t.length → ∀ m, (convert 23 9 (.slice (offA ta z tc) (t.length - z) (tc - z))).run Try.prog ((wr.setCell ⟨Q, x, none⟩ (.bool true)).drewN m) = .ok (.string (strOfNums (t.drop z))) ((wr.setCell ⟨Q, x, none⟩ (.bool true)).drewN m) := by
          intro z hz m
          have h1 := hrt.drop (k := z) (cap := tc) (by simpa using hcap)
          rw [← List.map_drop] at h1
          have h2 : Reads ((wr.setCell ⟨Q, x, none⟩ (.bool true)).drewN m) .u8 (offA ta z tc) (t.drop z) := reads_ofV h1
          have h3 := conv_str (xs := t.drop z) (c := tc - z) Try.underlying23 Try.underlying5 Try.underlying9 h2
          rw [List.length_drop] at h3
          exact h3
        have s1 := hsl y (by omega)
        have s2 := hsl x (by omega)
        have v1 := hcv y (by omega)
        have v2 := hcv x (by omega)
        clear hsl hcv hrt hcl hnil hcap hsuf
        generalize strOfNums (t.drop y) = sa at *
        generalize strOfNums (t.drop x) = sb at *
        have d1 : decide (t.length < x) = false := decide_eq_false (by omega)
        go_wp2_with fail
        go_quiet (fail)
        go_wp2_with fail
        go_roundw
        case rel => exact ⟨i + 1 + 1, by omega, by go_num, HQ2.out, below_dN HBA2.out _, below_dN HBB2.out _⟩
        case measure => simp [intOf]; omega
    · obtain rfl : k = t.length + 1 := by omega
      go_wp2_with fail
      refine (told9_any _).mono ?_
      rintro e w6 ⟨rfl, hb7⟩
      go_wp2_with fail
      go_ret
      exact ⟨rfl, hb.trans (hb7.mono hs)⟩

end Go.Proofs.Ytpbmhdkhkbhgnaa
