/- The walk of SortedRuns. -/
import Derived.Test.YtpbmhdkhkbhgnaaSortedX
namespace Go.Proofs.Ytpbmhdkhkbhgnaa
set_option linter.unusedVariables false
set_option linter.unusedSimpArgs false
open Go.RowKit

theorem sy_runs {c : Int} {k i : Nat} : sy (symsT (List.replicate k c)) i = if i < k then c + 1 else if i = k then 0 else -1 := by
  unfold symsT sy
  rw [List.map_replicate, List.getElem?_append, List.length_replicate]
  by_cases h : i < k
  · simp [h]
  · rw [if_neg h, if_neg h]
    by_cases e : i = k
    · subst e; simp
    · rw [if_neg e, List.getElem?_eq_none (by simp; omega)]; rfl
theorem runs_suf {c : Int} {k : Nat} (hc : 0 ≤ c) : ∀ d a b : Nat, d = k - a → b < a → a ≤ k → sufLt (symsT (List.replicate k c)) a b
  | 0, a, b, hd, hb, ha => by
    refine suf_cons.2 (Or.inl ?_)
    rw [sy_runs, sy_runs, if_neg (by omega), if_pos (by omega), if_pos (by omega)]; omega
  | d + 1, a, b, hd, hb, ha => by
    refine suf_cons.2 (Or.inr ⟨?_, runs_suf hc d (a + 1) (b + 1) (by omega) (by omega) (by omega)⟩)
    rw [sy_runs, sy_runs, if_pos (by omega), if_pos (by omega)]
theorem runs_last {c : Int} {k : Nat} {m : List Int} (h0 : 0 ≤ c) (h1 : c < 256) (h : IsLast (List.replicate k c) m) : m = List.replicate k (c + 1) ++ [0] := by
  have hb : ByteL (List.replicate k c) := fun x hx => by
    have := (List.mem_replicate.1 hx).2
    omega
  have hl : (symsT (List.replicate k c)).length = k + 1 := by rw [symsT_len, List.length_replicate]
  have hr : IsRows (symsT (List.replicate k c)) (List.range (k + 1)).reverse := by
    refine ⟨by rw [hl]; exact List.reverse_perm _, ?_⟩
    rw [List.pairwise_reverse]
    refine List.Pairwise.imp_of_mem ?_ List.pairwise_lt_range
    intro a b ha hb hab
    have := List.mem_range.1 hb
    exact runs_suf h0 _ b a rfl hab (by omega)
  have h2 : IsLast (List.replicate k c) (lastL (symsT (List.replicate k c)) (List.range (k + 1)).reverse) := ⟨hb, _, hr, rfl⟩
  rw [h.same h2]
  apply List.ext_getElem?
  intro i
  by_cases hi : i < k + 1
  · unfold lastL
    rw [List.getElem?_map, List.getElem?_reverse (by simpa using hi), List.length_range, List.getElem?_range (by omega), hl]
    simp only [Option.map_some, sy_runs]
    rw [List.getElem?_append, List.length_replicate]
    by_cases e : i < k
    · have hm : (k + 1 - 1 - i + (k + 1) - 1) % (k + 1) = k - 1 - i := by
        rw [show k + 1 - 1 - i + (k + 1) - 1 = (k - 1 - i) + (k + 1) by omega, Nat.add_mod_right]
        exact Nat.mod_eq_of_lt (by omega)
      rw [hm, if_pos e, if_pos (by omega)]
      simp [e]
    · obtain rfl : i = k := by omega
      have hm : (i + 1 - 1 - i + (i + 1) - 1) % (i + 1) = i := by
        rw [show i + 1 - 1 - i + (i + 1) - 1 = i by omega]
        exact Nat.mod_eq_of_lt (by omega)
      rw [hm, if_neg (by omega), if_pos rfl, if_neg e]
      simp
  · rw [List.getElem?_eq_none (by rw [lastL_len]; simp; omega), List.getElem?_eq_none (by simp; omega)]
theorem replicate_bytes {c : Int} {k : Nat} (h0 : 0 ≤ c) (h1 : c < 256) : Bytes (List.replicate k c) := bytes_byteL (fun x hx => by
  have := (List.mem_replicate.1 hx).2
  omega)

set_option maxHeartbeats 3200000 in
set_option maxRecDepth 100000 in
theorem walk_SortedRuns (w : World) (a0 : Int) (w0 : (Lit.int .u8 a0).wf = true) (a1 : Int) (w1 : (Lit.int .i64 a1).wf = true) :
    Calls Try.prog 8 #[.int .u8 a0, .int .i64 a1] w fun e w' => e = .returned (.bool true) ∧ Below w.heap.size w w' := by
  obtain ⟨hc0, hc1⟩ := bounds_u8 w0
  obtain ⟨u, hu0, hu1, hu⟩ : ∃ u : Int, 0 ≤ u ∧ u < 18446744073709551616 ∧ IntKind.u64.wrap a1 = u := ⟨IntKind.u64.wrap a1, by rw [IntKind.wrap_u64]; omega, by rw [IntKind.wrap_u64]; omega, rfl⟩
  obtain ⟨k, hk⟩ : ∃ k : Nat, u % 61 = (k : Int) := ⟨(u % 61).toNat, by omega⟩
  have hk60 : k ≤ 60 := by omega
  clear w0 w1
  go_enter Try.func8, Try.ntmps8
  go_wp2_with fail
  clear hk hu
  go_loopw [6, 7] (fun v i wr => ∃ j : Nat, j ≤ k ∧ i = .int .i64 j ∧ wr.ownsRow w.heap.size 5 1 v j ((List.replicate j a0).map (Value.int .u8)) ∧ Below w.heap.size w wr) (fun _ i _ => k - (intOf i).toNat)
  case atStart => exact ⟨0, Nat.zero_le _, rfl, World.ownsRow_nil _ _ _ _, Below.refl _ _⟩
  case round =>
    obtain ⟨j, hj, rfl, hown, hb⟩ := hrel
    have hs := hb.size
    obtain ⟨va, vc, rfl, _, _⟩ := own_slice hown
    by_cases hlt : j < k
    · go_wp2_with (at_builtin; refine wpList_push rfl _ _ 23 rfl w.heap.size 5 Try.infoU8 Try.underlying23 rfl _ _ _ rfl hown rfl rfl (by unfold maxLen; omega) (by omega) (by omega) ?_)
      intro v' w5 hown' hgrow
      have HCH := Lib.hid (hb.grown hgrow hs (fun j hj => (hown.lt j hj).1))
      have HO5 : Hid (w5.ownsRow w.heap.size 5 1 v' (j + 1) ((List.replicate (j + 1) a0).map (Value.int .u8))) := by
        show w5.ownsRow _ _ _ _ _ _
        rw [List.replicate_succ', List.map_append, List.map_replicate]; exact hown'
      clear hown hown' hgrow
      go_wp2_with fail
      go_roundw
      case rel => exact ⟨j + 1, by omega, by go_num, HO5.out, HCH.out⟩
      case measure => simp [intOf]; omega
    · obtain rfl : j = k := by omega
      have hbt := replicate_bytes (c := a0) (k := j) hc0 (by omega)
      have hlen : (List.replicate j a0).length = j := List.length_replicate
      have HOT := Lib.hid hown
      have HBT := Lib.hid hbt
      have HLEN := Lib.hid hlen
      have HRL : Hid (∀ m, IsLast (List.replicate j a0) m → m = List.replicate j (a0 + 1) ++ [0]) := fun m h => runs_last hc0 (by omega) h
      clear hown hbt hlen
      generalize List.replicate j a0 = t at *
      go_wp2_with fail
      refine (last_at va vc t HLEN.out.symm (own_reads HOT.out) HBT.out (by rw [HLEN.out]; omega)).mono ?_
      rintro e w2 ⟨ma, mc, m, rfl, hm, hom, hb2⟩
      rw [HLEN.out] at hom ⊢
      have hml : m.length = j + 1 := by rw [hm.len, HLEN.out]
      have HM := Lib.hid hm
      have HE := Lib.hid (HRL.out m hm)
      have HOM := Lib.hid hom
      have HB2 := Lib.hid (hb.trans (hb2.mono hs))
      have HOT2 := Lib.hid (own_below HOT.out hb2 (fun k hk => (own_lt HOT.out hk).2))
      obtain ⟨g, cap, hv, _, hg1, _, _, hcell, _⟩ := own_some hom (by omega)
      injection hv with ha _ _
      subst ha
      have HCELL : Hid (∀ W, Below w2.heap.size w2 W → ∀ i, i < j + 1 → W.cell? ⟨g, i, none⟩ = some (.int .i64 (if i < j then a0 + 1 else 0))) := by
        intro W hW i hi
        rw [(hW.cell (p := ⟨g, i, none⟩) hg1).trans (hcell i hi), HE.out, List.getElem?_map, List.getElem?_append, List.length_replicate]
        by_cases e : i < j
        · simp [e]
        · obtain rfl : i = j := by omega
          simp
      have HML := Lib.hid hml
      clear hm hml hom hb hs hb2 hcell HOT HRL
      have e1 := HCELL.out w2 (Below.refl _ _) j (by omega)
      rw [if_neg (by omega)] at e1
      go_wp2_with fail
      go_loop [9] (fun i => ∃ k : Nat, k ≤ j ∧ i = .int .i64 k) (fun i => j - (intOf i).toNat)
      case atStart => exact ⟨0, Nat.zero_le _, rfl⟩
      case round =>
        clear e1
        obtain ⟨k, hk, rfl⟩ := hrel
        by_cases hlt : k < j
        · have e1 := HCELL.out w2 (Below.refl _ _) k (by omega)
          rw [if_pos hlt] at e1
          go_wp2_with fail
          go_round
          case rel => exact ⟨k + 1, by omega, by go_num⟩
          case measure => simp [intOf]; omega
        · obtain rfl : k = j := by omega
          go_wp2_with fail
          refine (back_yes HM.out _ _ HML.out.symm (own_reads HOM.out) (by rw [HML.out]; omega)).mono ?_
          rintro e w3 ⟨ba, bc, rfl, hob, hb3⟩
          rw [HLEN.out] at hob ⊢
          have HOB := Lib.hid hob
          have HOT3 := Lib.hid (own_below HOT2.out hb3 (fun k hk => (own_lt HOT2.out hk).2))
          have HB3 := Lib.hid (HB2.out.trans (hb3.mono HB2.out.size))
          clear hob hb3 HOT2 HB2 HCELL
          go_wp2_with fail
          refine (told9_any _).mono ?_
          rintro e w4 ⟨rfl, hb4⟩
          have hcv1 : (convert 23 9 (.slice ba k bc)).run Try.prog w4 = .ok (.string (strOfNums t)) w4 := by
            have := conv_str (xs := t) (c := bc) Try.underlying23 Try.underlying5 Try.underlying9 ((own_reads HOB.out).below hb4)
            rw [HLEN.out] at this; exact this
          have hcv2 : (convert 23 9 (.slice va k vc)).run Try.prog w4 = .ok (.string (strOfNums t)) w4 := by
            have := conv_str (xs := t) (c := vc) Try.underlying23 Try.underlying5 Try.underlying9 ((own_reads HOT3.out).below hb4)
            rw [HLEN.out] at this; exact this
          have HB4 := Lib.hid (HB3.out.trans (hb4.mono HB3.out.size))
          generalize strOfNums t = s at *
          clear hb4
          go_wp2_with fail
          go_ret
          exact ⟨rfl, HB4.out⟩

end Go.Proofs.Ytpbmhdkhkbhgnaa
