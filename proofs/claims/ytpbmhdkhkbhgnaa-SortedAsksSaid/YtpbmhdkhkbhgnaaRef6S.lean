/- Contracts of the document's answer for sorted rows: less, Rows, Last, Back. -/
import Derived.Test.YtpbmhdkhkbhgnaaRef6R
import Derived.Test.YtpbmhdkhkbhgnaaSortedX
import Derived.Test.YtpbmhdkhkbhgnaaSortedT
import Derived.Outline
namespace Go.Proofs.Ytpbmhdkhkbhgnaa
set_option linter.unusedVariables false
set_option linter.unusedSimpArgs false
open Go.RowKit

theorem sufB_of {l : List Int} {a b : Nat} (h : sufLt l a b) : sufB l a b = true := sufB_iff.2 h
theorem sufB_not {l : List Int} {a b : Nat} (h : ¬ sufLt l a b) : sufB l a b = false := by rw [← Bool.not_eq_true]; exact fun e => h (sufB_iff.1 e)

set_option maxHeartbeats 1600000 in
theorem ref6Less_any (s : ByteArray) (a b : Nat) (w : World) (ha : a ≤ s.size) (hb : b ≤ s.size) (hs : s.size ≤ 1000000) :
    Calls Try.prog 66 #[.string s, .int .i64 a, .int .i64 b] w fun e w' => e = .returned (.bool (sufB (symsT (tOfS s)) a b)) ∧ ∃ n, w' = w.drewN n := by
  go_enter Try.func66, Try.ntmps66
  go_wp2_with fail
  go_loopw [1, 2] (fun v1 v2 wr => ∃ d : Nat, a + d ≤ s.size ∧ b + d ≤ s.size ∧ v1 = .int .i64 (a + d : Nat) ∧ v2 = .int .i64 (b + d : Nat) ∧ eqK (symsT (tOfS s)) d a b ∧ ∃ n, wr = w.drewN n) (fun v1 _ _ => s.size - (intOf v1).toNat)
  case atStart => exact ⟨0, by omega, by omega, rfl, rfl, fun x hx => by omega, 0, rfl⟩
  case round =>
    obtain ⟨d, h1, h2, rfl, rfl, heq, nd, rfl⟩ := hrel
    have hsh := suf_shift heq
    by_cases hin : a + d < s.size ∧ b + d < s.size
    · obtain ⟨k1, k2⟩ := hin
      have e1 := tOfS_sy k1
      have e2 := tOfS_sy k2
      have HSH : Hid (sufLt (symsT (tOfS s)) a b ↔ sy (symsT (tOfS s)) (a + d) < sy (symsT (tOfS s)) (b + d) ∨ (sy (symsT (tOfS s)) (a + d) = sy (symsT (tOfS s)) (b + d) ∧ sufLt (symsT (tOfS s)) (a + d + 1) (b + d + 1))) := hsh.trans suf_cons
      have HEQ := Lib.hid heq
      have HE1 := Lib.hid e1
      have HE2 := Lib.hid e2
      clear hsh heq e1 e2
      obtain ⟨x, hx⟩ : ∃ x, a + d = x := ⟨_, rfl⟩
      obtain ⟨y, hy⟩ : ∃ y, b + d = y := ⟨_, rfl⟩
      rw [hx] at k1
      rw [hy] at k2
      rw [hx, hy]
      have HX := Lib.hid hx
      have HY := Lib.hid hy
      clear hx hy
      have i0 : (0 : Int) ≤ (x : Int) := by omega
      have i1 : (x : Int) < (s.size : Int) := by omega
      have j0 : (0 : Int) ≤ (y : Int) := by omega
      have j1 : (y : Int) < (s.size : Int) := by omega
      have hE1 : sy (symsT (tOfS s)) (a + d) = (s[x].toNat : Int) + 1 := by
        have h1 := HE1.out
        have h2 := HX.out
        subst h2; exact h1
      have hE2 : sy (symsT (tOfS s)) (b + d) = (s[y].toNat : Int) + 1 := by
        have h1 := HE2.out
        have h2 := HY.out
        subst h2; exact h1
      have E1 := Lib.hid hE1
      have E2 := Lib.hid hE2
      clear hE1 hE2
      by_cases he : s[x].toNat = s[y].toNat
      · have hne : (s[x].toNat != s[y].toNat) = false := by simp [he]
        have HE := Lib.hid he
        clear he
        go_wp2_with fail
        go_quiet (fail)
        go_wp2_with fail
        go_roundw
        case rel =>
          have h1 := HX.out
          have h2 := HY.out
          exact ⟨d + 1, by omega, by omega, by congr 1; omega, by congr 1; omega, eqK_succ HEQ.out (by rw [E1.out, E2.out, HE.out]), _, rfl⟩
        case measure => simp [intOf]; omega
      · have hne : (s[x].toNat != s[y].toNat) = true := by simp [he]
        have HR : Hid (decide (s[x].toNat < s[y].toNat) = sufB (symsT (tOfS s)) a b) := by
          show _ = _
          by_cases hl : s[x].toNat < s[y].toNat
          · rw [decide_eq_true hl, sufB_of (HSH.out.2 (Or.inl (by rw [E1.out, E2.out]; omega)))]
          · rw [decide_eq_false hl, sufB_not (fun h => by
              rcases HSH.out.1 h with k | ⟨k, _⟩
              · rw [E1.out, E2.out] at k; omega
              · rw [E1.out, E2.out] at k; omega)]
        clear he
        go_wp2_with fail
        go_quiet (fail)
        go_wp2_with fail
        go_quiet (fail)
        go_wp2_with fail
        go_ret
        exact ⟨ret_bool HR.out, _, by rw [World.drewN_drewN, World.drewN_drewN]⟩
    · have HR : Hid (decide (b + d < a + d) = sufB (symsT (tOfS s)) a b) := by
        show _ = _
        have e0 := tOfS_end s
        have hn := (symsT_is (tOfS_byte s)).nn
        by_cases hl : b + d < a + d
        · have e1 : a + d = s.size := by omega
          have h1 := hn (b + d) (by rw [symsT_len, tOfS_len]; omega)
          have h2 := tOfS_sy (show b + d < s.size by omega)
          rw [decide_eq_true hl, sufB_of (hsh.2 (suf_cons.2 (Or.inl (by rw [e1, e0, h2]; omega))))]
        · rw [decide_eq_false hl, sufB_not (fun h => by
            have h3 := hsh.1 h
            rcases Nat.lt_or_ge (a + d) s.size with k | k
            · have e1 : b + d = s.size := by omega
              have h2 := tOfS_sy k
              rw [e1] at h3
              rcases suf_cons.1 h3 with q | ⟨q, _⟩ <;> rw [e0, h2] at q <;> omega
            · have e1 : a + d = b + d := by omega
              rw [e1] at h3
              exact sufLt.irrefl h3)]
      have hor : ¬ a + d < s.size ∨ (a + d < s.size ∧ ¬ b + d < s.size) := by omega
      clear hsh heq
      generalize a + d = x at *
      generalize b + d = y at *
      rcases hor with h | ⟨h, h'⟩
      · have d1 : decide (x < s.size) = false := decide_eq_false h
        go_wp2_with fail
        go_ret
        exact ⟨ret_bool HR.out, _, rfl⟩
      · have d2 : decide (y < s.size) = false := decide_eq_false h'
        go_wp2_with fail
        go_ret
        exact ⟨ret_bool HR.out, _, rfl⟩

theorem natV_insA (r : List Nat) (k p : Nat) : (insA (natL r) k (p : Int)) = natL (insA r k p) := by simp [insA, natL, List.map_take, List.map_drop]

set_option maxHeartbeats 3200000 in
theorem ref6Rows_any (s : ByteArray) (w : World) (hs : s.size ≤ 100000) : Calls Try.prog 23 #[.string s] w (RowsPost w.heap.size w (symsT (tOfS s))) := by
  go_enter Try.func23, Try.ntmps23
  go_wp2_with fail
  go_loopw [3, 4] (fun v3 v4 wr => ∃ (q : Nat) (r : List Nat), q ≤ s.size + 1 ∧ v4 = .int .i64 ((q : Int) - 1) ∧ r.Perm (List.range' q (s.size + 1 - q)) ∧ r.Pairwise (sufLt (symsT (tOfS s))) ∧ wr.ownsRow w.heap.size 3 1 v3 r.length (r.map natV) ∧ Below w.heap.size w wr) (fun _ v4 _ => (intOf v4 + 1).toNat)
  case atStart => exact ⟨s.size + 1, [], Nat.le_refl _, by congr 1; omega, by simp, List.Pairwise.nil, World.ownsRow_nil _ _ _ _, Below.refl _ _⟩
  case round =>
    obtain ⟨q, r, hq, rfl, hperm, hsort, hown, hb⟩ := hrel
    have hs1 := hb.size
    have hlen : r.length = s.size + 1 - q := by have := hperm.length_eq; simpa using this
    rcases Nat.eq_zero_or_pos q with rfl | hq0
    · have hrows : IsRows (symsT (tOfS s)) r := ⟨by rw [symsT_len, tOfS_len, List.range_eq_range']; exact hperm, hsort⟩
      have HRW := Lib.hid hrows
      have HOW := Lib.hid hown
      clear hrows hown hperm hsort
      go_wp2_with fail
      go_ret
      exact ⟨r, HRW.out, _, rfl, HOW.out, hb⟩
    · obtain ⟨p, rfl⟩ : ∃ p, q = p + 1 := ⟨q - 1, by omega⟩
      obtain ⟨a, c, rfl, hnil, _⟩ := own_slice hown
      have hcap : r.length ≤ c ∧ c ≤ maxLen := by
        rcases hown.2 with ⟨hv, h0⟩ | ⟨g, cap, cur, hv, _, _, h1, h2, _⟩
        · injection hv with _ _ e3; subst e3; rw [h0]; exact ⟨Nat.le_refl _, by unfold maxLen; omega⟩
        · injection hv with _ _ e3; subst e3; exact ⟨h1, h2⟩
      have hmem : ∀ i (hi : i < r.length), p < r[i] ∧ r[i] ≤ s.size := fun i hi => by
        have := List.mem_range'_1.1 (hperm.mem_iff.1 (List.getElem_mem hi))
        omega
      have HMEM := Lib.hid hmem
      have HPERM := Lib.hid hperm
      have HSORT := Lib.hid hsort
      have HOW := Lib.hid hown
      have HNIL := Lib.hid hnil
      have HCAP := Lib.hid hcap
      have HLEN := Lib.hid hlen
      have hrl : r.length ≤ 100001 := by omega
      have HB := Lib.hid hb
      clear hperm hsort hown hnil hcap hmem hlen hb
      have ecast : ((p + 1 : Nat) : Int) - 1 = (p : Int) := by omega
      rw [ecast]
      clear ecast
      go_wp2_with fail
      obtain ⟨wo, rfl⟩ : ∃ wo : World, wo = wr := ⟨_, rfl⟩
      go_loopw [5, 6] (fun v5 v6 wx => ∃ lo hi : Nat, lo ≤ hi ∧ hi ≤ r.length ∧ v5 = .int .i64 lo ∧ v6 = .int .i64 hi ∧ (∀ i (h : i < r.length), i < lo → sufLt (symsT (tOfS s)) r[i] p) ∧ (∀ i (h : i < r.length), hi ≤ i → ¬ sufLt (symsT (tOfS s)) r[i] p) ∧ ∃ n, wx = wo.drewN n) (fun v5 v6 _ => (intOf v6).toNat - (intOf v5).toNat)
      case atStart => exact ⟨0, r.length, by omega, Nat.le_refl _, rfl, rfl, fun i h h' => by omega, fun i h h' => by omega, 0, rfl⟩
      case round =>
        obtain ⟨lo, hi, h1, h2, rfl, rfl, hlo, hhi, nd, rfl⟩ := hrel
        have HLO := Lib.hid hlo
        have HHI := Lib.hid hhi
        clear hlo hhi
        by_cases hlt : lo < hi
        · obtain ⟨m, hm⟩ : ∃ m, (lo + hi) / 2 = m := ⟨_, rfl⟩
          have hm1 : lo ≤ m := by omega
          have hm2 : m < hi := by omega
          have hmr : m < r.length := by omega
          have hmi : ((lo : Int) + (hi : Int)) / 2 = (m : Int) := by omega
          obtain ⟨g, cap, hv, _, _, _, _, hcell, _⟩ := own_some HOW.out (by omega)
          injection hv with ha hb1 hc1
          subst ha
          clear hb1 hc1
          have e1 : (wo.drewN nd).cell? ⟨g, m, none⟩ = some (.int .i64 (r[m] : Int)) := by
            show wo.cell? _ = _
            rw [hcell m hmr, List.getElem?_map, List.getElem?_eq_getElem hmr]; rfl
          have hx := HMEM.out m hmr
          have hless := ref6Less_any s r[m] p (wo.drewN nd) hx.2 (by omega) (by omega)
          have HT : Hid (sufLt (symsT (tOfS s)) r[m] p → ∀ i (h : i < r.length), i < m + 1 → sufLt (symsT (tOfS s)) r[i] p) := fun hs i h hi' => by
            rcases Nat.lt_or_ge i m with k | k
            · exact (List.pairwise_iff_getElem.1 HSORT.out i m h hmr k : sufLt _ _ _).trans hs
            · obtain rfl : i = m := by omega
              exact hs
          have HF : Hid (¬ sufLt (symsT (tOfS s)) r[m] p → ∀ i (h : i < r.length), m ≤ i → ¬ sufLt (symsT (tOfS s)) r[i] p) := fun hs i h hi' hc => by
            rcases Nat.lt_or_ge m i with k | k
            · exact hs ((List.pairwise_iff_getElem.1 HSORT.out m i hmr h k : sufLt _ _ _).trans hc)
            · obtain rfl : i = m := by omega
              exact hs hc
          have HLESS := Lib.hid hless
          have HM := Lib.hid hm
          clear hcell hless hm
          generalize r[m] = x at *
          by_cases hsf : sufLt (symsT (tOfS s)) x p
          · have HLS := HLESS.out
            rw [sufB_of hsf] at HLS
            have HLS := Lib.hid HLS
            have HT2 := Lib.hid (HT.out hsf)
            clear hsf HLESS
            go_wp2_with fail
            refine HLS.out.mono ?_
            rintro e w' ⟨rfl, nq, rfl⟩
            go_wp2_with fail
            go_roundw
            case rel => exact ⟨m + 1, hi, by omega, h2, by go_num, rfl, HT2.out, HHI.out, _, rfl⟩
            case measure => simp [intOf]; omega
          · have HLS := HLESS.out
            rw [sufB_not hsf] at HLS
            have HLS := Lib.hid HLS
            have HF2 := Lib.hid (HF.out hsf)
            clear hsf HLESS
            go_wp2_with fail
            refine HLS.out.mono ?_
            rintro e w' ⟨rfl, nq, rfl⟩
            go_wp2_with fail
            go_roundw
            case rel => exact ⟨lo, m, by omega, by omega, rfl, rfl, HLO.out, HF2.out, _, rfl⟩
            case measure => simp [intOf]; omega
        · obtain rfl : lo = hi := by omega
          have hown : (wo.drewN nd).ownsRow w.heap.size 3 1 (.slice a r.length c) r.length (r.map natV) := HOW.out
          have hln : (natL r).length = r.length := natL_len r
          have hrv : ReadsV (wo.drewN nd) a ((natL r).map (Value.int .i64)) := by
            rw [← natV_natL]; exact readsV_own hown
          have hin := ref6In_any a c (natL r) lo (p : Int) (wo.drewN nd) hrv (by omega) (by rw [hln]; exact HCAP.out.1) HCAP.out.2 (by omega) (fun h => by rw [hln]; exact HNIL.out h)
          rw [hln, natV_insA] at hin
          have HIN := Lib.hid hin
          have HB2 := Lib.hid (below_dN HB.out nd)
          have hrp : (insA r lo p).Perm (List.range' p (s.size + 1 - p)) := by
            refine (insA_perm r lo p).trans ?_
            rw [show s.size + 1 - p = (s.size + 1 - (p + 1)) + 1 by omega, List.range'_succ]
            exact HPERM.out.cons p
          have hrs : (insA r lo p).Pairwise (sufLt (symsT (tOfS s))) := by
            refine insA_sorted (by omega) HSORT.out (fun i hi h => HLO.out i hi h) (fun i hi h => ?_)
            have hm := HMEM.out i hi
            have hl : (symsT (tOfS s)).length = s.size + 1 := by rw [symsT_len, tOfS_len]
            rcases suf_tri (symsT_is (tOfS_byte s)).nn (a := p) (b := r[i]) (by omega) (by omega) (by omega) with k | k
            · exact k
            · exact absurd k (HHI.out i hi h)
          have HRP := Lib.hid hrp
          have HRS := Lib.hid hrs
          have hs2 := HB2.out.size
          clear hown hln hrv hin hrp hrs
          go_wp2_with fail
          refine HIN.out.mono ?_
          rintro e w' ⟨v, rfl, hov, hb'⟩
          rw [natL_len, ← natV_natL] at hov
          have HOV := Lib.hid (own_mono hov hs2)
          have HB3 := Lib.hid (HB2.out.trans (hb'.mono hs2))
          clear hov hb'
          go_wp2_with fail
          go_roundw
          case rel => exact ⟨p, insA r lo p, by omega, rfl, HRP.out, HRS.out, HOV.out, HB3.out⟩
          case measure => simp [intOf]

end Go.Proofs.Ytpbmhdkhkbhgnaa
