/- Contracts of the document's answer: Back. -/
import Derived.Test.YtpbmhdkhkbhgnaaRef6L
import Derived.Test.YtpbmhdkhkbhgnaaSortedB
namespace Go.Proofs.Ytpbmhdkhkbhgnaa
set_option linter.unusedVariables false
set_option linter.unusedSimpArgs false
open Go.RowKit

/-- What the document's Back tells. -/
def RBackPost (B : Nat) (w : World) (m : List Int) (e : Ending) (w' : World) : Prop := ∃ s ok, e = .returned (.tuple #[.string s, .bool ok]) ∧ Below B w w' ∧
  (ok = true → IsLast (textOf m) m ∧ s = strOfNums (textOf m)) ∧ (ok = false → s = { data := #[] } ∧ ∀ t, ¬ IsLast t m)
theorem rback_no {B : Nat} {w w' : World} {m : List Int} (h : ∀ t, ¬ IsLast t m) (hb : Below B w w') : RBackPost B w m (.returned (.tuple #[.string { data := #[] }, .bool false])) w' :=
  ⟨_, _, rfl, hb, (fun h => by cases h), fun _ => ⟨rfl, h⟩⟩

theorem textOf_drop {m : List Int} {j : Nat} (h : j + 1 < m.length) : (textOf m).drop (m.length - 1 - (j + 1)) = (sy m (chain m j) - 1) :: (textOf m).drop (m.length - 1 - j) := by
  have hl := textOf_len m
  have h1 : m.length - 1 - (j + 1) < (textOf m).length := by omega
  rw [List.drop_eq_getElem_cons h1]
  have h2 := textOf_get (m := m) (i := m.length - 1 - (j + 1)) (by omega)
  rw [List.getElem?_eq_getElem h1] at h2
  injection h2 with h2
  rw [h2, show m.length - 2 - (m.length - 1 - (j + 1)) = j by omega, show m.length - 1 - (j + 1) + 1 = m.length - 1 - j by omega]

set_option maxHeartbeats 3200000 in
set_option maxRecDepth 100000 in
theorem ref6Back_any (a : Option Addr) (c n : Nat) (m : List Int) (w : World) (hn : n = m.length) (hr : Reads w .i64 a m) (hl : m.length ≤ 100000) :
    Calls Try.prog 21 #[.slice a n c] w (RBackPost w.heap.size w m) := by
  subst hn
  by_cases hsy : ∀ x ∈ m, 0 ≤ x ∧ x < 257
  · have HSY := Lib.hid hsy
    have hgood := ref6Good_yes a c m.length m w rfl hr (by omega) hsy
    have HGOOD := Lib.hid hgood
    clear hgood hsy
    go_enter Try.func21, Try.ntmps21
    go_wp2_with fail
    refine HGOOD.out.mono ?_
    rintro e w1 ⟨rfl, rfl⟩
    rcases Nat.eq_zero_or_pos m.length with h0 | hn0
    · have e2 : m = [] := List.eq_nil_of_length_eq_zero h0
      subst e2
      go_wp2_with fail
      go_ret2
      exact rback_no (fun t h => by have := h.len; simp at this) (Below.refl _ _)
    · have hne : ((m.length : Int) == 0) = false := by rw [beq_eq_false_iff_ne]; omega
      go_wp2_with fail
      clear hne
      obtain ⟨b, off, rfl, hbl, hcs⟩ := hr.some hn0
      have HRD : Hid (∀ W, Below w.heap.size w W → ∀ j, j < m.length → W.cell? ⟨b, off + j, none⟩ = some (.int .i64 (sy m j))) := by
        intro W hW j hj
        rw [(hW.cell (p := ⟨b, off + j, none⟩) hbl).trans (hcs j hj), sy_in hj]
        simp [hj]
      have HRM : Hid (∀ W, Below w.heap.size w W → Reads W .i64 (some ⟨b, off, none⟩) m) := by
        intro W hW i hi
        refine ⟨b, off, rfl, by have := hW.size; omega, fun j hj => (hW.cell (p := ⟨b, off + j, none⟩) hbl).trans (hcs j hj)⟩
      clear hcs hr HGOOD
      go_loopw [4, 5, 6] (fun v4 v5 v6 wr => ∃ j : Nat, j + 1 ≤ m.length ∧ v6 = .int .i64 ((j : Int) + 1) ∧ v5 = .int .i64 (chain m j : Int) ∧ wr.ownsRow w.heap.size 5 1 v4 j (((textOf m).drop (m.length - 1 - j)).map (Value.int .u8)) ∧ (∀ x, x < j → 1 ≤ sy m (chain m x)) ∧ Below w.heap.size w wr) (fun _ _ v6 _ => m.length - (intOf v6).toNat)
      case atStart =>
        refine ⟨0, by omega, rfl, rfl, ?_, (fun x hx => by omega), Below.refl _ _⟩
        rw [List.drop_eq_nil_of_le (by rw [textOf_len]; omega)]
        exact World.ownsRow_nil _ _ _ _
      case round => as_aux_lemma =>
        obtain ⟨j, hj, rfl, rfl, hown, hbs, hbw⟩ := hrel
        have hs' := hbw.size
        have HBS := Lib.hid hbs
        have HOWN := Lib.hid hown
        obtain ⟨a4, c4, rfl, hnil4, _⟩ := own_slice hown
        have HNIL := Lib.hid hnil4
        by_cases hlt : j + 1 < m.length
        · have hcl := chain_lt hn0 j
          have e1 := HRD.out wr hbw (chain m j) hcl
          have hxm := HSY.out (sy m (chain m j)) (by rw [sy_in hcl]; exact List.getElem_mem _)
          have hd0 : decide ((j : Int) + 1 < (m.length : Int)) = true := decide_eq_true (by omega)
          by_cases hx0 : sy m (chain m j) = 0
          · have HNO : Hid (∀ t, ¬ IsLast t m) := fun t h => by
              have h1 := h.len
              have h2 := h.sym (k := j) (by omega)
              have h3 := h.1 _ (List.getElem_mem (show t.length - 1 - j < t.length by omega))
              omega
            rw [hx0] at e1
            clear hbs hown hx0 hxm
            go_wp2_with fail
            go_ret2
            exact rback_no HNO.out hbw
          · have htd := textOf_drop hlt
            have hrk := ref6Rank_any (some ⟨b, off, none⟩) c m.length m (chain m j) (sy m (chain m j))
            have hbe := ref6Below_any (some ⟨b, off, none⟩) c m.length m (sy m (chain m j))
            have hch : ((belowL m (sy m (chain m j)) : Nat) : Int) + ((cnt (m.take (chain m j)) (sy m (chain m j)) : Nat) : Int) = (chain m (j + 1) : Int) := by
              show _ = ((lfL m (chain m j) : Nat) : Int)
              unfold lfL; omega
            have hb1 : belowL m (sy m (chain m j)) ≤ 100000 := by
              have := below_cnt_le m (sy m (chain m j)); omega
            have hb2 : cnt (m.take (chain m j)) (sy m (chain m j)) ≤ 100000 := by
              have := below_cnt_le m (sy m (chain m j))
              have := cnt_take_lt hcl
              omega
            have hsy1 : ∀ x, x < j + 1 → 1 ≤ sy m (chain m x) := fun x hx => by
              rcases Nat.lt_or_ge x j with k | k
              · exact hbs x k
              · obtain rfl : x = j := by omega
                omega
            have HS1 := Lib.hid hsy1
            have HTD := Lib.hid htd
            have HCH := Lib.hid hch
            have hk9 : chain m j ≤ 1000000000 := by omega
            have HRK : Hid (∀ W, Below w.heap.size w W → Calls Try.prog 65 #[.slice (some ⟨b, off, none⟩) m.length c, .int .i64 (chain m j : Int), .int .i64 (sy m (chain m j))] W fun e w' => e = .returned (.int .i64 (cnt (m.take (chain m j)) (sy m (chain m j)) : Int)) ∧ W = w') :=
              fun W hW => hrk W rfl (HRM.out W hW) (by omega) hk9
            have HBE : Hid (∀ W, Below w.heap.size w W → Calls Try.prog 64 #[.slice (some ⟨b, off, none⟩) m.length c, .int .i64 (sy m (chain m j))] W fun e w' => e = .returned (.int .i64 (belowL m (sy m (chain m j)) : Int)) ∧ W = w') :=
              fun W hW => hbe W rfl (HRM.out W hW) (by omega)
            clear hbs hown hsy1 htd hch hrk hbe hk9 HBS
            generalize cnt (m.take (chain m j)) (sy m (chain m j)) = z1 at *
            generalize belowL m (sy m (chain m j)) = z2 at *
            generalize sy m (chain m j) = x at *
            generalize chain m j = ρ at *
            have hw8 : IntKind.u8.wrap (x - 1) = x - 1 := by simp [IntKind.wrap, IntKind.bits, IntKind.signed]; omega
            have HLIT : Hid ((wr.alloc (.cells #[.int .u8 (x - 1)] 5)).ownsRow w.heap.size 5 1 (.slice (some ⟨wr.heap.size, 0, none⟩) 1 1) 1 [.int .u8 (x - 1)]) := own_lit [.int .u8 (x - 1)] wr rfl hs' (by unfold maxLen; omega)
            have HRV : Hid (ReadsV (wr.alloc (.cells #[.int .u8 (x - 1)] 5)) a4 (((textOf m).drop (m.length - 1 - j)).map (Value.int .u8))) := readsV_own (World.ownsRow.alloc HOWN.out _)
            have hnl : (((textOf m).drop (m.length - 1 - j)).map (Value.int .u8)).length = j := by simp [textOf_len]; omega
            have hone := oneI .u8 ((textOf m).drop (m.length - 1 - j))
            have HBA : Hid (Below w.heap.size w (wr.alloc (.cells #[.int .u8 (x - 1)] 5))) := hbw.alloc hs' _
            have HNL := Lib.hid hnl
            have HONE := Lib.hid hone
            clear hnl hone hnil4 HOWN
            go_wp2_with (at_builtin; refine wpList_appendL rfl _ _ 23 rfl w.heap.size 5 Try.infoU8 Try.underlying23 rfl _ 1 _ rfl HLIT.out a4 j c4 (((textOf m).drop (m.length - 1 - j)).map (Value.int .u8)) rfl HNL.out HNIL.out HRV.out.hnews HONE.out (by unfold maxLen; omega) (by omega) HBA.out.size ?_)
            intro a5 c5 w5 hown5 hgrow5 _
            have hb5 : Below w.heap.size w w5 := HBA.out.grown hgrow5 HBA.out.size (fun j hj => (own_lt HLIT.out hj).1)
            have HB5 := Lib.hid hb5
            have HO5 : Hid (w5.ownsRow w.heap.size 5 1 (.slice a5 (j + 1) c5) (j + 1) (((textOf m).drop (m.length - 1 - (j + 1))).map (Value.int .u8))) := by
              show w5.ownsRow _ _ _ _ _ _
              rw [HTD.out, List.map_cons, Nat.add_comm j 1]
              simpa using hown5
            have hs5 := hb5.size
            have hbe5 := HBE.out w5 hb5
            have hrk5 := HRK.out w5 hb5
            clear hown5 hgrow5 hb5 e1 HRK HBE HTD HLIT HRV HBA
            rw [Nat.add_comm 1 j]
            go_wp2_with fail
            refine hbe5.mono ?_
            rintro e w' ⟨rfl, rfl⟩
            go_wp2_with fail
            refine hrk5.mono ?_
            rintro e w' ⟨rfl, rfl⟩
            go_wp2_with fail
            go_roundw
            case rel =>
              refine ⟨j + 1, by omega, by go_num, ?_, HO5.out, HS1.out, HB5.out⟩
              rw [HCH.out]
            case measure => simp [intOf]; omega
        · obtain rfl : j = m.length - 1 := by omega
          have hn1 : m.length - 1 + 1 = m.length := by omega
          have hd0 : decide (((m.length - 1 : Nat) : Int) + 1 < (m.length : Int)) = false := decide_eq_false (by omega)
          rw [Nat.sub_self, List.drop_zero] at hown
          have htl : (textOf m).length = m.length - 1 := textOf_len m
          have hbyt : ByteL (textOf m) := by
            intro x hx
            obtain ⟨z, hz, rfl⟩ := List.getElem_of_mem hx
            rw [htl] at hz
            have hg := textOf_get (m := m) (i := z) hz
            rw [List.getElem?_eq_getElem (by omega)] at hg
            injection hg with hg
            rw [hg]
            have h1 := hbs (m.length - 2 - z) (by omega)
            have h2 := chain_lt hn0 (m.length - 2 - z)
            have h3 := HSY.out (sy m (chain m (m.length - 2 - z))) (by rw [sy_in h2]; exact List.getElem_mem _)
            omega
          have hrd : Reads wr .u8 a4 (textOf m) := own_reads hown
          have hcv : (convert 23 9 (.slice a4 (m.length - 1) c4)).run Try.prog wr = .ok (.string (strOfNums (textOf m))) wr := by
            have := conv_str (P := Try.prog) (w := wr) (xs := textOf m) (c := c4) Try.underlying23 Try.underlying5 Try.underlying9 hrd
            rwa [htl] at this
          have hcv2 : ∀ W, Below wr.heap.size wr W → (convert 23 9 (.slice a4 (m.length - 1) c4)).run Try.prog W = .ok (.string (strOfNums (textOf m))) W := fun W hW => by
            have := conv_str (P := Try.prog) (w := W) (xs := textOf m) (c := c4) Try.underlying23 Try.underlying5 Try.underlying9 (hrd.below hW)
            rwa [htl] at this
          have hls := ref6Last_any (strOfNums (textOf m)) wr (by rw [← tOfS_len, tOfS_of hbyt]; omega)
          rw [tOfS_of hbyt] at hls
          have HLS := Lib.hid hls
          have HCV2 := Lib.hid hcv2
          have HTL := Lib.hid htl
          have HN1 := Lib.hid hn1
          clear hls hcv2 htl hn1 hbs hown hrd hbyt hnil4 HNIL
          generalize hst : strOfNums (textOf m) = st at *
          have HST := Lib.hid hst
          clear hst
          go_wp2_with fail
          refine HLS.out.mono ?_
          rintro e w5 ⟨m', hm', v, rfl, hown5, hb5⟩
          obtain ⟨a5, c5, rfl, _, _⟩ := own_slice hown5
          have hr5 := own_reads hown5
          have hb6 := hbw.trans (hb5.mono hs')
          have hrm := HRM.out w5 hb6
          have hl5 : m'.length = m.length := by rw [hm'.len, HTL.out, HN1.out]
          have hsame := refSame_len a5 (some ⟨b, off, none⟩) m'.length m.length c5 c m' m w5 hr5 hrm rfl rfl (by omega)
          have HSAME := Lib.hid hsame
          have HM' := Lib.hid hm'
          have HB6 := Lib.hid hb6
          have HB5 := Lib.hid hb5
          clear hown5 hr5 hrm hl5 hsame hm' hb5 hb6 HLS
          go_wp2_with fail
          refine HSAME.out.mono ?_
          rintro e w6 ⟨rfl, nd, rfl⟩
          have hcv5 := HCV2.out _ (below_dN HB5.out nd)
          have HB6 := Lib.hid (below_dN HB6.out nd)
          by_cases hmm : m' = m
          · have dd : sameI m' m = true := decide_eq_true hmm
            rw [dd]
            have HMM := Lib.hid hmm
            clear hmm dd
            go_wp2_with fail
            go_ret2
            refine ⟨_, _, rfl, HB6.out, fun _ => ⟨?_, HST.out.symm⟩, fun h => by cases h⟩
            have := HM'.out
            rwa [HMM.out] at this
          · have dd : sameI m' m = false := decide_eq_false hmm
            rw [dd]
            have HNO : Hid (∀ t, ¬ IsLast t m) := fun t h => hmm (by
              have h2 := h.text
              rw [h2] at h
              exact HM'.out.same h)
            clear hmm dd
            go_wp2_with fail
            go_ret2
            exact rback_no HNO.out HB6.out
  · obtain ⟨k0, hk0, hs, hx⟩ := first_bad hsy
    have hbad := ref6Good_no a c m.length k0 m w rfl hr (by omega) hk0 hs hx
    have HBAD := Lib.hid hbad
    clear hbad hs hx hr
    go_enter Try.func21, Try.ntmps21
    go_wp2_with fail
    refine HBAD.out.mono ?_
    rintro e w1 ⟨rfl, rfl⟩
    go_wp2_with fail
    go_ret2
    exact rback_no (fun t h => hsy h.range) (Below.refl _ _)

end Go.Proofs.Ytpbmhdkhkbhgnaa
