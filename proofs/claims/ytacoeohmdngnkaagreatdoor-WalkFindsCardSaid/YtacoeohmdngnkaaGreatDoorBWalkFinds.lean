/- The walk of WalkFinds. -/
import Derived.Test.YtacoeohmdngnkaaGreatDoorZk8
namespace Go.Proofs.YtacoeohmdngnkaaGreatDoor
set_option linter.unusedVariables false
set_option linter.unusedSimpArgs false
open Go.RowKit

set_option maxHeartbeats 6400000 in
set_option maxRecDepth 100000 in
theorem walk_WalkFinds (w : World) (hT : BitTab w) (a0 : Option Addr) (c0 : Nat) (z0 : List Int) (w0 : ArgI .i64 w a0 c0 z0) (few : Bool) (a2 : Option Addr) (c2 : Nat) (z2 : List Int) (w2 : ArgI .i64 w a2 c2 z2) :
    Calls Tryz.prog 4 #[.slice a0 z0.length c0, .bool few, .slice a2 z2.length c2] w fun e w' => e = .returned (.bool true) ∧ Below w.heap.size w w' := by
  have hrd := w0.reads
  have hzm := Nat.le_trans w0.le w0.max
  have HR2 := Lib.hid w2.reads
  have hzm2 := Nat.le_trans w2.le w2.max
  have HT := Lib.hid hT
  have HTX := Lib.hid (lawText_any a0 c0 z0 60 few w hrd (by omega) hzm)
  clear hT w0 w2 hrd hzm
  go_enter Tryz.func4, Tryz.ntmps4
  go_wp2_with fail
  refine HTX.out.mono ?_
  rintro e w1 ⟨ta, tc, t, rfl, hbt, htl, hot, hb1⟩
  have HOT := Lib.hid hot
  have HBT := Lib.hid hbt
  have HB1 := Lib.hid hb1
  have HTQ := Lib.hid (lawText_any a2 c2 z2 4 few w1 (HR2.out.below hb1) (by omega) hzm2)
  clear hot hb1 HTX hbt hzm2 HR2
  go_wp2_with fail
  refine HTQ.out.mono ?_
  rintro e w2 ⟨qa, qc, u, rfl, hbu, hul, hou, hb2⟩
  have HOT2 := Lib.hid (own_below HOT.out hb2 (fun k hk => (own_lt HOT.out hk).2))
  have HOU2 := Lib.hid (own_mono hou HB1.out.size)
  have HBU := Lib.hid hbu
  have HB2 := Lib.hid (HB1.out.trans (hb2.mono HB1.out.size))
  have HNEW := Lib.hid (wkNew_any ta tc t rfl (own_reads HOT2.out) HBT.out (by omega))
  clear hou hb2 hbu HOT HB1 HTQ
  go_wp2_with fail
  refine HNEW.out.mono ?_
  rintro e w3 ⟨p, r, L, rfl, hR, hk, hb3⟩
  have HR := Lib.hid hR
  have HB3 := Lib.hid (HB2.out.trans (hb3.mono HB2.out.size))
  have HW3 := Lib.hid (WkL.start HOT2.out HB2.out HT.out hk hb3)
  have HUX : Hid (∀ ad, qa = some ad → (fun j => False ∨ (w.heap.size ≤ j ∧ j < w2.heap.size)) ad.block) := Lib.hid (fun ad h => by
    obtain ⟨a', c', hv, _, had⟩ := own_slice HOU2.out
    injection hv with q1 _ _
    subst q1
    obtain ⟨g, rfl, h1, h2, _⟩ := had ad h
    exact Or.inr ⟨h1, h2⟩)
  have HRU := Lib.hid ((own_reads HOU2.out).below hb3)
  generalize (fun j => False ∨ (w.heap.size ≤ j ∧ j < w2.heap.size)) = X at *
  clear hR hk hb3 HNEW HOT2 HOU2 HB2
  have hlen : ((t.length + 1 : Nat) : Int) = ((t.length + 1 : Nat) : Int) := rfl
  go_wp2_with fail
  refine (wlLen HW3.out HR.out).mono ?_
  rintro e w' ⟨rfl, rfl⟩
  go_wp2_with fail
  go_loopw [10, 11, 12] (fun l h i wr => ∃ k lo hi : Nat, k ≤ u.length ∧ i = .int .i64 ((k : Int) - 1) ∧ l = .int .i64 lo ∧ h = .int .i64 hi ∧ Nar t r (u.drop k) lo hi ∧ WkL w.heap.size X w3 wr p L ta t) (fun _ _ i _ => (intOf i + 1).toNat)
  case atStart => exact ⟨u.length, 0, t.length + 1, Nat.le_refl _, rfl, rfl, rfl, by rw [List.drop_length]; exact Nar.nil HR.out, HW3.out⟩
  case round => as_aux_lemma =>
    clear HW3 hlen
    obtain ⟨k, lo, hi, hk, rfl, rfl, rfl, hn, hW⟩ := hrel
    have HW := Lib.hid hW
    have HN := Lib.hid hn
    have hlh := hn.1
    have hhn := hn.2.1
    have HRW := Lib.hid (hW.chg.reads HRU.out (fun ad ha hs => hs.2 (HUX.out ad ha)))
    clear hW hn
    by_cases hk0 : 0 < k
    · obtain ⟨n, rfl⟩ : ∃ n, k = n + 1 := ⟨k - 1, by omega⟩
      have e1 : ((n + 1 : Nat) : Int) - 1 = (n : Int) := by omega
      obtain ⟨qb, qoff, rfl, hqb, hqc⟩ := HRW.out.some (by omega)
      have hbn := HBU.out n (by omega)
      obtain ⟨b, hb⟩ : ∃ b : Nat, u[n]?.getD 0 = (b : Int) := ⟨(u[n]?.getD 0).toNat, by omega⟩
      have hcq : wr.cell? ⟨qb, qoff + n, none⟩ = some (.int .u8 (b : Int)) := by rw [hqc n (by omega), hb]
      have hb256 : b < 256 := by omega
      have hdr : u.drop n = (b : Int) :: u.drop (n + 1) := by
        rw [List.drop_eq_getElem_cons (by omega)]
        rw [List.getElem?_eq_getElem (by omega), Option.getD_some] at hb
        rw [hb]
      have HNC := Lib.hid (hdr ▸ Nar.cons HR.out HN.out hb256 : Nar t r (u.drop n) (nar L lo (b + 1)) (nar L hi (b + 1)))
      have hna := wlNarrow HW.out HR.out (by omega) hlh hhn (s := b + 1) (by omega)
      rw [show ((b + 1 : Nat) : Int) = (b : Int) + 1 by omega] at hna
      have HNA := Lib.hid hna
      have n0 : (0 : Int) ≤ (n : Int) := by omega
      have n1 : (n : Int) < (u.length : Int) := by omega
      have hw1 : IntKind.i64.wrap (b : Int) = (b : Int) := IntWalk.i64_in _ (by omega)
      rw [e1]
      clear hqc hbn hb hdr hna e1
      go_wp2_with fail
      refine HNA.out.mono ?_
      rintro e w4 ⟨rfl, hw4⟩
      have HW4 := Lib.hid hw4
      clear hw4 HNA hcq hw1
      go_wp2_with fail
      go_roundw
      case rel => exact ⟨n, _, _, by omega, by go_num, rfl, rfl, HNC.out, HW4.out⟩
      case measure => simp [intOf]
    · obtain rfl : k = 0 := by omega
      have d1 : decide ((0 : Int) ≤ ((0 : Nat) : Int) - 1) = false := by decide
      have HTO := Lib.hid (told10_any wr HW.out.tab)
      have HBW := Lib.hid (HB3.out.trans (exT_below HW.out.chg HB3.out.size))
      rw [List.drop_zero] at HN
      clear hk0
      go_wp2_with fail
      refine HTO.out.mono ?_
      rintro e w5 ⟨rfl, hb5⟩
      have HW5 := Lib.hid (HW.out.below hb5)
      have HB5 := Lib.hid (HBW.out.trans (hb5.mono HBW.out.size))
      have c1 := conv_str (P := Tryz.prog) (c := tc) Tryz.underlying24 Tryz.underlying5 Tryz.underlying9 HW5.out.r
      have c2 := conv_str (P := Tryz.prog) (c := qc) Tryz.underlying24 Tryz.underlying5 Tryz.underlying9 (HRW.out.below hb5)
      have hbu : ByteL u := byteL_of HBU.out
      have hpl := refPlaces_any (strOfNums t) (strOfNums u) w5 (by rw [strOfNums_size]; omega) (by rw [strOfNums_size]; omega)
      have hcount := HN.out.count HR.out (f := begB (strOfNums t) (strOfNums u)) (fun q hq => begB_pat HR.out.byte hbu q hq)
      rw [strOfNums_size, hcount] at hpl
      have HPL := Lib.hid hpl
      have hsub : ((hi - lo : Nat) : Int) = (hi : Int) - (lo : Int) := by omega
      obtain ⟨st, hst⟩ : ∃ st, strOfNums t = st := ⟨_, rfl⟩
      obtain ⟨su, hsu⟩ : ∃ su, strOfNums u = su := ⟨_, rfl⟩
      rw [hst] at c1 HPL
      rw [hsu] at c2 HPL
      clear hpl hcount hbu hst hsu hb5 HW HBW HTO
      go_wp2_with fail
      refine HPL.out.mono ?_
      rintro e w6 ⟨v, xs, rfl, hxl, hown, hb6⟩
      obtain ⟨pa, pc, rfl, _, _⟩ := own_slice hown
      rw [hxl]
      have HB6 := Lib.hid (HB5.out.trans (hb6.mono HB5.out.size))
      clear hown hb6 c1 c2 hxl
      go_wp2_with fail
      go_ret
      exact ⟨rfl, HB6.out⟩

end Go.Proofs.YtacoeohmdngnkaaGreatDoor
