/- The walk of ArenaMany: for whatever numbers it answers true and turns nothing that was there. -/
import Derived.Test.YteapkoomingdfaaArenaFull
namespace Go.Proofs.Yteapkoomingdfaa
set_option linter.unusedVariables false
set_option linter.unusedSimpArgs false
open Go.RowKit

theorem clr_some {T : List Bool} {l : List Int} (h : ∀ y ∈ l, 0 ≤ y ∧ T[y.toNat]? = some true) (hn : (l.map Int.toNat).Nodup) : ∃ T', clr T l = some T' := by
  induction l generalizing T with
  | nil => exact ⟨T, rfl⟩
  | cons x l ih =>
    obtain ⟨hx0, hx1⟩ := h x (by simp)
    rw [List.map_cons, List.nodup_cons] at hn
    simp only [clr]
    rw [if_pos (arIs_iff.2 ⟨hx0, hx1⟩)]
    refine ih (fun y hy => ?_) hn.2
    obtain ⟨hy0, hy1⟩ := h y (by simp [hy])
    refine ⟨hy0, ?_⟩
    rw [List.getElem?_set, if_neg (fun e => hn.1 (by rw [e]; exact List.mem_map.2 ⟨y, hy, rfl⟩))]
    exact hy1

/-- The numbers from 0 on. -/
def ints (k : Nat) : List Int := (List.range k).map fun (i : Nat) => (i : Int)
theorem ints_length (k : Nat) : (ints k).length = k := by simp [ints]
theorem ints_succ (k : Nat) : ints (k + 1) = ints k ++ [(k : Int)] := by simp [ints, List.range_succ]
theorem ints_toNat (k : Nat) : (ints k).map Int.toNat = List.range k := by
  unfold ints
  rw [List.map_map]
  exact List.map_id'' (fun x => by simp) _
theorem ints_mem {k : Nat} {y : Int} (h : y ∈ ints k) : 0 ≤ y ∧ y < k := by
  obtain ⟨i, hi, rfl⟩ := List.mem_map.1 h
  have := List.mem_range.1 hi
  omega

theorem many_ok (k : Nat) : ∃ T', T'.length = k ∧ T'.count false = k ∧ (Ar.mk (List.replicate k true) [] 100).free (ints k) = (0, ⟨T', List.range k, 100⟩) := by
  obtain ⟨T', h⟩ := clr_some (T := List.replicate k true) (l := ints k) (fun y hy => by
    have := ints_mem hy
    refine ⟨this.1, ?_⟩
    rw [List.getElem?_replicate, if_pos (by omega)]) (by rw [ints_toNat]; exact List.nodup_range)
  have hl := clr_length h
  have hc := (clr_get h).2.2.1
  refine ⟨T', by simpa using hl, by rw [hc, ints_length, List.count_replicate]; simp, ?_⟩
  unfold Ar.free
  simp only [h, Ar.push, ints_toNat, List.nil_append]

theorem many_bad (k r : Nat) (hk : k ≤ 20) (hr : r < k) : (Ar.mk (List.replicate k true) [] 100).free ((ints k).set r 50) = (7, ⟨List.replicate k true, [], 100⟩) := by
  have h : clr (List.replicate k true) ((ints k).set r 50) = none := by
    cases h : clr (List.replicate k true) ((ints k).set r 50) with
    | none => rfl
    | some T' =>
      have := ((clr_get h).2.1 50 (by
        rw [List.mem_iff_getElem?]
        exact ⟨r, by rw [List.getElem?_set, if_pos rfl, if_pos (by rw [ints_length]; exact hr)]⟩)).2
      rw [List.getElem?_replicate, if_neg (by show ¬ (50 : Int).toNat < k; have : (50 : Int).toNat = 50 := rfl; omega)] at this
      cases this
  unfold Ar.free
  simp only [h]

theorem getLast_range_take {k q : Nat} (h : q < k) : ((List.range k).take (q + 1)).getLast? = some q ∧ ((List.range k).take (q + 1)).dropLast = (List.range k).take q := by
  have hq : q < (List.range k).length := by simpa using h
  rw [List.take_add_one, List.getElem?_eq_getElem hq, Option.toList_some, List.getLast?_concat, List.dropLast_concat]
  simp

set_option maxHeartbeats 3200000 in
set_option maxRecDepth 100000 in
theorem walk_ArenaMany (w : World) (a0 : Int) (w0 : (Lit.int .i64 a0).wf = true) (a1 : Int) (w1 : (Lit.int .i64 a1).wf = true) :
    Calls Try.prog 13 #[.int .i64 a0, .int .i64 a1] w fun e w' => e = .returned (.bool true) ∧ Below w.heap.size w w' := by
  clear w0 w1
  obtain ⟨u, hu0, hu⟩ := u64_of' a0
  obtain ⟨v, hv0, hv⟩ := u64_of' a1
  have HV := Lib.hid hv; clear hv
  go_enter Try.func13, Try.ntmps13
  go_wp2_with fail
  clear hu
  have hx0 : 0 ≤ u % 19 := by omega
  have hx1 : u % 19 < 19 := by omega
  generalize u % 19 = x at *
  obtain ⟨n0, rfl⟩ := Int.eq_ofNat_of_zero_le hx0
  refine (new_at 100 w (by omega)).mono ?_
  rintro e w1 ⟨p, rfl, hA, hb1, hpl⟩
  have hR0 := ArRow.of_at hA
  go_wp2_with fail
  rw [show (2 + (n0 : Int)) = ((2 + n0 : Nat) : Int) from by omega]
  obtain ⟨n, hn⟩ : ∃ n, n = 2 + n0 := ⟨_, rfl⟩
  rw [← hn]
  have hn1 : 2 ≤ n := by omega
  have hn2 : n ≤ 20 := by omega
  clear hn
  go_loopw [7, 8] (fun v i wr => ∃ k : Nat, k ≤ n ∧ i = .int .i64 k ∧ ArRow w.heap.size wr p ⟨List.replicate k true, [], 100⟩ v k ((ints k).map (Value.int .i64)) ∧ Below w.heap.size w wr) (fun _ i _ => n - (intOf i).toNat)
  case atStart => exact ⟨0, by omega, rfl, hR0, hb1⟩
  case round =>
    obtain ⟨k, hk, rfl, hR, hb⟩ := hrel
    have hs := hb.size
    by_cases hlt : k < n
    · go_wp2_with fail
      refine (take_row hR hs (take_true (m := 100) (by omega))).mono ?_
      rintro e w2 ⟨rfl, hR2, hb2⟩
      have hs2 := (hb.trans hb2).size
      go_wp2_with (at_builtin; refine wpList_pushL rfl _ _ 32 rfl w.heap.size 3 Try.infoInt' Try.underlying32 rfl _ _ _ rfl hR2.own rfl rfl ?c1 ?c2 ?c3 ?_)
      case c1 => unfold maxLen; omega
      case c2 => omega
      case c3 => omega
      intro g cap w3 hown hgrow hor hgl
      have hR3 := hR2.push hgrow hown hor
      have hb3 := hR2.push_below hs2 hgrow
      have HR3 := Lib.hid hR3
      clear hown hor hgrow hR3
      go_wp2_with fail
      go_roundw
      case rel => exact ⟨k + 1, by omega, by simp, by have := HR3.out; rw [ints_succ, List.map_append]; exact this, (hb.trans hb2).trans hb3⟩
      case measure => simp [intOf]; omega
    · have hkn : k = n := by omega
      rw [hkn] at hR
      clear hkn
      obtain ⟨wo, rfl⟩ : ∃ wo : World, wo = wr := ⟨_, rfl⟩
      obtain ⟨la, lc, rfl, _, _⟩ := own_slice hR.own
      obtain ⟨S, hA, hS, hown, hsep⟩ := hR
      obtain ⟨lg, lcap, hv, hlg, hlgl, hlc, _, _, _⟩ := own_some hown (by omega)
      injection hv with e1 _ e3
      subst e1; subst e3
      have hlS : ¬ S lg := hsep lg rfl
      have hnil : (wo.alloc (.cells #[] 3)).ownsRow w.heap.size 3 1 (.slice (some ⟨wo.heap.size, 0, none⟩) 0 0) 0 [] := World.ownsRow_made wo #[] 0 hs (by unfold maxLen; omega) rfl
      have hnews : ∀ q, some (⟨lg, 0, none⟩ : Addr) = some q → ∀ j u, ((ints n).map (Value.int .i64))[j]? = some u → (wo.alloc (.cells #[] 3)).cell? (q.add j) = some u := by
        intro q hq j u hu
        cases hq
        rw [World.cell?_alloc_lt _ _ _ (by rw [Addr.add_lit]; exact hlgl)]
        exact hown.cells (g := lg) rfl j u hu
      have HNE := Lib.hid hnews
      have HOL := Lib.hid hown
      have HSEP := Lib.hid hsep
      have HSB := Lib.hid hS
      have hwn : IntKind.u64.wrap (n : Int) = (n : Int) := by rw [IntKind.wrap_u64]; omega
      have hzn : ¬ (n : Int) = 0 := by omega
      have hr0 : 0 ≤ v % (n : Int) := Int.emod_nonneg _ (by omega)
      have hr1 : v % (n : Int) < (n : Int) := Int.emod_lt_of_pos _ (by omega)
      have hvv := HV.out
      clear hnews hown hsep hS
      go_wp2_with (at_builtin; refine wpList_appendL rfl _ _ 32 rfl w.heap.size 3 Try.infoInt' Try.underlying32 rfl _ _ _ rfl hnil _ _ _ ((ints n).map (Value.int .i64)) rfl ?c0 ?c6 HNE.out ?d1 ?d2 ?d3 ?d4 ?_)
      case c0 => simp [ints_length]
      case d1 => intro u hu; obtain ⟨z, _, rfl⟩ := List.mem_map.1 hu; rfl
      case d2 => unfold maxLen; omega
      case d3 => omega
      case d4 => omega
      intro a' c' w2 hown2 hgrow hor
      obtain ⟨xg, xcap, hv, hxg, hxgl, hxc, _, hxcell, hxfz⟩ := own_some hown2 (by omega)
      injection hv with e1 _ e3
      subst e1; subst e3
      have hxn : wo.heap.size ≤ xg := by
        rcases hor xg rfl with e | e
        · simp [Value.ownBlock] at e; omega
        · omega
      obtain ⟨r, hr⟩ := Int.eq_ofNat_of_zero_le hr0
      have hrn : r < n := by omega
      have hxc := hxcell r hrn
      have hrl : r < (ints n).length := by rw [ints_length]; exact hrn
      rw [List.getElem?_map, List.getElem?_eq_getElem hrl] at hxc
      simp only [Option.map_some] at hxc
      generalize (ints n)[r] = xv at *
      have hxf := hxfz r
      have hchg : Chg (fun _ => False) wo (w2.setCell ⟨xg, r, none⟩ (.int .i64 50)) :=
        ((Chg.refl.alloc _).grown hgrow (fun k hk => by simp [Value.ownBlock] at hk; exact Or.inr (by omega))).setCell _ (Or.inr hxn) _
      have hA3 := hA.chg hchg (fun _ _ hf => hf)
      have hO3 := hchg.own HOL.out (fun _ _ hf => hf)
      have hX3 := own_set hown2 r (.int .i64 50)
      have e50 : ((ints n).map (Value.int .i64)).set r (.int .i64 50) = ((ints n).set r 50).map (Value.int .i64) := by rw [List.map_set]
      rw [e50] at hX3
      have hrd := own_reads hX3
      have hxs : ((ints n).set r 50).length = n := by rw [List.length_set, ints_length]
      have hxS : ¬ S xg := fun h => by have := hA.lt _ h; omega
      have hbad := many_bad n r hn2 hrn
      have hb3 : Below w.heap.size w (w2.setCell ⟨xg, r, none⟩ (.int .i64 50)) := hb.trans (hchg.below (fun _ hf => hf.elim) hs)
      have HBAD := Lib.hid hbad
      have HRD := Lib.hid hrd
      have HXS := Lib.hid hxs
      have HA3 := Lib.hid hA3
      have HO3 := Lib.hid hO3
      have HB3 := Lib.hid hb3
      have HCH := Lib.hid hchg
      have hlc3 : lg < (w2.setCell ⟨xg, r, none⟩ (.int .i64 50)).heap.size := by have := hchg.size; omega
      have HLC3 := Lib.hid hlc3
      clear hxcell hxfz hown2 hgrow hor hchg hA3 hO3 hX3 e50 hrd hxs hbad hb3 hlc3 hnil hA
      rw [hr] at hr0 hr1
      go_wp2_with fail
      have hfr := arFree_any HA3.out ((ints n).set r 50) (some ⟨xg, 0, none⟩) c' HRD.out (fun e => by cases e) (fun ad e hSS => by cases e; exact hxS hSS) (by rw [HXS.out]; omega) (by rw [HXS.out]; assumption)
      rw [HXS.out, HBAD.out] at hfr
      refine hfr.mono ?_
      rintro e w4 ⟨rfl, S', hA4, hc4, hs4⟩
      have hS' : ∀ k, S' k → w.heap.size ≤ k := fun k hk => (hs4 k hk).elim (HSB.out k) (fun h => by have := HB3.out.size; omega)
      have hR4 : ArRow w.heap.size w4 p ⟨List.replicate n true, [], 100⟩ (.slice (some ⟨lg, 0, none⟩) n lc) n ((ints n).map (Value.int .i64)) :=
        ⟨S', hA4, hS', hc4.own HO3.out HSEP.out, fun g hg hSg => by
          rcases hs4 g hSg with h | h
          · exact HSEP.out g hg h
          · simp [Value.ownBlock] at hg; subst hg; have := HLC3.out; omega⟩
      have hb4 : Below w.heap.size w w4 := HB3.out.trans (hc4.below HSB.out HB3.out.size)
      clear hfr hA4 hc4 hs4 hS'
      have hlv : Ar.live ⟨List.replicate n true, [], 100⟩ = n := by simp [Ar.live]
      have HLV := Lib.hid hlv; clear hlv
      go_wp2_with fail
      refine (live_at hR4.at).mono ?_
      rintro e w' ⟨rfl, q, rfl⟩
      rw [HLV.out]
      have hR5 := hR4.chg (w' := w4.drewN q) (below_drewN (Below.refl _ _) q)
      have hb5 := below_drewN hb4 q
      obtain ⟨T', hT1, hT2, hfree⟩ := many_ok n
      have HT1 := Lib.hid hT1
      have HFREE := Lib.hid hfree
      clear hT1 hfree
      go_wp2_with fail
      refine (free_own hR5 hb5.size (by rw [ints_length]; omega) HFREE.out).mono ?_
      rintro e w6 ⟨rfl, hR6, hb6⟩
      have hb7 := hb5.trans hb6
      have hlv : Ar.live ⟨T', List.range n, 100⟩ = 0 := by have := HT1.out; simp [Ar.live, this]
      have HLV2 := Lib.hid hlv; clear hlv
      go_wp2_with fail
      refine (live_at hR6.at).mono ?_
      rintro e w' ⟨rfl, q2, rfl⟩
      rw [HLV2.out]
      have hA8 := (hR6.chg (w' := w6.drewN q2) (below_drewN (Below.refl _ _) q2)).at
      have hb8 := below_drewN hb7 q2
      have HA8 := Lib.hid hA8
      clear hA8
      go_wp2_with fail
      go_loopw [10] (fun i wr => ∃ m : Nat, m ≤ n ∧ i = .int .i64 ((m : Int) - 1) ∧ ∃ a' : Ar, a'.T.length = n ∧ a'.M = 100 ∧ a'.F = (List.range n).take m ∧ ArAt w.heap.size wr p a' ∧ Below w.heap.size w wr) (fun i _ => (intOf i + 1).toNat)
      case atStart => exact ⟨n, by omega, rfl, _, HT1.out, rfl, by rw [List.take_of_length_le (by simp)], HA8.out, hb8⟩
      case round =>
        obtain ⟨m, hm, rfl, a', hT, hM, hF, hA, hb⟩ := hrel
        have hs := hb.size
        have hok := hA.ok
        cases m with
        | zero =>
          have hmd : a'.T.length = n := hT
          have HMD := Lib.hid hmd
          clear hF hT hM hmd
          go_wp2_with fail
          refine (told3_any _).mono ?_
          rintro e w9 ⟨rfl, hb9⟩
          have hA9 := hA.chg hb9
          go_wp2_with fail
          refine (made_at hA9).mono ?_
          rintro e w' ⟨rfl, rfl⟩
          rw [HMD.out]
          go_wp2_with fail
          go_ret
          exact ⟨rfl, hb.trans (hb9.mono hs)⟩
        | succ q =>
          have hq : q < n := by omega
          have hgl := getLast_range_take hq
          rw [← hF] at hgl
          have htk := take_last hok hgl.1
          have hF2 : (a'.pop q).F = (List.range n).take q := hgl.2
          have hT2 : (a'.pop q).T.length = n := by simp [Ar.pop, hT]
          have HTK := Lib.hid htk
          have HF2 := Lib.hid hF2
          have HT2 := Lib.hid hT2
          have HM2 := Lib.hid hM
          clear hF hT hM htk hF2 hT2 hgl
          go_wp2_with fail
          refine (take_at hA hs HTK.out).mono ?_
          rintro e w9 ⟨rfl, hA9, hb9⟩
          go_wp2_with fail
          go_roundw
          case rel => exact ⟨q, by omega, by simp, _, HT2.out, HM2.out, HF2.out, hA9, hb.trans hb9⟩
          case measure => simp [intOf]

end Go.Proofs.Yteapkoomingdfaa
