/- The walk of TreeShrinks. -/
import Derived.Test.YtcppgpjodfeigaaDoorZt6
import Derived.Deep.DeepCutAuto
import Derived.Deep.CutBlock
import Derived.Deep.CutRange
namespace Go.Proofs.YtcppgpjodfeigaaDoor
set_option linter.unusedVariables false
set_option linter.unusedSimpArgs false
open Go.RowKit

/-- What the walk keeps: the tree, the row of its bits. -/
structure ShK (B : Nat) (w0 w : World) (p : Nat) (o : Option ST) (M : Nat) (a : Option Addr) (c : Nat) (L : List Bool) : Prop where
  t : ∃ v : Int, TreeE B (abk a) w p o M v
  bits : sbits o = L
  r : ReadsV w a (L.map Value.bool)
  cap : L.length ≤ c ∧ c ≤ maxLen
  nil : a = none → L.length = 0 ∧ c = 0
  bl : Below B w0 w
section
variable {B : Nat} {w0 w w' : World} {p M c : Nat} {o : Option ST} {a : Option Addr} {L : List Bool}
theorem ShK.le (h : ShK B w0 w p o M a c L) : B ≤ w.heap.size := by obtain ⟨v, h0⟩ := h.t; exact h0.le
theorem ShK.below (h : ShK B w0 w p o M a c L) (hb : Below w.heap.size w w') : ShK B w0 w' p o M a c L := by
  obtain ⟨v, h0⟩ := h.t
  exact ⟨⟨v, h0.below hb⟩, h.bits, h.r.below' hb, h.cap, h.nil, h.bl.trans (hb.mono h.le)⟩
theorem ShK.drewN (h : ShK B w0 w p o M a c L) (n : Nat) : ShK B w0 (w.drewN n) p o M a c L := h.below ⟨rfl, rfl, rfl, Nat.le_refl _, fun _ _ => rfl⟩
end

theorem abk_lt {a : Option Addr} {B N : Nat} {v : Value} (had : ∀ ad, a = some ad → ∃ g, ad = (⟨g, 0, none⟩ : Addr) ∧ B ≤ g ∧ g < N ∧ v.ownBlock = some g) : ∀ k, abk a k → k < N := by
  rintro k ⟨ad, e1, e2⟩
  obtain ⟨g, rfl, _, h2, _⟩ := had ad e1
  subst e2; exact h2
/-- Behind a bit less: the tree, and the row that append has made. -/
theorem ShK.out {B : Nat} {w0 w w1 w2 : World} {p M c c2 : Nat} {o o1 : Option ST} {a a2 : Option Addr} {L L2 : List Bool} {v1 : Int} (h : ShK B w0 w p o M a c L) (ht : TreeE B (abk a) w1 p o1 M v1) (hb : sbits o1 = L2) (hbl : Below B w0 w1)
    (hr : ReadsV w2 a2 (L2.map Value.bool)) (hc : L2.length ≤ c2 ∧ c2 ≤ maxLen) (hn : a2 = none → L2.length = 0 ∧ c2 = 0) (ha : ∀ k, abk a2 k → (abk a k ∨ w1.heap.size ≤ k) ∧ k < w2.heap.size) (hbw : Below w1.heap.size w1 w2) : ShK B w0 w2 p o1 M a2 c2 L2 ∧ TreeE B (abk a2) w2 p o1 M v1 := by
  have h2 := ht.less hbw (Y := abk a2) (fun k hk => (ha k hk).1) (fun k hk => (ha k hk).2)
  exact ⟨⟨⟨v1, h2⟩, hb, hr, hc, hn, hbl.trans (hbw.mono ht.le)⟩, h2⟩

/-- What stands at the row behind a bit less. -/
theorem out_map {L : List Bool} {kk : Nat} : (L.take kk).map Value.bool ++ (L.drop (kk + 1)).map Value.bool = (outL L kk).map Value.bool := by
  unfold outL; rw [List.map_append]

theorem offA_ne (ad : Addr) (k : Nat) {c : Nat} : offA (some ad) k c ≠ none := by unfold offA; split <;> simp
theorem delO_size {o : Option ST} {L : List Bool} (hb : sbits o = []) (hg : Good o) : o = none := none_of hg hb

set_option maxHeartbeats 6400000 in
set_option maxRecDepth 100000 in
theorem walk_TreeShrinks (w : World) (hT : BitTab w) (a0 : Option Addr) (c0 : Nat) (z0 : List Int) (w0 : ArgI .i64 w a0 c0 z0) (a1 : Option Addr) (c1 : Nat) (z1 : List Int) (w1 : ArgI .i64 w a1 c1 z1) :
    Calls Tryd.prog 9 #[.slice a0 z0.length c0, .slice a1 z1.length c1] w fun e w' => e = .returned (.bool true) ∧ Below w.heap.size w w' := by
  have hrd := w0.reads
  have hzm := Nat.le_trans w0.le w0.max
  have HR1 := Lib.hid w1.reads
  have hz1 : z1.length ≤ 9223372036854775807 := Nat.le_trans w1.le w1.max
  have HT := Lib.hid hT
  clear hT w0 w1
  go_enter Tryd.func9, Tryd.ntmps9
  go_wp2_with fail
  refine (lawBits_big a0 c0 z0 1200 w hrd (by omega) hzm).mono ?_
  rintro e w1 ⟨l, hl, v, rfl, hown, hb1⟩
  go_upto_block 0 with fail
  go_cut [5] (fun v wx => ∃ l : List Bool, l.length ≤ 1200 ∧ wx.ownsRow w.heap.size 4 1 v l.length (l.map Value.bool) ∧ Below w.heap.size w wx)
  case first => as_aux_lemma =>
    go_wp2_with fail
    go_loopw [5] (fun v wr => ∃ l : List Bool, l.length ≤ 1200 ∧ wr.ownsRow w.heap.size 4 1 v l.length (l.map Value.bool) ∧ Below w.heap.size w wr) (fun v _ => 300 - (match v with | .slice _ n _ => n | _ => 0))
    case atStart => exact ⟨l, hl, hown, hb1⟩
    case round => as_aux_lemma =>
      clear hown hb1 hl
      obtain ⟨l, hl, hown, hb⟩ := hrel
      have hs := hb.size
      obtain ⟨a, c, rfl, hnil, had⟩ := own_slice hown
      by_cases hlt : 0 < l.length ∧ l.length < 300
      · obtain ⟨h0, h3⟩ := hlt
        have hd0 : decide ((0 : Int) < (l.length : Int)) = true := decide_eq_true (by omega)
        have hd1 : decide ((l.length : Int) < 300) = true := decide_eq_true (by omega)
        go_wp2_with (at_builtin; refine wpList_appendR rfl _ _ 23 rfl w.heap.size 4 Tryd.infoBoolR Tryd.underlying23 rfl _ _ _ rfl hown a l.length c (l.map Value.bool) rfl (by simp) ?n0 (readsV_own hown).hnews (oneB l) ?c1 ?c2 ?c3 ?_)
        case n0 => exact fun h => hnil h
        case c1 => unfold maxLen; omega
        case c2 => omega
        case c3 => omega
        intro v' w2 hown' hgrow
        have hnx' : Below w.heap.size w w2 := hb.grown hgrow hs (fun j hj => (hown.lt j hj).1)
        have HO : Hid (w2.ownsRow w.heap.size 4 1 v' (l ++ l).length ((l ++ l).map Value.bool)) := by
          show w2.ownsRow _ _ _ _ _ _
          rw [List.length_append, List.map_append]; exact hown'
        have HL : Hid (∃ a' c', v' = .slice a' (l.length + l.length) c') := by
          obtain ⟨a', c', h, _⟩ := own_slice hown'
          exact ⟨a', c', h⟩
        have HNX := Lib.hid hnx'
        clear hown hgrow hown' hnil hnx'
        go_wp2_with fail
        go_roundw
        case rel => exact ⟨l ++ l, by rw [List.length_append]; omega, HO.out, HNX.out⟩
        case measure =>
          obtain ⟨a', c', rfl⟩ := HL.out
          simp; omega
      · have HO := Lib.hid hown
        have HB := Lib.hid hb
        clear hown hb hnil had
        by_cases h0 : 0 < l.length
        · have hd0 : decide ((0 : Int) < (l.length : Int)) = true := decide_eq_true (by omega)
          have hd0n : decide (0 < l.length) = true := decide_eq_true h0
          have hd1 : decide ((l.length : Int) < 300) = false := decide_eq_false (by omega)
          clear hlt
          go_wp2_with fail
          go_meet
          case rel => exact ⟨l, hl, HO.out, HB.out⟩
        · have hd0 : decide ((0 : Int) < (l.length : Int)) = false := decide_eq_false (by omega)
          have hd0n : decide (0 < l.length) = false := decide_eq_false h0
          clear hlt h0
          go_wp2_with fail
          go_meet
          case rel => exact ⟨l, hl, HO.out, HB.out⟩
  case rest => as_aux_lemma =>
    clear hown hb1 hl
    obtain ⟨l, hl, hown, hb⟩ := hcut
    have hs := hb.size
    obtain ⟨a, c, rfl, hnil, had⟩ := own_slice hown
    have hrm := readsV_own hown
    have hcl := own_cap hown
    have hX := abk_lt had
    have HN := Lib.hid (new_t (B := w.heap.size) (X := abk a) l rfl hrm hcl.1 (by omega) hs hX)
    have HRM := Lib.hid hrm
    have HCL := Lib.hid hcl
    have HNI := Lib.hid hnil
    have HB := Lib.hid hb
    clear hrm hown had hX hnil hb hcl
    go_wp2_with fail
    refine HN.out.mono ?_
    rintro e w2 ⟨p, o, rfl, ht, hbits, hb2⟩
    have HK : Hid (ShK w.heap.size w w2 p o (sizeO o) a c l) := ⟨⟨0, ht⟩, hbits, HRM.out.below' hb2, HCL.out, HNI.out, HB.out.trans (hb2.mono HB.out.size)⟩
    have HLV := Lib.hid (live_t ht)
    have hM : sizeO o ≤ 1000000000 := by
      have hg := ht.good
      have hl := ht.len
      cases o with
      | none => simp [sizeO]
      | some t => have := good_small hg.2 hl; simp only [sizeO]; omega
    have HLL := Lib.hid hl
    clear ht hbits hb2 HN HRM HCL HNI HB
    generalize sizeO o = M at *
    go_wp2_with fail
    refine HLV.out.mono ?_
    rintro e w' ⟨rfl, n3, rfl⟩
    have HK3 := Lib.hid (HK.out.drewN n3)
    generalize w2.drewN n3 = w3 at *
    clear HK HLV
    go_wp2_with fail
    clear hl
    go_loopw [5, 7, 8] (fun v m x wr => ∃ (i mo : Nat) (a : Option Addr) (c : Nat) (L : List Bool) (o : Option ST), v = .slice a L.length c ∧ m = .int .i64 mo ∧ x = .int .i64 i ∧ ShK w.heap.size w wr p o M a c L ∧ i + L.length ≤ 1300 ∧ M ≤ mo ∧ mo ≤ 1000000000) (fun v _ _ _ => (match v with | .slice _ n _ => n | _ => 0))
    case atStart => exact ⟨0, M, a, c, l, o, rfl, rfl, rfl, HK3.out, by have := HLL.out; omega, Nat.le_refl _, hM⟩
    case round => as_aux_lemma =>
      clear HK3
      obtain ⟨i, mo, a, c, L, o, rfl, rfl, rfl, hk, hi, hmo, hmo2⟩ := hrel
      have HK := Lib.hid hk
      clear hk
      by_cases hlt : 0 < L.length
      · have hd0 : decide ((0 : Int) < (L.length : Int)) = true := decide_eq_true (by omega)
        obtain ⟨n1, hn1⟩ : ∃ n1 : Nat, n1 = L.length - 1 := ⟨_, rfl⟩
        have hw2 : (L.length : Int) - 1 = (n1 : Int) := by omega
        have hw1 : IntKind.i64.wrap (n1 : Int) = (n1 : Int) := IntWalk.i64_in _ (by omega)
        have HN1 : Hid (n1 + 1 = L.length) := (by omega : n1 + 1 = L.length)
        have HIL : Hid (i + L.length ≤ 1300) := hi
        clear hn1 hi
        go_upto_if 42 with fail
        go_cut [9] from 32 to 94 (fun v wx => ∃ kk : Nat, kk < L.length ∧ v = .int .i64 kk ∧ wx = wr)
        case first => as_aux_lemma =>
          by_cases hz0 : 0 < z1.length
          · have hdz : decide ((0 : Int) < (z1.length : Int)) = true := decide_eq_true (by omega)
            have hdn : decide (0 < z1.length) = true := decide_eq_true hz0
            obtain ⟨j, hj⟩ : ∃ j : Nat, j = i % z1.length := ⟨_, rfl⟩
            have hjl : j < z1.length := by rw [hj]; exact Nat.mod_lt _ hz0
            have hm4 : (i : Int) % (z1.length : Int) = (j : Int) := by rw [hj]; simp
            have hm4t : (i : Int).tmod (z1.length : Int) = (j : Int) := by rw [Int.tmod_eq_emod_of_nonneg (by omega), hm4]
            have hm5 : IntKind.i64.wrap (j : Int) = (j : Int) := IntWalk.i64_in _ (by omega)
            have hm6 : IntKind.i64.wrap ((i : Int).tmod (z1.length : Int)) = (j : Int) := by rw [hm4t, hm5]
            have hne : ((z1.length : Int) == 0) = false := by rw [beq_eq_false_iff_ne]; omega
            have hne2 : ¬ z1.length = 0 := by omega
            have HJ := Lib.hid hj
            clear hj
            obtain ⟨b, off, rfl, hbl, hcells⟩ := HR1.out.some (by omega)
            have hcx := (HK.out.bl.cell (p := ⟨b, off + j, none⟩) hbl).trans (hcells j hjl)
            generalize z1[j]?.getD 0 = x at *
            have HNR := Lib.hid (near5_any x n1 (by have := HIL.out; have := HN1.out; omega) wr)
            clear hcells
            go_wp2_with fail
            refine HNR.out.mono ?_
            rintro e w' ⟨⟨r, hrl, rfl⟩, rfl⟩
            go_wp2_with fail
            go_meet
            case rel => exact ⟨r, by have := HN1.out; omega, rfl, rfl⟩
          · have hdz : decide ((0 : Int) < (z1.length : Int)) = false := decide_eq_false (by omega)
            have hdn : decide (0 < z1.length) = false := decide_eq_false hz0
            go_wp2_with fail
            go_meet
            case rel => exact ⟨n1, by have := HN1.out; omega, rfl, rfl⟩
        case rest => as_aux_lemma =>
          obtain ⟨kk, hkk, rfl, hwc⟩ := hcut
          subst hwc
          obtain ⟨sn, sh, sm, sz, e0, e1, e2, e3⟩ := shapeV_cells o
          have HE0 := Lib.hid e0
          have HE2 := Lib.hid e2
          have hfd : ∀ w : World, (Instr.field 36 (.agg #[.int .i64 sn, .int .i64 sh, .int .i64 sm, .int .i64 sz]) 1).run Tryd.prog w = .ok (.int .i64 sh) w := fun _ => by kernel_rfl
          obtain ⟨v0, hv0⟩ := HK.out.t
          have hg0 := hv0.good
          have hl0 := hv0.len
          have hsh : sh ≤ 1000000000 := by
            rw [e2]
            cases o with
            | none => simp [shigh]
            | some t => have := good_small hg0.2 hl0; simp only [shigh]; omega
          have HSH := Lib.hid (shape_t hv0)
          rw [HE0.out] at HSH
          clear e0 e1 e2 e3 hv0 hg0 hl0 hw1 hw2
          go_wp2_with fail
          refine HSH.out.mono ?_
          rintro e w3 ⟨rfl, hb3⟩
          have HK3 := Lib.hid (HK.out.below hb3)
          clear hb3 HK HSH
          obtain ⟨v3, ht3⟩ := HK3.out.t
          have HD := Lib.hid (delete_t ht3 HK3.out.bits kk rfl hkk rfl)
          have HT3 := Lib.hid ht3
          clear ht3
          go_wp2_with fail
          refine HD.out.mono ?_
          rintro e w4 ⟨rfl, ⟨v4, hv4, ht4⟩, hc4⟩
          have HR4 := Lib.hid (HK3.out.r.chg hc4 (fun ad ha hk => hk.2 ⟨ad, ha, rfl⟩))
          have HT4 := Lib.hid ht4
          have HB4 := Lib.hid (HK3.out.bl.trans (exT_below hc4 HT3.out.le))
          have HV4 : Hid (v4 ≤ 8 * (max (shigh (delO o kk)) sh + 2)) := by
            show _ ≤ _; rw [HE2.out]; omega
          have HBI4 : Hid (sbits (delO o kk) = outL L kk) := by
            show _ = _; rw [delO_bits (by rw [HK3.out.bits]; exact hkk), HK3.out.bits]
          have hzz : sizeO (delO o kk) ≤ 1000000000 := by
            have hg := ht4.good
            have hl := ht4.len
            revert hg hl
            cases delO o kk with
            | none => intros; simp [sizeO]
            | some t => intro hg hl; have := good_small hg.2 hl; simp only [sizeO]; omega
          clear ht4 hc4 hv4 HD HT3
          generalize delO o kk = o4 at *
          obtain ⟨b, off, ha, hbl, hcx⟩ := readsB HR4.out hkk
          subst ha
          have HCAP := Lib.hid HK3.out.cap
          have hcap1 : L.length ≤ c := HCAP.out.1
          have hcap2 : c ≤ maxLen := HCAP.out.2
          have HBB := Lib.hid hbl
          generalize bitAt L kk = x at *
          have hS1 : ∀ w : World, (Instr.slice 23 (.slice (some ⟨b, off, none⟩) L.length c) none (some (.int .i64 (kk : Int))) (some (.int .i64 (kk : Int)))).run Tryd.prog w = .ok (.slice (some ⟨b, off, none⟩) kk kk) w := fun w => run_slice3 (e := 4) (by kernel_rfl) (by kernel_rfl) (by omega)
          have hS2 : ∀ w : World, (Instr.slice 23 (.slice (some ⟨b, off, none⟩) L.length c) (some (.int .i64 ((kk : Int) + 1))) none none).run Tryd.prog w = .ok (.slice (offA (some ⟨b, off, none⟩) (kk + 1) c) (L.length - (kk + 1)) (c - (kk + 1))) w := fun w => by
            have := run_sliceFrom (P := Tryd.prog) (w := w) (t := 23) (e := 4) (a := some ⟨b, off, none⟩) (len := L.length) (cap := c) (k := kk + 1) (by kernel_rfl) (by kernel_rfl) (by omega)
            rw [show ((kk + 1 : Nat) : Int) = (kk : Int) + 1 by omega] at this
            exact this
          have HK1 : Hid (kk + 1 ≤ L.length) := hkk
          have hxx : (x == x) = true := by simp
          have hxn : (x != x) = false := by simp
          go_wp2_with fail
          obtain ⟨i1, hi1, hz1', hsz1, hby1⟩ := info_parts Tryd.infoBoolR
          have HRT : Hid (ReadsV w4.drew (some ⟨b, off, none⟩) ((L.take kk).map Value.bool)) := by
            show ReadsV w4.drew _ _
            rw [List.map_take]; exact HR4.out.take kk
          have HRD : Hid (ReadsV w4.drew (offA (some ⟨b, off, none⟩) (kk + 1) c) ((L.drop (kk + 1)).map Value.bool)) := by
            show ReadsV w4.drew _ _
            rw [List.map_drop]; exact HR4.out.drop (by rw [List.length_map]; exact HCAP.out.1)
          have HLO : Hid (kk + (L.length - (kk + 1)) = (outL L kk).length) := by
            show _ = _; rw [outL_len hkk]; omega
          have hL13 : L.length ≤ 1300 := by have := HIL.out; omega
          have hi13 : i ≤ 1300 := by have := HIL.out; omega
          have hwk : IntKind.i64.wrap ((kk : Int) + 1) = (kk : Int) + 1 := IntWalk.i64_in _ (by omega)
          have hS3 : ∀ w : World, (Instr.slice 23 (.slice (some ⟨b, off, none⟩) L.length c) (some (.int .i64 (IntKind.i64.wrap ((kk : Int) + 1)))) none none).run Tryd.prog w = .ok (.slice (offA (some ⟨b, off, none⟩) (kk + 1) c) (L.length - (kk + 1)) (c - (kk + 1))) w := fun w => by rw [hwk]; exact hS2 w
          -- REGION shr
          refine reg_start (fun _ => True) (by kernel_rfl) (trivial) (fun hHeld => ?_)
          refine reg_take (i := 0) (v := ?vsr0) rfl (by kernel_rfl) rfl hHeld ?ysr0 ?rsr0
          case ysr0 => (intro w hSw; (try dsimp only at hSw); go_simp; all_goals with_reducible rfl)
          try simp only [Act.put, List.setIfInBounds_toArray, List.set_cons_zero, List.set_cons_succ]
          refine reg_take (i := 1) (v := ?vsr1) rfl (by kernel_rfl) rfl hHeld ?ysr1 ?rsr1
          case ysr1 => (intro w hSw; (try dsimp only at hSw); go_simp; all_goals with_reducible rfl)
          try simp only [Act.put, List.setIfInBounds_toArray, List.set_cons_zero, List.set_cons_succ]
          refine reg_take (i := 2) (v := ?vsr2) rfl (by kernel_rfl) rfl hHeld ?ysr2 ?rsr2
          case ysr2 => (intro w hSw; (try dsimp only at hSw); go_simp; all_goals with_reducible rfl)
          try simp only [Act.put, List.setIfInBounds_toArray, List.set_cons_zero, List.set_cons_succ]
          refine reg_take (i := 3) (v := ?vsr3) rfl (by kernel_rfl) rfl hHeld ?ysr3 ?rsr3
          case ysr3 => (intro w hSw; (try dsimp only at hSw); go_simp; all_goals with_reducible rfl)
          try simp only [Act.put, List.setIfInBounds_toArray, List.set_cons_zero, List.set_cons_succ]
          refine reg_take (i := 4) (v := ?vsr4) rfl (by kernel_rfl) rfl hHeld ?ysr4 ?rsr4
          case ysr4 => (intro w hSw; (try dsimp only at hSw); go_simp; all_goals with_reducible rfl)
          try simp only [Act.put, List.setIfInBounds_toArray, List.set_cons_zero, List.set_cons_succ]
          refine reg_take (i := 5) (v := ?vsr5) rfl (by kernel_rfl) rfl hHeld ?ysr5 ?rsr5
          case ysr5 => (intro w hSw; (try dsimp only at hSw); go_simp; all_goals with_reducible rfl)
          try simp only [Act.put, List.setIfInBounds_toArray, List.set_cons_zero, List.set_cons_succ]
          refine reg_take (i := 6) (v := ?vsr6) rfl (by kernel_rfl) rfl hHeld ?ysr6 ?rsr6
          case ysr6 => (intro w hSw; (try dsimp only at hSw); go_simp; all_goals with_reducible rfl)
          try simp only [Act.put, List.setIfInBounds_toArray, List.set_cons_zero, List.set_cons_succ]
          refine reg_take (i := 7) (v := ?vsr7) rfl (by kernel_rfl) rfl hHeld ?ysr7 ?rsr7
          case ysr7 => (intro w hSw; (try dsimp only at hSw); go_simp; all_goals with_reducible rfl)
          try simp only [Act.put, List.setIfInBounds_toArray, List.set_cons_zero, List.set_cons_succ]
          refine reg_loud (i := 8) rfl (by kernel_rfl) rfl (fun K hK => ?_)
          refine wp_append_full _ _ 23 rfl 4 _ _ _ Tryd.underlying23 hi1 hz1' hsz1 hby1 (by rfl) b off kk ((L.take kk).map Value.bool) rfl ?g1 ?g2 ?g3 (offA (some ⟨b, off, none⟩) (kk + 1) c) (L.length - (kk + 1)) (c - (kk + 1)) ((L.drop (kk + 1)).map Value.bool) rfl ?g4 ?g5 ?g6 (oneB _) ?g7 ?g8 ?_
          case g1 => simp; omega
          case g2 => exact HRT.out
          case g3 => exact HBB.out
          case g4 => simp
          case g5 => exact HRD.out
          case g6 => exact offA_ne _ _
          case g7 => unfold maxLen; omega
          case g8 => omega
          rintro a5 c5 w5 hr5 hc5 hm5 hn5 ha5 hb5
          refine hK.out _ _ (trivial) (fun hNew => ?_)
          clear hK K hHeld
          have hHeld := hNew
          clear hNew
          try simp only [Act.put, List.setIfInBounds_toArray, List.set_cons_zero, List.set_cons_succ]
          refine reg_take (i := 9) (v := ?vsr9) rfl (by kernel_rfl) rfl hHeld ?ysr9 ?rsr9
          case ysr9 => (intro w hSw; (try dsimp only at hSw); go_simp; all_goals with_reducible rfl)
          try simp only [Act.put, List.setIfInBounds_toArray, List.set_cons_zero, List.set_cons_succ]
          refine reg_done (by kernel_rfl) ?_ _
          -- END OF REGION shr
          have HK5 := Lib.hid (HK3.out.out HT4.out HBI4.out HB4.out (by rw [← out_map]; exact hr5) ⟨by rw [← HLO.out]; exact hc5, hm5⟩ (fun h => by rw [← HLO.out]; exact hn5 h) (fun k hk => by
            obtain ⟨h1, h2⟩ := ha5 k hk
            exact ⟨h1.imp (fun e => ⟨⟨b, off, none⟩, rfl, e.symm⟩) id, h2⟩) ⟨hb5.os, hb5.tape, hb5.output, hb5.size, hb5.block⟩)
          have HLV := Lib.hid (live_t HK5.out.2)
          clear hr5 hc5 hm5 hn5 ha5 hb5 HRT HRD HR4 HT4 HK3 HB4 HBI4 hcx hHeld hS1 hS2 hS3 hi1 hz1' hsz1 hby1 hbl
          generalize sizeO o4 = z4 at *
          have HK1n : kk + 1 ≤ L.length := hkk
          by_cases h16 : i % 16 = 0
          · have d16 : ((i : Int) % 16 == 0) = true := by rw [beq_iff_eq]; omega
            clear h16
            by_cases hmx : mo < z4
            all_goals
              go_wp2_with fail
              refine HLV.out.mono ?_
              rintro e w' ⟨rfl, n7, rfl⟩
              have HK7 := Lib.hid (HK5.out.1.drewN n7)
              have HT7 := Lib.hid (HK5.out.2.drewN n7)
              generalize w5.drewN n7 = w7 at *
              clear HLV
              go_wp2_with fail
              refine (fine5_any HT7.out sh hsh HV4.out).mono ?_
              rintro e w8 ⟨rfl, hb8⟩
              have HK8 := Lib.hid (HK7.out.below hb8)
              clear hb8 HK7 HT7
              go_wp2_with fail
              go_roundw
              case rel => exact ⟨i + 1, _, a5, c5, outL L kk, o4, by rw [HLO.out], rfl, by go_num, HK8.out, by have := HIL.out; have := HLO.out; omega, by omega, by omega⟩
              case measure => simp; omega
          · have d16 : ((i : Int) % 16 == 0) = false := by rw [beq_eq_false_iff_ne]; omega
            clear h16
            by_cases hmx : mo < z4
            all_goals
              go_wp2_with fail
              refine HLV.out.mono ?_
              rintro e w' ⟨rfl, n7, rfl⟩
              have HK7 := Lib.hid (HK5.out.1.drewN n7)
              have HT7 := Lib.hid (HK5.out.2.drewN n7)
              generalize w5.drewN n7 = w7 at *
              clear HLV
              have HK8 := HK7
              go_wp2_with fail
              go_roundw
              case rel => exact ⟨i + 1, _, a5, c5, outL L kk, o4, by rw [HLO.out], rfl, by go_num, HK8.out, by have := HIL.out; have := HLO.out; omega, by omega, by omega⟩
              case measure => simp; omega
      · have hd0 : decide ((0 : Int) < (L.length : Int)) = false := decide_eq_false (by omega)
        have hdn : decide (0 < L.length) = false := decide_eq_false hlt
        have HL0 : Hid (L = []) := List.eq_nil_of_length_eq_zero (by omega)
        have HON : Hid (o = none) := by
          obtain ⟨v0, h0⟩ := HK.out.t
          exact none_of h0.good (by rw [HK.out.bits, HL0.out])
        have HMM : Hid (M ≤ mo + 4) := (by omega : M ≤ mo + 4)
        clear hlt hi
        go_wp2_with fail
        refine (told5_any _ (HT.out.below' HK.out.bl)).mono ?_
        rintro e w4 ⟨rfl, hb4⟩
        have HK4 := Lib.hid (HK.out.below hb4)
        clear hb4 HK
        obtain ⟨v4, ht4⟩ := HK4.out.t
        have HB0 : Hid (sbits o = []) := by show _ = _; rw [HON.out]; rfl
        have HLE := Lib.hid (len_t ht4 HB0.out)
        clear ht4
        go_wp2_with fail
        refine HLE.out.mono ?_
        rintro e w' ⟨rfl, n5, rfl⟩
        have HK5 := Lib.hid (HK4.out.drewN n5)
        generalize w4.drewN n5 = w5 at *
        clear HK4 HLE
        rw [show (([] : List Bool).length : Int) = 0 from rfl]
        obtain ⟨v5, ht5⟩ := HK5.out.t
        have HLV := Lib.hid (live_t ht5)
        rw [HON.out, show ((sizeO none : Nat) : Int) = 0 from rfl] at HLV
        clear ht5
        go_wp2_with fail
        refine HLV.out.mono ?_
        rintro e w' ⟨rfl, n6, rfl⟩
        have HK6 := Lib.hid (HK5.out.drewN n6)
        generalize w5.drewN n6 = w6 at *
        clear HK5 HLV
        obtain ⟨v6, ht6⟩ := HK6.out.t
        have HSH := Lib.hid (shape_t ht6)
        rw [HON.out, show shapeV none = .agg #[.int .i64 0, .int .i64 0, .int .i64 0, .int .i64 0] from rfl] at HSH
        clear ht6
        go_wp2_with fail
        refine HSH.out.mono ?_
        rintro e w7 ⟨rfl, hb7⟩
        have HK7 := Lib.hid (HK6.out.below hb7)
        clear hb7 HK6 HSH
        obtain ⟨v7, ht7⟩ := HK7.out.t
        have HMD := Lib.hid (made_t ht7)
        clear ht7
        have q1 : IntKind.i64.wrap ((mo : Int) + 4) = (mo : Int) + 4 := IntWalk.i64_in _ (by omega)
        have q2 : decide ((M : Int) ≤ (mo : Int) + 4) = true := decide_eq_true (by have := HMM.out; omega)
        go_wp2_with fail
        refine HMD.out.mono ?_
        rintro e w' ⟨rfl, n8, rfl⟩
        have HK8 := Lib.hid (HK7.out.drewN n8)
        generalize w7.drewN n8 = w8 at *
        clear HK7 HMD
        go_wp2_with fail
        go_ret
        exact ⟨rfl, HK8.out.bl⟩

end Go.Proofs.YtcppgpjodfeigaaDoor
