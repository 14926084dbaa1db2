/- The walk of PermMoves. -/
import Derived.Test.YtpbmhdkhkbhgnaaZp5
import Derived.Test.YtpbmhdkhkbhgnaaZp1
namespace Go.Proofs.Ytpbmhdkhkbhgnaa
set_option linter.unusedVariables false
set_option linter.unusedSimpArgs false
open Go.RowKit

theorem pPos_s {S : Nat → Prop} {w : World} {p c : Nat} {L : List Int} {N : Nat} (h : PmV S w p c L N) (hc : c ≤ 1000000) (x : Int) :
    Calls Try.prog 29 #[.pointer (some ⟨p, 0, none⟩), .int .i64 x] w fun e w' => e = .returned (.int .i64 (gL L x)) ∧ PmV S w' p c L N ∧ Chg S w w' := by
  obtain ⟨q, SA, lv, ov, m, hP, hV, hml, hS⟩ := h
  have := pPos_any hP hV.ok hV.so (by omega) x
  rw [hV.pos] at this
  refine this.mono ?_
  rintro e w' ⟨rfl, hP1, hC1⟩
  exact ⟨rfl, ⟨q, SA, lv, ov, m, hP1, hV, hml, hS⟩, hC1.mono (fun b hb => hS b (Or.inr (Or.inr (Or.inr hb))))⟩

/-- The thirty rows, of which i have a place. -/
def mvS (i : Nat) : List Int := (List.range 30).map fun j => if j < i then ((j * 7 % 30 : Nat) : Int) else -1
theorem mvS_add : ∀ i : Fin 30, addC (mvS i.1) 30 i.1 ((i.1 * 7 % 30 : Nat) : Int) = 0 ∧ addL (mvS i.1) 30 i.1 ((i.1 * 7 % 30 : Nat) : Int) = mvS (i.1 + 1) := by decide +kernel
theorem mvS_zero : mvS 0 = List.replicate 30 (-1) := by decide
theorem mvS_all : ∀ i : Fin 30, 0 ≤ gL (mvS 30) i.1 := by decide +kernel
theorem zero30 (w : World) : (zeroValue 48).run Try.prog w = .ok (.agg (vecL (fun _ => .bool false) 30).toArray) w := by kernel_rfl

theorem mvI_rng {a b : Nat} {n : Nat} (ha : a < n) (hb : b < n) {r : Int} (h0 : 0 ≤ r) (h1 : r < n) : 0 ≤ mvI a b r ∧ mvI a b r < n := by
  unfold mvI
  (repeat' split) <;> omega
theorem aL_of {L : List Int} (hi : ∀ r s, 0 ≤ gL L r → gL L r = gL L s → r = s) {r : Nat} {x : Int} (h : gL L r = x) (h0 : 0 ≤ x) : aL L x = r := by
  rcases aL_spec L x with ⟨i, h1, _, h3, _⟩ | ⟨_, h2⟩
  · rw [h1]
    exact hi _ _ (by omega) (by omega)
  · exact absurd h (h2 h0 r)

set_option maxHeartbeats 6400000 in
set_option maxRecDepth 100000 in
theorem walk_PermMoves (w : World) (a0 : Option Addr) (c0 : Nat) (z0 : List Int) (w0 : ArgI .i64 w a0 c0 z0) :
    Calls Try.prog 10 #[.slice a0 z0.length c0] w fun e w' => e = .returned (.bool true) ∧ Below w.heap.size w w' := by
  have hrd := w0.reads
  have hmx := w0.le
  have hmx2 : c0 ≤ 9223372036854775807 := w0.max
  have HRD := Lib.hid hrd
  clear w0 hrd
  go_enter Try.func10, Try.ntmps10
  go_wp2_with fail
  refine (new_o 30 rfl (by omega)).mono ?_
  rintro e w1 ⟨p, rfl, h1, hb1⟩
  rw [← mvS_zero] at h1
  have HP := Lib.hid h1
  have HB := Lib.hid hb1
  clear h1 hb1
  go_wp2_with fail
  go_loopw [5] (fun v wr => ∃ i : Nat, i ≤ 30 ∧ v = .int .i64 i ∧ PmO w.heap.size wr p i (mvS i) 30 ∧ Below w.heap.size w wr) (fun v _ => 30 - (intOf v).toNat)
  case atStart => exact ⟨0, by omega, rfl, HP.out, HB.out⟩
  case round => as_aux_lemma =>
    obtain ⟨i, hi, rfl, hp, hb⟩ := hrel
    by_cases hlt : i < 30
    · obtain ⟨e1, e2⟩ := mvS_add ⟨i, hlt⟩
      have hadd := add_o (x := (i : Int)) (y := (i : Int) * 7 % 30) hp (by omega) (code := 0) (L' := mvS (i + 1)) (by rw [show (i : Int) * 7 % 30 = ((i * 7 % 30 : Nat) : Int) by omega]; exact e1) (by rw [show (i : Int) * 7 % 30 = ((i * 7 % 30 : Nat) : Int) by omega]; exact e2)
      have HADD := Lib.hid hadd
      have HBB := Lib.hid hb
      have d1 : decide ((i : Int) < 30) = true := decide_eq_true (by omega)
      clear hadd hp hb e1 e2 HP HB
      go_wp2_with fail
      refine HADD.out.mono ?_
      rintro e w2 ⟨rfl, h2, hb2⟩
      have HP2 := Lib.hid h2
      have HB2 := Lib.hid (HBB.out.trans hb2)
      clear h2 hb2
      go_wp2_with fail
      go_roundw
      case rel => exact ⟨i + 1, by omega, by go_num, HP2.out, HB2.out⟩
      case measure => simp [intOf]; omega
    · obtain rfl : i = 30 := by omega
      have hg0 := hp.1.rng
      have HP1 : Hid (PmO w.heap.size wr p 30 (mvS 30) 30 ∧ (mvS 30).length = 30 ∧ ∀ r : Int, 0 ≤ r → r < 30 → 0 ≤ gL (mvS 30) r) := ⟨hp, by simp [mvS], fun r h0 h1 => by
        obtain ⟨j, rfl⟩ := Int.eq_ofNat_of_zero_le h0
        exact mvS_all ⟨j, by omega⟩⟩
      have HB1 := Lib.hid hb
      clear hp hb HP HB hg0
      rw [show (((30 : Nat) : Int)) = 30 from rfl]
      go_wp2_with fail
      go_loopw [6] (fun v wr => ∃ (i : Nat) (L : List Int), i ≤ z0.length ∧ i ≤ 30 ∧ v = .int .i64 i ∧ PmO w.heap.size wr p 30 L 30 ∧ L.length = 30 ∧ (∀ r : Int, 0 ≤ r → r < 30 → 0 ≤ gL L r) ∧ Below w.heap.size w wr) (fun v _ => z0.length - (intOf v).toNat)
      case atStart => exact ⟨0, mvS 30, Nat.zero_le _, by omega, rfl, HP1.out.1, HP1.out.2.1, HP1.out.2.2, HB1.out⟩
      case round => as_aux_lemma =>
        obtain ⟨i, L, hi, hi3, rfl, hp, hL, hge, hb⟩ := hrel
        clear HP1 HB1
        by_cases hlt : i < z0.length ∧ i < 30
        · obtain ⟨hlt, h30⟩ := hlt
          obtain ⟨b, off, rfl, hbl, hcells⟩ := HRD.out.some (by omega)
          have hcx := (hb.cell (p := ⟨b, off + i, none⟩) hbl).trans (hcells i hlt)
          generalize z0[i]?.getD 0 = x at *
          obtain ⟨u, hu0, hu⟩ := u64_of2 x
          have hu1 : u < 18446744073709551616 := by rw [← hu, IntKind.wrap_u64]; omega
          have e5 : IntKind.i64.wrap (IntKind.u64.wrap (u.tmod 30)) = u % 30 := by
            rw [Int.tmod_eq_emod_of_nonneg (by omega), IntKind.wrap_u64, IntWalk.i64_in] <;> omega
          have e6 : IntKind.i64.wrap (IntKind.u64.wrap ((IntKind.u64.wrap (u / 30)).tmod 30)) = u / 30 % 30 := by
            have : IntKind.u64.wrap (u / 30) = u / 30 := by rw [IntKind.wrap_u64]; omega
            rw [this, Int.tmod_eq_emod_of_nonneg (by omega), IntKind.wrap_u64, IntWalk.i64_in] <;> omega
          obtain ⟨a, ha⟩ : ∃ a : Nat, u % 30 = a := ⟨(u % 30).toNat, by omega⟩
          obtain ⟨bb, hbb⟩ : ∃ a : Nat, u / 30 % 30 = a := ⟨(u / 30 % 30).toNat, by omega⟩
          have ha30 : a < 30 := by omega
          have hb30 : bb < 30 := by omega
          have HE5 := Lib.hid e5
          have HE6 := Lib.hid e6
          have HA := Lib.hid ha
          have HBBB := Lib.hid hbb
          have HP := Lib.hid hp
          have HGE := Lib.hid hge
          have HLL := Lib.hid hL
          have HB := Lib.hid hb
          have i0 : (0 : Int) ≤ (i : Int) := by omega
          have i1 : (i : Int) < (z0.length : Int) := by omega
          have d1 : decide ((i : Int) < 30) = true := decide_eq_true (by omega)
          have d2 : decide (i < z0.length) = true := decide_eq_true hlt
          clear e5 e6 ha hbb hp hge hL hb hcells
          go_wp2_with fail
          go_quiet (fail)
          obtain ⟨n1, rfl⟩ : ∃ n1, n1 = nq := ⟨_, rfl⟩
          rw [HA.out, HBBB.out]
          obtain ⟨y, hy⟩ : ∃ y, gL L a = y := ⟨_, rfl⟩
          have hy0 : 0 ≤ y := by rw [← hy]; exact HGE.out a (by omega) (by omega)
          have hlen : L.length = 30 := HLL.out
          have hmi : mvI a bb bb = a := by unfold mvI; rw [if_pos rfl]
          have hg2 : gL (mvL L a bb) bb = y := by rw [gL_mv (by omega) (by omega), hmi, hy]
          have hbs : okC (rowB L a && rowB L bb) = 0 := by
            have e1 : rowB L a = true := by unfold rowB; simp; omega
            have e2 : rowB L bb = true := by unfold rowB; simp; omega
            rw [e1, e2]; rfl
          have hmv : moveL L a bb = mvL L a bb := by
            have e1 : rowB L a = true := by unfold rowB; simp; omega
            have e2 : rowB L bb = true := by unfold rowB; simp; omega
            unfold moveL; rw [e1, e2]; rfl
          have hml : (mvL L a bb).length = 30 := by rw [mvL_len (by omega) (by omega)]; exact hlen
          have hmg : ∀ r : Int, 0 ≤ r → r < 30 → 0 ≤ gL (mvL L a bb) r := fun r h0 h1 => by
            rw [gL_mv (by omega) (by omega)]
            obtain ⟨q1, q2⟩ := mvI_rng ha30 hb30 h0 h1
            exact HGE.out _ q1 q2
          have HML := Lib.hid hml
          have HMG := Lib.hid hmg
          have HPOS := Lib.hid (pos_o (HP.out.below (below_dN (Below.refl _ _) n1)) hy)
          have HMV := Lib.hid hmv
          have HBS := Lib.hid hbs
          have HG2 := Lib.hid hg2
          have HB3 := Lib.hid (below_dN HB.out n1)
          have hyy : (y != y) = false := by simp
          clear hml hmg hmv hbs hg2 hmi hlen hcx hu hy
          go_wp2_with fail
          refine HPOS.out.mono ?_
          rintro e w2 ⟨rfl, h2, hb2⟩
          have HMOVE := Lib.hid (rowMove_o h2 HBS.out HMV.out)
          have HB4 := Lib.hid (HB3.out.trans hb2)
          clear h2 hb2
          go_wp2_with fail
          refine HMOVE.out.mono ?_
          rintro e w3 ⟨rfl, h3, hb3⟩
          have HPOS2 := Lib.hid (pos_o h3 HG2.out)
          have HB5 := Lib.hid (HB4.out.trans hb3)
          clear h3 hb3
          go_wp2_with fail
          refine HPOS2.out.mono ?_
          rintro e w4 ⟨rfl, h4, hb4⟩
          have HP4 := Lib.hid h4
          have HB6 := Lib.hid (HB5.out.trans hb4)
          clear h4 hb4
          go_wp2_with fail
          go_roundw
          case rel => exact ⟨i + 1, mvL L a bb, by omega, by omega, by go_num, HP4.out, HML.out, HMG.out, HB6.out⟩
          case measure => simp [intOf]; omega
        · have HP := Lib.hid hp
          have HGE := Lib.hid hge
          have HB := Lib.hid hb
          have HLL := Lib.hid hL
          have hz := zero30
          have hq := heap_alloc_new wr (.cells (vecL (fun _ => .bool false) 30).toArray 48)
          have HQ : Hid ((wr.alloc (.cells (vecL (fun _ => .bool false) 30).toArray 48)).heap[wr.heap.size]? = some (.cells (vecL (fun x => .bool (decide (∃ j : Nat, j < 0 ∧ gL L j = x))) 30).toArray 48 (0, 0))) := by
            show _ = _
            have e : vecL (fun x => Value.bool (decide (∃ j : Nat, j < 0 ∧ gL L j = x))) 30 = vecL (fun _ => .bool false) 30 := vecL_congr (fun i _ => by rw [decide_eq_false (fun ⟨j, hj, _⟩ => absurd hj (Nat.not_lt_zero j))])
            rw [e]
            exact hq
          have HBA := Lib.hid (HB.out.alloc HB.out.size (.cells (vecL (fun _ => .bool false) 30).toArray 48))
          have HPA := Lib.hid (HP.out.1.lts.below (below_al wr (.cells (vecL (fun _ => .bool false) 30).toArray 48)))
          have hor : ¬ i < z0.length ∨ (i < z0.length ∧ ¬ i < 30) := by omega
          have hBs : w.heap.size ≤ wr.heap.size := HB.out.size
          generalize hV : vecL (fun _ => Value.bool false) 30 = V at *
          clear hp hge hb hL hq hV HRD
          rcases hor with d1 | ⟨d1, d2⟩
          all_goals
            go_wp2_with fail
            clear hz
            generalize wr.alloc (.cells V.toArray 48) = wa at *
            obtain ⟨Q, hQ⟩ : ∃ Q, wr.heap.size = Q := ⟨_, rfl⟩
            rw [hQ] at HQ HPA ⊢
            have hQa : Q < wa.heap.size := (Array.getElem?_eq_some_iff.1 HQ.out).1
            have hQB : w.heap.size ≤ Q := by omega
            clear hQ
            go_loopw [11] (fun v ws => ∃ k : Nat, k ≤ 30 ∧ v = .int .i64 k ∧ ws.heap[Q]? = some (.cells (vecL (fun x => .bool (decide (∃ j : Nat, j < k ∧ gL L j = x))) 30).toArray 48 (0, 0)) ∧ PmV (fun b => w.heap.size ≤ b ∧ b < Q) ws p 30 L 30 ∧ Below w.heap.size w ws) (fun v _ => 30 - (intOf v).toNat)
            case atStart => exact ⟨0, by omega, rfl, HQ.out, HPA.out, HBA.out⟩
            case round => as_aux_lemma =>
              obtain ⟨k, hk, rfl, hqk, hpk, hbk⟩ := hrel
              by_cases hlt : k < 30
              · have hy0 := HGE.out k (by omega) (by omega)
                have hy1 := (hpk.rng k).2
                obtain ⟨y, hy⟩ : ∃ y : Nat, gL L k = y := ⟨(gL L k).toNat, by omega⟩
                have hy30 : y < 30 := by omega
                have hnd : ¬ ∃ j : Nat, j < k ∧ gL L j = y := by
                  rintro ⟨j, hj, e⟩
                  have := hpk.inj j k (by omega) (by omega)
                  omega
                have hrow : aL L y = k := aL_of hpk.inj hy (by omega)
                have HPOS := Lib.hid (pPos_s hpk (by omega) k)
                have HHY := Lib.hid hy
                have HND := Lib.hid hnd
                have HROW := Lib.hid hrow
                have HQK := Lib.hid hqk
                have HBK := Lib.hid hbk
                have d3 : decide (k < 30) = true := decide_eq_true hlt
                have d4 : decide ((k : Int) < 30) = true := decide_eq_true (by omega)
                have d5 : decide ((y : Int) < 0) = false := decide_eq_false (by omega)
                have d6 : decide ((29 : Int) < (y : Int)) = false := decide_eq_false (by omega)
                have d7 : decide (29 < y) = false := decide_eq_false (by omega)
                have j0 : (0 : Int) ≤ (y : Int) := by omega
                have j1 : (y : Int) < 30 := by omega
                have d8 : ((k : Int) != (k : Int)) = false := by simp
                clear hy0 hy1 hy hnd hrow hqk hpk hbk HQ HPA HBA HP HB HGE
                go_wp2_with fail
                refine HPOS.out.mono ?_
                rintro e w2 ⟨rfl, h2, hc2⟩
                rw [HHY.out]
                have hq2 := hc2.heap HQK.out (fun h => by omega)
                have e2 := vec_cell hq2 hy30
                rw [decide_eq_false HND.out] at e2
                have hb2 : Below w.heap.size w w2 := HBK.out.trans (hc2.below (fun b hb => hb.1) HBK.out.size)
                have HR := Lib.hid (pRow_v h2 (by omega) (y : Int))
                have HQ2 := Lib.hid hq2
                have HB2 := Lib.hid hb2
                have HP2 := Lib.hid h2
                clear h2 hc2 hq2 hb2
                go_wp2_with fail
                refine HR.out.mono ?_
                rintro e w3 ⟨rfl, hb3⟩
                rw [HROW.out]
                have hq3 := below_heap hb3 HQ2.out
                have e3 : w3.frozen? ⟨Q, y, none⟩ = false := frozen_of_row w3 Q _ _ _ hq3
                have e4 := vec_cell hq3 hy30
                have hq4 := vec_set (s := y) hq3 (.bool true)
                rw [vecL_congr (g := fun x => .bool (decide (∃ j : Nat, j < k + 1 ∧ gL L j = x))) (fun x hx => ?_)] at hq4
                rotate_left
                · by_cases e : x = y
                  · subst e
                    rw [if_pos rfl]; congr 1; exact (decide_eq_true ⟨k, by omega, HHY.out⟩).symm
                  · rw [if_neg e]; congr 1
                    rw [decide_eq_decide]
                    constructor
                    · rintro ⟨j, hj, hje⟩; exact ⟨j, by omega, hje⟩
                    · rintro ⟨j, hj, hje⟩
                      rcases Nat.lt_or_ge j k with q | q
                      · exact ⟨j, q, hje⟩
                      · obtain rfl : j = k := by omega
                        have := HHY.out
                        exact absurd (by omega) e
                have hs2 := HB2.out.size
                have hb4 : Below w.heap.size w (w3.setCell ⟨Q, y, none⟩ (.bool true)) := below_setQ (HB2.out.trans (hb3.mono hs2)) (by have := hb3.size; omega) hQB _
                have hp4 : PmV (fun b => w.heap.size ≤ b ∧ b < Q) (w3.setCell ⟨Q, y, none⟩ (.bool true)) p 30 L 30 := (HP2.out.below hb3).chg (S' := fun b => b = Q) ((Chg.refl (S := fun b => b = Q)).setCell ⟨Q, y, none⟩ (Or.inl rfl) _) (fun b hb e => by omega)
                have HQ4 := Lib.hid hq4
                have HB4 := Lib.hid hb4
                have HP4 := Lib.hid hp4
                clear hq3 hq4 hb4 hp4 hb3 hs2
                go_wp2_with fail
                go_roundw
                case rel => exact ⟨k + 1, by omega, by go_num, HQ4.out, HP4.out, HB4.out⟩
                case measure => simp [intOf]; omega
              · obtain rfl : k = 30 := by omega
                have HBK := Lib.hid hbk
                clear hqk hpk hbk HQ HPA HBA HP HB HGE
                rw [show (((30 : Nat) : Int)) = 30 from rfl]
                go_wp2_with fail
                refine (told11_any _).mono ?_
                rintro e w6 ⟨rfl, hb7⟩
                go_wp2_with fail
                go_ret
                exact ⟨rfl, HBK.out.trans (hb7.mono HBK.out.size)⟩

end Go.Proofs.Ytpbmhdkhkbhgnaa
