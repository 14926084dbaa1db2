/- The walk of TreePlays. -/
import Derived.Test.YtcppgpjodfeigaaDoorZt7
import Derived.Deep.DeepCutAuto
import Derived.Deep.CutBlock
import Derived.Deep.CutRange
namespace Go.Proofs.YtcppgpjodfeigaaDoor
set_option linter.unusedVariables false
set_option linter.unusedSimpArgs false
open Go.RowKit

theorem own_nil {w : World} {base : Nat} {e : TypeId} {a : Option Addr} {n c : Nat} {xs : List Value} (h : w.ownsRow base e 1 (.slice a n c) n xs) : a = none → n = 0 ∧ c = 0 := by
  obtain ⟨a', c', hv, hn, _⟩ := own_slice h
  injection hv with e1 _ e3
  subst e1 e3; exact hn
theorem box3 {w : World} {q : Nat} {T : TypeId} {a b c : Value} (h : w.heap[q]? = some (.cells #[a, b, c] T (0, 0))) : w.cell? ⟨q, 0, none⟩ = some a ∧ w.cell? ⟨q, 1, none⟩ = some b ∧ w.cell? ⟨q, 2, none⟩ = some c :=
  ⟨by rw [cell_of_row w q 0 _ _ _ h]; rfl, by rw [cell_of_row w q 1 _ _ _ h]; rfl, by rw [cell_of_row w q 2 _ _ _ h]; rfl⟩
theorem keep3 {w w1 w2 : World} {N q : Nat} {sa sb sc : Value} (hN : N ≤ w.heap.size) (h : (w1.cell? ⟨q, 0, none⟩ = some sa ∧ w1.cell? ⟨q, 1, none⟩ = some sb ∧ w1.cell? ⟨q, 2, none⟩ = some sc) ∧ Below N w w1) (hb : Below w1.heap.size w1 w2) :
    (w2.cell? ⟨q, 0, none⟩ = some sa ∧ w2.cell? ⟨q, 1, none⟩ = some sb ∧ w2.cell? ⟨q, 2, none⟩ = some sc) ∧ Below N w w2 := by
  have hq := World.block_lt_of_cell? w1 _ h.1.1
  exact ⟨⟨(hb.cell (p := ⟨q, 0, none⟩) hq).trans h.1.1, (hb.cell (p := ⟨q, 1, none⟩) hq).trans h.1.2.1, (hb.cell (p := ⟨q, 2, none⟩) hq).trans h.1.2.2⟩, h.2.trans (hb.mono (Nat.le_trans hN h.2.size))⟩

theorem keepP {B : Nat} {Z : Option (Nat × Obj)} {w0 w1 w2 : World} {q p made : Nat} {o : Option ST} {v : Value} {L R : List Bool} {Vb : Int → Prop} {sa sb sc : Value} (h : (w1.cell? ⟨q, 0, none⟩ = some sa ∧ w1.cell? ⟨q, 1, none⟩ = some sb ∧ w1.cell? ⟨q, 2, none⟩ = some sc) ∧ PK B Z w0 w1 p o made v L R Vb) (hb : Below w1.heap.size w1 w2) :
    (w2.cell? ⟨q, 0, none⟩ = some sa ∧ w2.cell? ⟨q, 1, none⟩ = some sb ∧ w2.cell? ⟨q, 2, none⟩ = some sc) ∧ PK B Z w0 w2 p o made v L R Vb := by
  have hq := World.block_lt_of_cell? w1 _ h.1.1
  exact ⟨⟨(hb.cell (p := ⟨q, 0, none⟩) hq).trans h.1.1, (hb.cell (p := ⟨q, 1, none⟩) hq).trans h.1.2.1, (hb.cell (p := ⟨q, 2, none⟩) hq).trans h.1.2.2⟩, h.2.below hb⟩

set_option maxHeartbeats 6400000 in
set_option maxRecDepth 100000 in
theorem walk_TreePlays (w : World) (hT : BitTab w) (a0 : Option Addr) (c0 : Nat) (z0 : List Int) (w0 : ArgI .i64 w a0 c0 z0) (a1 : Option Addr) (c1 : Nat) (z1 : List (Int × Int × Bool)) (w1 : ArgO w a1 c1 z1) :
    Calls Tryd.prog 10 #[.slice a0 z0.length c0, .slice a1 z1.length c1] w fun e w' => e = .returned (.bool true) ∧ Below w.heap.size w w' := by
  have hrd := w0.reads
  have hzm := Nat.le_trans w0.le w0.max
  have HR1 := Lib.hid w1.reads
  have hz1 : z1.length ≤ 9223372036854775807 := Nat.le_trans w1.le w1.max
  have HT := Lib.hid hT
  have HTL := Lib.hid hT.lt
  clear hT w0 w1
  go_enter Tryd.func10, Tryd.ntmps10
  go_wp2_with fail
  refine (lawBits_any a0 c0 z0 700 w hrd (by omega) hzm).mono ?_
  rintro e w1 ⟨m, hm, v, rfl, hown, hb1⟩
  obtain ⟨a, c, rfl, hnil, had⟩ := own_slice hown
  have hrm := readsV_own hown
  have hs1 := hb1.size
  have HN := Lib.hid (new_t (B := w.heap.size) (X := xzk (.slice a m.length c) none) m rfl hrm (own_cap hown).1 (by omega) hs1 (fun k hk => hk.elim (fun hk => (own_lt hown hk).2) (fun ⟨_, h⟩ => by cases h)))
  have HOW := Lib.hid hown
  have HB1 := Lib.hid hb1
  clear hown hrm hrd had hnil hb1 hs1
  go_wp2_with fail
  refine HN.out.mono ?_
  rintro e w2 ⟨p, o, rfl, ht, hbits, hb2⟩
  have HP2 : Hid (PK w.heap.size none w w2 p o (sizeO o) (.slice a m.length c) m m (fun x => x = 0)) := ⟨(Chg.of_below (S := fun _ => False) hb2).own HOW.out (fun _ _ hf => hf.elim), ⟨0, rfl, ht⟩, fun q ob hq => (by cases hq), hbits, HB1.out.trans (hb2.mono HB1.out.size)⟩
  clear ht hbits hb2 HN HOW HB1
  generalize sizeO o = made at *
  obtain ⟨x2, hx2, ht2⟩ := HP2.out.t
  have HALL := Lib.hid (all_t ht2 HP2.out.bits)
  clear hx2 ht2
  go_wp2_with fail
  refine HALL.out.mono ?_
  rintro e w3 ⟨v3, rfl, hown3, hb3⟩
  obtain ⟨a3, c3, rfl, _, _⟩ := own_slice hown3
  have HP3 := Lib.hid (HP2.out.below hb3)
  have hsm := refSame_any a3 c3 m a c m w3 (readsV_own hown3) (readsV_own HP3.out.own) (by omega)
  rw [show decide (m = m) = true by simp] at hsm
  have HSM := Lib.hid hsm
  clear hsm hown3 hb3 HP2 HALL
  go_wp2_with fail
  refine HSM.out.mono ?_
  rintro e w' ⟨rfl, n4, rfl⟩
  have HP4 := Lib.hid (HP3.out.drewN n4)
  generalize w3.drewN n4 = w4 at *
  clear HP3 HSM
  have HFI := Lib.hid (PK.fine (b := 0) (HP4.out.vb (fun x hx => by subst hx; exact ⟨by omega, by omega⟩)) (by omega))
  go_wp2_with fail
  refine HFI.out.mono ?_
  rintro e w5 ⟨rfl, hp5⟩
  have HP5 := Lib.hid hp5
  clear hp5 HP4 HFI
  by_cases hbig : 150 < z1.length
  · have d1 : decide ((150 : Int) < (z1.length : Int)) = true := decide_eq_true (by omega)
    go_wp2_with fail
    refine (told5_any _ (HT.out.below' HP5.out.bl)).mono ?_
    rintro e w6 ⟨rfl, hb6⟩
    go_wp2_with fail
    go_ret
    exact ⟨rfl, (HP5.out.below hb6).bl⟩
  · have d1 : decide ((150 : Int) < (z1.length : Int)) = false := decide_eq_false (by omega)
    have hz150 : z1.length ≤ 150 := by omega
    clear hbig
    go_wp2_with fail
    go_loopw [5, 7] (fun v x wr => ∃ (i : Nat) (a : Option Addr) (c : Nat) (m : List Bool) (o : Option ST) (made : Nat), v = .slice a m.length c ∧ x = .int .i64 i ∧ PK w.heap.size none w wr p o made (.slice a m.length c) m m (fun _ => True) ∧ i ≤ z1.length ∧ m.length ≤ 700 + i) (fun _ x _ => z1.length - (intOf x).toNat)
    case atStart => exact ⟨0, a, c, m, o, made, rfl, rfl, HP5.out, Nat.zero_le _, by omega⟩
    case round => as_aux_lemma =>
      clear HP5 hm
      obtain ⟨i, a, c, m, o, made, rfl, rfl, hp, hi, hm⟩ := hrel
      have HP := Lib.hid hp
      clear hp
      by_cases hlt : i < z1.length
      · obtain ⟨b, off, rfl, hbl, hcs⟩ := HR1.out i hlt
        obtain ⟨p1, p2, p3⟩ := hcs i hlt
        have q1 := (HP.out.bl.cell (p := ⟨b, off + i * 3, none⟩) hbl).trans p1
        have q2 := (HP.out.bl.cell (p := ⟨b, off + i * 3 + 1, none⟩) hbl).trans p2
        have q3 := (HP.out.bl.cell (p := ⟨b, off + i * 3 + 2, none⟩) hbl).trans p3
        generalize (z1[i]?.getD default).1 = kd at *
        generalize (z1[i]?.getD default).2.1 = K0 at *
        generalize (z1[i]?.getD default).2.2 = bt at *
        have i0 : (0 : Int) ≤ (i : Int) := by omega
        have i1 : (i : Int) < (z1.length : Int) := by omega
        clear hcs p1 p2 p3
        go_upto_region 11 with fail
        obtain ⟨W1, hW1⟩ : ∃ W1, W1 = wr.alloc (.cells #[.int .i64 kd, .int .i64 K0, .bool bt] 48) := ⟨_, rfl⟩
        rw [← hW1]
        have hbW : Below wr.heap.size wr W1 := by rw [hW1]; exact below_al wr _
        have hbx : W1.heap[wr.heap.size]? = some (.cells #[.int .i64 kd, .int .i64 K0, .bool bt] 48 (0, 0)) := by rw [hW1]; exact heap_alloc_new wr _
        have t3 := box3 hbx
        have HP1 := Lib.hid (HP.out.addZ hbW (Nat.le_refl _) hbx)
        obtain ⟨Z, hZ⟩ : ∃ Z : Option (Nat × Obj), Z = (some (wr.heap.size, .cells #[.int .i64 kd, .int .i64 K0, .bool bt] 48 (0, 0))) := ⟨_, rfl⟩
        rw [← hZ] at HP1
        obtain ⟨sn, sh, sm, sz, e0, e1, e2, e3⟩ := shapeV_cells o
        have HE2 := Lib.hid e2
        have hfd : ∀ w : World, (Instr.field 36 (.agg #[.int .i64 sn, .int .i64 sh, .int .i64 sm, .int .i64 sz]) 1).run Tryd.prog w = .ok (.int .i64 sh) w := fun _ => by kernel_rfl
        have hsh : sh ≤ 1000000000 := by
          rw [e2]
          obtain ⟨hg0, hl0⟩ := HP.out.good
          cases o with
          | none => simp [shigh]
          | some t => have := good_small hg0.2 hl0; simp only [shigh]; omega
        have HSH : Hid (∀ w', PK w.heap.size Z w w' p o made (.slice a m.length c) m m (fun _ => True) → Calls Tryd.prog 27 #[.pointer (some ⟨p, 0, none⟩)] w' fun e w'' => e = .returned (.agg #[.int .i64 sn, .int .i64 sh, .int .i64 sm, .int .i64 sz]) ∧ Below w'.heap.size w' w'') := fun w' h => by
          obtain ⟨x, _, h0⟩ := h.t
          have := shape_t h0
          rw [e0] at this; exact this
        have B0 : Hid ((W1.drew.cell? ⟨wr.heap.size, 0, none⟩ = some (.int .i64 kd) ∧ W1.drew.cell? ⟨wr.heap.size, 1, none⟩ = some (.int .i64 K0) ∧ W1.drew.cell? ⟨wr.heap.size, 2, none⟩ = some (.bool bt)) ∧ PK w.heap.size Z w W1.drew p o made (.slice a m.length c) m m (fun _ => True)) := ⟨t3, HP1.out.drewN 1⟩
        clear e0 e1 e2 e3 hW1 hbW hbx t3 HP1 HP q1 q2 q3
        -- REGION op
        refine reg_start (fun w' => (w'.cell? ⟨wr.heap.size, 0, none⟩ = some (.int .i64 kd) ∧ w'.cell? ⟨wr.heap.size, 1, none⟩ = some (.int .i64 K0) ∧ w'.cell? ⟨wr.heap.size, 2, none⟩ = some (.bool bt)) ∧ PK w.heap.size Z w w' p o made (.slice a m.length c) m m (fun _ => True)) (by kernel_rfl) (B0.out) (fun hHeld => ?_)
        refine reg_take (i := 0) (v := ?vop0) rfl (by kernel_rfl) rfl hHeld ?yop0 ?rop0
        case yop0 => (intro w hSw; (try dsimp only at hSw); go_simp; all_goals with_reducible rfl)
        try simp only [Act.put, List.setIfInBounds_toArray, List.set_cons_zero, List.set_cons_succ]
        refine reg_take (i := 1) (v := ?vop1) rfl (by kernel_rfl) rfl hHeld ?yop1 ?rop1
        case yop1 => (intro w hSw; (try dsimp only at hSw); go_simp; all_goals with_reducible rfl)
        try simp only [Act.put, List.setIfInBounds_toArray, List.set_cons_zero, List.set_cons_succ]
        refine reg_take (i := 2) (v := ?vop2) rfl (by kernel_rfl) rfl hHeld ?yop2 ?rop2
        case yop2 => (intro w hSw; (try dsimp only at hSw); go_simp; all_goals with_reducible rfl)
        try simp only [Act.put, List.setIfInBounds_toArray, List.set_cons_zero, List.set_cons_succ]
        refine reg_loud (i := 3) rfl (by kernel_rfl) rfl (fun K hK => ?_)
        go_simp
        ((refine (HSH.out _ hHeld.2).mono ?_))
        rintro e w6 ⟨rfl, hb6⟩
        refine hK.out _ _ (keepP hHeld hb6) (fun hNew => ?_)
        clear hK K hHeld
        have hHeld := hNew
        clear hNew
        try simp only [Act.put, List.setIfInBounds_toArray, List.set_cons_zero, List.set_cons_succ]
        refine reg_take (i := 4) (v := ?vop4) rfl (by kernel_rfl) rfl hHeld ?yop4 ?rop4
        case yop4 => (intro w hSw; (try dsimp only at hSw); go_simp; all_goals with_reducible rfl)
        try simp only [Act.put, List.setIfInBounds_toArray, List.set_cons_zero, List.set_cons_succ]
        refine reg_take (i := 5) (v := ?vop5) rfl (by kernel_rfl) rfl hHeld ?yop5 ?rop5
        case yop5 => (intro w hSw; (try dsimp only at hSw); go_simp; all_goals with_reducible rfl)
        try simp only [Act.put, List.setIfInBounds_toArray, List.set_cons_zero, List.set_cons_succ]
        refine reg_take (i := 6) (v := ?vop6) rfl (by kernel_rfl) rfl hHeld ?yop6 ?rop6
        case yop6 => (intro w hSw; (try dsimp only at hSw); go_simp; all_goals with_reducible rfl)
        try simp only [Act.put, List.setIfInBounds_toArray, List.set_cons_zero, List.set_cons_succ]
        refine reg_done (by kernel_rfl) ?_ _
        -- END OF REGION op
        obtain ⟨⟨t0, t1, t2⟩, hpd⟩ := hHeld
        have HPD := Lib.hid hpd
        have hZ := Lib.hid hZ
        clear hpd HSH B0 hfd
        go_upto_if 54 with fail
        go_cut [9] from 37 to 138 (fun v wx => ∃ K : Int, v = .int .i64 K ∧ wx = w6)
        case first => as_aux_lemma =>
          by_cases h9 : (i : Int) % 9 < 8
          · have d9 : decide ((i : Int) % 9 < 8) = true := decide_eq_true h9
            go_wp2_with fail
            refine (near5_any K0 m.length (by omega) _).mono ?_
            rintro e w' ⟨⟨r, hrl, rfl⟩, rfl⟩
            go_wp2_with fail
            go_meet
            case rel => exact ⟨r, rfl, rfl⟩
          · have d9 : decide ((i : Int) % 9 < 8) = false := decide_eq_false h9
            go_wp2_with fail
            go_meet
            case rel => exact ⟨K0, rfl, rfl⟩
        case rest => as_aux_lemma =>
          obtain ⟨K, rfl, hwc⟩ := hcut
          subst hwc
          obtain ⟨m7, hm8, hmm⟩ := and7t kd
          have HPC := HPD
          clear HPD
          go_upto_block 2 with fail
          go_cut [5, 11, 12, 13, 14] from 37 to 138 (fun v5 x e y f wx => ∃ (b : Bool) (code : Int) (a' : Option Addr) (c' : Nat) (m' : List Bool) (o' : Option ST) (made' : Nat), v5 = .slice a' m'.length c' ∧ x = .bool b ∧ e = .int .i64 code ∧ y = .bool b ∧ f = .int .i64 code ∧ PK w.heap.size none w wx p o' made' (.slice a' m'.length c') m' m' (vbB (8 * (max (shigh o') sh + 2))) ∧ m'.length ≤ 701 + i)
          case first => as_aux_lemma =>
            obtain h7 | h7 | h7 | h7 | h7 | h7 | h7 | h7 : m7 = 0 ∨ m7 = 1 ∨ m7 = 2 ∨ m7 = 3 ∨ m7 = 4 ∨ m7 = 5 ∨ m7 = 6 ∨ m7 = 7 := by omega
            · subst h7
              rw [show (((0 : Nat) : Int)) = 0 from rfl] at hmm
              as_aux_lemma =>
                by_cases hin : 0 ≤ K ∧ K ≤ m.length
                · obtain ⟨n, rfl⟩ := Int.eq_ofNat_of_zero_le hin.1
                  have hnm : n ≤ m.length := by omega
                  have dk : decide ((m.length : Int) < (n : Int)) = false := decide_eq_false (by omega)
                  have dk2 : decide (m.length < n) = false := decide_eq_false (by omega)
                  have dk3 : decide ((n : Int) < 0) = false := decide_eq_false (by omega)
                  clear hin
                  go_wp2_with fail
                  refine (HPC.out.ins n rfl hnm (by omega) bt).mono ?_
                  rintro e w7 ⟨rfl, o7, made7, hp7⟩
                  have HP7 := Lib.hid hp7
                  obtain ⟨s0, s1, s2⟩ := box3 (hp7.z _ _ hZ.out)
                  have HIN := Lib.hid (refIn_any a c m n bt w7 (readsV_own hp7.own) hnm (own_cap hp7.own).1 (own_cap hp7.own).2 (by omega) (own_nil hp7.own))
                  clear hp7 t0 t1 t2 HPC
                  go_wp2_with fail
                  refine HIN.out.mono ?_
                  rintro e w8 ⟨v8, rfl, hown8, hb8⟩
                  obtain ⟨a8, c8, rfl, _, _⟩ := own_slice hown8
                  have HP8 := Lib.hid (HP7.out.row hown8 hb8)
                  have HLN : Hid ((inL m n bt).length ≤ 701 + i) := by show _ ≤ _; rw [inL_len hnm]; omega
                  clear hown8 hb8 HIN HP7 s0 s1 s2
                  go_wp2_with fail
                  go_meet
                  case rel => exact ⟨false, 0, a8, c8, inL m n bt, _, _, rfl, rfl, rfl, rfl, rfl, (HP8.out.vb (fun x hx => ⟨hx.1, by have := hx.2; have := HE2.out; omega⟩)).dropZ, HLN.out⟩
                · have HBAD : Hid (K < 0 ∨ (m.length : Int) < K) := (by omega : K < 0 ∨ (m.length : Int) < K)
                  go_wp2_with fail
                  refine (HPC.out.insBad K bt HBAD.out).mono ?_
                  rintro e w7 ⟨rfl, hp7⟩
                  have HP7 := Lib.hid hp7
                  clear hp7 t0 t1 t2 HPC
                  by_cases hneg : K < 0
                  · have dk : decide (K < 0) = true := decide_eq_true hneg
                    go_wp2_with fail
                    go_meet
                    case rel => exact ⟨false, 2, a, c, m, _, _, rfl, rfl, rfl, rfl, rfl, (HP7.out.vb (fun x hx => ⟨hx.1, by have := hx.2; have := HE2.out; omega⟩)).dropZ, by omega⟩
                  · have dk : decide (K < 0) = false := decide_eq_false hneg
                    have dk2 : decide ((m.length : Int) < K) = true := decide_eq_true (by have := HBAD.out; omega)
                    go_wp2_with fail
                    go_meet
                    case rel => exact ⟨false, 2, a, c, m, _, _, rfl, rfl, rfl, rfl, rfl, (HP7.out.vb (fun x hx => ⟨hx.1, by have := hx.2; have := HE2.out; omega⟩)).dropZ, by omega⟩
            · subst h7
              rw [show (((1 : Nat) : Int)) = 1 from rfl] at hmm
              as_aux_lemma =>
                by_cases hin : 0 ≤ K ∧ K ≤ m.length
                · obtain ⟨n, rfl⟩ := Int.eq_ofNat_of_zero_le hin.1
                  have hnm : n ≤ m.length := by omega
                  have dk : decide ((m.length : Int) < (n : Int)) = false := decide_eq_false (by omega)
                  have dk2 : decide (m.length < n) = false := decide_eq_false (by omega)
                  have dk3 : decide ((n : Int) < 0) = false := decide_eq_false (by omega)
                  clear hin
                  go_wp2_with fail
                  refine (HPC.out.ins n rfl hnm (by omega) bt).mono ?_
                  rintro e w7 ⟨rfl, o7, made7, hp7⟩
                  have HP7 := Lib.hid hp7
                  obtain ⟨s0, s1, s2⟩ := box3 (hp7.z _ _ hZ.out)
                  have HIN := Lib.hid (refIn_any a c m n bt w7 (readsV_own hp7.own) hnm (own_cap hp7.own).1 (own_cap hp7.own).2 (by omega) (own_nil hp7.own))
                  clear hp7 t0 t1 t2 HPC
                  go_wp2_with fail
                  refine HIN.out.mono ?_
                  rintro e w8 ⟨v8, rfl, hown8, hb8⟩
                  obtain ⟨a8, c8, rfl, _, _⟩ := own_slice hown8
                  have HP8 := Lib.hid (HP7.out.row hown8 hb8)
                  have HLN : Hid ((inL m n bt).length ≤ 701 + i) := by show _ ≤ _; rw [inL_len hnm]; omega
                  clear hown8 hb8 HIN HP7 s0 s1 s2
                  go_wp2_with fail
                  go_meet
                  case rel => exact ⟨false, 0, a8, c8, inL m n bt, _, _, rfl, rfl, rfl, rfl, rfl, (HP8.out.vb (fun x hx => ⟨hx.1, by have := hx.2; have := HE2.out; omega⟩)).dropZ, HLN.out⟩
                · have HBAD : Hid (K < 0 ∨ (m.length : Int) < K) := (by omega : K < 0 ∨ (m.length : Int) < K)
                  go_wp2_with fail
                  refine (HPC.out.insBad K bt HBAD.out).mono ?_
                  rintro e w7 ⟨rfl, hp7⟩
                  have HP7 := Lib.hid hp7
                  clear hp7 t0 t1 t2 HPC
                  by_cases hneg : K < 0
                  · have dk : decide (K < 0) = true := decide_eq_true hneg
                    go_wp2_with fail
                    go_meet
                    case rel => exact ⟨false, 2, a, c, m, _, _, rfl, rfl, rfl, rfl, rfl, (HP7.out.vb (fun x hx => ⟨hx.1, by have := hx.2; have := HE2.out; omega⟩)).dropZ, by omega⟩
                  · have dk : decide (K < 0) = false := decide_eq_false hneg
                    have dk2 : decide ((m.length : Int) < K) = true := decide_eq_true (by have := HBAD.out; omega)
                    go_wp2_with fail
                    go_meet
                    case rel => exact ⟨false, 2, a, c, m, _, _, rfl, rfl, rfl, rfl, rfl, (HP7.out.vb (fun x hx => ⟨hx.1, by have := hx.2; have := HE2.out; omega⟩)).dropZ, by omega⟩
            · subst h7
              rw [show (((2 : Nat) : Int)) = 2 from rfl] at hmm
              as_aux_lemma =>
                by_cases hin : 0 ≤ K ∧ K ≤ m.length
                · obtain ⟨n, rfl⟩ := Int.eq_ofNat_of_zero_le hin.1
                  have hnm : n ≤ m.length := by omega
                  have dk : decide ((m.length : Int) < (n : Int)) = false := decide_eq_false (by omega)
                  have dk2 : decide (m.length < n) = false := decide_eq_false (by omega)
                  have dk3 : decide ((n : Int) < 0) = false := decide_eq_false (by omega)
                  clear hin
                  go_wp2_with fail
                  refine (HPC.out.ins n rfl hnm (by omega) bt).mono ?_
                  rintro e w7 ⟨rfl, o7, made7, hp7⟩
                  have HP7 := Lib.hid hp7
                  obtain ⟨s0, s1, s2⟩ := box3 (hp7.z _ _ hZ.out)
                  have HIN := Lib.hid (refIn_any a c m n bt w7 (readsV_own hp7.own) hnm (own_cap hp7.own).1 (own_cap hp7.own).2 (by omega) (own_nil hp7.own))
                  clear hp7 t0 t1 t2 HPC
                  go_wp2_with fail
                  refine HIN.out.mono ?_
                  rintro e w8 ⟨v8, rfl, hown8, hb8⟩
                  obtain ⟨a8, c8, rfl, _, _⟩ := own_slice hown8
                  have HP8 := Lib.hid (HP7.out.row hown8 hb8)
                  have HLN : Hid ((inL m n bt).length ≤ 701 + i) := by show _ ≤ _; rw [inL_len hnm]; omega
                  clear hown8 hb8 HIN HP7 s0 s1 s2
                  go_wp2_with fail
                  go_meet
                  case rel => exact ⟨false, 0, a8, c8, inL m n bt, _, _, rfl, rfl, rfl, rfl, rfl, (HP8.out.vb (fun x hx => ⟨hx.1, by have := hx.2; have := HE2.out; omega⟩)).dropZ, HLN.out⟩
                · have HBAD : Hid (K < 0 ∨ (m.length : Int) < K) := (by omega : K < 0 ∨ (m.length : Int) < K)
                  go_wp2_with fail
                  refine (HPC.out.insBad K bt HBAD.out).mono ?_
                  rintro e w7 ⟨rfl, hp7⟩
                  have HP7 := Lib.hid hp7
                  clear hp7 t0 t1 t2 HPC
                  by_cases hneg : K < 0
                  · have dk : decide (K < 0) = true := decide_eq_true hneg
                    go_wp2_with fail
                    go_meet
                    case rel => exact ⟨false, 2, a, c, m, _, _, rfl, rfl, rfl, rfl, rfl, (HP7.out.vb (fun x hx => ⟨hx.1, by have := hx.2; have := HE2.out; omega⟩)).dropZ, by omega⟩
                  · have dk : decide (K < 0) = false := decide_eq_false hneg
                    have dk2 : decide ((m.length : Int) < K) = true := decide_eq_true (by have := HBAD.out; omega)
                    go_wp2_with fail
                    go_meet
                    case rel => exact ⟨false, 2, a, c, m, _, _, rfl, rfl, rfl, rfl, rfl, (HP7.out.vb (fun x hx => ⟨hx.1, by have := hx.2; have := HE2.out; omega⟩)).dropZ, by omega⟩
            · subst h7
              rw [show (((3 : Nat) : Int)) = 3 from rfl] at hmm
              as_aux_lemma =>
                by_cases hin : 0 ≤ K ∧ K ≤ m.length
                · obtain ⟨n, rfl⟩ := Int.eq_ofNat_of_zero_le hin.1
                  have hnm : n ≤ m.length := by omega
                  have dk : decide ((m.length : Int) < (n : Int)) = false := decide_eq_false (by omega)
                  have dk2 : decide (m.length < n) = false := decide_eq_false (by omega)
                  have dk3 : decide ((n : Int) < 0) = false := decide_eq_false (by omega)
                  clear hin
                  go_wp2_with fail
                  refine (HPC.out.ins n rfl hnm (by omega) bt).mono ?_
                  rintro e w7 ⟨rfl, o7, made7, hp7⟩
                  have HP7 := Lib.hid hp7
                  obtain ⟨s0, s1, s2⟩ := box3 (hp7.z _ _ hZ.out)
                  have HIN := Lib.hid (refIn_any a c m n bt w7 (readsV_own hp7.own) hnm (own_cap hp7.own).1 (own_cap hp7.own).2 (by omega) (own_nil hp7.own))
                  clear hp7 t0 t1 t2 HPC
                  go_wp2_with fail
                  refine HIN.out.mono ?_
                  rintro e w8 ⟨v8, rfl, hown8, hb8⟩
                  obtain ⟨a8, c8, rfl, _, _⟩ := own_slice hown8
                  have HP8 := Lib.hid (HP7.out.row hown8 hb8)
                  have HLN : Hid ((inL m n bt).length ≤ 701 + i) := by show _ ≤ _; rw [inL_len hnm]; omega
                  clear hown8 hb8 HIN HP7 s0 s1 s2
                  go_wp2_with fail
                  go_meet
                  case rel => exact ⟨false, 0, a8, c8, inL m n bt, _, _, rfl, rfl, rfl, rfl, rfl, (HP8.out.vb (fun x hx => ⟨hx.1, by have := hx.2; have := HE2.out; omega⟩)).dropZ, HLN.out⟩
                · have HBAD : Hid (K < 0 ∨ (m.length : Int) < K) := (by omega : K < 0 ∨ (m.length : Int) < K)
                  go_wp2_with fail
                  refine (HPC.out.insBad K bt HBAD.out).mono ?_
                  rintro e w7 ⟨rfl, hp7⟩
                  have HP7 := Lib.hid hp7
                  clear hp7 t0 t1 t2 HPC
                  by_cases hneg : K < 0
                  · have dk : decide (K < 0) = true := decide_eq_true hneg
                    go_wp2_with fail
                    go_meet
                    case rel => exact ⟨false, 2, a, c, m, _, _, rfl, rfl, rfl, rfl, rfl, (HP7.out.vb (fun x hx => ⟨hx.1, by have := hx.2; have := HE2.out; omega⟩)).dropZ, by omega⟩
                  · have dk : decide (K < 0) = false := decide_eq_false hneg
                    have dk2 : decide ((m.length : Int) < K) = true := decide_eq_true (by have := HBAD.out; omega)
                    go_wp2_with fail
                    go_meet
                    case rel => exact ⟨false, 2, a, c, m, _, _, rfl, rfl, rfl, rfl, rfl, (HP7.out.vb (fun x hx => ⟨hx.1, by have := hx.2; have := HE2.out; omega⟩)).dropZ, by omega⟩
            · subst h7
              rw [show (((4 : Nat) : Int)) = 4 from rfl] at hmm
              as_aux_lemma =>
                by_cases hin : 0 ≤ K ∧ K ≤ m.length
                · obtain ⟨n, rfl⟩ := Int.eq_ofNat_of_zero_le hin.1
                  have hnm : n ≤ m.length := by omega
                  have dk : decide ((m.length : Int) < (n : Int)) = false := decide_eq_false (by omega)
                  have dk2 : decide (m.length < n) = false := decide_eq_false (by omega)
                  have dk3 : decide ((n : Int) < 0) = false := decide_eq_false (by omega)
                  clear hin
                  go_wp2_with fail
                  refine (HPC.out.ins n rfl hnm (by omega) bt).mono ?_
                  rintro e w7 ⟨rfl, o7, made7, hp7⟩
                  have HP7 := Lib.hid hp7
                  obtain ⟨s0, s1, s2⟩ := box3 (hp7.z _ _ hZ.out)
                  have HIN := Lib.hid (refIn_any a c m n bt w7 (readsV_own hp7.own) hnm (own_cap hp7.own).1 (own_cap hp7.own).2 (by omega) (own_nil hp7.own))
                  clear hp7 t0 t1 t2 HPC
                  go_wp2_with fail
                  refine HIN.out.mono ?_
                  rintro e w8 ⟨v8, rfl, hown8, hb8⟩
                  obtain ⟨a8, c8, rfl, _, _⟩ := own_slice hown8
                  have HP8 := Lib.hid (HP7.out.row hown8 hb8)
                  have HLN : Hid ((inL m n bt).length ≤ 701 + i) := by show _ ≤ _; rw [inL_len hnm]; omega
                  clear hown8 hb8 HIN HP7 s0 s1 s2
                  go_wp2_with fail
                  go_meet
                  case rel => exact ⟨false, 0, a8, c8, inL m n bt, _, _, rfl, rfl, rfl, rfl, rfl, (HP8.out.vb (fun x hx => ⟨hx.1, by have := hx.2; have := HE2.out; omega⟩)).dropZ, HLN.out⟩
                · have HBAD : Hid (K < 0 ∨ (m.length : Int) < K) := (by omega : K < 0 ∨ (m.length : Int) < K)
                  go_wp2_with fail
                  refine (HPC.out.insBad K bt HBAD.out).mono ?_
                  rintro e w7 ⟨rfl, hp7⟩
                  have HP7 := Lib.hid hp7
                  clear hp7 t0 t1 t2 HPC
                  by_cases hneg : K < 0
                  · have dk : decide (K < 0) = true := decide_eq_true hneg
                    go_wp2_with fail
                    go_meet
                    case rel => exact ⟨false, 2, a, c, m, _, _, rfl, rfl, rfl, rfl, rfl, (HP7.out.vb (fun x hx => ⟨hx.1, by have := hx.2; have := HE2.out; omega⟩)).dropZ, by omega⟩
                  · have dk : decide (K < 0) = false := decide_eq_false hneg
                    have dk2 : decide ((m.length : Int) < K) = true := decide_eq_true (by have := HBAD.out; omega)
                    go_wp2_with fail
                    go_meet
                    case rel => exact ⟨false, 2, a, c, m, _, _, rfl, rfl, rfl, rfl, rfl, (HP7.out.vb (fun x hx => ⟨hx.1, by have := hx.2; have := HE2.out; omega⟩)).dropZ, by omega⟩
            · subst h7
              rw [show (((5 : Nat) : Int)) = 5 from rfl] at hmm
              as_aux_lemma =>
                by_cases hin : 0 ≤ K ∧ K < m.length
                · obtain ⟨n, rfl⟩ := Int.eq_ofNat_of_zero_le hin.1
                  have hnm : n < m.length := by omega
                  clear hin
                  go_wp2_with fail
                  refine (HPC.out.del n rfl hnm).mono ?_
                  rintro e w7 ⟨rfl, o7, hp7⟩
                  have HP7 := Lib.hid hp7
                  have HGE := Lib.hid (refGets a c m n w7 (readsV_own hp7.own) hnm)
                  have HOU := Lib.hid (refOut_any a c m n w7 (readsV_own hp7.own) hnm (own_cap hp7.own).1 (own_cap hp7.own).2 (by omega) (own_nil hp7.own))
                  clear hp7 t0 t1 t2 HPC
                  generalize bitAt m n = x at *
                  go_wp2_with fail
                  refine HGE.out.mono ?_
                  rintro e w' ⟨rfl, rfl⟩
                  go_wp2_with fail
                  refine HOU.out.mono ?_
                  rintro e w8 ⟨v8, rfl, hown8, hb8⟩
                  obtain ⟨a8, c8, rfl, _, _⟩ := own_slice hown8
                  have HP8 := Lib.hid (HP7.out.row hown8 hb8)
                  have HLN : Hid ((outL m n).length ≤ 701 + i) := by show _ ≤ _; rw [outL_len hnm]; omega
                  clear hown8 hb8 HOU HP7
                  go_wp2_with fail
                  go_meet
                  case rel => exact ⟨x, 0, a8, c8, outL m n, _, _, rfl, rfl, rfl, rfl, rfl, (HP8.out.vb (fun x hx => ⟨hx.1, by have := hx.2; have := HE2.out; omega⟩)).dropZ, HLN.out⟩
                · have HBAD : Hid (K < 0 ∨ (m.length : Int) ≤ K) := (by omega : K < 0 ∨ (m.length : Int) ≤ K)
                  go_wp2_with fail
                  refine (HPC.out.delBad K HBAD.out).mono ?_
                  rintro e w7 ⟨rfl, hp7⟩
                  have HP7 := Lib.hid hp7
                  clear hp7 t0 t1 t2 HPC
                  go_wp2_with fail
                  refine (refGets_bad a m.length c K w7 HBAD.out).mono ?_
                  rintro e w' ⟨rfl, rfl⟩
                  go_wp2_with fail
                  go_meet
                  case rel => exact ⟨false, 2, a, c, m, _, _, rfl, rfl, rfl, rfl, rfl, (HP7.out.vb (fun x hx => ⟨hx.1, by have := hx.2; have := HE2.out; omega⟩)).dropZ, by omega⟩
            · subst h7
              rw [show (((6 : Nat) : Int)) = 6 from rfl] at hmm
              as_aux_lemma =>
                by_cases hin : 0 ≤ K ∧ K < m.length
                · obtain ⟨n, rfl⟩ := Int.eq_ofNat_of_zero_le hin.1
                  have hnm : n < m.length := by omega
                  clear hin
                  go_wp2_with fail
                  refine (HPC.out.del n rfl hnm).mono ?_
                  rintro e w7 ⟨rfl, o7, hp7⟩
                  have HP7 := Lib.hid hp7
                  have HGE := Lib.hid (refGets a c m n w7 (readsV_own hp7.own) hnm)
                  have HOU := Lib.hid (refOut_any a c m n w7 (readsV_own hp7.own) hnm (own_cap hp7.own).1 (own_cap hp7.own).2 (by omega) (own_nil hp7.own))
                  clear hp7 t0 t1 t2 HPC
                  generalize bitAt m n = x at *
                  go_wp2_with fail
                  refine HGE.out.mono ?_
                  rintro e w' ⟨rfl, rfl⟩
                  go_wp2_with fail
                  refine HOU.out.mono ?_
                  rintro e w8 ⟨v8, rfl, hown8, hb8⟩
                  obtain ⟨a8, c8, rfl, _, _⟩ := own_slice hown8
                  have HP8 := Lib.hid (HP7.out.row hown8 hb8)
                  have HLN : Hid ((outL m n).length ≤ 701 + i) := by show _ ≤ _; rw [outL_len hnm]; omega
                  clear hown8 hb8 HOU HP7
                  go_wp2_with fail
                  go_meet
                  case rel => exact ⟨x, 0, a8, c8, outL m n, _, _, rfl, rfl, rfl, rfl, rfl, (HP8.out.vb (fun x hx => ⟨hx.1, by have := hx.2; have := HE2.out; omega⟩)).dropZ, HLN.out⟩
                · have HBAD : Hid (K < 0 ∨ (m.length : Int) ≤ K) := (by omega : K < 0 ∨ (m.length : Int) ≤ K)
                  go_wp2_with fail
                  refine (HPC.out.delBad K HBAD.out).mono ?_
                  rintro e w7 ⟨rfl, hp7⟩
                  have HP7 := Lib.hid hp7
                  clear hp7 t0 t1 t2 HPC
                  go_wp2_with fail
                  refine (refGets_bad a m.length c K w7 HBAD.out).mono ?_
                  rintro e w' ⟨rfl, rfl⟩
                  go_wp2_with fail
                  go_meet
                  case rel => exact ⟨false, 2, a, c, m, _, _, rfl, rfl, rfl, rfl, rfl, (HP7.out.vb (fun x hx => ⟨hx.1, by have := hx.2; have := HE2.out; omega⟩)).dropZ, by omega⟩
            · subst h7
              rw [show (((7 : Nat) : Int)) = 7 from rfl] at hmm
              as_aux_lemma =>
                by_cases hin : 0 ≤ K ∧ K < m.length
                · obtain ⟨n, rfl⟩ := Int.eq_ofNat_of_zero_le hin.1
                  have hnm : n < m.length := by omega
                  clear hin
                  go_wp2_with fail
                  refine (HPC.out.get n rfl hnm).mono ?_
                  rintro e w7 ⟨rfl, hp7⟩
                  have HP7 := Lib.hid hp7
                  have HGE := Lib.hid (refGets a c m n w7 (readsV_own hp7.own) hnm)
                  clear hp7 t0 t1 t2 HPC
                  generalize bitAt m n = x at *
                  go_wp2_with fail
                  refine HGE.out.mono ?_
                  rintro e w' ⟨rfl, rfl⟩
                  go_wp2_with fail
                  go_meet
                  case rel => exact ⟨x, 0, a, c, m, _, _, rfl, rfl, rfl, rfl, rfl, (HP7.out.vb (fun x hx => ⟨hx.1, by have := hx.2; have := HE2.out; omega⟩)).dropZ, by omega⟩
                · have HBAD : Hid (K < 0 ∨ (m.length : Int) ≤ K) := (by omega : K < 0 ∨ (m.length : Int) ≤ K)
                  go_wp2_with fail
                  refine (HPC.out.getBad K HBAD.out).mono ?_
                  rintro e w7 ⟨rfl, hp7⟩
                  have HP7 := Lib.hid hp7
                  clear hp7 t0 t1 t2 HPC
                  go_wp2_with fail
                  refine (refGets_bad a m.length c K w7 HBAD.out).mono ?_
                  rintro e w' ⟨rfl, rfl⟩
                  go_wp2_with fail
                  go_meet
                  case rel => exact ⟨false, 2, a, c, m, _, _, rfl, rfl, rfl, rfl, rfl, (HP7.out.vb (fun x hx => ⟨hx.1, by have := hx.2; have := HE2.out; omega⟩)).dropZ, by omega⟩
          case rest => as_aux_lemma =>
            obtain ⟨b5, code, a5, c5, m5, o5, made5, rfl, rfl, rfl, rfl, rfl, hp5, hm5⟩ := hcut
            have HP5 := Lib.hid hp5
            clear hp5 HPC t0 t1 t2 hmm hm8 hm
            have hbb : (b5 == b5) = true := by simp
            have hbn : (b5 != b5) = false := by simp
            have hcc : (code == code) = true := by simp
            have hcn : (code != code) = false := by simp
            go_wp2_with fail
            refine (HP5.out.fine hsh).mono ?_
            rintro e w8 ⟨rfl, hp8⟩
            have HP8 := Lib.hid hp8
            clear hp8 HP5
            go_wp2_with fail
            refine (HP8.out.same K (by omega) (HT.out.below' HP8.out.bl) HTL.out).mono ?_
            rintro e w9 ⟨rfl, hp9⟩
            have HP9 := Lib.hid hp9
            clear hp9 HP8
            go_wp2_with fail
            go_roundw
            case rel => exact ⟨i + 1, a5, c5, m5, o5, made5, rfl, by go_num, HP9.out, by omega, by omega⟩
            case measure => simp [intOf]; omega
      · have hz0 : decide ((i : Int) < (z1.length : Int)) = false := decide_eq_false (by omega)
        have HML := Lib.hid hm
        clear hm
        go_wp2_with fail
        refine (told5_any _ (HT.out.below' HP.out.bl)).mono ?_
        rintro e w6 ⟨rfl, hb6⟩
        have HP6 := Lib.hid (HP.out.below hb6)
        clear hb6 HP
        obtain ⟨x6, hx6, ht6⟩ := HP6.out.t
        have HALL := Lib.hid (all_t ht6 HP6.out.bits)
        clear hx6 ht6
        go_wp2_with fail
        refine HALL.out.mono ?_
        rintro e w7 ⟨v7, rfl, hown7, hb7⟩
        obtain ⟨a7, c7, rfl, _, _⟩ := own_slice hown7
        have HP7 := Lib.hid (HP6.out.below hb7)
        have hsm := refSame_any a7 c7 m a c m w7 (readsV_own hown7) (readsV_own HP7.out.own) (by have := HML.out; omega)
        rw [show decide (m = m) = true by simp] at hsm
        have HSM := Lib.hid hsm
        clear hsm hown7 hb7 HP6 HALL
        go_wp2_with fail
        refine HSM.out.mono ?_
        rintro e w' ⟨rfl, n8, rfl⟩
        go_wp2_with fail
        go_ret
        exact ⟨rfl, below_drewW HP7.out.bl n8⟩

end Go.Proofs.YtcppgpjodfeigaaDoor
