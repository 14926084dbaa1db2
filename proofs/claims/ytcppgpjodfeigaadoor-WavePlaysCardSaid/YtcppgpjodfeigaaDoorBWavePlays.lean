/- The walk of WavePlays. -/
import Derived.Test.YtcppgpjodfeigaaDoorZw10
import Derived.Deep.DeepCutAuto
import Derived.Deep.CutBlock
import Derived.Deep.CutRange
namespace Go.Proofs.YtcppgpjodfeigaaDoor
set_option linter.unusedVariables false
set_option linter.unusedSimpArgs false
open Go.RowKit

theorem own_nil {w : World} {base : Nat} {e : TypeId} {a : Option Addr} {n c : Nat} {xs : List Value} (h : w.ownsRow base e 1 (.slice a n c) n xs) : a = none → n = 0 ∧ c = 0 := by
  obtain ⟨a', c', hv, hn, _⟩ := own_slice h
  injection hv with e1 _ e3
  subst e1 e3; exact hn
theorem box3 {w : World} {q : Nat} {T : TypeId} {a b c : Value} (h : w.heap[q]? = some (.cells #[a, b, c] T (0, 0))) : w.cell? ⟨q, 0, none⟩ = some a ∧ w.cell? ⟨q, 1, none⟩ = some b ∧ w.cell? ⟨q, 2, none⟩ = some c :=
  ⟨by rw [cell_of_row w q 0 _ _ _ h]; rfl, by rw [cell_of_row w q 1 _ _ _ h]; rfl, by rw [cell_of_row w q 2 _ _ _ h]; rfl⟩
theorem wkeep {B : Nat} {Z : Option (Nat × Obj)} {w0 w1 w2 : World} {q p : Nat} {O : Nat → Nat → Option ST} {v : Value} {L R : List Nat} {Vb : Int → Prop} {sa sb sc : Value} (h : (w1.cell? ⟨q, 0, none⟩ = some sa ∧ w1.cell? ⟨q, 1, none⟩ = some sb ∧ w1.cell? ⟨q, 2, none⟩ = some sc) ∧ WPK B Z w0 w1 p O v L R Vb) (hb : Below w1.heap.size w1 w2) :
    (w2.cell? ⟨q, 0, none⟩ = some sa ∧ w2.cell? ⟨q, 1, none⟩ = some sb ∧ w2.cell? ⟨q, 2, none⟩ = some sc) ∧ WPK B Z w0 w2 p O v L R Vb := by
  have hq := World.block_lt_of_cell? w1 _ h.1.1
  exact ⟨⟨(hb.cell (p := ⟨q, 0, none⟩) hq).trans h.1.1, (hb.cell (p := ⟨q, 1, none⟩) hq).trans h.1.2.1, (hb.cell (p := ⟨q, 2, none⟩) hq).trans h.1.2.2⟩, h.2.below hb⟩
theorem cell_new1 (w : World) (x : Int) : (w.alloc (.cells #[.int .i64 x] 3)).drew.cell? ⟨w.heap.size, 0, none⟩ = some (.int .i64 x) := by
  show (w.alloc (.cells #[.int .i64 x] 3)).cell? ⟨w.heap.size, 0, none⟩ = some (.int .i64 x)
  rw [cell_of_row _ w.heap.size 0 _ _ _ (heap_alloc_new w _)]; rfl
theorem syms_one (few : Bool) (b : Nat) (W : World) {x : Int} (hc : W.cell? ⟨b, 0, none⟩ = some (.int .i64 x)) :
    Calls Tryd.prog 39 #[.slice (some ⟨b, 0, none⟩) 1 1, .int .i64 1, .bool few] W fun e w' => ∃ (s g c : Nat), s < 257 ∧ e = .returned (.slice (some ⟨g, 0, none⟩) 1 c) ∧ w'.cell? ⟨g, 0, none⟩ = some (.int .i64 s) ∧ Below W.heap.size W w' := by
  refine (law7Syms_any (some ⟨b, 0, none⟩) 1 [x] 1 few W (reads_one hc) (by decide) (by unfold maxLen; simp)).mono ?_
  rintro e w' ⟨m, v, rfl, hl, hS, hown, hb⟩
  have h1 : m.length = 1 := by simpa using hl
  obtain ⟨s, rfl⟩ : ∃ s, m = [s] := by
    match m, h1 with
    | [s], _ => exact ⟨s, rfl⟩
  obtain ⟨g, cap, rfl, _, _, _, _, hcell, _⟩ := own_some hown (by simp)
  exact ⟨s, g, cap, hS s (by simp), rfl, hcell 0 (by simp), hb⟩
theorem WPK.new {w0 w1 w2 : World} {p : Nat} {v : Value} {L : List Nat} (hown : w1.ownsRow w0.heap.size 3 1 v L.length (L.map wsV)) (hb1 : Below w0.heap.size w0 w1) (hV : Wv w1.heap.size (fun _ => False) w2 p L) (hb2 : Below w1.heap.size w1 w2) (hS : Syms L) :
    ∃ O, WPK w0.heap.size none w0 w2 p O v L L (fun _ => True) := by
  obtain ⟨D, O, x, h1, h2⟩ := (hV.base hb1.size).mono (Y := xzk v none) (fun k hk => by
    rcases hk with hk | ⟨ob, hk⟩
    · exact Or.inr ⟨(own_lt hown hk).1, (own_lt hown hk).2⟩
    · cases hk)
  exact ⟨O, (Chg.of_below (S := fun _ => False) hb2).own hown (fun _ _ hf => hf.elim), ⟨D, x, trivial, h1⟩, h2, hS, fun q ob hq => (by cases hq), hb1.trans (hb2.mono hb1.size)⟩

set_option maxHeartbeats 6400000 in
set_option maxRecDepth 100000 in
theorem walk_WavePlays (w : World) (hT : BitTab w) (a0 : Option Addr) (c0 : Nat) (z0 : List Int) (w0 : ArgI .i64 w a0 c0 z0) (few : Bool) (a2 : Option Addr) (c2 : Nat) (z2 : List (Int × Int × Int)) (w2 : ArgT w a2 c2 z2) :
    Calls Tryd.prog 16 #[.slice a0 z0.length c0, .bool few, .slice a2 z2.length c2] w fun e w' => e = .returned (.bool true) ∧ Below w.heap.size w w' := by
  have hrd := w0.reads
  have hzm := Nat.le_trans w0.le w0.max
  have HR1 := Lib.hid w2.reads
  have hz1 : z2.length ≤ 9223372036854775807 := Nat.le_trans w2.le w2.max
  have HT := Lib.hid hT
  have HTL := Lib.hid hT.lt
  have HSY := Lib.hid (law7Syms_any a0 c0 z0 200 few w hrd (by omega) hzm)
  have HSY1 := Lib.hid (syms_one few)
  clear hT w0 w2 hrd hzm
  go_enter Tryd.func16, Tryd.ntmps16
  go_wp2_with fail
  refine HSY.out.mono ?_
  rintro e w1 ⟨m, v, rfl, hll, hS, hown, hb1⟩
  obtain ⟨a, c, rfl, hnil, had⟩ := own_slice hown
  have hm : m.length ≤ 200 := by omega
  have HNEW := Lib.hid (wvNew (c := c) m (readsV_own hown) hS (by omega))
  have HOW := Lib.hid hown
  have HSS := Lib.hid hS
  have HB1 := Lib.hid hb1
  clear hown hS HSY hll had hnil hb1
  go_wp2_with fail
  refine HNEW.out.mono ?_
  rintro e w2 ⟨p, rfl, hV, hb2⟩
  obtain ⟨O, hP⟩ := WPK.new HOW.out HB1.out hV hb2 HSS.out
  have HP2 := Lib.hid hP
  clear hV hb2 hP HOW HB1 HSS HNEW
  go_wp2_with fail
  refine (HP2.out.all (by omega)).mono ?_
  rintro e w3 ⟨g3, rfl, hr3, hp3⟩
  have HP3 := Lib.hid hp3
  have HSM := Lib.hid (refSameN_any (some ⟨g3, 0, none⟩) a m.length c m m w3 hr3 (readsV_own HP3.out.own) (by omega))
  rw [show decide (m = m) = true by simp] at HSM
  clear hr3 hp3 HP2
  go_wp2_with fail
  refine HSM.out.mono ?_
  rintro e w' ⟨rfl, n4, rfl⟩
  have HP4 := Lib.hid (HP3.out.drewN n4)
  generalize w3.drewN n4 = w4 at *
  clear HP3 HSM
  by_cases hbig : 60 < z2.length
  · have d1 : decide ((60 : Int) < (z2.length : Int)) = true := decide_eq_true (by omega)
    go_wp2_with fail
    refine (told7_any _ (HT.out.below' HP4.out.bl)).mono ?_
    rintro e w6 ⟨rfl, hb6⟩
    go_wp2_with fail
    go_ret
    exact ⟨rfl, (HP4.out.below hb6).bl⟩
  · have d1 : decide ((60 : Int) < (z2.length : Int)) = false := decide_eq_false (by omega)
    have hz60 : z2.length ≤ 60 := by omega
    clear hbig
    go_wp2_with fail
    go_loopw [7, 10] (fun v x wr => ∃ (i : Nat) (a : Option Addr) (c : Nat) (m : List Nat) (O : Nat → Nat → Option ST), v = .slice a m.length c ∧ x = .int .i64 i ∧ WPK w.heap.size none w wr p O (.slice a m.length c) m m (fun _ => True) ∧ i ≤ z2.length ∧ m.length ≤ 200 + i) (fun _ x _ => z2.length - (intOf x).toNat)
    case atStart => exact ⟨0, a, c, m, O, rfl, rfl, HP4.out, Nat.zero_le _, by omega⟩
    case round => as_aux_lemma =>
      clear HP4 hm
      obtain ⟨i, a, c, m, O, rfl, rfl, hp, hi, hm⟩ := hrel
      have HP := Lib.hid hp
      clear hp
      by_cases hlt : i < z2.length
      · obtain ⟨b, off, rfl, hbl, hcs⟩ := HR1.out i hlt
        obtain ⟨p1, p2, p3⟩ := hcs i hlt
        have q1 := (HP.out.bl.cell (p := ⟨b, off + i * 3, none⟩) hbl).trans p1
        have q2 := (HP.out.bl.cell (p := ⟨b, off + i * 3 + 1, none⟩) hbl).trans p2
        have q3 := (HP.out.bl.cell (p := ⟨b, off + i * 3 + 2, none⟩) hbl).trans p3
        generalize (z2[i]?.getD default).1 = kd at *
        generalize (z2[i]?.getD default).2.1 = K0 at *
        generalize (z2[i]?.getD default).2.2 = S0 at *
        have i0 : (0 : Int) ≤ (i : Int) := by omega
        have i1 : (i : Int) < (z2.length : Int) := by omega
        clear hcs p1 p2 p3
        go_upto_region 11 with fail
        obtain ⟨W1, hW1⟩ : ∃ W1, W1 = wr.alloc (.cells #[.int .i64 kd, .int .i64 K0, .int .i64 S0] 71) := ⟨_, rfl⟩
        rw [← hW1]
        have hbW : Below wr.heap.size wr W1 := by rw [hW1]; exact below_al wr _
        have hbx : W1.heap[wr.heap.size]? = some (.cells #[.int .i64 kd, .int .i64 K0, .int .i64 S0] 71 (0, 0)) := by rw [hW1]; exact heap_alloc_new wr _
        have t3 := box3 hbx
        have HP1 := Lib.hid (HP.out.addZ hbW (Nat.le_refl _) hbx)
        obtain ⟨Z, hZ⟩ : ∃ Z : Option (Nat × Obj), Z = (some (wr.heap.size, .cells #[.int .i64 kd, .int .i64 K0, .int .i64 S0] 71 (0, 0))) := ⟨_, rfl⟩
        rw [← hZ] at HP1
        have hHm := HP.out.hi.2
        have B0 : Hid ((W1.drew.cell? ⟨wr.heap.size, 0, none⟩ = some (.int .i64 kd) ∧ W1.drew.cell? ⟨wr.heap.size, 1, none⟩ = some (.int .i64 K0) ∧ W1.drew.cell? ⟨wr.heap.size, 2, none⟩ = some (.int .i64 S0)) ∧ WPK w.heap.size Z w W1.drew p O (.slice a m.length c) m m (fun _ => True)) := Lib.hid ⟨t3, HP1.out.drewN 1⟩
        clear hW1 hbW hbx t3 HP1 HP q1 q2 q3
        refine reg_start (fun w' => (w'.cell? ⟨wr.heap.size, 0, none⟩ = some (.int .i64 kd) ∧ w'.cell? ⟨wr.heap.size, 1, none⟩ = some (.int .i64 K0) ∧ w'.cell? ⟨wr.heap.size, 2, none⟩ = some (.int .i64 S0)) ∧ WPK w.heap.size Z w w' p O (.slice a m.length c) m m (fun _ => True)) (by kernel_rfl) (B0.out) (fun hHeld => ?_)
        refine reg_take (i := 0) (v := ?vop0) rfl (by kernel_rfl) rfl hHeld ?yop0 ?rop0
        case yop0 => (intro w hSw; (try dsimp only at hSw); go_simp; all_goals with_reducible rfl)
        try simp only [Act.put, List.setIfInBounds_toArray, List.set_cons_zero, List.set_cons_succ]
        refine reg_take (i := 1) (v := ?vop1) rfl (by kernel_rfl) rfl hHeld ?yop1 ?rop1
        case yop1 => (intro w hSw; (try dsimp only at hSw); go_simp; all_goals with_reducible rfl)
        try simp only [Act.put, List.setIfInBounds_toArray, List.set_cons_zero, List.set_cons_succ]
        refine reg_take (i := 2) (v := ?vop2) rfl (by kernel_rfl) rfl hHeld ?yop2 ?rop2
        case yop2 => (intro w hSw; (try dsimp only at hSw); go_simp; all_goals with_reducible rfl)
        try simp only [Act.put, List.setIfInBounds_toArray, List.set_cons_zero, List.set_cons_succ]
        refine reg_take (i := 3) (v := ?vop3) rfl (by kernel_rfl) rfl hHeld ?yop3 ?rop3
        case yop3 => (intro w hSw; (try dsimp only at hSw); go_simp; all_goals with_reducible rfl)
        try simp only [Act.put, List.setIfInBounds_toArray, List.set_cons_zero, List.set_cons_succ]
        refine reg_take (i := 4) (v := ?vop4) rfl (by kernel_rfl) rfl hHeld ?yop4 ?rop4
        case yop4 => (intro w hSw; (try dsimp only at hSw); go_simp; all_goals with_reducible rfl)
        try simp only [Act.put, List.setIfInBounds_toArray, List.set_cons_zero, List.set_cons_succ]
        refine reg_loud (i := 5) rfl (by kernel_rfl) rfl (fun K hK => ?_)
        go_simp
        ((refine (hHeld.2.shapes).mono ?_))
        rintro e w6 ⟨sa, sc, rfl, hsr, hb6⟩
        have HSR := Lib.hid hsr
        clear hsr
        refine hK.out _ _ (wkeep hHeld hb6) (fun hNew => ?_)
        clear hK K hHeld
        have hHeld := hNew
        clear hNew
        try simp only [Act.put, List.setIfInBounds_toArray, List.set_cons_zero, List.set_cons_succ]
        refine reg_loud (i := 6) rfl (by kernel_rfl) rfl (fun K hK => ?_)
        go_simp
        ((refine (hHeld.2.high HSR.out).mono ?_))
        rintro e w' ⟨rfl, rfl⟩
        refine hK.out _ _ (hHeld) (fun hNew => ?_)
        clear hK K hHeld
        have hHeld := hNew
        clear hNew
        try simp only [Act.put, List.setIfInBounds_toArray, List.set_cons_zero, List.set_cons_succ]
        refine reg_take (i := 7) (v := ?vop7) rfl (by kernel_rfl) rfl hHeld ?yop7 ?rop7
        case yop7 => (intro w hSw; (try dsimp only at hSw); go_simp; all_goals with_reducible rfl)
        try simp only [Act.put, List.setIfInBounds_toArray, List.set_cons_zero, List.set_cons_succ]
        refine reg_take (i := 8) (v := ?vop8) rfl (by kernel_rfl) rfl hHeld ?yop8 ?rop8
        case yop8 => (intro w hSw; (try dsimp only at hSw); go_simp; all_goals with_reducible rfl)
        try simp only [Act.put, List.setIfInBounds_toArray, List.set_cons_zero, List.set_cons_succ]
        refine reg_take (i := 9) (v := ?vop9) rfl (by kernel_rfl) rfl hHeld ?yop9 ?rop9
        case yop9 => (intro w hSw; (try dsimp only at hSw); go_simp; all_goals with_reducible rfl)
        try simp only [Act.put, List.setIfInBounds_toArray, List.set_cons_zero, List.set_cons_succ]
        refine reg_done (by kernel_rfl) ?_ _
        obtain ⟨⟨t0, t1, t2⟩, hpd⟩ := hHeld
        obtain ⟨H, hH⟩ : ∃ H, maxH (shTo O 9) = H := ⟨_, rfl⟩
        rw [hH] at hHm ⊢
        have HH := Lib.hid hH
        have HPD := Lib.hid hpd
        have hZ := Lib.hid hZ
        clear hpd B0 HSR hH
        go_upto_if 64 with fail
        go_cut [12, 13] from 45 to 196 (fun vk vs wx => ∃ K S1 : Int, vk = .int .i64 K ∧ vs = .int .i64 S1 ∧ WPK w.heap.size Z w wx p O (.slice a m.length c) m m (fun _ => True))
        case first => as_aux_lemma =>
          by_cases h9 : (i : Int) % 9 < 8
          · have d9 : decide ((i : Int) % 9 < 8) = true := decide_eq_true h9
            obtain ⟨u, hu0, hu1, hu⟩ := u64r K0
            have hw1 : IntKind.i64.wrap ((m.length : Int) + 1) = (m.length : Int) + 1 := IntWalk.i64_in _ (by omega)
            have hw2 : IntKind.u64.wrap ((m.length : Int) + 1) = (m.length : Int) + 1 := by rw [IntKind.wrap_u64]; omega
            have hne : ((m.length : Int) + 1 == 0) = false := by rw [beq_eq_false_iff_ne]; omega
            have hne2 : ((m.length : Int) + 1 = 0) = False := eq_false (by omega)
            go_upto_region 13 with fail
            have B1 := Lib.hid (HPD.out.drewN 1)
            refine reg_start (fun w' => WPK w.heap.size Z w w' p O (.slice a m.length c) m m (fun _ => True)) (by kernel_rfl) (B1.out) (fun hHeld => ?_)
            refine reg_take (i := 0) (v := ?vsy0) rfl (by kernel_rfl) rfl hHeld ?ysy0 ?rsy0
            case ysy0 => (intro w hSw; (try dsimp only at hSw); go_simp; all_goals with_reducible rfl)
            try simp only [Act.put, List.setIfInBounds_toArray, List.set_cons_zero, List.set_cons_succ]
            refine reg_take (i := 1) (v := ?vsy1) rfl (by kernel_rfl) rfl hHeld ?ysy1 ?rsy1
            case ysy1 => (intro w hSw; (try dsimp only at hSw); go_simp; all_goals with_reducible rfl)
            try simp only [Act.put, List.setIfInBounds_toArray, List.set_cons_zero, List.set_cons_succ]
            refine reg_take (i := 2) (v := ?vsy2) rfl (by kernel_rfl) rfl hHeld ?ysy2 ?rsy2
            case ysy2 => (intro w hSw; (try dsimp only at hSw); go_simp; all_goals with_reducible rfl)
            try simp only [Act.put, List.setIfInBounds_toArray, List.set_cons_zero, List.set_cons_succ]
            refine reg_take (i := 3) (v := ?vsy3) rfl (by kernel_rfl) rfl hHeld ?ysy3 ?rsy3
            case ysy3 => (intro w hSw; (try dsimp only at hSw); go_simp; all_goals with_reducible rfl)
            try simp only [Act.put, List.setIfInBounds_toArray, List.set_cons_zero, List.set_cons_succ]
            refine reg_take (i := 4) (v := ?vsy4) rfl (by kernel_rfl) rfl hHeld ?ysy4 ?rsy4
            case ysy4 => (intro w hSw; (try dsimp only at hSw); go_simp; all_goals with_reducible rfl)
            try simp only [Act.put, List.setIfInBounds_toArray, List.set_cons_zero, List.set_cons_succ]
            refine reg_take (i := 5) (v := ?vsy5) rfl (by kernel_rfl) rfl hHeld ?ysy5 ?rsy5
            case ysy5 => (intro w hSw; (try dsimp only at hSw); go_simp; all_goals with_reducible rfl)
            try simp only [Act.put, List.setIfInBounds_toArray, List.set_cons_zero, List.set_cons_succ]
            refine reg_take (i := 6) (v := ?vsy6) rfl (by kernel_rfl) rfl hHeld ?ysy6 ?rsy6
            case ysy6 => (intro w hSw; (try dsimp only at hSw); go_simp; all_goals with_reducible rfl)
            try simp only [Act.put, List.setIfInBounds_toArray, List.set_cons_zero, List.set_cons_succ]
            refine reg_take (i := 7) (v := ?vsy7) rfl (by kernel_rfl) rfl hHeld ?ysy7 ?rsy7
            case ysy7 => (intro w hSw; (try dsimp only at hSw); go_simp; all_goals with_reducible rfl)
            try simp only [Act.put, List.setIfInBounds_toArray, List.set_cons_zero, List.set_cons_succ]
            refine reg_take (i := 8) (v := ?vsy8) rfl (by kernel_rfl) rfl hHeld ?ysy8 ?rsy8
            case ysy8 => (intro w hSw; (try dsimp only at hSw); go_simp; all_goals with_reducible rfl)
            try simp only [Act.put, List.setIfInBounds_toArray, List.set_cons_zero, List.set_cons_succ]
            refine reg_take (i := 10) (v := ?vsy10) rfl (by kernel_rfl) rfl hHeld ?ysy10 ?rsy10
            case ysy10 => (intro w hSw; (try dsimp only at hSw); go_simp; all_goals with_reducible rfl)
            try simp only [Act.put, List.setIfInBounds_toArray, List.set_cons_zero, List.set_cons_succ]
            refine reg_loud (i := 9) rfl (by kernel_rfl) rfl (fun K hK => ?_)
            go_simp
            refine hK.out _ _ (hHeld.below (below_al _ _)) (fun hNew => ?_)
            clear hK K hHeld
            have hHeld := hNew
            clear hNew
            try simp only [Act.put, List.setIfInBounds_toArray, List.set_cons_zero, List.set_cons_succ]
            refine reg_loud (i := 11) rfl (by kernel_rfl) rfl (fun K hK => ?_)
            go_simp
            ((refine (HSY1.out _ _ (cell_new1 _ _)).mono ?_))
            rintro e w8 ⟨s8, g8, c8, hs8, rfl, hc8, hb8⟩
            refine hK.out _ _ (hHeld.below hb8) (fun hNew => ?_)
            clear hK K hHeld
            have hHeld := hNew
            clear hNew
            try simp only [Act.put, List.setIfInBounds_toArray, List.set_cons_zero, List.set_cons_succ]
            refine reg_take (i := 12) (v := ?vsy12) rfl (by kernel_rfl) rfl hHeld ?ysy12 ?rsy12
            case ysy12 => (intro w hSw; (try dsimp only at hSw); go_simp; all_goals with_reducible rfl)
            try simp only [Act.put, List.setIfInBounds_toArray, List.set_cons_zero, List.set_cons_succ]
            refine reg_take (i := 14) (v := ?vsy14) rfl (by kernel_rfl) rfl hHeld ?ysy14 ?rsy14
            case ysy14 => (intro w hSw; (try dsimp only at hSw); go_simp; all_goals with_reducible rfl)
            try simp only [Act.put, List.setIfInBounds_toArray, List.set_cons_zero, List.set_cons_succ]
            refine reg_loud (i := 13) rfl (by kernel_rfl) rfl (fun K hK => ?_)
            go_simp
            refine hK.out _ _ (hHeld) (fun hNew => ?_)
            clear hK K hHeld
            have hHeld := hNew
            clear hNew
            try simp only [Act.put, List.setIfInBounds_toArray, List.set_cons_zero, List.set_cons_succ]
            refine reg_take (i := 15) (v := ?vsy15) rfl (by kernel_rfl) rfl hHeld ?ysy15 ?rsy15
            case ysy15 => (intro w hSw; (try dsimp only at hSw); go_simp; all_goals with_reducible rfl)
            try simp only [Act.put, List.setIfInBounds_toArray, List.set_cons_zero, List.set_cons_succ]
            refine reg_done (by kernel_rfl) ?_ _
            go_wp2_with fail
            go_meet
            case rel => exact ⟨_, _, rfl, rfl, hHeld⟩
          · have d9 : decide ((i : Int) % 9 < 8) = false := decide_eq_false h9
            go_wp2_with fail
            go_meet
            case rel => exact ⟨K0, S0, rfl, rfl, HPD.out⟩
        case rest => as_aux_lemma =>
          obtain ⟨K, S1, rfl, rfl, hpc⟩ := hcut
          have HPC := Lib.hid hpc
          clear hpc HPD t0 t1 t2
          obtain ⟨t0, t1, t2⟩ := box3 (HPC.out.z _ _ hZ.out)
          obtain ⟨m7, hm8, hmm⟩ := and7t kd
          go_upto_block 2 with fail
          go_cut [7, 15, 16, 17, 18] from 45 to 196 (fun v7 x e y f wx => ∃ (q code : Int) (a' : Option Addr) (c' : Nat) (m' : List Nat) (O' : Nat → Nat → Option ST), v7 = .slice a' m'.length c' ∧ x = .int .i64 q ∧ e = .int .i64 code ∧ y = .int .i64 q ∧ f = .int .i64 code ∧ WPK w.heap.size none w wx p O' (.slice a' m'.length c') m' m' (vbW (72 * (H + 2))) ∧ m'.length ≤ 201 + i)
          case first => as_aux_lemma =>
            obtain h7 | h7 | h7 | h7 | h7 | h7 | h7 | h7 : m7 = 0 ∨ m7 = 1 ∨ m7 = 2 ∨ m7 = 3 ∨ m7 = 4 ∨ m7 = 5 ∨ m7 = 6 ∨ m7 = 7 := by omega
            · subst h7
              rw [show (((0 : Nat) : Int)) = 0 from rfl] at hmm
              as_aux_lemma =>
                by_cases hsy : 0 ≤ S1 ∧ S1 < 257
                · obtain ⟨s, rfl⟩ := Int.eq_ofNat_of_zero_le hsy.1
                  have hs257 : s < 257 := by omega
                  have HIS : Hid (∀ w, Calls Tryd.prog 53 #[.int .i64 s] w fun e w' => e = .returned (.bool true) ∧ w = w') := Lib.hid (fun w => by rw [← symIs_true hsy.1 hsy.2]; exact refIs_any s w)
                  have hst : symIs (s : Int) = true := symIs_true hsy.1 hsy.2
                  clear hsy
                  by_cases hin : 0 ≤ K ∧ K ≤ m.length
                  · obtain ⟨n, rfl⟩ := Int.eq_ofNat_of_zero_le hin.1
                    have hnm : n ≤ m.length := by omega
                    have dk : decide ((m.length : Int) < (n : Int)) = false := decide_eq_false (by omega)
                    have dk2 : decide (m.length < n) = false := decide_eq_false (by omega)
                    have dk3 : decide ((n : Int) < 0) = false := decide_eq_false (by omega)
                    clear hin hst
                    go_wp2_with fail
                    refine (HPC.out.ins n s hnm (by omega) hs257 HH.out).mono ?_
                    rintro e w7 ⟨rfl, O7, hp7⟩
                    have HP7 := Lib.hid hp7
                    obtain ⟨s0, s1, s2⟩ := box3 (hp7.z _ _ hZ.out)
                    have HIN := Lib.hid (wRefInN a c m n s w7 (readsV_own hp7.own) hnm (town_cap hp7.own).1 (town_cap hp7.own).2 (by omega) (own_nil hp7.own))
                    clear hp7 t0 t1 t2 HPC
                    go_wp2_with fail
                    refine (HIS.out _).mono ?_
                    rintro e w' ⟨rfl, rfl⟩
                    go_wp2_with fail
                    refine HIN.out.mono ?_
                    rintro e w8 ⟨v8, rfl, hown8, hb8⟩
                    obtain ⟨a8, c8, rfl, _, _⟩ := own_slice hown8
                    have HP8 := Lib.hid (HP7.out.row hown8 hb8)
                    have HLN : Hid ((inL m n s).length ≤ 201 + i) := by show _ ≤ _; rw [inL_len hnm]; omega
                    clear hown8 hb8 HIN HP7 s0 s1 s2
                    go_wp2_with fail
                    go_meet
                    case rel => exact ⟨-1, 0, a8, c8, inL m n s, _, rfl, rfl, rfl, rfl, rfl, HP8.out.dropZ, HLN.out⟩
                  · have HBAD : Hid (K < 0 ∨ (m.length : Int) < K) := (by omega : K < 0 ∨ (m.length : Int) < K)
                    have hib := HPC.out.insBad K s (Or.inr HBAD.out) (72 * (H + 2))
                    rw [hst, if_pos rfl] at hib
                    have HIB := Lib.hid hib
                    clear hib hst hin
                    go_wp2_with fail
                    refine HIB.out.mono ?_
                    rintro e w7 ⟨rfl, hp7⟩
                    have HP7 := Lib.hid hp7
                    clear hp7 t0 t1 t2 HPC HIB
                    by_cases hneg : K < 0
                    · have dk : decide (K < 0) = true := decide_eq_true hneg
                      go_wp2_with fail
                      refine (HIS.out _).mono ?_
                      rintro e w' ⟨rfl, rfl⟩
                      go_wp2_with fail
                      go_meet
                      case rel => exact ⟨-1, 2, a, c, m, _, rfl, rfl, rfl, rfl, rfl, HP7.out.dropZ, by omega⟩
                    · have dk : decide (K < 0) = false := decide_eq_false hneg
                      have dk2 : decide ((m.length : Int) < K) = true := decide_eq_true (by have := HBAD.out; omega)
                      go_wp2_with fail
                      refine (HIS.out _).mono ?_
                      rintro e w' ⟨rfl, rfl⟩
                      go_wp2_with fail
                      go_meet
                      case rel => exact ⟨-1, 2, a, c, m, _, rfl, rfl, rfl, rfl, rfl, HP7.out.dropZ, by omega⟩
                · have hsf : symIs S1 = false := symIs_false (by omega)
                  have HIS : Hid (∀ w, Calls Tryd.prog 53 #[.int .i64 S1] w fun e w' => e = .returned (.bool false) ∧ w = w') := Lib.hid (fun w => by rw [← hsf]; exact refIs_any S1 w)
                  have hib := HPC.out.insBad K S1 (Or.inl hsf) (72 * (H + 2))
                  rw [hsf, if_neg (by decide)] at hib
                  have HIB := Lib.hid hib
                  clear hib hsf hsy
                  go_wp2_with fail
                  refine HIB.out.mono ?_
                  rintro e w7 ⟨rfl, hp7⟩
                  have HP7 := Lib.hid hp7
                  clear hp7 t0 t1 t2 HPC HIB
                  go_wp2_with fail
                  refine (HIS.out _).mono ?_
                  rintro e w' ⟨rfl, rfl⟩
                  go_wp2_with fail
                  go_meet
                  case rel => exact ⟨-1, 1, a, c, m, _, rfl, rfl, rfl, rfl, rfl, HP7.out.dropZ, by omega⟩
            · subst h7
              rw [show (((1 : Nat) : Int)) = 1 from rfl] at hmm
              as_aux_lemma =>
                by_cases hsy : 0 ≤ S1 ∧ S1 < 257
                · obtain ⟨s, rfl⟩ := Int.eq_ofNat_of_zero_le hsy.1
                  have hs257 : s < 257 := by omega
                  have HIS : Hid (∀ w, Calls Tryd.prog 53 #[.int .i64 s] w fun e w' => e = .returned (.bool true) ∧ w = w') := Lib.hid (fun w => by rw [← symIs_true hsy.1 hsy.2]; exact refIs_any s w)
                  have hst : symIs (s : Int) = true := symIs_true hsy.1 hsy.2
                  clear hsy
                  by_cases hin : 0 ≤ K ∧ K ≤ m.length
                  · obtain ⟨n, rfl⟩ := Int.eq_ofNat_of_zero_le hin.1
                    have hnm : n ≤ m.length := by omega
                    have dk : decide ((m.length : Int) < (n : Int)) = false := decide_eq_false (by omega)
                    have dk2 : decide (m.length < n) = false := decide_eq_false (by omega)
                    have dk3 : decide ((n : Int) < 0) = false := decide_eq_false (by omega)
                    clear hin hst
                    go_wp2_with fail
                    refine (HPC.out.ins n s hnm (by omega) hs257 HH.out).mono ?_
                    rintro e w7 ⟨rfl, O7, hp7⟩
                    have HP7 := Lib.hid hp7
                    obtain ⟨s0, s1, s2⟩ := box3 (hp7.z _ _ hZ.out)
                    have HIN := Lib.hid (wRefInN a c m n s w7 (readsV_own hp7.own) hnm (town_cap hp7.own).1 (town_cap hp7.own).2 (by omega) (own_nil hp7.own))
                    clear hp7 t0 t1 t2 HPC
                    go_wp2_with fail
                    refine (HIS.out _).mono ?_
                    rintro e w' ⟨rfl, rfl⟩
                    go_wp2_with fail
                    refine HIN.out.mono ?_
                    rintro e w8 ⟨v8, rfl, hown8, hb8⟩
                    obtain ⟨a8, c8, rfl, _, _⟩ := own_slice hown8
                    have HP8 := Lib.hid (HP7.out.row hown8 hb8)
                    have HLN : Hid ((inL m n s).length ≤ 201 + i) := by show _ ≤ _; rw [inL_len hnm]; omega
                    clear hown8 hb8 HIN HP7 s0 s1 s2
                    go_wp2_with fail
                    go_meet
                    case rel => exact ⟨-1, 0, a8, c8, inL m n s, _, rfl, rfl, rfl, rfl, rfl, HP8.out.dropZ, HLN.out⟩
                  · have HBAD : Hid (K < 0 ∨ (m.length : Int) < K) := (by omega : K < 0 ∨ (m.length : Int) < K)
                    have hib := HPC.out.insBad K s (Or.inr HBAD.out) (72 * (H + 2))
                    rw [hst, if_pos rfl] at hib
                    have HIB := Lib.hid hib
                    clear hib hst hin
                    go_wp2_with fail
                    refine HIB.out.mono ?_
                    rintro e w7 ⟨rfl, hp7⟩
                    have HP7 := Lib.hid hp7
                    clear hp7 t0 t1 t2 HPC HIB
                    by_cases hneg : K < 0
                    · have dk : decide (K < 0) = true := decide_eq_true hneg
                      go_wp2_with fail
                      refine (HIS.out _).mono ?_
                      rintro e w' ⟨rfl, rfl⟩
                      go_wp2_with fail
                      go_meet
                      case rel => exact ⟨-1, 2, a, c, m, _, rfl, rfl, rfl, rfl, rfl, HP7.out.dropZ, by omega⟩
                    · have dk : decide (K < 0) = false := decide_eq_false hneg
                      have dk2 : decide ((m.length : Int) < K) = true := decide_eq_true (by have := HBAD.out; omega)
                      go_wp2_with fail
                      refine (HIS.out _).mono ?_
                      rintro e w' ⟨rfl, rfl⟩
                      go_wp2_with fail
                      go_meet
                      case rel => exact ⟨-1, 2, a, c, m, _, rfl, rfl, rfl, rfl, rfl, HP7.out.dropZ, by omega⟩
                · have hsf : symIs S1 = false := symIs_false (by omega)
                  have HIS : Hid (∀ w, Calls Tryd.prog 53 #[.int .i64 S1] w fun e w' => e = .returned (.bool false) ∧ w = w') := Lib.hid (fun w => by rw [← hsf]; exact refIs_any S1 w)
                  have hib := HPC.out.insBad K S1 (Or.inl hsf) (72 * (H + 2))
                  rw [hsf, if_neg (by decide)] at hib
                  have HIB := Lib.hid hib
                  clear hib hsf hsy
                  go_wp2_with fail
                  refine HIB.out.mono ?_
                  rintro e w7 ⟨rfl, hp7⟩
                  have HP7 := Lib.hid hp7
                  clear hp7 t0 t1 t2 HPC HIB
                  go_wp2_with fail
                  refine (HIS.out _).mono ?_
                  rintro e w' ⟨rfl, rfl⟩
                  go_wp2_with fail
                  go_meet
                  case rel => exact ⟨-1, 1, a, c, m, _, rfl, rfl, rfl, rfl, rfl, HP7.out.dropZ, by omega⟩
            · subst h7
              rw [show (((2 : Nat) : Int)) = 2 from rfl] at hmm
              as_aux_lemma =>
                by_cases hsy : 0 ≤ S1 ∧ S1 < 257
                · obtain ⟨s, rfl⟩ := Int.eq_ofNat_of_zero_le hsy.1
                  have hs257 : s < 257 := by omega
                  have HIS : Hid (∀ w, Calls Tryd.prog 53 #[.int .i64 s] w fun e w' => e = .returned (.bool true) ∧ w = w') := Lib.hid (fun w => by rw [← symIs_true hsy.1 hsy.2]; exact refIs_any s w)
                  have hst : symIs (s : Int) = true := symIs_true hsy.1 hsy.2
                  clear hsy
                  by_cases hin : 0 ≤ K ∧ K ≤ m.length
                  · obtain ⟨n, rfl⟩ := Int.eq_ofNat_of_zero_le hin.1
                    have hnm : n ≤ m.length := by omega
                    have dk : decide ((m.length : Int) < (n : Int)) = false := decide_eq_false (by omega)
                    have dk2 : decide (m.length < n) = false := decide_eq_false (by omega)
                    have dk3 : decide ((n : Int) < 0) = false := decide_eq_false (by omega)
                    clear hin hst
                    go_wp2_with fail
                    refine (HPC.out.ins n s hnm (by omega) hs257 HH.out).mono ?_
                    rintro e w7 ⟨rfl, O7, hp7⟩
                    have HP7 := Lib.hid hp7
                    obtain ⟨s0, s1, s2⟩ := box3 (hp7.z _ _ hZ.out)
                    have HIN := Lib.hid (wRefInN a c m n s w7 (readsV_own hp7.own) hnm (town_cap hp7.own).1 (town_cap hp7.own).2 (by omega) (own_nil hp7.own))
                    clear hp7 t0 t1 t2 HPC
                    go_wp2_with fail
                    refine (HIS.out _).mono ?_
                    rintro e w' ⟨rfl, rfl⟩
                    go_wp2_with fail
                    refine HIN.out.mono ?_
                    rintro e w8 ⟨v8, rfl, hown8, hb8⟩
                    obtain ⟨a8, c8, rfl, _, _⟩ := own_slice hown8
                    have HP8 := Lib.hid (HP7.out.row hown8 hb8)
                    have HLN : Hid ((inL m n s).length ≤ 201 + i) := by show _ ≤ _; rw [inL_len hnm]; omega
                    clear hown8 hb8 HIN HP7 s0 s1 s2
                    go_wp2_with fail
                    go_meet
                    case rel => exact ⟨-1, 0, a8, c8, inL m n s, _, rfl, rfl, rfl, rfl, rfl, HP8.out.dropZ, HLN.out⟩
                  · have HBAD : Hid (K < 0 ∨ (m.length : Int) < K) := (by omega : K < 0 ∨ (m.length : Int) < K)
                    have hib := HPC.out.insBad K s (Or.inr HBAD.out) (72 * (H + 2))
                    rw [hst, if_pos rfl] at hib
                    have HIB := Lib.hid hib
                    clear hib hst hin
                    go_wp2_with fail
                    refine HIB.out.mono ?_
                    rintro e w7 ⟨rfl, hp7⟩
                    have HP7 := Lib.hid hp7
                    clear hp7 t0 t1 t2 HPC HIB
                    by_cases hneg : K < 0
                    · have dk : decide (K < 0) = true := decide_eq_true hneg
                      go_wp2_with fail
                      refine (HIS.out _).mono ?_
                      rintro e w' ⟨rfl, rfl⟩
                      go_wp2_with fail
                      go_meet
                      case rel => exact ⟨-1, 2, a, c, m, _, rfl, rfl, rfl, rfl, rfl, HP7.out.dropZ, by omega⟩
                    · have dk : decide (K < 0) = false := decide_eq_false hneg
                      have dk2 : decide ((m.length : Int) < K) = true := decide_eq_true (by have := HBAD.out; omega)
                      go_wp2_with fail
                      refine (HIS.out _).mono ?_
                      rintro e w' ⟨rfl, rfl⟩
                      go_wp2_with fail
                      go_meet
                      case rel => exact ⟨-1, 2, a, c, m, _, rfl, rfl, rfl, rfl, rfl, HP7.out.dropZ, by omega⟩
                · have hsf : symIs S1 = false := symIs_false (by omega)
                  have HIS : Hid (∀ w, Calls Tryd.prog 53 #[.int .i64 S1] w fun e w' => e = .returned (.bool false) ∧ w = w') := Lib.hid (fun w => by rw [← hsf]; exact refIs_any S1 w)
                  have hib := HPC.out.insBad K S1 (Or.inl hsf) (72 * (H + 2))
                  rw [hsf, if_neg (by decide)] at hib
                  have HIB := Lib.hid hib
                  clear hib hsf hsy
                  go_wp2_with fail
                  refine HIB.out.mono ?_
                  rintro e w7 ⟨rfl, hp7⟩
                  have HP7 := Lib.hid hp7
                  clear hp7 t0 t1 t2 HPC HIB
                  go_wp2_with fail
                  refine (HIS.out _).mono ?_
                  rintro e w' ⟨rfl, rfl⟩
                  go_wp2_with fail
                  go_meet
                  case rel => exact ⟨-1, 1, a, c, m, _, rfl, rfl, rfl, rfl, rfl, HP7.out.dropZ, by omega⟩
            · subst h7
              rw [show (((3 : Nat) : Int)) = 3 from rfl] at hmm
              as_aux_lemma =>
                by_cases hsy : 0 ≤ S1 ∧ S1 < 257
                · obtain ⟨s, rfl⟩ := Int.eq_ofNat_of_zero_le hsy.1
                  have hs257 : s < 257 := by omega
                  have HIS : Hid (∀ w, Calls Tryd.prog 53 #[.int .i64 s] w fun e w' => e = .returned (.bool true) ∧ w = w') := Lib.hid (fun w => by rw [← symIs_true hsy.1 hsy.2]; exact refIs_any s w)
                  have hst : symIs (s : Int) = true := symIs_true hsy.1 hsy.2
                  clear hsy
                  by_cases hin : 0 ≤ K ∧ K ≤ m.length
                  · obtain ⟨n, rfl⟩ := Int.eq_ofNat_of_zero_le hin.1
                    have hnm : n ≤ m.length := by omega
                    have dk : decide ((m.length : Int) < (n : Int)) = false := decide_eq_false (by omega)
                    have dk2 : decide (m.length < n) = false := decide_eq_false (by omega)
                    have dk3 : decide ((n : Int) < 0) = false := decide_eq_false (by omega)
                    clear hin hst
                    go_wp2_with fail
                    refine (HPC.out.ins n s hnm (by omega) hs257 HH.out).mono ?_
                    rintro e w7 ⟨rfl, O7, hp7⟩
                    have HP7 := Lib.hid hp7
                    obtain ⟨s0, s1, s2⟩ := box3 (hp7.z _ _ hZ.out)
                    have HIN := Lib.hid (wRefInN a c m n s w7 (readsV_own hp7.own) hnm (town_cap hp7.own).1 (town_cap hp7.own).2 (by omega) (own_nil hp7.own))
                    clear hp7 t0 t1 t2 HPC
                    go_wp2_with fail
                    refine (HIS.out _).mono ?_
                    rintro e w' ⟨rfl, rfl⟩
                    go_wp2_with fail
                    refine HIN.out.mono ?_
                    rintro e w8 ⟨v8, rfl, hown8, hb8⟩
                    obtain ⟨a8, c8, rfl, _, _⟩ := own_slice hown8
                    have HP8 := Lib.hid (HP7.out.row hown8 hb8)
                    have HLN : Hid ((inL m n s).length ≤ 201 + i) := by show _ ≤ _; rw [inL_len hnm]; omega
                    clear hown8 hb8 HIN HP7 s0 s1 s2
                    go_wp2_with fail
                    go_meet
                    case rel => exact ⟨-1, 0, a8, c8, inL m n s, _, rfl, rfl, rfl, rfl, rfl, HP8.out.dropZ, HLN.out⟩
                  · have HBAD : Hid (K < 0 ∨ (m.length : Int) < K) := (by omega : K < 0 ∨ (m.length : Int) < K)
                    have hib := HPC.out.insBad K s (Or.inr HBAD.out) (72 * (H + 2))
                    rw [hst, if_pos rfl] at hib
                    have HIB := Lib.hid hib
                    clear hib hst hin
                    go_wp2_with fail
                    refine HIB.out.mono ?_
                    rintro e w7 ⟨rfl, hp7⟩
                    have HP7 := Lib.hid hp7
                    clear hp7 t0 t1 t2 HPC HIB
                    by_cases hneg : K < 0
                    · have dk : decide (K < 0) = true := decide_eq_true hneg
                      go_wp2_with fail
                      refine (HIS.out _).mono ?_
                      rintro e w' ⟨rfl, rfl⟩
                      go_wp2_with fail
                      go_meet
                      case rel => exact ⟨-1, 2, a, c, m, _, rfl, rfl, rfl, rfl, rfl, HP7.out.dropZ, by omega⟩
                    · have dk : decide (K < 0) = false := decide_eq_false hneg
                      have dk2 : decide ((m.length : Int) < K) = true := decide_eq_true (by have := HBAD.out; omega)
                      go_wp2_with fail
                      refine (HIS.out _).mono ?_
                      rintro e w' ⟨rfl, rfl⟩
                      go_wp2_with fail
                      go_meet
                      case rel => exact ⟨-1, 2, a, c, m, _, rfl, rfl, rfl, rfl, rfl, HP7.out.dropZ, by omega⟩
                · have hsf : symIs S1 = false := symIs_false (by omega)
                  have HIS : Hid (∀ w, Calls Tryd.prog 53 #[.int .i64 S1] w fun e w' => e = .returned (.bool false) ∧ w = w') := Lib.hid (fun w => by rw [← hsf]; exact refIs_any S1 w)
                  have hib := HPC.out.insBad K S1 (Or.inl hsf) (72 * (H + 2))
                  rw [hsf, if_neg (by decide)] at hib
                  have HIB := Lib.hid hib
                  clear hib hsf hsy
                  go_wp2_with fail
                  refine HIB.out.mono ?_
                  rintro e w7 ⟨rfl, hp7⟩
                  have HP7 := Lib.hid hp7
                  clear hp7 t0 t1 t2 HPC HIB
                  go_wp2_with fail
                  refine (HIS.out _).mono ?_
                  rintro e w' ⟨rfl, rfl⟩
                  go_wp2_with fail
                  go_meet
                  case rel => exact ⟨-1, 1, a, c, m, _, rfl, rfl, rfl, rfl, rfl, HP7.out.dropZ, by omega⟩
            · subst h7
              rw [show (((4 : Nat) : Int)) = 4 from rfl] at hmm
              as_aux_lemma =>
                by_cases hsy : 0 ≤ S1 ∧ S1 < 257
                · obtain ⟨s, rfl⟩ := Int.eq_ofNat_of_zero_le hsy.1
                  have hs257 : s < 257 := by omega
                  have HIS : Hid (∀ w, Calls Tryd.prog 53 #[.int .i64 s] w fun e w' => e = .returned (.bool true) ∧ w = w') := Lib.hid (fun w => by rw [← symIs_true hsy.1 hsy.2]; exact refIs_any s w)
                  have hst : symIs (s : Int) = true := symIs_true hsy.1 hsy.2
                  clear hsy
                  by_cases hin : 0 ≤ K ∧ K ≤ m.length
                  · obtain ⟨n, rfl⟩ := Int.eq_ofNat_of_zero_le hin.1
                    have hnm : n ≤ m.length := by omega
                    have dk : decide ((m.length : Int) < (n : Int)) = false := decide_eq_false (by omega)
                    have dk2 : decide (m.length < n) = false := decide_eq_false (by omega)
                    have dk3 : decide ((n : Int) < 0) = false := decide_eq_false (by omega)
                    clear hin hst
                    go_wp2_with fail
                    refine (HPC.out.ins n s hnm (by omega) hs257 HH.out).mono ?_
                    rintro e w7 ⟨rfl, O7, hp7⟩
                    have HP7 := Lib.hid hp7
                    obtain ⟨s0, s1, s2⟩ := box3 (hp7.z _ _ hZ.out)
                    have HIN := Lib.hid (wRefInN a c m n s w7 (readsV_own hp7.own) hnm (town_cap hp7.own).1 (town_cap hp7.own).2 (by omega) (own_nil hp7.own))
                    clear hp7 t0 t1 t2 HPC
                    go_wp2_with fail
                    refine (HIS.out _).mono ?_
                    rintro e w' ⟨rfl, rfl⟩
                    go_wp2_with fail
                    refine HIN.out.mono ?_
                    rintro e w8 ⟨v8, rfl, hown8, hb8⟩
                    obtain ⟨a8, c8, rfl, _, _⟩ := own_slice hown8
                    have HP8 := Lib.hid (HP7.out.row hown8 hb8)
                    have HLN : Hid ((inL m n s).length ≤ 201 + i) := by show _ ≤ _; rw [inL_len hnm]; omega
                    clear hown8 hb8 HIN HP7 s0 s1 s2
                    go_wp2_with fail
                    go_meet
                    case rel => exact ⟨-1, 0, a8, c8, inL m n s, _, rfl, rfl, rfl, rfl, rfl, HP8.out.dropZ, HLN.out⟩
                  · have HBAD : Hid (K < 0 ∨ (m.length : Int) < K) := (by omega : K < 0 ∨ (m.length : Int) < K)
                    have hib := HPC.out.insBad K s (Or.inr HBAD.out) (72 * (H + 2))
                    rw [hst, if_pos rfl] at hib
                    have HIB := Lib.hid hib
                    clear hib hst hin
                    go_wp2_with fail
                    refine HIB.out.mono ?_
                    rintro e w7 ⟨rfl, hp7⟩
                    have HP7 := Lib.hid hp7
                    clear hp7 t0 t1 t2 HPC HIB
                    by_cases hneg : K < 0
                    · have dk : decide (K < 0) = true := decide_eq_true hneg
                      go_wp2_with fail
                      refine (HIS.out _).mono ?_
                      rintro e w' ⟨rfl, rfl⟩
                      go_wp2_with fail
                      go_meet
                      case rel => exact ⟨-1, 2, a, c, m, _, rfl, rfl, rfl, rfl, rfl, HP7.out.dropZ, by omega⟩
                    · have dk : decide (K < 0) = false := decide_eq_false hneg
                      have dk2 : decide ((m.length : Int) < K) = true := decide_eq_true (by have := HBAD.out; omega)
                      go_wp2_with fail
                      refine (HIS.out _).mono ?_
                      rintro e w' ⟨rfl, rfl⟩
                      go_wp2_with fail
                      go_meet
                      case rel => exact ⟨-1, 2, a, c, m, _, rfl, rfl, rfl, rfl, rfl, HP7.out.dropZ, by omega⟩
                · have hsf : symIs S1 = false := symIs_false (by omega)
                  have HIS : Hid (∀ w, Calls Tryd.prog 53 #[.int .i64 S1] w fun e w' => e = .returned (.bool false) ∧ w = w') := Lib.hid (fun w => by rw [← hsf]; exact refIs_any S1 w)
                  have hib := HPC.out.insBad K S1 (Or.inl hsf) (72 * (H + 2))
                  rw [hsf, if_neg (by decide)] at hib
                  have HIB := Lib.hid hib
                  clear hib hsf hsy
                  go_wp2_with fail
                  refine HIB.out.mono ?_
                  rintro e w7 ⟨rfl, hp7⟩
                  have HP7 := Lib.hid hp7
                  clear hp7 t0 t1 t2 HPC HIB
                  go_wp2_with fail
                  refine (HIS.out _).mono ?_
                  rintro e w' ⟨rfl, rfl⟩
                  go_wp2_with fail
                  go_meet
                  case rel => exact ⟨-1, 1, a, c, m, _, rfl, rfl, rfl, rfl, rfl, HP7.out.dropZ, by omega⟩
            · subst h7
              rw [show (((5 : Nat) : Int)) = 5 from rfl] at hmm
              as_aux_lemma =>
                by_cases hin : 0 ≤ K ∧ K < m.length
                · obtain ⟨n, rfl⟩ := Int.eq_ofNat_of_zero_le hin.1
                  have hnm : n < m.length := by omega
                  obtain ⟨s, hs⟩ : ∃ s, m[n]? = some s := ⟨_, List.getElem?_eq_getElem hnm⟩
                  have HS := Lib.hid hs
                  have dk : decide ((m.length : Int) ≤ (n : Int)) = false := decide_eq_false (by omega)
                  have dk2 : decide (m.length ≤ n) = false := decide_eq_false (by omega)
                  have dk3 : decide ((n : Int) < 0) = false := decide_eq_false (by omega)
                  have i2 : (0 : Int) ≤ (n : Int) := by omega
                  have i3 : (n : Int) < (m.length : Int) := by omega
                  clear hin hs
                  go_wp2_with fail
                  refine (HPC.out.del n s HS.out (by omega) HH.out).mono ?_
                  rintro e w7 ⟨rfl, O7, hp7⟩
                  have HP7 := Lib.hid hp7
                  obtain ⟨b7, off7, rfl, _, hc7⟩ := (readsV_own hp7.own).some (by rw [List.length_map]; omega)
                  have hc8 : w7.cell? ⟨b7, off7 + n, none⟩ = some (.int .i64 s) := hc7 n _ (by rw [List.getElem?_map, HS.out]; rfl)
                  have HOU := Lib.hid (wRefOutN _ c m n w7 (readsV_own hp7.own) hnm (town_cap hp7.own).1 (town_cap hp7.own).2 (by omega) (own_nil hp7.own))
                  clear hp7 t0 t1 t2 HPC hc7
                  go_wp2_with fail
                  refine HOU.out.mono ?_
                  rintro e w8 ⟨v8, rfl, hown8, hb8⟩
                  obtain ⟨a8, c8, rfl, _, _⟩ := own_slice hown8
                  have HP8 := Lib.hid (HP7.out.row hown8 hb8)
                  have HLN : Hid ((outL m n).length ≤ 201 + i) := by show _ ≤ _; rw [outL_len hnm]; omega
                  clear hown8 hb8 HOU HP7 hc8
                  go_wp2_with fail
                  go_meet
                  case rel => exact ⟨s, 0, a8, c8, outL m n, _, rfl, rfl, rfl, rfl, rfl, HP8.out.dropZ, HLN.out⟩
                · have HBAD : Hid (K < 0 ∨ (m.length : Int) ≤ K) := (by omega : K < 0 ∨ (m.length : Int) ≤ K)
                  go_wp2_with fail
                  refine (HPC.out.delBad K HBAD.out (72 * (H + 2))).mono ?_
                  rintro e w7 ⟨rfl, hp7⟩
                  have HP7 := Lib.hid hp7
                  clear hp7 t0 t1 t2 HPC hin
                  by_cases hneg : K < 0
                  · have dk : decide (K < 0) = true := decide_eq_true hneg
                    go_wp2_with fail
                    go_meet
                    case rel => exact ⟨-1, 2, a, c, m, _, rfl, rfl, rfl, rfl, rfl, HP7.out.dropZ, by omega⟩
                  · have dk : decide (K < 0) = false := decide_eq_false hneg
                    have dk2 : decide ((m.length : Int) ≤ K) = true := decide_eq_true (by have := HBAD.out; omega)
                    go_wp2_with fail
                    go_meet
                    case rel => exact ⟨-1, 2, a, c, m, _, rfl, rfl, rfl, rfl, rfl, HP7.out.dropZ, by omega⟩
            · subst h7
              rw [show (((6 : Nat) : Int)) = 6 from rfl] at hmm
              as_aux_lemma =>
                by_cases hin : 0 ≤ K ∧ K < m.length
                · obtain ⟨n, rfl⟩ := Int.eq_ofNat_of_zero_le hin.1
                  have hnm : n < m.length := by omega
                  obtain ⟨s, hs⟩ : ∃ s, m[n]? = some s := ⟨_, List.getElem?_eq_getElem hnm⟩
                  have HS := Lib.hid hs
                  have dk : decide ((m.length : Int) ≤ (n : Int)) = false := decide_eq_false (by omega)
                  have dk2 : decide (m.length ≤ n) = false := decide_eq_false (by omega)
                  have dk3 : decide ((n : Int) < 0) = false := decide_eq_false (by omega)
                  have i2 : (0 : Int) ≤ (n : Int) := by omega
                  have i3 : (n : Int) < (m.length : Int) := by omega
                  clear hin hs
                  go_wp2_with fail
                  refine (HPC.out.del n s HS.out (by omega) HH.out).mono ?_
                  rintro e w7 ⟨rfl, O7, hp7⟩
                  have HP7 := Lib.hid hp7
                  obtain ⟨b7, off7, rfl, _, hc7⟩ := (readsV_own hp7.own).some (by rw [List.length_map]; omega)
                  have hc8 : w7.cell? ⟨b7, off7 + n, none⟩ = some (.int .i64 s) := hc7 n _ (by rw [List.getElem?_map, HS.out]; rfl)
                  have HOU := Lib.hid (wRefOutN _ c m n w7 (readsV_own hp7.own) hnm (town_cap hp7.own).1 (town_cap hp7.own).2 (by omega) (own_nil hp7.own))
                  clear hp7 t0 t1 t2 HPC hc7
                  go_wp2_with fail
                  refine HOU.out.mono ?_
                  rintro e w8 ⟨v8, rfl, hown8, hb8⟩
                  obtain ⟨a8, c8, rfl, _, _⟩ := own_slice hown8
                  have HP8 := Lib.hid (HP7.out.row hown8 hb8)
                  have HLN : Hid ((outL m n).length ≤ 201 + i) := by show _ ≤ _; rw [outL_len hnm]; omega
                  clear hown8 hb8 HOU HP7 hc8
                  go_wp2_with fail
                  go_meet
                  case rel => exact ⟨s, 0, a8, c8, outL m n, _, rfl, rfl, rfl, rfl, rfl, HP8.out.dropZ, HLN.out⟩
                · have HBAD : Hid (K < 0 ∨ (m.length : Int) ≤ K) := (by omega : K < 0 ∨ (m.length : Int) ≤ K)
                  go_wp2_with fail
                  refine (HPC.out.delBad K HBAD.out (72 * (H + 2))).mono ?_
                  rintro e w7 ⟨rfl, hp7⟩
                  have HP7 := Lib.hid hp7
                  clear hp7 t0 t1 t2 HPC hin
                  by_cases hneg : K < 0
                  · have dk : decide (K < 0) = true := decide_eq_true hneg
                    go_wp2_with fail
                    go_meet
                    case rel => exact ⟨-1, 2, a, c, m, _, rfl, rfl, rfl, rfl, rfl, HP7.out.dropZ, by omega⟩
                  · have dk : decide (K < 0) = false := decide_eq_false hneg
                    have dk2 : decide ((m.length : Int) ≤ K) = true := decide_eq_true (by have := HBAD.out; omega)
                    go_wp2_with fail
                    go_meet
                    case rel => exact ⟨-1, 2, a, c, m, _, rfl, rfl, rfl, rfl, rfl, HP7.out.dropZ, by omega⟩
            · subst h7
              rw [show (((7 : Nat) : Int)) = 7 from rfl] at hmm
              as_aux_lemma =>
                by_cases hin : 0 ≤ K ∧ K < m.length
                · obtain ⟨n, rfl⟩ := Int.eq_ofNat_of_zero_le hin.1
                  have hnm : n < m.length := by omega
                  obtain ⟨s, hs⟩ : ∃ s, m[n]? = some s := ⟨_, List.getElem?_eq_getElem hnm⟩
                  have HS := Lib.hid hs
                  have dk : decide ((m.length : Int) ≤ (n : Int)) = false := decide_eq_false (by omega)
                  have dk2 : decide (m.length ≤ n) = false := decide_eq_false (by omega)
                  have dk3 : decide ((n : Int) < 0) = false := decide_eq_false (by omega)
                  have i2 : (0 : Int) ≤ (n : Int) := by omega
                  have i3 : (n : Int) < (m.length : Int) := by omega
                  clear hin hs
                  go_wp2_with fail
                  refine (HPC.out.get n s HS.out (by omega) HH.out).mono ?_
                  rintro e w7 ⟨rfl, hp7⟩
                  have HP7 := Lib.hid hp7
                  obtain ⟨b7, off7, rfl, _, hc7⟩ := (readsV_own hp7.own).some (by rw [List.length_map]; omega)
                  have hc8 : w7.cell? ⟨b7, off7 + n, none⟩ = some (.int .i64 s) := hc7 n _ (by rw [List.getElem?_map, HS.out]; rfl)
                  clear hp7 t0 t1 t2 HPC hc7
                  go_wp2_with fail
                  go_meet
                  case rel => exact ⟨s, 0, _, c, m, _, rfl, rfl, rfl, rfl, rfl, HP7.out.dropZ, by omega⟩
                · have HBAD : Hid (K < 0 ∨ (m.length : Int) ≤ K) := (by omega : K < 0 ∨ (m.length : Int) ≤ K)
                  go_wp2_with fail
                  refine (HPC.out.getBad K HBAD.out (72 * (H + 2))).mono ?_
                  rintro e w7 ⟨rfl, hp7⟩
                  have HP7 := Lib.hid hp7
                  clear hp7 t0 t1 t2 HPC hin
                  by_cases hneg : K < 0
                  · have dk : decide (K < 0) = true := decide_eq_true hneg
                    go_wp2_with fail
                    go_meet
                    case rel => exact ⟨-1, 2, a, c, m, _, rfl, rfl, rfl, rfl, rfl, HP7.out.dropZ, by omega⟩
                  · have dk : decide (K < 0) = false := decide_eq_false hneg
                    have dk2 : decide ((m.length : Int) ≤ K) = true := decide_eq_true (by have := HBAD.out; omega)
                    go_wp2_with fail
                    go_meet
                    case rel => exact ⟨-1, 2, a, c, m, _, rfl, rfl, rfl, rfl, rfl, HP7.out.dropZ, by omega⟩
          case rest => as_aux_lemma =>
            obtain ⟨q5, code, a5, c5, m5, O5, rfl, rfl, rfl, rfl, rfl, hp5, hm5⟩ := hcut
            have HP5 := Lib.hid hp5
            clear hp5 HPC t0 t1 t2 hmm hm8 hm
            have hqq : (q5 != q5) = false := by simp
            have hcn : (code != code) = false := by simp
            obtain ⟨sl, hsl⟩ := selI_ex m5 K S1
            have HSL := Lib.hid hsl
            have HIS := Lib.hid (refIs_any S1)
            have HRN := Lib.hid (fun (w : World) (hr : ReadsV w a5 (m5.map wsV)) => ref6RankN_any a5 c5 m5 K S1 w hr (by omega))
            have HRK := Lib.hid (show rkW m5 K S1 = if symIs S1 then rkI m5 K.toNat S1 else 0 from rfl)
            have hsn : (sl != sl) = false := by simp
            clear hsl
            obtain hsy | hsy : symIs S1 = true ∨ symIs S1 = false := by cases symIs S1 <;> simp
            all_goals
              rw [hsy] at HIS HRK
              clear hsy
            · rw [if_pos rfl] at HRK
              rw [← HRK.out] at HRN
              obtain ⟨rr, hrr⟩ : ∃ rr, rkW m5 K S1 = rr := ⟨_, rfl⟩
              rw [hrr] at HRN
              have HRR := Lib.hid hrr
              clear hrr HRK
              go_wp2_with fail
              refine (HIS.out _).mono ?_
              rintro e w' ⟨rfl, rfl⟩
              go_wp2_with fail
              refine (HRN.out _ (readsV_own HP5.out.own)).mono ?_
              rintro e w' ⟨rfl, rfl⟩
              as_aux_lemma =>
                go_wp2_with fail
                refine (HP5.out.fine hHm).mono ?_
                rintro e w8 ⟨rfl, hp8⟩
                have HP8 := Lib.hid hp8
                have hra := HP8.out.rank (by omega) K S1
                rw [HRR.out] at hra
                have HRA := Lib.hid hra
                clear hp8 HP5 hra
                go_wp2_with fail
                refine HRA.out.mono ?_
                rintro e w9 ⟨rfl, hp9⟩
                have HP9 := Lib.hid hp9
                clear hp9 HP8 HRA
                go_wp2_with fail
                refine (HP9.out.select (HT.out.below' HP9.out.bl) HTL.out (by omega) K S1 sl HSL.out).mono ?_
                rintro e w10 ⟨rfl, hp10⟩
                have HP10 := Lib.hid hp10
                clear hp10 HP9
                go_wp2_with fail
                refine (ref6SelectN_any a5 c5 m5 K S1 w10 (readsV_own HP10.out.own) (by omega)).mono ?_
                rintro e w' ⟨⟨q2, rfl, hq2⟩, rfl⟩
                obtain rfl := selI_one HSL.out hq2
                clear hq2
                go_wp2_with fail
                refine (HP10.out.len).mono ?_
                rintro e w' ⟨rfl, rfl⟩
                go_wp2_with fail
                go_roundw
                case rel => exact ⟨i + 1, a5, c5, m5, O5, rfl, by go_num, HP10.out, by omega, by omega⟩
                case measure => simp [intOf]; omega
            · rw [if_neg (by decide)] at HRK
              have HRR := HRK
              clear HRK
              obtain ⟨rr, hrr⟩ : ∃ rr : Nat, rr = 0 := ⟨_, rfl⟩
              have hr0 : Hid (rr = 0) := Lib.hid hrr
              go_wp2_with fail
              refine (HIS.out _).mono ?_
              rintro e w' ⟨rfl, rfl⟩
              rw [← hrr] at HRR
              clear hrr
              as_aux_lemma =>
                go_wp2_with fail
                refine (HP5.out.fine hHm).mono ?_
                rintro e w8 ⟨rfl, hp8⟩
                have HP8 := Lib.hid hp8
                have hra := HP8.out.rank (by omega) K S1
                rw [HRR.out] at hra
                have HRA := Lib.hid hra
                clear hp8 HP5 hra
                go_wp2_with fail
                refine HRA.out.mono ?_
                rintro e w9 ⟨rfl, hp9⟩
                have HP9 := Lib.hid hp9
                clear hp9 HP8 HRA
                go_wp2_with fail
                refine (HP9.out.select (HT.out.below' HP9.out.bl) HTL.out (by omega) K S1 sl HSL.out).mono ?_
                rintro e w10 ⟨rfl, hp10⟩
                have HP10 := Lib.hid hp10
                clear hp10 HP9
                go_wp2_with fail
                refine (ref6SelectN_any a5 c5 m5 K S1 w10 (readsV_own HP10.out.own) (by omega)).mono ?_
                rintro e w' ⟨⟨q2, rfl, hq2⟩, rfl⟩
                obtain rfl := selI_one HSL.out hq2
                clear hq2
                go_wp2_with fail
                refine (HP10.out.len).mono ?_
                rintro e w' ⟨rfl, rfl⟩
                go_wp2_with fail
                go_roundw
                case rel => exact ⟨i + 1, a5, c5, m5, O5, rfl, by go_num, HP10.out, by omega, by omega⟩
                case measure => simp [intOf]; omega
      · have hz0 : decide ((i : Int) < (z2.length : Int)) = false := decide_eq_false (by omega)
        have HML := Lib.hid hm
        clear hm
        go_wp2_with fail
        refine (told7_any _ (HT.out.below' HP.out.bl)).mono ?_
        rintro e w6 ⟨rfl, hb6⟩
        have HP6 := Lib.hid (HP.out.below hb6)
        clear hb6 HP
        go_wp2_with fail
        refine (HP6.out.all (by have := HML.out; omega)).mono ?_
        rintro e w7 ⟨g7, rfl, hr7, hp7⟩
        have HP7 := Lib.hid hp7
        have HSM := Lib.hid (refSameN_any (some ⟨g7, 0, none⟩) a m.length c m m w7 hr7 (readsV_own HP7.out.own) (by have := HML.out; omega))
        rw [show decide (m = m) = true by simp] at HSM
        clear hr7 hp7 HP6
        go_wp2_with fail
        refine HSM.out.mono ?_
        rintro e w' ⟨rfl, n8, rfl⟩
        go_wp2_with fail
        go_ret
        exact ⟨rfl, below_drewW HP7.out.bl n8⟩

end Go.Proofs.YtcppgpjodfeigaaDoor
