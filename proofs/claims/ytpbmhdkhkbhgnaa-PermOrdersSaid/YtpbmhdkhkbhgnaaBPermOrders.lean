/- The walk of PermOrders. -/
import Derived.Test.YtpbmhdkhkbhgnaaZp5
import Derived.Test.YtpbmhdkhkbhgnaaZp1
namespace Go.Proofs.Ytpbmhdkhkbhgnaa
set_option linter.unusedVariables false
set_option linter.unusedSimpArgs false
open Go.RowKit

theorem below_dr (w : World) : Below w.heap.size w w.drew := ⟨rfl, rfl, rfl, Nat.le_refl _, fun _ _ => rfl⟩
theorem zero40 (w : World) : (zeroValue 50).run Try.prog w = .ok (.agg (vecL (fun _ => .bool false) 40).toArray) w := by kernel_rfl

/-- These pairs are the list's. -/
structure IsL (ms : List (Int × Int)) (L : List Int) : Prop where
  len : L.length = 40
  iff : ∀ r p : Int, 0 ≤ p → (gL L r = p ↔ (r, p) ∈ ms)
theorem isL_nil : IsL [] (List.replicate 40 (-1)) := ⟨by simp, fun r p h => by rw [gL_rep]; simp; omega⟩
theorem IsL.congr {ms ms' : List (Int × Int)} {L : List Int} (h : IsL ms L) (he : ∀ x, x ∈ ms ↔ x ∈ ms') : IsL ms' L := ⟨h.len, fun r p hp => (h.iff r p hp).trans (he _)⟩
theorem IsL.add {ms : List (Int × Int)} {L : List Int} (h : IsL ms L) {a b : Int} (ha : 0 ≤ a ∧ a < 40) (hb : 0 ≤ b ∧ b < 40) (h1 : ∀ y ∈ ms, y.1 ≠ a) (h2 : ∀ y ∈ ms, y.2 ≠ b) : addC L 40 a b = 0 ∧ IsL ((a, b) :: ms) (addL L 40 a b) := by
  have hl := h.len
  have e1 : ¬ 0 ≤ gL L a := fun hc => h1 _ ((h.iff a _ hc).1 rfl) rfl
  have e2 : ¬ 0 ≤ aL L b := fun hc => by
    obtain ⟨r, hr⟩ := (aL_pos hb.1).1 hc
    exact h2 _ ((h.iff r b hb.1).1 hr) rfl
  have e : addC L 40 a b = 0 := by unfold addC; rw [if_pos ⟨ha.1, by omega, hb.1, by omega⟩, if_neg (by omega)]
  refine ⟨e, ?_⟩
  have e3 : addL L 40 a b = L.set a.toNat b := by unfold addL; rw [if_pos e]
  rw [e3]
  refine ⟨by simp [hl], fun r p hp => ?_⟩
  rw [gL_set (by omega), List.mem_cons, ← h.iff r p hp]
  by_cases hr : r = ((a.toNat : Nat) : Int)
  · rw [if_pos hr]
    constructor
    · intro q; left; rw [q, hr]; congr 1; omega
    · rintro (q | q)
      · injection q with _ q; exact q.symm
      · have : r = a := by omega
        rw [this] at q; omega
  · rw [if_neg hr]
    constructor
    · exact Or.inr
    · rintro (q | q)
      · injection q with q _; omega
      · exact q
/-- Pairs of which no two share a row or a place. -/
structure GoodM (ms : List (Int × Int)) : Prop where
  rng : ∀ y ∈ ms, (0 ≤ y.1 ∧ y.1 < 40) ∧ (0 ≤ y.2 ∧ y.2 < 40)
  pw : ms.Pairwise fun a b => a.1 ≠ b.1 ∧ a.2 ≠ b.2
theorem GoodM.nil : GoodM [] := ⟨fun y hy => by simp at hy, List.Pairwise.nil⟩
theorem GoodM.snoc {ms : List (Int × Int)} (h : GoodM ms) {a b : Int} (ha : 0 ≤ a ∧ a < 40) (hb : 0 ≤ b ∧ b < 40) (h1 : ¬ ∃ y ∈ ms, y.1 = a) (h2 : ¬ ∃ y ∈ ms, y.2 = b) : GoodM (ms ++ [(a, b)]) :=
  ⟨fun y hy => by
    rcases List.mem_append.1 hy with q | q
    · exact h.rng y q
    · rw [List.mem_singleton.1 q]; exact ⟨ha, hb⟩,
   List.pairwise_append.2 ⟨h.pw, List.pairwise_singleton _ _, fun x hx y hy => by
    rw [List.mem_singleton.1 hy]
    exact ⟨fun e => h1 ⟨x, hx, e⟩, fun e => h2 ⟨x, hx, e⟩⟩⟩⟩
theorem GoodM.nodup {ms : List (Int × Int)} (h : GoodM ms) : ms.Nodup := h.pw.imp (fun hab e => hab.1 (by rw [e]))
theorem addAll_good : ∀ (post pre : List (Int × Int)) (L : List Int), IsL pre L → GoodM (pre ++ post) → ∃ L', addAll 40 L post = some L' ∧ IsL (pre ++ post) L'
  | [], pre, L, h, _ => ⟨L, rfl, by rw [List.append_nil]; exact h⟩
  | y :: post, pre, L, h, hg => by
    have hr := hg.rng y (by simp)
    have hp := hg.pw
    rw [List.pairwise_append] at hp
    obtain ⟨e, hi⟩ := h.add (a := y.1) (b := y.2) hr.1 hr.2 (fun z hz => (hp.2.2 z hz y (by simp)).1) (fun z hz => (hp.2.2 z hz y (by simp)).2)
    rw [addAll_cons, if_pos e]
    have e2 : pre ++ y :: post = (pre ++ [y]) ++ post := by simp
    rw [e2] at hg ⊢
    exact addAll_good post (pre ++ [y]) _ (hi.congr (fun x => by rw [List.mem_append, List.mem_singleton, List.mem_cons]; exact Or.comm)) hg
theorem IsL.drop {ms : List (Int × Int)} (hg : GoodM ms) {L : List Int} {j : Nat} (hj : j < ms.length) (h : IsL (ms.drop (j + 1)) L) : addC L 40 (rowL ms j) (posL ms j) = 0 ∧ IsL (ms.drop j) (addL L 40 (rowL ms j) (posL ms j)) := by
  have hd : ms.drop j = ms[j] :: ms.drop (j + 1) := List.drop_eq_getElem_cons hj
  have hr := hg.rng _ (List.getElem_mem hj)
  have hp : (ms.drop j).Pairwise fun a b => a.1 ≠ b.1 ∧ a.2 ≠ b.2 := hg.pw.sublist (List.drop_sublist _ _)
  rw [hd, List.pairwise_cons] at hp
  have e1 : rowL ms j = ms[j].1 := by simp [rowL, hj]
  have e2 : posL ms j = ms[j].2 := by simp [posL, hj]
  rw [hd, e1, e2]
  exact h.add hr.1 hr.2 (fun z hz e => (hp.1 z hz).1 e.symm) (fun z hz e => (hp.1 z hz).2 e.symm)
theorem IsL.eq {ms : List (Int × Int)} {L L' : List Int} (h : IsL ms L) (h' : IsL ms L') (hr : ∀ r, -1 ≤ gL L r) (hr' : ∀ r, -1 ≤ gL L' r) : L = L' := by
  refine gL_ext (by rw [h.len, h'.len]) (fun i hi => ?_)
  by_cases q : 0 ≤ gL L i
  · exact ((h'.iff i _ q).2 ((h.iff i _ q).1 rfl)).symm
  · by_cases q' : 0 ≤ gL L' i
    · have := (h.iff i _ q').2 ((h'.iff i _ q').1 rfl)
      omega
    · have := hr i
      have := hr' i
      omega
theorem IsL.plen {ms : List (Int × Int)} {L : List Int} (h : IsL ms L) (hg : GoodM ms) : (prL 0 L).length = ms.length := by
  have hn : (prL 0 L).Nodup := (prL_sorted L 0).imp (fun hab e => by rw [e] at hab; omega)
  refine List.Perm.length_eq ((List.perm_ext_iff_of_nodup hn hg.nodup).2 (fun ⟨r, p⟩ => ?_))
  rw [prL_mem]
  constructor
  · rintro ⟨j, h1, h2, h3⟩
    refine (h.iff r p h3).1 ?_
    rw [h1, Nat.zero_add, gL_nat, h2]; rfl
  · intro hm
    have h0 := (hg.rng _ hm).2.1
    have h1 := (h.iff r p h0).2 hm
    have h0 : 0 ≤ p := h0
    obtain ⟨i, rfl, hi⟩ := gL_in (L := L) (r := r) (by omega)
    rw [gL_nat, List.getElem?_eq_getElem hi] at h1
    exact ⟨i, by omega, by rw [List.getElem?_eq_getElem hi]; exact congrArg _ h1, h0⟩

/-- An own row's block is none that holds another type. -/
theorem own_neT {w : World} {base sz : Nat} {e T : TypeId} {v : Value} {n g : Nat} {xs : List Value} {cs : Array Value} (ho : w.ownsRow base e sz v n xs) (hg : w.heap[g]? = some (.cells cs T (0, 0))) (hne : e ≠ T) : ∀ k, v.ownBlock = some k → k ≠ g := by
  intro k hk he
  rcases ho.2 with ⟨hv, _⟩ | ⟨g', cap, cur, hv, _, hg', _⟩
  · rw [hv] at hk; simp [Value.ownBlock] at hk
  · rw [hv] at hk
    injection hk with hk
    subst hk; subst he
    rw [hg] at hg'
    injection hg' with hg'
    injection hg' with _ h2
    exact hne h2.symm

theorem readsV_own2 {w : World} {B n cap : Nat} {e : TypeId} {a : Option Addr} {xs : List Value} (h : w.ownsRow B e 2 (.slice a n cap) n xs) : ReadsV w a xs := by
  intro i hi
  have hl := h.1
  rcases h.2 with ⟨_, h0⟩ | ⟨g, c, cur, hv, _, hg, h1, h2, hsz, htk⟩
  · omega
  · injection hv with e1 _ _
    subst e1
    refine ⟨g, 0, rfl, (Array.getElem?_eq_some_iff.1 hg).1, fun j u hj => ?_⟩
    have hjl : j < xs.length := (List.getElem?_eq_some_iff.1 hj).1
    rw [Nat.zero_add, cell_of_row w g j _ _ _ hg, ← Array.getElem?_toList]
    rw [← htk, List.getElem?_take, if_pos (by omega)] at hj
    exact hj
/-- The state of the first loop. -/
structure OrdIn (B : Nat) (w : World) (v : Value) (ms : List (Int × Int)) (Q1 Q2 : Nat) : Prop where
  own : w.ownsRow B 52 2 v ms.length (cellsL ms)
  a1 : w.heap[Q1]? = some (.cells (vecL (fun x => .bool (decide (∃ y ∈ ms, y.1 = (x : Int)))) 40).toArray 50 (0, 0))
  a2 : w.heap[Q2]? = some (.cells (vecL (fun x => .bool (decide (∃ y ∈ ms, y.2 = (x : Int)))) 40).toArray 50 (0, 0))
  good : GoodM ms
  ne : Q1 ≠ Q2
  b1 : B ≤ Q1
  b2 : B ≤ Q2
theorem OrdIn.below {B : Nat} {w w' : World} {v : Value} {ms : List (Int × Int)} {Q1 Q2 : Nat} (h : OrdIn B w v ms Q1 Q2) (hb : Below w.heap.size w w') : OrdIn B w' v ms Q1 Q2 :=
  ⟨(Chg.of_below (S := fun _ => False) hb).own h.own (fun _ _ hf => hf), below_heap hb h.a1, below_heap hb h.a2, h.good, h.ne, h.b1, h.b2⟩

set_option maxHeartbeats 12800000 in
set_option maxRecDepth 100000 in
theorem walk_PermOrders (w : World) (a0 : Option Addr) (c0 : Nat) (z0 : List Int) (w0 : ArgI .i64 w a0 c0 z0) :
    Calls Try.prog 11 #[.slice a0 z0.length c0] w fun e w' => e = .returned (.bool true) ∧ Below w.heap.size w w' := by
  have hrd := w0.reads
  have hmx := w0.le
  have hmx2 : c0 ≤ 9223372036854775807 := w0.max
  have HRD := Lib.hid hrd
  clear w0 hrd
  have hz := zero40
  obtain ⟨W, hW⟩ : ∃ W, W = (w.alloc (.cells (vecL (fun _ => .bool false) 40).toArray 50)).alloc (.cells (vecL (fun _ => .bool false) 40).toArray 50) := ⟨_, rfl⟩
  have hq0 : vecL (fun x => Value.bool (decide (∃ y ∈ ([] : List (Int × Int)), y.1 = (x : Int)))) 40 = vecL (fun _ => .bool false) 40 := vecL_congr (fun i _ => by rw [decide_eq_false (fun ⟨y, hy, _⟩ => by simp at hy)])
  have hq0' : vecL (fun x => Value.bool (decide (∃ y ∈ ([] : List (Int × Int)), y.2 = (x : Int)))) 40 = vecL (fun _ => .bool false) 40 := vecL_congr (fun i _ => by rw [decide_eq_false (fun ⟨y, hy, _⟩ => by simp at hy)])
  have hO : Hid (OrdIn w.heap.size W (.slice none 0 0) [] w.heap.size (w.heap.size + 1)) := by
    refine ⟨World.ownsRow_nil _ _ _ _, ?_, ?_, GoodM.nil, by omega, by omega, by omega⟩
    · rw [hq0, hW]
      exact below_heap (below_al (w.alloc (.cells (vecL (fun _ => .bool false) 40).toArray 50)) _) (heap_alloc_new w _)
    · rw [hq0', hW]
      have := heap_alloc_new (w.alloc (.cells (vecL (fun _ => .bool false) 40).toArray 50)) (.cells (vecL (fun _ => .bool false) 40).toArray 50)
      rwa [show (w.alloc (.cells (vecL (fun _ => .bool false) 40).toArray 50)).heap.size = w.heap.size + 1 by simp] at this
  have hB : Hid (Below w.heap.size w W) := by
    show Below _ _ _
    rw [hW]; exact (below_al w _).alloc (by simp) _
  generalize vecL (fun _ => Value.bool false) 40 = V at *
  clear hq0 hq0'
  go_enter Try.func11, Try.ntmps11
  go_wp2_with fail
  rw [← hW]
  clear hW hz
  go_loopw [3, 6] (fun m v wr => ∃ (i : Nat) (ms : List (Int × Int)), i ≤ z0.length ∧ i ≤ 20 ∧ ms.length ≤ i ∧ v = .int .i64 i ∧ OrdIn w.heap.size wr m ms w.heap.size (w.heap.size + 1) ∧ Below w.heap.size w wr) (fun _ v _ => z0.length - (intOf v).toNat)
  case atStart => exact ⟨0, [], Nat.zero_le _, by omega, by simp, rfl, hO.out, hB.out⟩
  case round => as_aux_lemma =>
    obtain ⟨i, ms, hi, hi3, hml, rfl, hord, hb⟩ := hrel
    clear hO hB
    by_cases hlt : i < z0.length ∧ i < 20
    · obtain ⟨hlt, h30⟩ := hlt
      obtain ⟨b, off, rfl, hbl, hcells⟩ := HRD.out.some (by omega)
      have hcx := (hb.cell (p := ⟨b, off + i, none⟩) hbl).trans (hcells i hlt)
      generalize hx : z0[i]?.getD 0 = x at *
      obtain ⟨u, hu0, hu⟩ : ∃ u : Int, 0 ≤ u ∧ IntKind.u64.wrap x = u := ⟨IntKind.u64.wrap x, by rw [IntKind.wrap_u64]; omega, rfl⟩
      have hu1 : u < 18446744073709551616 := by rw [← hu, IntKind.wrap_u64]; omega
      have e5 : IntKind.i64.wrap (u.tmod 40) = u % 40 := by
        rw [Int.tmod_eq_emod_of_nonneg (by omega), IntWalk.i64_in] <;> omega
      have e6 : IntKind.i64.wrap ((IntKind.u64.wrap (u.tdiv 40)).tmod 40) = u / 40 % 40 := by
        rw [Int.tdiv_eq_ediv_of_nonneg (by omega)]
        have : IntKind.u64.wrap (u / 40) = u / 40 := by rw [IntKind.wrap_u64]; omega
        rw [this, Int.tmod_eq_emod_of_nonneg (by omega), IntWalk.i64_in] <;> omega
      obtain ⟨ra, hra⟩ : ∃ n : Nat, u % 40 = n := ⟨(u % 40).toNat, by omega⟩
      obtain ⟨pa, hpa⟩ : ∃ n : Nat, u / 40 % 40 = n := ⟨(u / 40 % 40).toNat, by omega⟩
      have hra40 : ra < 40 := by omega
      have hpa40 : pa < 40 := by omega
      rw [hra] at e5
      rw [hpa] at e6
      have HE5 := Lib.hid e5
      have HE6 := Lib.hid e6
      clear e5 e6 hra hpa
      have HO := Lib.hid hord
      have HB := Lib.hid hb
      have i0 : (0 : Int) ≤ (i : Int) := by omega
      have i1 : (i : Int) < (z0.length : Int) := by omega
      have d1 : decide ((i : Int) < 20) = true := decide_eq_true (by omega)
      have d2 : decide (i < z0.length) = true := decide_eq_true hlt
      have KEEP : Hid (∀ W, Below wr.heap.size wr W → W.cell? ⟨b, off + i, none⟩ = some (.int .i64 x)) := fun W hW => (hW.cell (p := ⟨b, off + i, none⟩) (Nat.lt_of_lt_of_le hbl HB.out.size)).trans hcx
      obtain ⟨la, lc, hlv, hlz, hlb⟩ := own_slice hord.own
      subst hlv
      clear hord hb hcells hx
      have BK1 : Below wr.heap.size wr (wr.alloc (.cells #[.int .i64 (IntKind.i64.wrap (u.tmod 40)), .int .i64 (IntKind.i64.wrap ((IntKind.u64.wrap (u.tdiv 40)).tmod 40))] 52)).drew := (below_al wr _).trans ⟨rfl, rfl, rfl, Nat.le_refl _, fun _ _ => rfl⟩
      go_upto_region 6 with fail
      refine reg_start (fun w' => w'.cell? ⟨b, off + i, none⟩ = some (.int .i64 x) ∧ Below wr.heap.size wr w') (by kernel_rfl) (⟨hcx, below_dr wr⟩) (fun hHeld => ?_)
      refine reg_take (i := 0) (v := ?va0) rfl (by kernel_rfl) rfl hHeld ?ya0 ?ra0
      case ya0 => (intro w hSw; (try dsimp only at hSw); go_simp; all_goals with_reducible rfl)
      try simp only [Act.put, List.setIfInBounds_toArray, List.set_cons_zero, List.set_cons_succ]
      refine reg_take (i := 1) (v := ?va1) rfl (by kernel_rfl) rfl hHeld ?ya1 ?ra1
      case ya1 => (intro w hSw; (try dsimp only at hSw); go_simp; all_goals with_reducible rfl)
      try simp only [Act.put, List.setIfInBounds_toArray, List.set_cons_zero, List.set_cons_succ]
      refine reg_take (i := 2) (v := ?va2) rfl (by kernel_rfl) rfl hHeld ?ya2 ?ra2
      case ya2 => (intro w hSw; (try dsimp only at hSw); go_simp; all_goals with_reducible rfl)
      try simp only [Act.put, List.setIfInBounds_toArray, List.set_cons_zero, List.set_cons_succ]
      refine reg_take (i := 3) (v := ?va3) rfl (by kernel_rfl) rfl hHeld ?ya3 ?ra3
      case ya3 => (intro w hSw; (try dsimp only at hSw); go_simp; all_goals with_reducible rfl)
      try simp only [Act.put, List.setIfInBounds_toArray, List.set_cons_zero, List.set_cons_succ]
      refine reg_take (i := 4) (v := ?va4) rfl (by kernel_rfl) rfl hHeld ?ya4 ?ra4
      case ya4 => (intro w hSw; (try dsimp only at hSw); go_simp; all_goals with_reducible rfl)
      try simp only [Act.put, List.setIfInBounds_toArray, List.set_cons_zero, List.set_cons_succ]
      refine reg_take (i := 5) (v := ?va5) rfl (by kernel_rfl) rfl hHeld ?ya5 ?ra5
      case ya5 => (intro w hSw; (try dsimp only at hSw); go_simp; all_goals with_reducible rfl)
      try simp only [Act.put, List.setIfInBounds_toArray, List.set_cons_zero, List.set_cons_succ]
      refine reg_take (i := 6) (v := ?va6) rfl (by kernel_rfl) rfl hHeld ?ya6 ?ra6
      case ya6 => (intro w hSw; (try dsimp only at hSw); go_simp; all_goals with_reducible rfl)
      try simp only [Act.put, List.setIfInBounds_toArray, List.set_cons_zero, List.set_cons_succ]
      refine reg_take (i := 7) (v := ?va7) rfl (by kernel_rfl) rfl hHeld ?ya7 ?ra7
      case ya7 => (intro w hSw; (try dsimp only at hSw); go_simp; all_goals with_reducible rfl)
      try simp only [Act.put, List.setIfInBounds_toArray, List.set_cons_zero, List.set_cons_succ]
      refine reg_take (i := 8) (v := ?va8) rfl (by kernel_rfl) rfl hHeld ?ya8 ?ra8
      case ya8 => (intro w hSw; (try dsimp only at hSw); go_simp; all_goals with_reducible rfl)
      try simp only [Act.put, List.setIfInBounds_toArray, List.set_cons_zero, List.set_cons_succ]
      refine reg_take (i := 9) (v := ?va9) rfl (by kernel_rfl) rfl hHeld ?ya9 ?ra9
      case ya9 => (intro w hSw; (try dsimp only at hSw); go_simp; all_goals with_reducible rfl)
      try simp only [Act.put, List.setIfInBounds_toArray, List.set_cons_zero, List.set_cons_succ]
      refine reg_take (i := 10) (v := ?va10) rfl (by kernel_rfl) rfl hHeld ?ya10 ?ra10
      case ya10 => (intro w hSw; (try dsimp only at hSw); go_simp; all_goals with_reducible rfl)
      try simp only [Act.put, List.setIfInBounds_toArray, List.set_cons_zero, List.set_cons_succ]
      refine reg_take (i := 11) (v := ?va11) rfl (by kernel_rfl) rfl hHeld ?ya11 ?ra11
      case ya11 => (intro w hSw; (try dsimp only at hSw); go_simp; all_goals with_reducible rfl)
      try simp only [Act.put, List.setIfInBounds_toArray, List.set_cons_zero, List.set_cons_succ]
      refine reg_take (i := 12) (v := ?va12) rfl (by kernel_rfl) rfl hHeld ?ya12 ?ra12
      case ya12 => (intro w hSw; (try dsimp only at hSw); go_simp; all_goals with_reducible rfl)
      try simp only [Act.put, List.setIfInBounds_toArray, List.set_cons_zero, List.set_cons_succ]
      refine reg_take (i := 13) (v := ?va13) rfl (by kernel_rfl) rfl hHeld ?ya13 ?ra13
      case ya13 => (intro w hSw; (try dsimp only at hSw); go_simp; all_goals with_reducible rfl)
      try simp only [Act.put, List.setIfInBounds_toArray, List.set_cons_zero, List.set_cons_succ]
      refine reg_take (i := 14) (v := ?va14) rfl (by kernel_rfl) rfl hHeld ?ya14 ?ra14
      case ya14 => (intro w hSw; (try dsimp only at hSw); go_simp; all_goals with_reducible rfl)
      try simp only [Act.put, List.setIfInBounds_toArray, List.set_cons_zero, List.set_cons_succ]
      refine reg_take (i := 15) (v := ?va15) rfl (by kernel_rfl) rfl hHeld ?ya15 ?ra15
      case ya15 => (intro w hSw; (try dsimp only at hSw); go_simp; all_goals with_reducible rfl)
      try simp only [Act.put, List.setIfInBounds_toArray, List.set_cons_zero, List.set_cons_succ]
      refine reg_loud (i := 16) rfl (by kernel_rfl) rfl (fun K hK => ?_)
      go_simp
      refine hK.out _ _ (⟨KEEP.out _ ((below_dr wr).alloc (by simp) _), (below_dr wr).alloc (by simp) _⟩) (fun hNew => ?_)
      clear hK K hHeld
      have hHeld := hNew
      clear hNew
      try simp only [Act.put, List.setIfInBounds_toArray, List.set_cons_zero, List.set_cons_succ]
      refine reg_loud (i := 17) rfl (by kernel_rfl) rfl (fun K hK => ?_)
      go_simp
      refine hK.out _ _ (⟨KEEP.out _ BK1, BK1⟩) (fun hNew => ?_)
      clear hK K hHeld
      have hHeld := hNew
      clear hNew
      try simp only [Act.put, List.setIfInBounds_toArray, List.set_cons_zero, List.set_cons_succ]
      refine reg_done (by kernel_rfl) ?_ _
      rw [HE5.out, HE6.out] at hHeld ⊢
      clear hHeld
      obtain ⟨W1, hW1⟩ : ∃ W1, W1 = (wr.alloc (.cells #[.int .i64 (ra : Int), .int .i64 (pa : Int)] 52)).drew := ⟨_, rfl⟩
      have hBW : Below wr.heap.size wr W1 := by rw [hW1]; exact (below_al wr (.cells #[.int .i64 (ra : Int), .int .i64 (pa : Int)] 52)).trans ⟨rfl, rfl, rfl, Nat.le_refl _, fun _ _ => rfl⟩
      have hbx : W1.heap[wr.heap.size]? = some (.cells #[.int .i64 (ra : Int), .int .i64 (pa : Int)] 52 (0, 0)) := by rw [hW1]; exact heap_alloc_new wr _
      have t1 : W1.cell? ⟨wr.heap.size, 0, none⟩ = some (.int .i64 (ra : Int)) := by rw [cell_of_row W1 _ 0 _ _ _ hbx]; rfl
      have t2 : W1.cell? ⟨wr.heap.size, 1, none⟩ = some (.int .i64 (pa : Int)) := by rw [cell_of_row W1 _ 1 _ _ _ hbx]; rfl
      rw [← hW1]
      have hO1 := HO.out.below hBW
      have hb1 : Below w.heap.size w W1 := HB.out.trans (hBW.mono HB.out.size)
      have f1 := vec_cell hO1.a1 hra40
      have f2 := vec_cell hO1.a2 hpa40
      have z1 : W1.frozen? ⟨w.heap.size, ra, none⟩ = false := frozen_of_row W1 _ _ _ _ hO1.a1
      have z2 : W1.frozen? ⟨w.heap.size + 1, pa, none⟩ = false := frozen_of_row W1 _ _ _ _ hO1.a2
      have HO1 := Lib.hid hO1
      have HB1 := Lib.hid hb1
      have j0 : (0 : Int) ≤ (ra : Int) := by omega
      have j1 : (ra : Int) < 40 := by omega
      have j2 : (0 : Int) ≤ (pa : Int) := by omega
      have j3 : (pa : Int) < 40 := by omega
      have HBX := Lib.hid hbx
      have hwq : w.heap.size + 1 < wr.heap.size := (Array.getElem?_eq_some_iff.1 HO.out.a2).1
      clear hW1 hBW hO1 hb1 hbx HO HB KEEP hcx hlz hlb hu BK1
      by_cases hc1 : ∃ y ∈ ms, y.1 = (ra : Int)
      · rw [decide_eq_true hc1] at f1
        clear hc1
        go_wp2_with fail
        go_roundw
        case rel => exact ⟨i + 1, ms, by omega, by omega, by omega, by go_num, HO1.out, HB1.out⟩
        case measure => simp [intOf]; omega
      · rw [decide_eq_false hc1] at f1
        by_cases hc2 : ∃ y ∈ ms, y.2 = (pa : Int)
        · rw [decide_eq_true hc2] at f2
          clear hc1 hc2
          go_wp2_with fail
          go_roundw
          case rel => exact ⟨i + 1, ms, by omega, by omega, by omega, by go_num, HO1.out, HB1.out⟩
          case measure => simp [intOf]; omega
        · rw [decide_eq_false hc2] at f2
          have HC1 := Lib.hid hc1
          have HC2 := Lib.hid hc2
          clear hc1 hc2
          have NE : ¬ (wr.heap.size = w.heap.size ∨ wr.heap.size = w.heap.size + 1) := by omega
          have KA : Hid ((W1.setCell ⟨w.heap.size, ra, none⟩ (.bool true)).cell? ⟨wr.heap.size, 0, none⟩ = some (.int .i64 (ra : Int)) ∧ (W1.setCell ⟨w.heap.size, ra, none⟩ (.bool true)).cell? ⟨wr.heap.size, 1, none⟩ = some (.int .i64 (pa : Int))) :=
            ⟨(Chg.refl.setCell (S := fun b => b = w.heap.size ∨ b = w.heap.size + 1) ⟨w.heap.size, ra, none⟩ (Or.inl (Or.inl rfl)) _).cell t1 NE, (Chg.refl.setCell (S := fun b => b = w.heap.size ∨ b = w.heap.size + 1) ⟨w.heap.size, ra, none⟩ (Or.inl (Or.inl rfl)) _).cell t2 NE⟩
          have KB : Hid (((W1.setCell ⟨w.heap.size, ra, none⟩ (.bool true)).setCell ⟨w.heap.size + 1, pa, none⟩ (.bool true)).cell? ⟨wr.heap.size, 0, none⟩ = some (.int .i64 (ra : Int)) ∧ ((W1.setCell ⟨w.heap.size, ra, none⟩ (.bool true)).setCell ⟨w.heap.size + 1, pa, none⟩ (.bool true)).cell? ⟨wr.heap.size, 1, none⟩ = some (.int .i64 (pa : Int))) :=
            ⟨(Chg.refl.setCell (S := fun b => b = w.heap.size ∨ b = w.heap.size + 1) ⟨w.heap.size + 1, pa, none⟩ (Or.inl (Or.inr rfl)) _).cell KA.out.1 NE, (Chg.refl.setCell (S := fun b => b = w.heap.size ∨ b = w.heap.size + 1) ⟨w.heap.size + 1, pa, none⟩ (Or.inl (Or.inr rfl)) _).cell KA.out.2 NE⟩
          clear NE
          go_upto_region 8 with fail
          refine reg_start (fun w' => w'.cell? ⟨wr.heap.size, 0, none⟩ = some (.int .i64 (ra : Int)) ∧ w'.cell? ⟨wr.heap.size, 1, none⟩ = some (.int .i64 (pa : Int))) (by kernel_rfl) (⟨t1, t2⟩) (fun hHeld => ?_)
          refine reg_take (i := 0) (v := ?vc0) rfl (by kernel_rfl) rfl hHeld ?yc0 ?rc0
          case yc0 => (intro w hSw; (try dsimp only at hSw); go_simp; all_goals with_reducible rfl)
          try simp only [Act.put, List.setIfInBounds_toArray, List.set_cons_zero, List.set_cons_succ]
          refine reg_take (i := 1) (v := ?vc1) rfl (by kernel_rfl) rfl hHeld ?yc1 ?rc1
          case yc1 => (intro w hSw; (try dsimp only at hSw); go_simp; all_goals with_reducible rfl)
          try simp only [Act.put, List.setIfInBounds_toArray, List.set_cons_zero, List.set_cons_succ]
          refine reg_take (i := 2) (v := ?vc2) rfl (by kernel_rfl) rfl hHeld ?yc2 ?rc2
          case yc2 => (intro w hSw; (try dsimp only at hSw); go_simp; all_goals with_reducible rfl)
          try simp only [Act.put, List.setIfInBounds_toArray, List.set_cons_zero, List.set_cons_succ]
          refine reg_take (i := 3) (v := ?vc3) rfl (by kernel_rfl) rfl hHeld ?yc3 ?rc3
          case yc3 => (intro w hSw; (try dsimp only at hSw); go_simp; all_goals with_reducible rfl)
          try simp only [Act.put, List.setIfInBounds_toArray, List.set_cons_zero, List.set_cons_succ]
          refine reg_take (i := 4) (v := ?vc4) rfl (by kernel_rfl) rfl hHeld ?yc4 ?rc4
          case yc4 => (intro w hSw; (try dsimp only at hSw); go_simp; all_goals with_reducible rfl)
          try simp only [Act.put, List.setIfInBounds_toArray, List.set_cons_zero, List.set_cons_succ]
          refine reg_loud (i := 5) rfl (by kernel_rfl) rfl (fun K hK => ?_)
          go_simp
          refine hK.out _ _ (KA.out) (fun hNew => ?_)
          clear hK K hHeld
          have hHeld := hNew
          clear hNew
          try simp only [Act.put, List.setIfInBounds_toArray, List.set_cons_zero, List.set_cons_succ]
          refine reg_take (i := 6) (v := ?vc6) rfl (by kernel_rfl) rfl hHeld ?yc6 ?rc6
          case yc6 => (intro w hSw; (try dsimp only at hSw); go_simp; all_goals with_reducible rfl)
          try simp only [Act.put, List.setIfInBounds_toArray, List.set_cons_zero, List.set_cons_succ]
          refine reg_loud (i := 7) rfl (by kernel_rfl) rfl (fun K hK => ?_)
          go_simp
          refine hK.out _ _ (KB.out) (fun hNew => ?_)
          clear hK K hHeld
          have hHeld := hNew
          clear hNew
          try simp only [Act.put, List.setIfInBounds_toArray, List.set_cons_zero, List.set_cons_succ]
          refine reg_done (by kernel_rfl) ?_ _
          obtain ⟨W2, hW2⟩ : ∃ W2, W2 = ((W1.setCell ⟨w.heap.size, ra, none⟩ (.bool true)).setCell ⟨w.heap.size + 1, pa, none⟩ (.bool true)).drew := ⟨_, rfl⟩
          rw [← hW2] at hHeld ⊢
          have hc2 : Chg (fun b => b = w.heap.size ∨ b = w.heap.size + 1) W1 W2 := by
            rw [hW2]
            exact ((Chg.refl.setCell (S := fun b => b = w.heap.size ∨ b = w.heap.size + 1) ⟨w.heap.size, ra, none⟩ (Or.inl (Or.inl rfl)) _).setCell ⟨w.heap.size + 1, pa, none⟩ (Or.inl (Or.inr rfl)) _).drew
          have hn1 := own_neT HO1.out.own HO1.out.a1 (by decide)
          have hn2 := own_neT HO1.out.own HO1.out.a2 (by decide)
          have hown := hc2.own HO1.out.own (fun k hk e => e.elim (hn1 k hk) (hn2 k hk))
          have hq1 : W2.heap[w.heap.size]? = some (.cells (vecL (fun x => if x = ra then .bool true else .bool (decide (∃ y ∈ ms, y.1 = (x : Int)))) 40).toArray 50 (0, 0)) := by
            rw [hW2]
            exact heap_set_other (w := W1.setCell ⟨w.heap.size, ra, none⟩ (.bool true)) (vec_set (s := ra) HO1.out.a1 (.bool true)) (by omega)
          have hq2 : W2.heap[w.heap.size + 1]? = some (.cells (vecL (fun x => if x = pa then .bool true else .bool (decide (∃ y ∈ ms, y.2 = (x : Int)))) 40).toArray 50 (0, 0)) := by
            rw [hW2]
            exact vec_set (w := W1.setCell ⟨w.heap.size, ra, none⟩ (.bool true)) (s := pa) (heap_set_other (w := W1) HO1.out.a2 (by omega)) (.bool true)
          rw [vecL_congr (g := fun x => .bool (decide (∃ y ∈ ms ++ [((ra : Int), (pa : Int))], y.1 = (x : Int)))) (fun x hx => ?_)] at hq1
          rotate_left
          · by_cases e : x = ra
            · rw [if_pos e, decide_eq_true (p := ∃ y ∈ ms ++ [((ra : Int), (pa : Int))], y.1 = (x : Int)) ⟨_, List.mem_append.2 (Or.inr (List.mem_singleton.2 rfl)), by rw [e]⟩]
            · rw [if_neg e]; congr 1
              rw [decide_eq_decide]
              constructor
              · rintro ⟨y, hy, hye⟩; exact ⟨y, List.mem_append.2 (Or.inl hy), hye⟩
              · rintro ⟨y, hy, hye⟩
                rcases List.mem_append.1 hy with q | q
                · exact ⟨y, q, hye⟩
                · rw [List.mem_singleton.1 q] at hye
                  have hye : (ra : Int) = (x : Int) := hye
                  omega
          rw [vecL_congr (g := fun x => .bool (decide (∃ y ∈ ms ++ [((ra : Int), (pa : Int))], y.2 = (x : Int)))) (fun x hx => ?_)] at hq2
          rotate_left
          · by_cases e : x = pa
            · rw [if_pos e, decide_eq_true (p := ∃ y ∈ ms ++ [((ra : Int), (pa : Int))], y.2 = (x : Int)) ⟨_, List.mem_append.2 (Or.inr (List.mem_singleton.2 rfl)), by rw [e]⟩]
            · rw [if_neg e]; congr 1
              rw [decide_eq_decide]
              constructor
              · rintro ⟨y, hy, hye⟩; exact ⟨y, List.mem_append.2 (Or.inl hy), hye⟩
              · rintro ⟨y, hy, hye⟩
                rcases List.mem_append.1 hy with q | q
                · exact ⟨y, q, hye⟩
                · rw [List.mem_singleton.1 q] at hye
                  have hye : (pa : Int) = (x : Int) := hye
                  omega
          have hgood := HO1.out.good.snoc (a := (ra : Int)) (b := (pa : Int)) (by omega) (by omega) HC1.out HC2.out
          have hB2 : Below w.heap.size w W2 := HB1.out.trans (hc2.below (fun b hb => by omega) HB1.out.size)
          have hs2 := hB2.size
          have HQ1 := Lib.hid hq1
          have HQ2 := Lib.hid hq2
          have HG := Lib.hid hgood
          have HB2 := Lib.hid hB2
          obtain ⟨t3, t4⟩ := hHeld
          clear KA KB hW2 hc2 hn1 hn2 hq1 hq2 hgood hB2 t1 t2 f1 f2 z1 z2 HO1 HB1 HBX HC1 HC2
          go_wp2_with (at_builtin; refine wpList_pushP rfl _ _ 49 rfl w.heap.size 52 Try.infoPair Try.underlying49 rfl _ _ _ rfl hown rfl rfl rfl ?c1 ?c2 ?c3 ?_)
          case c1 => unfold maxLen; omega
          case c2 => omega
          case c3 => omega
          intro g5 cap5 w5 hown' hgrow hl5 hg5
          have hcl := cellsL_snoc ms ((ra : Int), (pa : Int))
          rw [hcl] at hown'
          have hn1 := own_neT hown HQ1.out (by decide)
          have hn2 := own_neT hown HQ2.out (by decide)
          have hc5 : Chg (fun b => (Value.slice la ms.length lc).ownBlock = some b) W2 w5 := Chg.refl.grown hgrow (fun k hk => Or.inl hk)
          have hln : (ms ++ [((ra : Int), (pa : Int))]).length = ms.length + 1 := by simp
          have hO5 : OrdIn w.heap.size w5 (.slice (some ⟨g5, 0, none⟩) (ms.length + 1) cap5) (ms ++ [((ra : Int), (pa : Int))]) w.heap.size (w.heap.size + 1) :=
            ⟨by rw [hln]; exact hown', hc5.heap HQ1.out (fun e => hn1 _ e rfl), hc5.heap HQ2.out (fun e => hn2 _ e rfl), HG.out, by omega, by omega, by omega⟩
          have hB5 : Below w.heap.size w w5 := HB2.out.grown hgrow hs2 (fun j hj => (hown.lt j hj).1)
          have HO5 := Lib.hid hO5
          have HB5 := Lib.hid hB5
          have HLN := Lib.hid hln
          clear hown hown' hgrow hl5 hcl hn1 hn2 hc5 hO5 hB5 hln t3 t4
          go_wp2_with fail
          go_roundw
          case rel => exact ⟨i + 1, _, by omega, by omega, by rw [HLN.out]; omega, by go_num, HO5.out, HB5.out⟩
          case measure => simp [intOf]; omega
    · have hsB := hb.size
      obtain ⟨la, lc, hlv, hlz, hlb⟩ := own_slice hord.own
      subst hlv
      have hgood := hord.good
      obtain ⟨L, hall, hisl⟩ := addAll_good ms [] (List.replicate 40 (-1)) isL_nil (by rw [List.nil_append]; exact hgood)
      rw [List.nil_append] at hisl
      have hnew : Calls Try.prog 27 #[.int .i64 (40 : Int), .slice la ms.length lc] wr fun e w' => ∃ p, e = .returned (.tuple #[.pointer (some ⟨p, 0, none⟩), .int .i64 0]) ∧ PmO wr.heap.size w' p ms.length L 40 ∧ Below wr.heap.size wr w' := by
        refine (pNew_v wr 40 (by omega) ms la lc (readsV_own2 hord.own) (by omega)).mono ?_
        intro e w' hpost
        unfold NewPost at hpost
        rw [hall] at hpost
        obtain ⟨p, rfl, h1, h2⟩ := hpost
        exact ⟨p, rfl, ⟨h1, by omega, by have := hisl.len; omega, by omega, h2.size⟩, h2⟩
      have hla : ∀ ad, la = some ad → ad.block < wr.heap.size := fun ad had => by
        obtain ⟨g, e, _, h2, _⟩ := hlb ad had
        rw [e]; exact h2
      have HLA := Lib.hid hla
      have HBB : Hid (w.heap.size ≤ wr.heap.size) := hsB
      have hrd := rdp_own hord.own rfl
      have HNEW := Lib.hid hnew
      have HIS := Lib.hid hisl
      have HG := Lib.hid hgood
      have HRD2 := Lib.hid hrd
      have HB := Lib.hid hb
      have hor : ¬ i < z0.length ∨ (i < z0.length ∧ ¬ i < 20) := by omega
      have hml20 : ms.length ≤ 20 := by omega
      clear hnew hisl hgood hrd hb hord hlz hlb hall HRD hla
      rcases hor with e1 | ⟨e1, e2⟩
      next => as_aux_lemma =>
        go_wp2_with fail
        refine HNEW.out.mono ?_
        rintro e w2 ⟨p, rfl, hp, hb2⟩
        have HP2 := Lib.hid hp
        have HB2 := Lib.hid (HB.out.trans (hb2.mono HB.out.size))
        have HRD3 := Lib.hid (HRD2.out.below hb2)
        have hs2 := hb2.size
        clear hp hb2 HNEW HRD2 HB
        generalize wr.heap.size = B1 at *
        go_wp2_with fail
        refine (new_o 40 rfl (by omega)).mono ?_
        rintro e w3 ⟨q, rfl, hq, hb3⟩
        have HQ3 := Lib.hid hq
        have HB3 := Lib.hid hb3
        clear hq hb3
        go_wp2_with fail
        go_loopw [12] (fun v ws => ∃ (n : Nat) (Lq : List Int), n ≤ ms.length ∧ v = .int .i64 ((n : Int) - 1) ∧ IsL (ms.drop n) Lq ∧ PmO w2.heap.size ws q (ms.length - n) Lq 40 ∧ Below w2.heap.size w2 ws) (fun v _ => (intOf v + 1).toNat)
        case atStart => exact ⟨ms.length, List.replicate 40 (-1), Nat.le_refl _, rfl, by rw [List.drop_length]; exact isL_nil, by rw [Nat.sub_self]; exact HQ3.out, HB3.out⟩
        case round => as_aux_lemma =>
          obtain ⟨n, Lq, hn, rfl, hil, hq, hbs⟩ := hrel
          obtain ⟨ws, hws⟩ : ∃ ws, ws = wr := ⟨_, rfl⟩
          rw [← hws] at hq hbs ⊢
          clear hws
          clear HQ3 HB3
          have hsq := hbs.size
          rcases Nat.eq_zero_or_pos n with rfl | hn0
          · rw [List.drop_zero] at hil
            have heq : Lq = L := hil.eq HIS.out (fun r => (hq.1.rng r).1) (fun r => (HP2.out.1.rng r).1)
            subst heq
            rw [Nat.sub_zero] at hq
            have hp4 := HP2.out.below hbs
            have HQ4 : Hid (PmV (fun k => w2.heap.size ≤ k ∧ k < ws.heap.size) ws q ms.length Lq 40) := hq.1.lts
            have HP4 : Hid (PmE B1 (fun k => w2.heap.size ≤ k ∧ k < ws.heap.size) ws p ms.length Lq 40) := (PmE.of_own HP2.out).less hbs (fun k hk => Or.inr hk.1) (fun k hk => hk.2)
            have HRD4 := Lib.hid (HRD3.out.below hbs)
            have HB4 := Lib.hid (HB2.out.trans (hbs.mono (HB2.out.size)))
            have hla : ∀ ad, la = some ad → ad.block < B1 := by
              intro ad had
              exact HLA.out ad had
            have HLA2 := Lib.hid hla
            have dz : decide ((0 : Int) ≤ -1) = false := rfl
            clear hil hq hbs hp4 HP2 HB2 HRD3 hla
            rw [show (((0 : Nat) : Int) - 1) = -1 from rfl]
            go_wp2_with fail
            have hw4B : B1 ≤ ws.heap.size := HP4.out.le
            generalize hX : (fun k => w2.heap.size ≤ k ∧ k < ws.heap.size) = X at *
            have hXe : ∀ k, X k → w2.heap.size ≤ k := fun k hk => by rw [← hX] at hk; exact hk.1
            have HXE := Lib.hid hXe
            clear hX hXe
            go_loopw [13] (fun v wt => ∃ j : Nat, j ≤ ms.length ∧ v = .int .i64 j ∧ PmE B1 X wt p (ms.length + j) Lq 40 ∧ PmV X wt q ms.length Lq 40 ∧ RdP wt la ms ∧ Below w.heap.size w wt) (fun v _ => ms.length - (intOf v).toNat)
            case atStart => exact ⟨0, Nat.zero_le _, rfl, HP4.out, HQ4.out, HRD4.out, HB4.out⟩
            case round => as_aux_lemma =>
              obtain ⟨j, hj, rfl, hp, hq, hrd, hb⟩ := hrel
              obtain ⟨wt, hwt⟩ : ∃ wt, wt = wr := ⟨_, rfl⟩
              rw [← hwt] at hp hq hrd hb ⊢
              clear hwt
              clear HP4 HQ4 HRD4 HB4
              by_cases hlt : j < ms.length
              · obtain ⟨g, off, rfl, hg, hcs⟩ := hrd j hlt
                obtain ⟨q1, q2⟩ := hcs j hlt
                have hgb : g < B1 := HLA2.out _ rfl
                have hmem : (rowL ms j, posL ms j) ∈ ms := by
                  have : (rowL ms j, posL ms j) = ms[j] := by simp [rowL, posL, hlt]
                  rw [this]; exact List.getElem_mem hlt
                obtain ⟨⟨r00, r01⟩, ⟨p00, p01⟩⟩ := HG.out.rng _ hmem
                have hgl := (HIS.out.iff (rowL ms j) (posL ms j) p00).2 hmem
                generalize rowL ms j = r0 at *
                generalize posL ms j = p0 at *
                have r00 : 0 ≤ r0 := r00
                have r01 : r0 < 40 := r01
                have p00 : 0 ≤ p0 := p00
                obtain ⟨rn, rfl⟩ := Int.eq_ofNat_of_zero_le r00
                have hal : aL Lq p0 = rn := by
                  have hinj := hp.pv.inj
                  rcases aL_spec Lq p0 with ⟨i, a1, _, a3, _⟩ | ⟨_, a2⟩
                  · rw [a1]; exact hinj _ _ (by omega) (by omega)
                  · exact absurd hgl (a2 p00 _)
                have hac : addC Lq 40 rn 39 = 1 := by
                  unfold addC
                  rw [if_pos ⟨by omega, by have := HIS.out.len; omega, by omega, by omega⟩, if_pos (Or.inl (by omega))]
                have hadl : addL Lq 40 rn 39 = Lq := by unfold addL; rw [hac, if_neg (by omega)]
                have KP : Hid (∀ W, Chg (exS B1 X) wt W → W.cell? ⟨g, off + j * 2, none⟩ = some (.int .i64 (rn : Int)) ∧ W.cell? ⟨g, off + j * 2 + 1, none⟩ = some (.int .i64 p0)) := fun W hW =>
                  ⟨hW.cell q1 (fun h => by have : B1 ≤ g := h.1; omega), hW.cell q2 (fun h => by have : B1 ≤ g := h.1; omega)⟩
                have HP := Lib.hid hp
                have HQ := Lib.hid hq
                have HRD5 := Lib.hid hrd
                have HB := Lib.hid hb
                have HGL := Lib.hid hgl
                have HAL := Lib.hid hal
                have HAC := Lib.hid hac
                have HADL := Lib.hid hadl
                have hpd : PmE B1 X wt.drew p (ms.length + j) Lq 40 := HP.out.below (below_dr wt)
                have HPD := Lib.hid hpd
                have i0 : (0 : Int) ≤ (j : Int) := by omega
                have i1 : (j : Int) < (ms.length : Int) := by omega
                have dg : (p0 != p0) = false := by simp
                have dr : ((rn : Int) != (rn : Int)) = false := by simp
                clear hp hq hrd hb hgl hal hac hadl hpd hcs
                go_upto_region 22 with fail
                refine reg_start (fun w' => w'.cell? ⟨g, off + j * 2, none⟩ = some (.int .i64 (rn : Int)) ∧ w'.cell? ⟨g, off + j * 2 + 1, none⟩ = some (.int .i64 p0)) (by kernel_rfl) (⟨q1, q2⟩) (fun hHeld => ?_)
                refine reg_take (i := 0) (v := ?vdx0) rfl (by kernel_rfl) rfl hHeld ?ydx0 ?rdx0
                case ydx0 => (intro w hSw; (try dsimp only at hSw); go_simp; all_goals with_reducible rfl)
                try simp only [Act.put, List.setIfInBounds_toArray, List.set_cons_zero, List.set_cons_succ]
                refine reg_take (i := 1) (v := ?vdx1) rfl (by kernel_rfl) rfl hHeld ?ydx1 ?rdx1
                case ydx1 => (intro w hSw; (try dsimp only at hSw); go_simp; all_goals with_reducible rfl)
                try simp only [Act.put, List.setIfInBounds_toArray, List.set_cons_zero, List.set_cons_succ]
                refine reg_take (i := 2) (v := ?vdx2) rfl (by kernel_rfl) rfl hHeld ?ydx2 ?rdx2
                case ydx2 => (intro w hSw; (try dsimp only at hSw); go_simp; all_goals with_reducible rfl)
                try simp only [Act.put, List.setIfInBounds_toArray, List.set_cons_zero, List.set_cons_succ]
                refine reg_take (i := 3) (v := ?vdx3) rfl (by kernel_rfl) rfl hHeld ?ydx3 ?rdx3
                case ydx3 => (intro w hSw; (try dsimp only at hSw); go_simp; all_goals with_reducible rfl)
                try simp only [Act.put, List.setIfInBounds_toArray, List.set_cons_zero, List.set_cons_succ]
                refine reg_take (i := 4) (v := ?vdx4) rfl (by kernel_rfl) rfl hHeld ?ydx4 ?rdx4
                case ydx4 => (intro w hSw; (try dsimp only at hSw); go_simp; all_goals with_reducible rfl)
                try simp only [Act.put, List.setIfInBounds_toArray, List.set_cons_zero, List.set_cons_succ]
                refine reg_take (i := 5) (v := ?vdx5) rfl (by kernel_rfl) rfl hHeld ?ydx5 ?rdx5
                case ydx5 => (intro w hSw; (try dsimp only at hSw); go_simp; all_goals with_reducible rfl)
                try simp only [Act.put, List.setIfInBounds_toArray, List.set_cons_zero, List.set_cons_succ]
                refine reg_take (i := 7) (v := ?vdx7) rfl (by kernel_rfl) rfl hHeld ?ydx7 ?rdx7
                case ydx7 => (intro w hSw; (try dsimp only at hSw); go_simp; all_goals with_reducible rfl)
                try simp only [Act.put, List.setIfInBounds_toArray, List.set_cons_zero, List.set_cons_succ]
                refine reg_take (i := 8) (v := ?vdx8) rfl (by kernel_rfl) rfl hHeld ?ydx8 ?rdx8
                case ydx8 => (intro w hSw; (try dsimp only at hSw); go_simp; all_goals with_reducible rfl)
                try simp only [Act.put, List.setIfInBounds_toArray, List.set_cons_zero, List.set_cons_succ]
                refine reg_take (i := 9) (v := ?vdx9) rfl (by kernel_rfl) rfl hHeld ?ydx9 ?rdx9
                case ydx9 => (intro w hSw; (try dsimp only at hSw); go_simp; all_goals with_reducible rfl)
                try simp only [Act.put, List.setIfInBounds_toArray, List.set_cons_zero, List.set_cons_succ]
                refine reg_take (i := 10) (v := ?vdx10) rfl (by kernel_rfl) rfl hHeld ?ydx10 ?rdx10
                case ydx10 => (intro w hSw; (try dsimp only at hSw); go_simp; all_goals with_reducible rfl)
                try simp only [Act.put, List.setIfInBounds_toArray, List.set_cons_zero, List.set_cons_succ]
                refine reg_take (i := 11) (v := ?vdx11) rfl (by kernel_rfl) rfl hHeld ?ydx11 ?rdx11
                case ydx11 => (intro w hSw; (try dsimp only at hSw); go_simp; all_goals with_reducible rfl)
                try simp only [Act.put, List.setIfInBounds_toArray, List.set_cons_zero, List.set_cons_succ]
                refine reg_loud (i := 6) rfl (by kernel_rfl) rfl (fun K hK => ?_)
                go_simp
                ((with_reducible refine (pos_e HPD.out HGL.out).mono ?_))
                rintro e w6 ⟨rfl, h6, hc6⟩
                have HP6 := Lib.hid h6
                have HC6 := Lib.hid ((Chg.refl (S := exS B1 X) (w := wt)).drew.trans hc6 (fun b hb => Or.inl hb))
                have hk6 := KP.out w6 HC6.out
                clear h6 hc6
                refine hK.out _ _ (hk6) (fun hNew => ?_)
                clear hK K hHeld
                have hHeld := hNew
                clear hNew
                try simp only [Act.put, List.setIfInBounds_toArray, List.set_cons_zero, List.set_cons_succ]
                refine reg_take (i := 12) (v := ?vdx12) rfl (by kernel_rfl) rfl hHeld ?ydx12 ?rdx12
                case ydx12 => (intro w hSw; (try dsimp only at hSw); go_simp; all_goals with_reducible rfl)
                try simp only [Act.put, List.setIfInBounds_toArray, List.set_cons_zero, List.set_cons_succ]
                refine reg_take (i := 13) (v := ?vdx13) rfl (by kernel_rfl) rfl hHeld ?ydx13 ?rdx13
                case ydx13 => (intro w hSw; (try dsimp only at hSw); go_simp; all_goals with_reducible rfl)
                try simp only [Act.put, List.setIfInBounds_toArray, List.set_cons_zero, List.set_cons_succ]
                refine reg_take (i := 14) (v := ?vdx14) rfl (by kernel_rfl) rfl hHeld ?ydx14 ?rdx14
                case ydx14 => (intro w hSw; (try dsimp only at hSw); go_simp; all_goals with_reducible rfl)
                try simp only [Act.put, List.setIfInBounds_toArray, List.set_cons_zero, List.set_cons_succ]
                refine reg_take (i := 15) (v := ?vdx15) rfl (by kernel_rfl) rfl hHeld ?ydx15 ?rdx15
                case ydx15 => (intro w hSw; (try dsimp only at hSw); go_simp; all_goals with_reducible rfl)
                try simp only [Act.put, List.setIfInBounds_toArray, List.set_cons_zero, List.set_cons_succ]
                refine reg_take (i := 16) (v := ?vdx16) rfl (by kernel_rfl) rfl hHeld ?ydx16 ?rdx16
                case ydx16 => (intro w hSw; (try dsimp only at hSw); go_simp; all_goals with_reducible rfl)
                try simp only [Act.put, List.setIfInBounds_toArray, List.set_cons_zero, List.set_cons_succ]
                refine reg_take (i := 17) (v := ?vdx17) rfl (by kernel_rfl) rfl hHeld ?ydx17 ?rdx17
                case ydx17 => (intro w hSw; (try dsimp only at hSw); go_simp; all_goals with_reducible rfl)
                try simp only [Act.put, List.setIfInBounds_toArray, List.set_cons_zero, List.set_cons_succ]
                refine reg_take (i := 18) (v := ?vdx18) rfl (by kernel_rfl) rfl hHeld ?ydx18 ?rdx18
                case ydx18 => (intro w hSw; (try dsimp only at hSw); go_simp; all_goals with_reducible rfl)
                try simp only [Act.put, List.setIfInBounds_toArray, List.set_cons_zero, List.set_cons_succ]
                refine reg_take (i := 19) (v := ?vdx19) rfl (by kernel_rfl) rfl hHeld ?ydx19 ?rdx19
                case ydx19 => (intro w hSw; (try dsimp only at hSw); go_simp; all_goals with_reducible rfl)
                try simp only [Act.put, List.setIfInBounds_toArray, List.set_cons_zero, List.set_cons_succ]
                refine reg_take (i := 21) (v := ?vdx21) rfl (by kernel_rfl) rfl hHeld ?ydx21 ?rdx21
                case ydx21 => (intro w hSw; (try dsimp only at hSw); go_simp; all_goals with_reducible rfl)
                try simp only [Act.put, List.setIfInBounds_toArray, List.set_cons_zero, List.set_cons_succ]
                refine reg_take (i := 22) (v := ?vdx22) rfl (by kernel_rfl) rfl hHeld ?ydx22 ?rdx22
                case ydx22 => (intro w hSw; (try dsimp only at hSw); go_simp; all_goals with_reducible rfl)
                try simp only [Act.put, List.setIfInBounds_toArray, List.set_cons_zero, List.set_cons_succ]
                refine reg_take (i := 23) (v := ?vdx23) rfl (by kernel_rfl) rfl hHeld ?ydx23 ?rdx23
                case ydx23 => (intro w hSw; (try dsimp only at hSw); go_simp; all_goals with_reducible rfl)
                try simp only [Act.put, List.setIfInBounds_toArray, List.set_cons_zero, List.set_cons_succ]
                refine reg_take (i := 24) (v := ?vdx24) rfl (by kernel_rfl) rfl hHeld ?ydx24 ?rdx24
                case ydx24 => (intro w hSw; (try dsimp only at hSw); go_simp; all_goals with_reducible rfl)
                try simp only [Act.put, List.setIfInBounds_toArray, List.set_cons_zero, List.set_cons_succ]
                refine reg_take (i := 25) (v := ?vdx25) rfl (by kernel_rfl) rfl hHeld ?ydx25 ?rdx25
                case ydx25 => (intro w hSw; (try dsimp only at hSw); go_simp; all_goals with_reducible rfl)
                try simp only [Act.put, List.setIfInBounds_toArray, List.set_cons_zero, List.set_cons_succ]
                refine reg_loud (i := 20) rfl (by kernel_rfl) rfl (fun K hK => ?_)
                go_simp
                ((with_reducible refine (row_e HP6.out HAL.out).mono ?_))
                rintro e w7 ⟨rfl, h7, hc7⟩
                have HP7 := Lib.hid h7
                have HC7 := Lib.hid (HC6.out.trans hc7 (fun b hb => Or.inl hb))
                have hk7 := KP.out w7 HC7.out
                clear h7 hc7
                refine hK.out _ _ (hk7) (fun hNew => ?_)
                clear hK K hHeld
                have hHeld := hNew
                clear hNew
                try simp only [Act.put, List.setIfInBounds_toArray, List.set_cons_zero, List.set_cons_succ]
                refine reg_take (i := 26) (v := ?vdx26) rfl (by kernel_rfl) rfl hHeld ?ydx26 ?rdx26
                case ydx26 => (intro w hSw; (try dsimp only at hSw); go_simp; all_goals with_reducible rfl)
                try simp only [Act.put, List.setIfInBounds_toArray, List.set_cons_zero, List.set_cons_succ]
                refine reg_take (i := 27) (v := ?vdx27) rfl (by kernel_rfl) rfl hHeld ?ydx27 ?rdx27
                case ydx27 => (intro w hSw; (try dsimp only at hSw); go_simp; all_goals with_reducible rfl)
                try simp only [Act.put, List.setIfInBounds_toArray, List.set_cons_zero, List.set_cons_succ]
                refine reg_take (i := 28) (v := ?vdx28) rfl (by kernel_rfl) rfl hHeld ?ydx28 ?rdx28
                case ydx28 => (intro w hSw; (try dsimp only at hSw); go_simp; all_goals with_reducible rfl)
                try simp only [Act.put, List.setIfInBounds_toArray, List.set_cons_zero, List.set_cons_succ]
                refine reg_take (i := 29) (v := ?vdx29) rfl (by kernel_rfl) rfl hHeld ?ydx29 ?rdx29
                case ydx29 => (intro w hSw; (try dsimp only at hSw); go_simp; all_goals with_reducible rfl)
                try simp only [Act.put, List.setIfInBounds_toArray, List.set_cons_zero, List.set_cons_succ]
                refine reg_take (i := 30) (v := ?vdx30) rfl (by kernel_rfl) rfl hHeld ?ydx30 ?rdx30
                case ydx30 => (intro w hSw; (try dsimp only at hSw); go_simp; all_goals with_reducible rfl)
                try simp only [Act.put, List.setIfInBounds_toArray, List.set_cons_zero, List.set_cons_succ]
                refine reg_take (i := 31) (v := ?vdx31) rfl (by kernel_rfl) rfl hHeld ?ydx31 ?rdx31
                case ydx31 => (intro w hSw; (try dsimp only at hSw); go_simp; all_goals with_reducible rfl)
                try simp only [Act.put, List.setIfInBounds_toArray, List.set_cons_zero, List.set_cons_succ]
                refine reg_take (i := 32) (v := ?vdx32) rfl (by kernel_rfl) rfl hHeld ?ydx32 ?rdx32
                case ydx32 => (intro w hSw; (try dsimp only at hSw); go_simp; all_goals with_reducible rfl)
                try simp only [Act.put, List.setIfInBounds_toArray, List.set_cons_zero, List.set_cons_succ]
                refine reg_take (i := 33) (v := ?vdx33) rfl (by kernel_rfl) rfl hHeld ?ydx33 ?rdx33
                case ydx33 => (intro w hSw; (try dsimp only at hSw); go_simp; all_goals with_reducible rfl)
                try simp only [Act.put, List.setIfInBounds_toArray, List.set_cons_zero, List.set_cons_succ]
                refine reg_take (i := 34) (v := ?vdx34) rfl (by kernel_rfl) rfl hHeld ?ydx34 ?rdx34
                case ydx34 => (intro w hSw; (try dsimp only at hSw); go_simp; all_goals with_reducible rfl)
                try simp only [Act.put, List.setIfInBounds_toArray, List.set_cons_zero, List.set_cons_succ]
                refine reg_loud (i := 35) rfl (by kernel_rfl) rfl (fun K hK => ?_)
                go_simp
                ((with_reducible refine (add_e HP7.out (by omega) HAC.out HADL.out).mono ?_))
                rintro e w8 ⟨rfl, h8, hc8⟩
                have HP8 := Lib.hid h8
                have HC8 := Lib.hid (HC7.out.trans hc8 (fun b hb => Or.inl hb))
                have hk8 := KP.out w8 HC8.out
                clear h8 hc8
                refine hK.out _ _ (hk8) (fun hNew => ?_)
                clear hK K hHeld
                have hHeld := hNew
                clear hNew
                try simp only [Act.put, List.setIfInBounds_toArray, List.set_cons_zero, List.set_cons_succ]
                refine reg_take (i := 36) (v := ?vdx36) rfl (by kernel_rfl) rfl hHeld ?ydx36 ?rdx36
                case ydx36 => (intro w hSw; (try dsimp only at hSw); go_simp; all_goals with_reducible rfl)
                try simp only [Act.put, List.setIfInBounds_toArray, List.set_cons_zero, List.set_cons_succ]
                refine reg_take (i := 37) (v := ?vdx37) rfl (by kernel_rfl) rfl hHeld ?ydx37 ?rdx37
                case ydx37 => (intro w hSw; (try dsimp only at hSw); go_simp; all_goals with_reducible rfl)
                try simp only [Act.put, List.setIfInBounds_toArray, List.set_cons_zero, List.set_cons_succ]
                refine reg_done (by kernel_rfl) ?_ _
                have hch : Chg (exS B1 X) wt w8 := HC8.out
                have hq8 : PmV X w8 q ms.length Lq 40 := HQ.out.chg hch (fun k hk h => h.2 hk)
                have hr8 : RdP w8 (some ⟨g, off, none⟩) ms := HRD5.out.chg hch (fun ad had h => by
                  injection had with had
                  subst had
                  have : B1 ≤ g := h.1
                  omega)
                have hb8 : Below w.heap.size w w8 := HB.out.trans (hch.below (fun b hb => by have := hb.1; have := HBB.out; omega) HB.out.size)
                have HQ8 := Lib.hid hq8
                have HR8 := Lib.hid hr8
                have HB8 := Lib.hid hb8
                clear hch hq8 hr8 hb8 hHeld
                go_wp2_with fail
                go_roundw
                case rel => exact ⟨j + 1, by omega, by go_num, by rw [← Nat.add_assoc]; exact HP8.out, HQ8.out, HR8.out, HB8.out⟩
                case measure => simp [intOf]; omega
              · obtain rfl : j = ms.length := by omega
                have HP := Lib.hid hp
                have HQ := Lib.hid hq
                have HB := Lib.hid hb
                have hpl := HIS.out.plen HG.out
                have HPL := Lib.hid hpl
                clear hp hq hrd hb hpl
                go_wp2_with fail
                refine (told11_any _).mono ?_
                rintro e w5 ⟨rfl, hb5⟩
                have HP5 := Lib.hid (HP.out.below hb5)
                have HQ5 := Lib.hid (HQ.out.below hb5)
                have HB5 := Lib.hid (HB.out.trans (hb5.mono HB.out.size))
                clear hb5 HP HQ HB
                go_wp2_with fail
                refine (all_e HP5.out (l := prL 0 Lq) rfl).mono ?_
                rintro e w6 hg
                obtain ⟨qa, qd, rfl, hown, hb6⟩ := hg
                have HRA := Lib.hid (rdp_own hown rfl)
                have HP6 := Lib.hid (HP5.out.below hb6)
                have HQ6 := Lib.hid (HQ5.out.below hb6)
                have HB6 := Lib.hid (HB5.out.trans (hb6.mono HB5.out.size))
                clear hown hb6 HP5 HQ5 HB5
                go_wp2_with fail
                refine (pAll_v HQ6.out (by omega)).mono ?_
                rintro e w7 hg
                obtain ⟨qb, qe, rfl, hown, hb7⟩ := hg
                have HPAIR := Lib.hid (pairs_true (c := qd) (d := qe) (n := (prL 0 Lq).length) (m := (prL 0 Lq).length) (prL 0 Lq) rfl rfl (HRA.out.below hb7) (rdp_own hown rfl) (by rw [HPL.out]; omega))
                have HP7 := Lib.hid (HP6.out.below hb7)
                have HB7 := Lib.hid (HB6.out.trans (hb7.mono HB6.out.size))
                clear hown hb7 HP6 HQ6 HB6 HRA
                go_wp2_with fail
                refine HPAIR.out.mono ?_
                rintro e w8 ⟨rfl, hb8⟩
                have HP8 := Lib.hid (HP7.out.below hb8)
                have HB8 := Lib.hid (HB7.out.trans (hb8.mono HB7.out.size))
                clear hb8 HP7 HB7 HPAIR
                go_wp2_with fail
                refine (all_e HP8.out (l := prL 0 Lq) rfl).mono ?_
                rintro e w9 hg
                obtain ⟨qa, qd, rfl, hown, hb9⟩ := hg
                rw [HPL.out]
                have HB9 := Lib.hid (HB8.out.trans (hb9.mono HB8.out.size))
                clear hown hb9
                go_wp2_with fail
                go_ret
                exact ⟨rfl, HB9.out⟩
          · obtain ⟨j, rfl⟩ : ∃ j, n = j + 1 := ⟨n - 1, by omega⟩
            have hjl : j < ms.length := by omega
            obtain ⟨hac, hil2⟩ := hil.drop HG.out hjl
            obtain ⟨g, off, rfl, hg, hcs⟩ := (HRD3.out.below hbs) j hjl
            obtain ⟨q1, q2⟩ := hcs j hjl
            have hg2 : g < w2.heap.size := by
              obtain ⟨g', off', e, h, _⟩ := HRD3.out j hjl
              injection e with e
              injection e with e _ _
              omega
            generalize rowL ms j = r0 at *
            generalize posL ms j = p0 at *
            have HADD := Lib.hid (add_o (hq.below (below_dr ws)) (by omega) (x := r0) (y := p0) hac rfl)
            have hbd : Below w2.heap.size w2 ws.drew := hbs.trans ⟨rfl, rfl, rfl, Nat.le_refl _, fun _ _ => rfl⟩
            have KP : Hid (∀ W, Below w2.heap.size ws.drew W → W.cell? ⟨g, off + j * 2, none⟩ = some (.int .i64 r0) ∧ W.cell? ⟨g, off + j * 2 + 1, none⟩ = some (.int .i64 p0)) := fun W hW =>
              ⟨(hW.cell (p := ⟨g, off + j * 2, none⟩) hg2).trans q1, (hW.cell (p := ⟨g, off + j * 2 + 1, none⟩) hg2).trans q2⟩
            have HIL := Lib.hid hil2
            have HBD := Lib.hid hbd
            have i0 : (0 : Int) ≤ (j : Int) := by omega
            have i1 : (j : Int) < (ms.length : Int) := by omega
            have dz : decide ((0 : Int) ≤ (j : Int)) = true := decide_eq_true i0
            rw [show (((j + 1 : Nat) : Int) - 1) = (j : Int) by omega]
            clear hil hil2 hac hq hbs hbd hcs
            go_upto_region 17 with fail
            refine reg_start (fun w' => w'.cell? ⟨g, off + j * 2, none⟩ = some (.int .i64 r0) ∧ w'.cell? ⟨g, off + j * 2 + 1, none⟩ = some (.int .i64 p0)) (by kernel_rfl) (⟨q1, q2⟩) (fun hHeld => ?_)
            refine reg_take (i := 0) (v := ?vbx0) rfl (by kernel_rfl) rfl hHeld ?ybx0 ?rbx0
            case ybx0 => (intro w hSw; (try dsimp only at hSw); go_simp; all_goals with_reducible rfl)
            try simp only [Act.put, List.setIfInBounds_toArray, List.set_cons_zero, List.set_cons_succ]
            refine reg_take (i := 1) (v := ?vbx1) rfl (by kernel_rfl) rfl hHeld ?ybx1 ?rbx1
            case ybx1 => (intro w hSw; (try dsimp only at hSw); go_simp; all_goals with_reducible rfl)
            try simp only [Act.put, List.setIfInBounds_toArray, List.set_cons_zero, List.set_cons_succ]
            refine reg_take (i := 2) (v := ?vbx2) rfl (by kernel_rfl) rfl hHeld ?ybx2 ?rbx2
            case ybx2 => (intro w hSw; (try dsimp only at hSw); go_simp; all_goals with_reducible rfl)
            try simp only [Act.put, List.setIfInBounds_toArray, List.set_cons_zero, List.set_cons_succ]
            refine reg_take (i := 3) (v := ?vbx3) rfl (by kernel_rfl) rfl hHeld ?ybx3 ?rbx3
            case ybx3 => (intro w hSw; (try dsimp only at hSw); go_simp; all_goals with_reducible rfl)
            try simp only [Act.put, List.setIfInBounds_toArray, List.set_cons_zero, List.set_cons_succ]
            refine reg_take (i := 4) (v := ?vbx4) rfl (by kernel_rfl) rfl hHeld ?ybx4 ?rbx4
            case ybx4 => (intro w hSw; (try dsimp only at hSw); go_simp; all_goals with_reducible rfl)
            try simp only [Act.put, List.setIfInBounds_toArray, List.set_cons_zero, List.set_cons_succ]
            refine reg_take (i := 5) (v := ?vbx5) rfl (by kernel_rfl) rfl hHeld ?ybx5 ?rbx5
            case ybx5 => (intro w hSw; (try dsimp only at hSw); go_simp; all_goals with_reducible rfl)
            try simp only [Act.put, List.setIfInBounds_toArray, List.set_cons_zero, List.set_cons_succ]
            refine reg_take (i := 6) (v := ?vbx6) rfl (by kernel_rfl) rfl hHeld ?ybx6 ?rbx6
            case ybx6 => (intro w hSw; (try dsimp only at hSw); go_simp; all_goals with_reducible rfl)
            try simp only [Act.put, List.setIfInBounds_toArray, List.set_cons_zero, List.set_cons_succ]
            refine reg_take (i := 7) (v := ?vbx7) rfl (by kernel_rfl) rfl hHeld ?ybx7 ?rbx7
            case ybx7 => (intro w hSw; (try dsimp only at hSw); go_simp; all_goals with_reducible rfl)
            try simp only [Act.put, List.setIfInBounds_toArray, List.set_cons_zero, List.set_cons_succ]
            refine reg_take (i := 8) (v := ?vbx8) rfl (by kernel_rfl) rfl hHeld ?ybx8 ?rbx8
            case ybx8 => (intro w hSw; (try dsimp only at hSw); go_simp; all_goals with_reducible rfl)
            try simp only [Act.put, List.setIfInBounds_toArray, List.set_cons_zero, List.set_cons_succ]
            refine reg_take (i := 9) (v := ?vbx9) rfl (by kernel_rfl) rfl hHeld ?ybx9 ?rbx9
            case ybx9 => (intro w hSw; (try dsimp only at hSw); go_simp; all_goals with_reducible rfl)
            try simp only [Act.put, List.setIfInBounds_toArray, List.set_cons_zero, List.set_cons_succ]
            refine reg_take (i := 10) (v := ?vbx10) rfl (by kernel_rfl) rfl hHeld ?ybx10 ?rbx10
            case ybx10 => (intro w hSw; (try dsimp only at hSw); go_simp; all_goals with_reducible rfl)
            try simp only [Act.put, List.setIfInBounds_toArray, List.set_cons_zero, List.set_cons_succ]
            refine reg_loud (i := 11) rfl (by kernel_rfl) rfl (fun K hK => ?_)
            go_simp
            ((with_reducible refine (HADD.out).mono ?_))
            rintro e w5 ⟨rfl, h5, hb5⟩
            have HP5 := Lib.hid h5
            have HB5 := Lib.hid hb5
            have hk5 := KP.out w5 hb5
            clear h5 hb5
            refine hK.out _ _ (hk5) (fun hNew => ?_)
            clear hK K hHeld
            have hHeld := hNew
            clear hNew
            try simp only [Act.put, List.setIfInBounds_toArray, List.set_cons_zero, List.set_cons_succ]
            refine reg_take (i := 12) (v := ?vbx12) rfl (by kernel_rfl) rfl hHeld ?ybx12 ?rbx12
            case ybx12 => (intro w hSw; (try dsimp only at hSw); go_simp; all_goals with_reducible rfl)
            try simp only [Act.put, List.setIfInBounds_toArray, List.set_cons_zero, List.set_cons_succ]
            refine reg_done (by kernel_rfl) ?_ _
            clear hHeld hk5
            go_wp2_with fail
            go_roundw
            case rel => exact ⟨j, _, by omega, rfl, HIL.out, by rw [show ms.length - j = ms.length - (j + 1) + 1 by omega]; exact HP5.out, HBD.out.trans HB5.out⟩
            case measure => simp [intOf]
      next => as_aux_lemma =>
        go_wp2_with fail
        refine HNEW.out.mono ?_
        rintro e w2 ⟨p, rfl, hp, hb2⟩
        have HP2 := Lib.hid hp
        have HB2 := Lib.hid (HB.out.trans (hb2.mono HB.out.size))
        have HRD3 := Lib.hid (HRD2.out.below hb2)
        have hs2 := hb2.size
        clear hp hb2 HNEW HRD2 HB
        generalize wr.heap.size = B1 at *
        go_wp2_with fail
        refine (new_o 40 rfl (by omega)).mono ?_
        rintro e w3 ⟨q, rfl, hq, hb3⟩
        have HQ3 := Lib.hid hq
        have HB3 := Lib.hid hb3
        clear hq hb3
        go_wp2_with fail
        go_loopw [12] (fun v ws => ∃ (n : Nat) (Lq : List Int), n ≤ ms.length ∧ v = .int .i64 ((n : Int) - 1) ∧ IsL (ms.drop n) Lq ∧ PmO w2.heap.size ws q (ms.length - n) Lq 40 ∧ Below w2.heap.size w2 ws) (fun v _ => (intOf v + 1).toNat)
        case atStart => exact ⟨ms.length, List.replicate 40 (-1), Nat.le_refl _, rfl, by rw [List.drop_length]; exact isL_nil, by rw [Nat.sub_self]; exact HQ3.out, HB3.out⟩
        case round => as_aux_lemma =>
          obtain ⟨n, Lq, hn, rfl, hil, hq, hbs⟩ := hrel
          obtain ⟨ws, hws⟩ : ∃ ws, ws = wr := ⟨_, rfl⟩
          rw [← hws] at hq hbs ⊢
          clear hws
          clear HQ3 HB3
          have hsq := hbs.size
          rcases Nat.eq_zero_or_pos n with rfl | hn0
          · rw [List.drop_zero] at hil
            have heq : Lq = L := hil.eq HIS.out (fun r => (hq.1.rng r).1) (fun r => (HP2.out.1.rng r).1)
            subst heq
            rw [Nat.sub_zero] at hq
            have hp4 := HP2.out.below hbs
            have HQ4 : Hid (PmV (fun k => w2.heap.size ≤ k ∧ k < ws.heap.size) ws q ms.length Lq 40) := hq.1.lts
            have HP4 : Hid (PmE B1 (fun k => w2.heap.size ≤ k ∧ k < ws.heap.size) ws p ms.length Lq 40) := (PmE.of_own HP2.out).less hbs (fun k hk => Or.inr hk.1) (fun k hk => hk.2)
            have HRD4 := Lib.hid (HRD3.out.below hbs)
            have HB4 := Lib.hid (HB2.out.trans (hbs.mono (HB2.out.size)))
            have hla : ∀ ad, la = some ad → ad.block < B1 := by
              intro ad had
              exact HLA.out ad had
            have HLA2 := Lib.hid hla
            have dz : decide ((0 : Int) ≤ -1) = false := rfl
            clear hil hq hbs hp4 HP2 HB2 HRD3 hla
            rw [show (((0 : Nat) : Int) - 1) = -1 from rfl]
            go_wp2_with fail
            have hw4B : B1 ≤ ws.heap.size := HP4.out.le
            generalize hX : (fun k => w2.heap.size ≤ k ∧ k < ws.heap.size) = X at *
            have hXe : ∀ k, X k → w2.heap.size ≤ k := fun k hk => by rw [← hX] at hk; exact hk.1
            have HXE := Lib.hid hXe
            clear hX hXe
            go_loopw [13] (fun v wt => ∃ j : Nat, j ≤ ms.length ∧ v = .int .i64 j ∧ PmE B1 X wt p (ms.length + j) Lq 40 ∧ PmV X wt q ms.length Lq 40 ∧ RdP wt la ms ∧ Below w.heap.size w wt) (fun v _ => ms.length - (intOf v).toNat)
            case atStart => exact ⟨0, Nat.zero_le _, rfl, HP4.out, HQ4.out, HRD4.out, HB4.out⟩
            case round => as_aux_lemma =>
              obtain ⟨j, hj, rfl, hp, hq, hrd, hb⟩ := hrel
              obtain ⟨wt, hwt⟩ : ∃ wt, wt = wr := ⟨_, rfl⟩
              rw [← hwt] at hp hq hrd hb ⊢
              clear hwt
              clear HP4 HQ4 HRD4 HB4
              by_cases hlt : j < ms.length
              · obtain ⟨g, off, rfl, hg, hcs⟩ := hrd j hlt
                obtain ⟨q1, q2⟩ := hcs j hlt
                have hgb : g < B1 := HLA2.out _ rfl
                have hmem : (rowL ms j, posL ms j) ∈ ms := by
                  have : (rowL ms j, posL ms j) = ms[j] := by simp [rowL, posL, hlt]
                  rw [this]; exact List.getElem_mem hlt
                obtain ⟨⟨r00, r01⟩, ⟨p00, p01⟩⟩ := HG.out.rng _ hmem
                have hgl := (HIS.out.iff (rowL ms j) (posL ms j) p00).2 hmem
                generalize rowL ms j = r0 at *
                generalize posL ms j = p0 at *
                have r00 : 0 ≤ r0 := r00
                have r01 : r0 < 40 := r01
                have p00 : 0 ≤ p0 := p00
                obtain ⟨rn, rfl⟩ := Int.eq_ofNat_of_zero_le r00
                have hal : aL Lq p0 = rn := by
                  have hinj := hp.pv.inj
                  rcases aL_spec Lq p0 with ⟨i, a1, _, a3, _⟩ | ⟨_, a2⟩
                  · rw [a1]; exact hinj _ _ (by omega) (by omega)
                  · exact absurd hgl (a2 p00 _)
                have hac : addC Lq 40 rn 39 = 1 := by
                  unfold addC
                  rw [if_pos ⟨by omega, by have := HIS.out.len; omega, by omega, by omega⟩, if_pos (Or.inl (by omega))]
                have hadl : addL Lq 40 rn 39 = Lq := by unfold addL; rw [hac, if_neg (by omega)]
                have KP : Hid (∀ W, Chg (exS B1 X) wt W → W.cell? ⟨g, off + j * 2, none⟩ = some (.int .i64 (rn : Int)) ∧ W.cell? ⟨g, off + j * 2 + 1, none⟩ = some (.int .i64 p0)) := fun W hW =>
                  ⟨hW.cell q1 (fun h => by have : B1 ≤ g := h.1; omega), hW.cell q2 (fun h => by have : B1 ≤ g := h.1; omega)⟩
                have HP := Lib.hid hp
                have HQ := Lib.hid hq
                have HRD5 := Lib.hid hrd
                have HB := Lib.hid hb
                have HGL := Lib.hid hgl
                have HAL := Lib.hid hal
                have HAC := Lib.hid hac
                have HADL := Lib.hid hadl
                have hpd : PmE B1 X wt.drew p (ms.length + j) Lq 40 := HP.out.below (below_dr wt)
                have HPD := Lib.hid hpd
                have i0 : (0 : Int) ≤ (j : Int) := by omega
                have i1 : (j : Int) < (ms.length : Int) := by omega
                have dg : (p0 != p0) = false := by simp
                have dr : ((rn : Int) != (rn : Int)) = false := by simp
                clear hp hq hrd hb hgl hal hac hadl hpd hcs
                go_upto_region 22 with fail
                refine reg_start (fun w' => w'.cell? ⟨g, off + j * 2, none⟩ = some (.int .i64 (rn : Int)) ∧ w'.cell? ⟨g, off + j * 2 + 1, none⟩ = some (.int .i64 p0)) (by kernel_rfl) (⟨q1, q2⟩) (fun hHeld => ?_)
                refine reg_take (i := 0) (v := ?vdz0) rfl (by kernel_rfl) rfl hHeld ?ydz0 ?rdz0
                case ydz0 => (intro w hSw; (try dsimp only at hSw); go_simp; all_goals with_reducible rfl)
                try simp only [Act.put, List.setIfInBounds_toArray, List.set_cons_zero, List.set_cons_succ]
                refine reg_take (i := 1) (v := ?vdz1) rfl (by kernel_rfl) rfl hHeld ?ydz1 ?rdz1
                case ydz1 => (intro w hSw; (try dsimp only at hSw); go_simp; all_goals with_reducible rfl)
                try simp only [Act.put, List.setIfInBounds_toArray, List.set_cons_zero, List.set_cons_succ]
                refine reg_take (i := 2) (v := ?vdz2) rfl (by kernel_rfl) rfl hHeld ?ydz2 ?rdz2
                case ydz2 => (intro w hSw; (try dsimp only at hSw); go_simp; all_goals with_reducible rfl)
                try simp only [Act.put, List.setIfInBounds_toArray, List.set_cons_zero, List.set_cons_succ]
                refine reg_take (i := 3) (v := ?vdz3) rfl (by kernel_rfl) rfl hHeld ?ydz3 ?rdz3
                case ydz3 => (intro w hSw; (try dsimp only at hSw); go_simp; all_goals with_reducible rfl)
                try simp only [Act.put, List.setIfInBounds_toArray, List.set_cons_zero, List.set_cons_succ]
                refine reg_take (i := 4) (v := ?vdz4) rfl (by kernel_rfl) rfl hHeld ?ydz4 ?rdz4
                case ydz4 => (intro w hSw; (try dsimp only at hSw); go_simp; all_goals with_reducible rfl)
                try simp only [Act.put, List.setIfInBounds_toArray, List.set_cons_zero, List.set_cons_succ]
                refine reg_take (i := 5) (v := ?vdz5) rfl (by kernel_rfl) rfl hHeld ?ydz5 ?rdz5
                case ydz5 => (intro w hSw; (try dsimp only at hSw); go_simp; all_goals with_reducible rfl)
                try simp only [Act.put, List.setIfInBounds_toArray, List.set_cons_zero, List.set_cons_succ]
                refine reg_take (i := 7) (v := ?vdz7) rfl (by kernel_rfl) rfl hHeld ?ydz7 ?rdz7
                case ydz7 => (intro w hSw; (try dsimp only at hSw); go_simp; all_goals with_reducible rfl)
                try simp only [Act.put, List.setIfInBounds_toArray, List.set_cons_zero, List.set_cons_succ]
                refine reg_take (i := 8) (v := ?vdz8) rfl (by kernel_rfl) rfl hHeld ?ydz8 ?rdz8
                case ydz8 => (intro w hSw; (try dsimp only at hSw); go_simp; all_goals with_reducible rfl)
                try simp only [Act.put, List.setIfInBounds_toArray, List.set_cons_zero, List.set_cons_succ]
                refine reg_take (i := 9) (v := ?vdz9) rfl (by kernel_rfl) rfl hHeld ?ydz9 ?rdz9
                case ydz9 => (intro w hSw; (try dsimp only at hSw); go_simp; all_goals with_reducible rfl)
                try simp only [Act.put, List.setIfInBounds_toArray, List.set_cons_zero, List.set_cons_succ]
                refine reg_take (i := 10) (v := ?vdz10) rfl (by kernel_rfl) rfl hHeld ?ydz10 ?rdz10
                case ydz10 => (intro w hSw; (try dsimp only at hSw); go_simp; all_goals with_reducible rfl)
                try simp only [Act.put, List.setIfInBounds_toArray, List.set_cons_zero, List.set_cons_succ]
                refine reg_take (i := 11) (v := ?vdz11) rfl (by kernel_rfl) rfl hHeld ?ydz11 ?rdz11
                case ydz11 => (intro w hSw; (try dsimp only at hSw); go_simp; all_goals with_reducible rfl)
                try simp only [Act.put, List.setIfInBounds_toArray, List.set_cons_zero, List.set_cons_succ]
                refine reg_loud (i := 6) rfl (by kernel_rfl) rfl (fun K hK => ?_)
                go_simp
                ((with_reducible refine (pos_e HPD.out HGL.out).mono ?_))
                rintro e w6 ⟨rfl, h6, hc6⟩
                have HP6 := Lib.hid h6
                have HC6 := Lib.hid ((Chg.refl (S := exS B1 X) (w := wt)).drew.trans hc6 (fun b hb => Or.inl hb))
                have hk6 := KP.out w6 HC6.out
                clear h6 hc6
                refine hK.out _ _ (hk6) (fun hNew => ?_)
                clear hK K hHeld
                have hHeld := hNew
                clear hNew
                try simp only [Act.put, List.setIfInBounds_toArray, List.set_cons_zero, List.set_cons_succ]
                refine reg_take (i := 12) (v := ?vdz12) rfl (by kernel_rfl) rfl hHeld ?ydz12 ?rdz12
                case ydz12 => (intro w hSw; (try dsimp only at hSw); go_simp; all_goals with_reducible rfl)
                try simp only [Act.put, List.setIfInBounds_toArray, List.set_cons_zero, List.set_cons_succ]
                refine reg_take (i := 13) (v := ?vdz13) rfl (by kernel_rfl) rfl hHeld ?ydz13 ?rdz13
                case ydz13 => (intro w hSw; (try dsimp only at hSw); go_simp; all_goals with_reducible rfl)
                try simp only [Act.put, List.setIfInBounds_toArray, List.set_cons_zero, List.set_cons_succ]
                refine reg_take (i := 14) (v := ?vdz14) rfl (by kernel_rfl) rfl hHeld ?ydz14 ?rdz14
                case ydz14 => (intro w hSw; (try dsimp only at hSw); go_simp; all_goals with_reducible rfl)
                try simp only [Act.put, List.setIfInBounds_toArray, List.set_cons_zero, List.set_cons_succ]
                refine reg_take (i := 15) (v := ?vdz15) rfl (by kernel_rfl) rfl hHeld ?ydz15 ?rdz15
                case ydz15 => (intro w hSw; (try dsimp only at hSw); go_simp; all_goals with_reducible rfl)
                try simp only [Act.put, List.setIfInBounds_toArray, List.set_cons_zero, List.set_cons_succ]
                refine reg_take (i := 16) (v := ?vdz16) rfl (by kernel_rfl) rfl hHeld ?ydz16 ?rdz16
                case ydz16 => (intro w hSw; (try dsimp only at hSw); go_simp; all_goals with_reducible rfl)
                try simp only [Act.put, List.setIfInBounds_toArray, List.set_cons_zero, List.set_cons_succ]
                refine reg_take (i := 17) (v := ?vdz17) rfl (by kernel_rfl) rfl hHeld ?ydz17 ?rdz17
                case ydz17 => (intro w hSw; (try dsimp only at hSw); go_simp; all_goals with_reducible rfl)
                try simp only [Act.put, List.setIfInBounds_toArray, List.set_cons_zero, List.set_cons_succ]
                refine reg_take (i := 18) (v := ?vdz18) rfl (by kernel_rfl) rfl hHeld ?ydz18 ?rdz18
                case ydz18 => (intro w hSw; (try dsimp only at hSw); go_simp; all_goals with_reducible rfl)
                try simp only [Act.put, List.setIfInBounds_toArray, List.set_cons_zero, List.set_cons_succ]
                refine reg_take (i := 19) (v := ?vdz19) rfl (by kernel_rfl) rfl hHeld ?ydz19 ?rdz19
                case ydz19 => (intro w hSw; (try dsimp only at hSw); go_simp; all_goals with_reducible rfl)
                try simp only [Act.put, List.setIfInBounds_toArray, List.set_cons_zero, List.set_cons_succ]
                refine reg_take (i := 21) (v := ?vdz21) rfl (by kernel_rfl) rfl hHeld ?ydz21 ?rdz21
                case ydz21 => (intro w hSw; (try dsimp only at hSw); go_simp; all_goals with_reducible rfl)
                try simp only [Act.put, List.setIfInBounds_toArray, List.set_cons_zero, List.set_cons_succ]
                refine reg_take (i := 22) (v := ?vdz22) rfl (by kernel_rfl) rfl hHeld ?ydz22 ?rdz22
                case ydz22 => (intro w hSw; (try dsimp only at hSw); go_simp; all_goals with_reducible rfl)
                try simp only [Act.put, List.setIfInBounds_toArray, List.set_cons_zero, List.set_cons_succ]
                refine reg_take (i := 23) (v := ?vdz23) rfl (by kernel_rfl) rfl hHeld ?ydz23 ?rdz23
                case ydz23 => (intro w hSw; (try dsimp only at hSw); go_simp; all_goals with_reducible rfl)
                try simp only [Act.put, List.setIfInBounds_toArray, List.set_cons_zero, List.set_cons_succ]
                refine reg_take (i := 24) (v := ?vdz24) rfl (by kernel_rfl) rfl hHeld ?ydz24 ?rdz24
                case ydz24 => (intro w hSw; (try dsimp only at hSw); go_simp; all_goals with_reducible rfl)
                try simp only [Act.put, List.setIfInBounds_toArray, List.set_cons_zero, List.set_cons_succ]
                refine reg_take (i := 25) (v := ?vdz25) rfl (by kernel_rfl) rfl hHeld ?ydz25 ?rdz25
                case ydz25 => (intro w hSw; (try dsimp only at hSw); go_simp; all_goals with_reducible rfl)
                try simp only [Act.put, List.setIfInBounds_toArray, List.set_cons_zero, List.set_cons_succ]
                refine reg_loud (i := 20) rfl (by kernel_rfl) rfl (fun K hK => ?_)
                go_simp
                ((with_reducible refine (row_e HP6.out HAL.out).mono ?_))
                rintro e w7 ⟨rfl, h7, hc7⟩
                have HP7 := Lib.hid h7
                have HC7 := Lib.hid (HC6.out.trans hc7 (fun b hb => Or.inl hb))
                have hk7 := KP.out w7 HC7.out
                clear h7 hc7
                refine hK.out _ _ (hk7) (fun hNew => ?_)
                clear hK K hHeld
                have hHeld := hNew
                clear hNew
                try simp only [Act.put, List.setIfInBounds_toArray, List.set_cons_zero, List.set_cons_succ]
                refine reg_take (i := 26) (v := ?vdz26) rfl (by kernel_rfl) rfl hHeld ?ydz26 ?rdz26
                case ydz26 => (intro w hSw; (try dsimp only at hSw); go_simp; all_goals with_reducible rfl)
                try simp only [Act.put, List.setIfInBounds_toArray, List.set_cons_zero, List.set_cons_succ]
                refine reg_take (i := 27) (v := ?vdz27) rfl (by kernel_rfl) rfl hHeld ?ydz27 ?rdz27
                case ydz27 => (intro w hSw; (try dsimp only at hSw); go_simp; all_goals with_reducible rfl)
                try simp only [Act.put, List.setIfInBounds_toArray, List.set_cons_zero, List.set_cons_succ]
                refine reg_take (i := 28) (v := ?vdz28) rfl (by kernel_rfl) rfl hHeld ?ydz28 ?rdz28
                case ydz28 => (intro w hSw; (try dsimp only at hSw); go_simp; all_goals with_reducible rfl)
                try simp only [Act.put, List.setIfInBounds_toArray, List.set_cons_zero, List.set_cons_succ]
                refine reg_take (i := 29) (v := ?vdz29) rfl (by kernel_rfl) rfl hHeld ?ydz29 ?rdz29
                case ydz29 => (intro w hSw; (try dsimp only at hSw); go_simp; all_goals with_reducible rfl)
                try simp only [Act.put, List.setIfInBounds_toArray, List.set_cons_zero, List.set_cons_succ]
                refine reg_take (i := 30) (v := ?vdz30) rfl (by kernel_rfl) rfl hHeld ?ydz30 ?rdz30
                case ydz30 => (intro w hSw; (try dsimp only at hSw); go_simp; all_goals with_reducible rfl)
                try simp only [Act.put, List.setIfInBounds_toArray, List.set_cons_zero, List.set_cons_succ]
                refine reg_take (i := 31) (v := ?vdz31) rfl (by kernel_rfl) rfl hHeld ?ydz31 ?rdz31
                case ydz31 => (intro w hSw; (try dsimp only at hSw); go_simp; all_goals with_reducible rfl)
                try simp only [Act.put, List.setIfInBounds_toArray, List.set_cons_zero, List.set_cons_succ]
                refine reg_take (i := 32) (v := ?vdz32) rfl (by kernel_rfl) rfl hHeld ?ydz32 ?rdz32
                case ydz32 => (intro w hSw; (try dsimp only at hSw); go_simp; all_goals with_reducible rfl)
                try simp only [Act.put, List.setIfInBounds_toArray, List.set_cons_zero, List.set_cons_succ]
                refine reg_take (i := 33) (v := ?vdz33) rfl (by kernel_rfl) rfl hHeld ?ydz33 ?rdz33
                case ydz33 => (intro w hSw; (try dsimp only at hSw); go_simp; all_goals with_reducible rfl)
                try simp only [Act.put, List.setIfInBounds_toArray, List.set_cons_zero, List.set_cons_succ]
                refine reg_take (i := 34) (v := ?vdz34) rfl (by kernel_rfl) rfl hHeld ?ydz34 ?rdz34
                case ydz34 => (intro w hSw; (try dsimp only at hSw); go_simp; all_goals with_reducible rfl)
                try simp only [Act.put, List.setIfInBounds_toArray, List.set_cons_zero, List.set_cons_succ]
                refine reg_loud (i := 35) rfl (by kernel_rfl) rfl (fun K hK => ?_)
                go_simp
                ((with_reducible refine (add_e HP7.out (by omega) HAC.out HADL.out).mono ?_))
                rintro e w8 ⟨rfl, h8, hc8⟩
                have HP8 := Lib.hid h8
                have HC8 := Lib.hid (HC7.out.trans hc8 (fun b hb => Or.inl hb))
                have hk8 := KP.out w8 HC8.out
                clear h8 hc8
                refine hK.out _ _ (hk8) (fun hNew => ?_)
                clear hK K hHeld
                have hHeld := hNew
                clear hNew
                try simp only [Act.put, List.setIfInBounds_toArray, List.set_cons_zero, List.set_cons_succ]
                refine reg_take (i := 36) (v := ?vdz36) rfl (by kernel_rfl) rfl hHeld ?ydz36 ?rdz36
                case ydz36 => (intro w hSw; (try dsimp only at hSw); go_simp; all_goals with_reducible rfl)
                try simp only [Act.put, List.setIfInBounds_toArray, List.set_cons_zero, List.set_cons_succ]
                refine reg_take (i := 37) (v := ?vdz37) rfl (by kernel_rfl) rfl hHeld ?ydz37 ?rdz37
                case ydz37 => (intro w hSw; (try dsimp only at hSw); go_simp; all_goals with_reducible rfl)
                try simp only [Act.put, List.setIfInBounds_toArray, List.set_cons_zero, List.set_cons_succ]
                refine reg_done (by kernel_rfl) ?_ _
                have hch : Chg (exS B1 X) wt w8 := HC8.out
                have hq8 : PmV X w8 q ms.length Lq 40 := HQ.out.chg hch (fun k hk h => h.2 hk)
                have hr8 : RdP w8 (some ⟨g, off, none⟩) ms := HRD5.out.chg hch (fun ad had h => by
                  injection had with had
                  subst had
                  have : B1 ≤ g := h.1
                  omega)
                have hb8 : Below w.heap.size w w8 := HB.out.trans (hch.below (fun b hb => by have := hb.1; have := HBB.out; omega) HB.out.size)
                have HQ8 := Lib.hid hq8
                have HR8 := Lib.hid hr8
                have HB8 := Lib.hid hb8
                clear hch hq8 hr8 hb8 hHeld
                go_wp2_with fail
                go_roundw
                case rel => exact ⟨j + 1, by omega, by go_num, by rw [← Nat.add_assoc]; exact HP8.out, HQ8.out, HR8.out, HB8.out⟩
                case measure => simp [intOf]; omega
              · obtain rfl : j = ms.length := by omega
                have HP := Lib.hid hp
                have HQ := Lib.hid hq
                have HB := Lib.hid hb
                have hpl := HIS.out.plen HG.out
                have HPL := Lib.hid hpl
                clear hp hq hrd hb hpl
                go_wp2_with fail
                refine (told11_any _).mono ?_
                rintro e w5 ⟨rfl, hb5⟩
                have HP5 := Lib.hid (HP.out.below hb5)
                have HQ5 := Lib.hid (HQ.out.below hb5)
                have HB5 := Lib.hid (HB.out.trans (hb5.mono HB.out.size))
                clear hb5 HP HQ HB
                go_wp2_with fail
                refine (all_e HP5.out (l := prL 0 Lq) rfl).mono ?_
                rintro e w6 hg
                obtain ⟨qa, qd, rfl, hown, hb6⟩ := hg
                have HRA := Lib.hid (rdp_own hown rfl)
                have HP6 := Lib.hid (HP5.out.below hb6)
                have HQ6 := Lib.hid (HQ5.out.below hb6)
                have HB6 := Lib.hid (HB5.out.trans (hb6.mono HB5.out.size))
                clear hown hb6 HP5 HQ5 HB5
                go_wp2_with fail
                refine (pAll_v HQ6.out (by omega)).mono ?_
                rintro e w7 hg
                obtain ⟨qb, qe, rfl, hown, hb7⟩ := hg
                have HPAIR := Lib.hid (pairs_true (c := qd) (d := qe) (n := (prL 0 Lq).length) (m := (prL 0 Lq).length) (prL 0 Lq) rfl rfl (HRA.out.below hb7) (rdp_own hown rfl) (by rw [HPL.out]; omega))
                have HP7 := Lib.hid (HP6.out.below hb7)
                have HB7 := Lib.hid (HB6.out.trans (hb7.mono HB6.out.size))
                clear hown hb7 HP6 HQ6 HB6 HRA
                go_wp2_with fail
                refine HPAIR.out.mono ?_
                rintro e w8 ⟨rfl, hb8⟩
                have HP8 := Lib.hid (HP7.out.below hb8)
                have HB8 := Lib.hid (HB7.out.trans (hb8.mono HB7.out.size))
                clear hb8 HP7 HB7 HPAIR
                go_wp2_with fail
                refine (all_e HP8.out (l := prL 0 Lq) rfl).mono ?_
                rintro e w9 hg
                obtain ⟨qa, qd, rfl, hown, hb9⟩ := hg
                rw [HPL.out]
                have HB9 := Lib.hid (HB8.out.trans (hb9.mono HB8.out.size))
                clear hown hb9
                go_wp2_with fail
                go_ret
                exact ⟨rfl, HB9.out⟩
          · obtain ⟨j, rfl⟩ : ∃ j, n = j + 1 := ⟨n - 1, by omega⟩
            have hjl : j < ms.length := by omega
            obtain ⟨hac, hil2⟩ := hil.drop HG.out hjl
            obtain ⟨g, off, rfl, hg, hcs⟩ := (HRD3.out.below hbs) j hjl
            obtain ⟨q1, q2⟩ := hcs j hjl
            have hg2 : g < w2.heap.size := by
              obtain ⟨g', off', e, h, _⟩ := HRD3.out j hjl
              injection e with e
              injection e with e _ _
              omega
            generalize rowL ms j = r0 at *
            generalize posL ms j = p0 at *
            have HADD := Lib.hid (add_o (hq.below (below_dr ws)) (by omega) (x := r0) (y := p0) hac rfl)
            have hbd : Below w2.heap.size w2 ws.drew := hbs.trans ⟨rfl, rfl, rfl, Nat.le_refl _, fun _ _ => rfl⟩
            have KP : Hid (∀ W, Below w2.heap.size ws.drew W → W.cell? ⟨g, off + j * 2, none⟩ = some (.int .i64 r0) ∧ W.cell? ⟨g, off + j * 2 + 1, none⟩ = some (.int .i64 p0)) := fun W hW =>
              ⟨(hW.cell (p := ⟨g, off + j * 2, none⟩) hg2).trans q1, (hW.cell (p := ⟨g, off + j * 2 + 1, none⟩) hg2).trans q2⟩
            have HIL := Lib.hid hil2
            have HBD := Lib.hid hbd
            have i0 : (0 : Int) ≤ (j : Int) := by omega
            have i1 : (j : Int) < (ms.length : Int) := by omega
            have dz : decide ((0 : Int) ≤ (j : Int)) = true := decide_eq_true i0
            rw [show (((j + 1 : Nat) : Int) - 1) = (j : Int) by omega]
            clear hil hil2 hac hq hbs hbd hcs
            go_upto_region 17 with fail
            refine reg_start (fun w' => w'.cell? ⟨g, off + j * 2, none⟩ = some (.int .i64 r0) ∧ w'.cell? ⟨g, off + j * 2 + 1, none⟩ = some (.int .i64 p0)) (by kernel_rfl) (⟨q1, q2⟩) (fun hHeld => ?_)
            refine reg_take (i := 0) (v := ?vbz0) rfl (by kernel_rfl) rfl hHeld ?ybz0 ?rbz0
            case ybz0 => (intro w hSw; (try dsimp only at hSw); go_simp; all_goals with_reducible rfl)
            try simp only [Act.put, List.setIfInBounds_toArray, List.set_cons_zero, List.set_cons_succ]
            refine reg_take (i := 1) (v := ?vbz1) rfl (by kernel_rfl) rfl hHeld ?ybz1 ?rbz1
            case ybz1 => (intro w hSw; (try dsimp only at hSw); go_simp; all_goals with_reducible rfl)
            try simp only [Act.put, List.setIfInBounds_toArray, List.set_cons_zero, List.set_cons_succ]
            refine reg_take (i := 2) (v := ?vbz2) rfl (by kernel_rfl) rfl hHeld ?ybz2 ?rbz2
            case ybz2 => (intro w hSw; (try dsimp only at hSw); go_simp; all_goals with_reducible rfl)
            try simp only [Act.put, List.setIfInBounds_toArray, List.set_cons_zero, List.set_cons_succ]
            refine reg_take (i := 3) (v := ?vbz3) rfl (by kernel_rfl) rfl hHeld ?ybz3 ?rbz3
            case ybz3 => (intro w hSw; (try dsimp only at hSw); go_simp; all_goals with_reducible rfl)
            try simp only [Act.put, List.setIfInBounds_toArray, List.set_cons_zero, List.set_cons_succ]
            refine reg_take (i := 4) (v := ?vbz4) rfl (by kernel_rfl) rfl hHeld ?ybz4 ?rbz4
            case ybz4 => (intro w hSw; (try dsimp only at hSw); go_simp; all_goals with_reducible rfl)
            try simp only [Act.put, List.setIfInBounds_toArray, List.set_cons_zero, List.set_cons_succ]
            refine reg_take (i := 5) (v := ?vbz5) rfl (by kernel_rfl) rfl hHeld ?ybz5 ?rbz5
            case ybz5 => (intro w hSw; (try dsimp only at hSw); go_simp; all_goals with_reducible rfl)
            try simp only [Act.put, List.setIfInBounds_toArray, List.set_cons_zero, List.set_cons_succ]
            refine reg_take (i := 6) (v := ?vbz6) rfl (by kernel_rfl) rfl hHeld ?ybz6 ?rbz6
            case ybz6 => (intro w hSw; (try dsimp only at hSw); go_simp; all_goals with_reducible rfl)
            try simp only [Act.put, List.setIfInBounds_toArray, List.set_cons_zero, List.set_cons_succ]
            refine reg_take (i := 7) (v := ?vbz7) rfl (by kernel_rfl) rfl hHeld ?ybz7 ?rbz7
            case ybz7 => (intro w hSw; (try dsimp only at hSw); go_simp; all_goals with_reducible rfl)
            try simp only [Act.put, List.setIfInBounds_toArray, List.set_cons_zero, List.set_cons_succ]
            refine reg_take (i := 8) (v := ?vbz8) rfl (by kernel_rfl) rfl hHeld ?ybz8 ?rbz8
            case ybz8 => (intro w hSw; (try dsimp only at hSw); go_simp; all_goals with_reducible rfl)
            try simp only [Act.put, List.setIfInBounds_toArray, List.set_cons_zero, List.set_cons_succ]
            refine reg_take (i := 9) (v := ?vbz9) rfl (by kernel_rfl) rfl hHeld ?ybz9 ?rbz9
            case ybz9 => (intro w hSw; (try dsimp only at hSw); go_simp; all_goals with_reducible rfl)
            try simp only [Act.put, List.setIfInBounds_toArray, List.set_cons_zero, List.set_cons_succ]
            refine reg_take (i := 10) (v := ?vbz10) rfl (by kernel_rfl) rfl hHeld ?ybz10 ?rbz10
            case ybz10 => (intro w hSw; (try dsimp only at hSw); go_simp; all_goals with_reducible rfl)
            try simp only [Act.put, List.setIfInBounds_toArray, List.set_cons_zero, List.set_cons_succ]
            refine reg_loud (i := 11) rfl (by kernel_rfl) rfl (fun K hK => ?_)
            go_simp
            ((with_reducible refine (HADD.out).mono ?_))
            rintro e w5 ⟨rfl, h5, hb5⟩
            have HP5 := Lib.hid h5
            have HB5 := Lib.hid hb5
            have hk5 := KP.out w5 hb5
            clear h5 hb5
            refine hK.out _ _ (hk5) (fun hNew => ?_)
            clear hK K hHeld
            have hHeld := hNew
            clear hNew
            try simp only [Act.put, List.setIfInBounds_toArray, List.set_cons_zero, List.set_cons_succ]
            refine reg_take (i := 12) (v := ?vbz12) rfl (by kernel_rfl) rfl hHeld ?ybz12 ?rbz12
            case ybz12 => (intro w hSw; (try dsimp only at hSw); go_simp; all_goals with_reducible rfl)
            try simp only [Act.put, List.setIfInBounds_toArray, List.set_cons_zero, List.set_cons_succ]
            refine reg_done (by kernel_rfl) ?_ _
            clear hHeld hk5
            go_wp2_with fail
            go_roundw
            case rel => exact ⟨j, _, by omega, rfl, HIL.out, by rw [show ms.length - j = ms.length - (j + 1) + 1 by omega]; exact HP5.out, HBD.out.trans HB5.out⟩
            case measure => simp [intOf]

end Go.Proofs.Ytpbmhdkhkbhgnaa
