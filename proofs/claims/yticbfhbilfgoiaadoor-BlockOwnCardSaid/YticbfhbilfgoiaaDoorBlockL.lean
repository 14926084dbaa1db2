/- The laws' helpers of layer 2: Bits, told; frames of blocks for a law's walk. -/
import Derived.Test.YticbfhbilfgoiaaDoorBlockJ
import Derived.Test.YticbfhbilfgoiaaDoorRef1B
import Derived.Test.YticbfhbilfgoiaaDoorArgs
import Derived.Test.YticbfhbilfgoiaaDoorBitsL
namespace Go.Proofs.YticbfhbilfgoiaaDoor
set_option linter.unusedVariables false
set_option linter.unusedSimpArgs false
open Go.RowKit

/-- What is returned is some row of bools of the call's own, of at most so many. -/
def SomeB (B : Nat) (w : World) (most : Nat) (e : Ending) (w' : World) : Prop := ∃ l : List Bool, l.length ≤ most ∧ GivesB B w l e w'

set_option maxHeartbeats 1600000 in
theorem lawBits_any (a : Option Addr) (c : Nat) (z : List Int) (most : Nat) (w : World) (hr : Reads w .i64 a z) (hm : most ≤ 1000) (hz : z.length ≤ maxLen) :
    Calls Tryd.prog 27 #[.slice a z.length c, .int .i64 most] w (SomeB w.heap.size w most) := by
  unfold maxLen at hz
  go_enter Tryd.func27, Tryd.ntmps27
  go_wp2_with fail
  go_loopw [5, 6] (fun v i wr => ∃ (k : Nat) (l : List Bool), k ≤ z.length ∧ l.length ≤ most ∧ i = .int .i64 k ∧ wr.ownsRow w.heap.size 4 1 v l.length (l.map Value.bool) ∧ Below w.heap.size w wr) (fun _ i _ => z.length - (intOf i).toNat)
  case atStart => exact ⟨0, [], Nat.zero_le _, Nat.zero_le _, rfl, World.ownsRow_nil _ _ _ _, Below.refl _ _⟩
  case round =>
    obtain ⟨k, l, hk, hl, rfl, hown, hb⟩ := hrel
    by_cases hlt : k < z.length
    · obtain ⟨b, off, rfl, hbl, hcells⟩ := hr.some (by omega)
      have hcx : Hid (∀ w', Below w.heap.size w w' → w'.cell? ⟨b, off + k, none⟩ = some (.int .i64 (z[k]?.getD 0))) := fun w' hb => (hb.cell (p := ⟨b, off + k, none⟩) hbl).trans (hcells k hlt)
      have hc0 := hcx.out wr hb
      generalize z[k]?.getD 0 = x at *
      obtain ⟨u, hu0, hu1, hu⟩ : ∃ u : Int, 0 ≤ u ∧ u < 18446744073709551616 ∧ IntKind.u64.wrap x = u := ⟨IntKind.u64.wrap x, by rw [IntKind.wrap_u64]; omega, by rw [IntKind.wrap_u64]; omega, rfl⟩
      have hn0 : Hid (∃ n : Nat, n ≤ 12 ∧ u / 2 % 12 = (n : Int)) := ⟨(u / 2 % 12).toNat, by omega, by omega⟩
      clear hcells
      go_wp2_with fail
      obtain ⟨wo, rfl⟩ : ∃ wo : World, wo = wr := ⟨_, rfl⟩
      go_loopw [5, 7] (fun v i wr => ∃ (n : Nat) (l : List Bool), n ≤ 12 ∧ l.length ≤ most ∧ i = .int .u64 n ∧ wr.ownsRow w.heap.size 4 1 v l.length (l.map Value.bool) ∧ Below w.heap.size w wr) (fun _ i _ => (intOf i).toNat)
      case atStart =>
        obtain ⟨n, h1, h2⟩ := hn0.out
        exact ⟨n, l, h1, hl, by rw [h2], hown, hb⟩
      case round =>
        clear hc0 hown hb hl
        obtain ⟨n, l, hn, hl, rfl, hown, hb⟩ := hrel
        have hs := hb.size
        have hc0 := hcx.out wr hb
        obtain ⟨v, c, rfl, _, _⟩ := own_slice hown
        by_cases h1 : 0 < n ∧ l.length < most
        · obtain ⟨h1, h2⟩ := h1
          go_wp2_with (at_builtin; refine wpList_push rfl _ _ 40 rfl w.heap.size 4 Tryd.infoBoolR Tryd.underlying40 rfl _ _ _ rfl hown rfl rfl ?c1 ?c2 ?c3 ?_)
          case c1 => unfold maxLen; omega
          case c2 => omega
          case c3 => omega
          intro v' w1 hown' hgrow
          have hnx' : Below w.heap.size w w1 := hb.grown hgrow hs (fun j hj => (hown.lt j hj).1)
          generalize (bits BinOp.and IntKind.i64 x 1 == 1) = bv at *
          have HO : Hid (w1.ownsRow w.heap.size 4 1 v' (l ++ [bv]).length ((l ++ [bv]).map Value.bool)) := by
            show w1.ownsRow _ _ _ _ _ _
            rw [List.length_append, List.map_append]; exact hown'
          clear hown hgrow hown'
          go_wp2_with fail
          go_roundw
          case rel => exact ⟨n - 1, l ++ [bv], by omega, by rw [List.length_append]; simp; omega, by rw [show ((n - 1 : Nat) : Int) = (n : Int) - 1 by omega], HO.out, hnx'⟩
          case measure => simp [intOf]; omega
        · have hor : n = 0 ∨ (0 < n ∧ most ≤ l.length) := by omega
          rcases hor with rfl | ⟨h2, h3⟩
          · go_wp2_with fail
            go_roundw
            case rel => exact ⟨k + 1, l, by omega, hl, by go_num, hown, hb⟩
            case measure => simp [intOf]; omega
          · have hd : decide ((l.length : Int) < (most : Int)) = false := by simp; omega
            go_wp2_with fail
            go_roundw
            case rel => exact ⟨k + 1, l, by omega, hl, by go_num, hown, hb⟩
            case measure => simp [intOf]; omega
    · go_wp2_with fail
      go_ret
      exact ⟨l, hl, _, rfl, hown, hb⟩

/-- 'append(s, x...)' onto an own row behind a guard that is met. -/
theorem wpList_appendG {P : Program} {w : World} {ops : Array Oper} {rest : List Oper} {o : Oper} {a : Act} {Q : Exit → Act → World → Prop} (hw : Region.wanted o (yielded ops a.tmps) = true) (s x : Operand) (t : TypeId)
    (ho : o.op = .call { callee := .builtin .append, args := #[s, x], argTypes := #[t, t] })
    (base : Nat) (e : TypeId) {z : Value} {bytes : Nat} (hinfo : (P.info? e).map (fun i => (i.zero, i.size, i.bytes)) = some (some z, 1, bytes)) (ht : P.underlying t = some (.slice e)) (hz1 : z.cells.size = 1)
    (v : Value) (n : Nat) (xs : List Value) (hs : a.eval s = v) (hown : w.ownsRow base e 1 v n xs)
    (ad : Option Addr) (m c : Nat) (news : List Value) (hx : a.eval x = .slice ad m c) (hl : news.length = m) (hnil : ad = none → m = 0 ∧ c = 0)
    (hnews : ∀ p, ad = some p → ∀ j u, news[j]? = some u → w.cell? (p.add j) = some u) (h1 : ∀ u ∈ news, u.oneCell' = true)
    (h63 : n + m ≤ maxLen) (hbytes : (n + m) * bytes ≤ 140737488355328) (hbase : base ≤ w.heap.size)
    (h : ∀ a' c' w', w'.ownsRow base e 1 (.slice a' (n + m) c') (n + m) (xs ++ news) → w.grownBy w' v.ownBlock → (∀ g, a' = some ⟨g, 0, none⟩ → v.ownBlock = some g ∨ w.heap.size ≤ g) →
      wpList P ops Q rest (a.put o.dst (.slice a' (n + m) c')) w') : wpList P ops Q (o :: rest) a w :=
  wpList_step fun K hK => by
    rw [if_pos hw]
    exact wp_appendL s x t ho base e hinfo ht hz1 v n xs hs hown ad m c news hx hl hnil hnews h1 h63 hbytes hbase (fun a' c' w' h1 h2 h3 => hK _ _ (h a' c' w' h1 h2 h3))

/-- What a law's walk keeps of a block of its own. -/
def BkAt (B : Nat) (w : World) (p : Nat) (l : List Bool) : Prop := IsBlock w p l ∧ B ≤ p
theorem BkAt.below {B : Nat} {w w' : World} {p : Nat} {l : List Bool} (h : BkAt B w p l) (hb : Below w.heap.size w w') : BkAt B w' p l := ⟨h.1.below' hb, h.2⟩
theorem BlkStep.out {B : Nat} {w w' : World} {p : Nat} {l m : List Bool} (h : BlkStep w w' p m) (h0 : BkAt B w p l) (hB : B ≤ w.heap.size) : BkAt B w' p m ∧ Below B w w' :=
  ⟨⟨h.1, h0.2⟩, h.2.below (fun b hb => by have := h0.2; omega) hB⟩

theorem ins_at {B : Nat} {w : World} {p : Nat} {l m : List Bool} {k : Int} {b : Bool} (h : BkAt B w p l) (hB : B ≤ w.heap.size) (n : Nat) (hk : k = (n : Int)) (hl : l.length < 128) (hn : n ≤ l.length) (hm : inL l n b = m) :
    Calls Tryd.prog 30 #[.pointer (some ⟨p, 0, none⟩), .int .i64 k, .bool b] w fun e w' => e = .returned (.int .i64 0) ∧ BkAt B w' p m ∧ Below B w w' := by
  subst hk hm
  refine (blkInsert h.1 hl n hn b).mono ?_
  rintro e w' ⟨rfl, hs⟩
  exact ⟨rfl, hs.out h hB⟩
theorem del_at {B : Nat} {w : World} {p : Nat} {l m : List Bool} {k : Int} {x : Bool} (h : BkAt B w p l) (hB : B ≤ w.heap.size) (n : Nat) (hk : k = (n : Int)) (hn : n < l.length) (hm : outL l n = m) (hx : bitAt l n = x) :
    Calls Tryd.prog 32 #[.pointer (some ⟨p, 0, none⟩), .int .i64 k] w fun e w' => e = .returned (.tuple #[.bool x, .int .i64 0]) ∧ BkAt B w' p m ∧ Below B w w' := by
  subst hk hm hx
  refine (blkDelete h.1 n hn).mono ?_
  rintro e w' ⟨rfl, hs⟩
  exact ⟨rfl, hs.out h hB⟩
/-- Split, of a block of the call's own. -/
def SplitAt (B : Nat) (w : World) (p : Nat) (l : List Bool) (e : Ending) (w' : World) : Prop :=
  ∃ q, e = .returned (.pointer (some ⟨q, 0, none⟩)) ∧ BkAt B w' q (l.drop (l.length / 2)) ∧ BkAt B w' p (l.take (l.length / 2)) ∧ p ≠ q ∧ Below B w w'
theorem split_at {B : Nat} {w : World} {p : Nat} {l : List Bool} (h : BkAt B w p l) (hB : B ≤ w.heap.size) :
    Calls Tryd.prog 35 #[.pointer (some ⟨p, 0, none⟩)] w (SplitAt B w p l) := by
  refine (blkSplit h.1).mono ?_
  rintro e w' ⟨q, rfl, hq, h1, h2, hc⟩
  exact ⟨q, rfl, ⟨h1, by omega⟩, ⟨h2, h.2⟩, fun e => by have := h.1.lt; omega, hc.below (fun b hb => by have := h.2; omega) hB⟩
/-- Join, of blocks of the call's own. -/
def JoinAt (B : Nat) (w : World) (p q : Nat) (l m : List Bool) (e : Ending) (w' : World) : Prop :=
  e = .returned (.int .i64 0) ∧ BkAt B w' p (l ++ m) ∧ BkAt B w' q [] ∧ Below B w w'
theorem join_at {B : Nat} {w : World} {p q : Nat} {l m : List Bool} (h : BkAt B w p l) (h2 : BkAt B w q m) (hpq : p ≠ q) (hB : B ≤ w.heap.size) (hl : l.length + m.length ≤ 128) :
    Calls Tryd.prog 37 #[.pointer (some ⟨p, 0, none⟩), .pointer (some ⟨q, 0, none⟩)] w (JoinAt B w p q l m) := by
  refine (blkJoin h.1 h2.1 hpq hl).mono ?_
  rintro e w' ⟨rfl, h3, h4, hc⟩
  exact ⟨rfl, ⟨h3, h.2⟩, ⟨h4, h2.2⟩, hc.below (fun b hb => by have := h.2; have := h2.2; rcases hb with rfl | rfl <;> omega) hB⟩
theorem new_blk {B : Nat} {w : World} {a : Option Addr} {c n : Nat} (l : List Bool) (hn : n = l.length) (hr : ReadsV w a (l.map Value.bool)) (hl : l.length ≤ 128) (hB : B ≤ w.heap.size) :
    Calls Tryd.prog 28 #[.slice a n c] w fun e w' => e = .returned (.tuple #[.pointer (some ⟨w.heap.size, 0, none⟩), .int .i64 0]) ∧ BkAt B w' w.heap.size l ∧ Below w.heap.size w w' := by
  subst hn
  refine (blkNew w a c l hr hl).mono ?_
  rintro e w' ⟨rfl, h, hb⟩
  exact ⟨rfl, ⟨h, hB⟩, hb⟩
theorem below_drewW {B : Nat} {w w' : World} (h : Below B w w') (n : Nat) : Below B w (w'.drewN n) := ⟨h.os, h.tape, h.output, h.size, h.block⟩

set_option maxHeartbeats 3200000 in
set_option maxRecDepth 100000 in
theorem told2_any (w : World) (hT : BitTab w) : Calls Tryd.prog 29 #[] w fun e w' => e = .returned (.bool true) ∧ Below w.heap.size w w' := by
  have HT := Lib.hid hT; clear hT
  go_enter Tryd.func29, Tryd.ntmps29
  go_wp2_with fail
  refine (new_blk (B := w.heap.size) [true, false, true] rfl (by exact readsV_block (xs := [.bool true, .bool false, .bool true]) (heap_alloc_new w _)) (by decide) (by simp)).mono ?_
  rintro e w1 ⟨rfl, hk, hb0⟩
  have hb : Below w.heap.size w w1 := (below_alloc w (.cells #[.bool true, .bool false, .bool true] 4)).trans (hb0.mono (by simp))
  have hs := hb.size
  clear hb0
  generalize (w.alloc (.cells #[.bool true, .bool false, .bool true] 4)).heap.size = p at *
  go_wp2_with fail
  refine (ins_at (m := [true, true, false, true]) hk hs 1 rfl (by decide) (by decide) rfl).mono ?_
  rintro e w2 ⟨rfl, hk2, hb2⟩
  have hbA := hb.trans hb2
  have hsA := hbA.size
  clear hk hb hb2 hs
  go_wp2_with fail
  refine (del_at (m := [true, false, true]) (x := true) hk2 hsA 0 rfl (by decide) rfl rfl).mono ?_
  rintro e w3 ⟨rfl, hk3, hb3⟩
  have hbB := hbA.trans hb3
  have hsB := hbB.size
  clear hk2 hb3 hbA hsA
  go_wp2_with fail
  refine (blkGet_bad hk3.1 3 (Or.inr (by decide))).mono ?_
  rintro e w' ⟨rfl, rfl⟩
  go_wp2_with fail
  refine (blkOnes hk3.1).mono ?_
  rintro e w' ⟨rfl, rfl⟩
  have c1 : (([true, false, true] : List Bool).count true : Int) = 2 := by decide
  go_wp2_with fail
  refine (split_at hk3 hsB).mono ?_
  rintro e w4 ⟨q, rfl, hq, hk4, hpq, hb4⟩
  have hbC := hbB.trans hb4
  have hsC := hbC.size
  have hq : BkAt w.heap.size w4 q [false, true] := hq
  have hk4 : BkAt w.heap.size w4 p [true] := hk4
  clear hk3 hb4 hbB hsB
  go_wp2_with fail
  refine (blkLen hk4.1).mono ?_
  rintro e w' ⟨rfl, rfl⟩
  go_wp2_with fail
  refine (blkLen hq.1).mono ?_
  rintro e w' ⟨rfl, rfl⟩
  go_wp2_with fail
  refine (blkJoin_self _ p).mono ?_
  rintro e w' ⟨rfl, rfl⟩
  go_wp2_with fail
  refine (join_at hk4 hq hpq hsC (by decide)).mono ?_
  rintro e w5 ⟨rfl, hk5, hq5, hb5⟩
  have hk5 : BkAt w.heap.size w5 p [true, false, true] := hk5
  have hbD := hbC.trans hb5
  have hsD := hbD.size
  clear hk4 hq hb5 hbC hsC
  have hmk := make_bools 129 (by omega)
  rw [show ((129 : Nat) : Int) = 129 from rfl] at hmk
  go_wp2_with fail
  refine (blkNew_full _ _ _ _ (by decide)).mono ?_
  rintro e w' ⟨rfl, rfl⟩
  have hbE := hbD.alloc hsD (.cells (vecL (fun _ => .bool false) 129).toArray 4)
  have hk6 : BkAt w.heap.size (w5.alloc (.cells (vecL (fun _ => .bool false) 129).toArray 4)) p [true, false, true] := hk5.below (below_alloc _ _)
  have hq6 : BkAt w.heap.size (w5.alloc (.cells (vecL (fun _ => .bool false) 129).toArray 4)) q [] := hq5.below (below_alloc _ _)
  generalize w5.alloc (.cells (vecL (fun _ => .bool false) 129).toArray 4) = w6 at *
  have hsE := hbE.size
  clear hk5 hq5 hbD hsD hmk
  go_wp2_with fail
  refine (blkLen hk6.1).mono ?_
  rintro e w' ⟨rfl, rfl⟩
  go_wp2_with fail
  refine (blkLen hq6.1).mono ?_
  rintro e w' ⟨rfl, rfl⟩
  go_wp2_with fail
  refine (blkRank hk6.1 2).mono ?_
  rintro e w7 ⟨rfl, hb7⟩
  have r1 : rankL [true, false, true] (2 : Int).toNat true = 1 := by decide
  rw [r1]
  have hbF := hbE.trans (hb7.mono hsE)
  have hk7 := hk6.below hb7
  have hsF := hbF.size
  clear hk6 hb7 hbE hsE r1
  go_wp2_with fail
  refine (blkSelect hk7.1 (HT.out.below' hbF) 0 false (by decide)).mono ?_
  rintro e w8 ⟨rfl, hb8⟩
  have r2 : selL [true, false, true] 0 false = 1 := by decide
  rw [r2]
  have hbG := hbF.trans (hb8.mono hsF)
  clear hk7 hb8 hbF hsF r2
  go_wp2_with (first
    | (go_at_call 38; refine (blkLen_nil _).mono ?_; rintro e w' ⟨rfl, rfl⟩)
    | (go_at_call 30; refine (blkInsert_nil _ _ _).mono ?_; rintro e w' ⟨rfl, rfl⟩)
    | (go_at_call 35; refine (blkSplit_nil _).mono ?_; rintro e w' ⟨rfl, rfl⟩)
    | (go_at_call 42; refine (blkSelect_none _ _ _).mono ?_; rintro e w' ⟨rfl, rfl⟩))
  go_ret
  exact ⟨rfl, hbG⟩

end Go.Proofs.YticbfhbilfgoiaaDoor
