/- Lemmas and contracts under the claims of this seat: Contract of package tree: build. Contract of package tree: build, in full. Contract of package tree: New, of no bits. Contract of package tree: New, of some bits. Contracts of package tree: few, level. Contract of package tree: level, where the bits are too many for one leaf. Contract of package tree: mend; nodes given back. Contract of package tree: mend, both children leaves. Contract of package tree: mend, the left child a leaf with too few bits. Contract of package tree: mend, the right child a leaf with too few bits. Contract of package tree: mend. Contract of package tree: drop. Contract of package tree: Delete. Contracts of package tree: all, All. Contracts of package tree: All, Live, Made, Visits, Shape. Contracts of package tree, of trees as a law sees them. Trees of the call's own beside other rows. Waves of symbols in memory: the head, the rows of shelves, the trees. A tree's operations, of a tree of a wave. A wave that is being built; of no walk. The rows of bits that New of package wave gathers; of no walk. append of one element of some cells, one operation; of no program. Contracts of the reference's rows of bits: Ranks, Selects, Gets, Same. What a walk is told of the arguments that came in: rows of integers and of bools. The laws' helpers of layer 2: Bits, told; frames of blocks for a law's walk. Contracts of the reference's words and rows of bits. Contracts of the reference's In and Out, Put and Cut. The laws' helpers of layer 5: near, Least, fours. The laws' helpers of layer 5: May, Fine, same. The laws' helper of layer 5: told; plain lemmas for the laws. Contracts of package sorted: the closures of Rows. slices.SortFunc with the closures of sorted.Rows. -/
import Derived.Test.YtacoeohmdngnkaaDoorZk3
import Derived.IntWalk
import Derived.Test.YtacoeohmdngnkaaDoorZk1
import Derived.Test.YtacoeohmdngnkaaDoorZk2
import Derived.Deep.QuietTactic
import Derived.BigQuiet
import Derived.ProofKit
import Derived.OpenShut
import Derived.ShutString
import Derived.ChangeOld
import Derived.Below
import Derived.Test.YtacoeohmdngnkaaDoorShelf
import Derived.Shelf.SlSortCmp.Whole1

namespace Go.Proofs.YtacoeohmdngnkaaDoor
set_option linter.unusedVariables false
set_option linter.unusedSimpArgs false
open Go.RowKit

theorem run_sliceMid {P : Program} {w : World} {t e : TypeId} {a : Option Addr} {len cap j k : Nat} (ht : P.underlying t = some (.slice e)) (hinfo : (P.info? e).map (fun i => i.size) = some 1) (hj : j ≤ k) (hk : k ≤ cap) :
    (Instr.slice t (.slice a len cap) (some (.int .i64 (j : Int))) (some (.int .i64 (k : Int))) none).run P w = .ok (.slice (offA a j cap) (k - j) (cap - j)) w := by
  obtain ⟨i, hi, hs⟩ := Option.map_eq_some_iff.1 hinfo
  have hk' : (k : Int) ≤ (cap : Int) := by omega
  have hj' : (j : Int) ≤ (k : Int) := by omega
  simp [Instr.slice, run_underlying ht, Instr.sliceBounds, Instr.sliceBound, asIntOf, hk', hj', sizeOf, typeInfo, hi, hs, go_sem, offA, hj, hk]

/-- What build leaves: a new tree; all taken before is as it was. -/
structure BldStep (w w' : World) (p : Nat) (C : Nat → Prop) (A : Ar) (xs : List Nd) (root vis : Int) (T' : TT) (C' : Nat → Prop) (A' : Ar) (xs' : List Nd) : Prop where
  head : Head w' p C' A' xs' root vis
  sub : Sub w' xs' T'
  own : Own A' T'
  len : xs'.length = A'.T.length
  newC : ∀ j, C' j → C j ∨ w.heap.size ≤ j
  newB : ∀ q ∈ T'.bl, w.heap.size ≤ q
  keep : ∀ j : Nat, A.T[j]? = some true → xs'[j]? = xs[j]? ∧ A'.T[j]? = some true ∧ j ∉ T'.nums
  live : A'.live = A.live + T'.st.size
  max : A'.M = A.M
  fr : A.F = [] → A'.F = []
  chg : Chg C w w'
def BldPost (w w' : World) (p : Nat) (C : Nat → Prop) (A : Ar) (xs : List Nd) (root vis : Int) (L : List Bool) (m f t : Nat) (e : Ending) : Prop :=
  ∃ T' C' A' xs', e = .returned (.int .i64 T'.num) ∧ BldStep w w' p C A xs root vis T' C' A' xs' ∧ Bld L m f t T'.st

set_option maxHeartbeats 3200000 in
set_option maxRecDepth 100000 in
theorem tBuild_leaf {w : World} {p : Nat} {C : Nat → Prop} {A : Ar} {xs : List Nd} {root vis : Int} (h : Head w p C A xs root vis) (hlen : xs.length = A.T.length) {a : Option Addr} {c : Nat} {L : List Bool} (hr : ReadsV w a (L.map Value.bool))
    (hc : L.length ≤ c) (hL : L.length ≤ 2147483648) {m f t : Nat} (hm : m = (L.length + 127) / 128) (hft : t - f = 1) (ht : t ≤ m) (hlive : A.live < A.M) :
    Calls Tryd.prog 93 #[.pointer (some ⟨p, 0, none⟩), .slice a L.length c, .int .i64 f, .int .i64 t, .int .i64 m] w fun e w' => BldPost w w' p C A xs root vis L m f t e := by
  have hp0 : 0 < m := by omega
  have hB := bld_leaf (L := L) hm hft ht
  have hsl := segL_len (L := L) (m := m) (f := f) (t := t) (by omega) ht hp0
  have hx2 := seg_le (n := L.length) (m := m) (f := f) (t := t) (by omega)
  have hx3 := seg_top (n := L.length) ht hp0
  obtain ⟨x, hx⟩ : ∃ x, x = L.length * f / m := ⟨_, rfl⟩
  obtain ⟨y, hy⟩ : ∃ y, y = L.length * t / m := ⟨_, rfl⟩
  obtain ⟨sg, hsg⟩ : ∃ sg, sg = segL L m f t := ⟨_, rfl⟩
  have hb1 : L.length * f ≤ 2147483648 * 16777217 := Nat.mul_le_mul hL (by omega)
  have hb2 : L.length * t ≤ 2147483648 * 16777217 := Nat.mul_le_mul hL (by omega)
  have hsr : ReadsV w (offA a x c) (sg.map Value.bool) := by
    rw [hsg]; unfold segL; rw [← hx, ← hy, List.map_drop, List.map_take]
    exact (hr.take y).drop (by rw [List.length_take, List.length_map]; omega)
  rw [← hx, ← hy] at hx2 hsl
  rw [← hy] at hx3
  rw [← hsg] at hsl hB
  have hsl128 : sg.length ≤ 128 := hB.le
  have d0 : ((t : Int) - (f : Int) == 1) = true := by rw [beq_iff_eq]; omega
  have d1 : IntKind.i64.wrap ((t : Int) - (f : Int)) = (t : Int) - (f : Int) := IntWalk.i64_in _ (by omega)
  obtain ⟨zf, hzf⟩ : ∃ zf, zf = L.length * f := ⟨_, rfl⟩
  obtain ⟨zt, hzt⟩ : ∃ zt, zt = L.length * t := ⟨_, rfl⟩
  have d2 : IntKind.i64.wrap ((L.length : Int) * (f : Int)) = (zf : Int) := by rw [← Int.natCast_mul, ← hzf]; exact IntWalk.i64_in _ (by omega)
  have d3 : IntKind.i64.wrap ((L.length : Int) * (t : Int)) = (zt : Int) := by rw [← Int.natCast_mul, ← hzt]; exact IntWalk.i64_in _ (by omega)
  have d4 : IntKind.i64.wrap ((zf : Int) / (m : Int)) = (x : Int) := by
    rw [← Int.natCast_ediv, hzf, ← hx]; exact IntWalk.i64_in _ (by omega)
  have d5 : IntKind.i64.wrap ((zt : Int) / (m : Int)) = (y : Int) := by
    rw [← Int.natCast_ediv, hzt, ← hy]; exact IntWalk.i64_in _ (by omega)
  have d6 : ¬ m = 0 := by omega
  have hS2 : ∀ (w : World), (Instr.slice 39 (.slice a L.length c) (some (.int .i64 (x : Int))) (some (.int .i64 (y : Int))) none).run Tryd.prog w = .ok (.slice (offA a x c) (y - x) (c - x)) w := fun w =>
    run_sliceMid (e := 4) (by kernel_rfl) (by kernel_rfl) hx2 (by omega)
  have HN : Hid (∀ n, Calls Tryd.prog 17 #[.slice (offA a x c) (y - x) (c - x)] (w.drewN n) fun e w' => e = .returned (.tuple #[.pointer (some ⟨w.heap.size, 0, none⟩), .int .i64 0]) ∧ IsBlock w' w.heap.size sg ∧ Below w.heap.size w w') := fun n => by
    have := blkNew (w.drewN n) (offA a x c) (c - x) sg hsr hsl128
    rw [hsl] at this
    refine this.mono ?_
    rintro e w' ⟨rfl, h1, h2⟩
    exact ⟨rfl, h1, ⟨h2.os, h2.tape, h2.output, h2.size, h2.block⟩⟩
  have HH := Lib.hid h
  have HL := Lib.hid hlen
  have HLV := Lib.hid hlive
  have HB := Lib.hid hB
  clear h hlen hlive hB hr hsr hsl hsl128 hb1 hb2 hx hy hzf hzt hsg hm
  generalize L.length = n0 at *
  go_enter Tryd.func93, Tryd.ntmps93
  go_wp2_with fail
  -- REGION leaf
  refine reg_start (fun _ => True) (by kernel_rfl) (trivial) (fun hHeld => ?_)
  refine rt 0 hHeld ?_
  refine rt 1 hHeld ?_
  refine rt 2 hHeld ?_
  refine rt 3 hHeld ?_
  refine rt 4 hHeld ?_
  refine rt 5 hHeld ?_
  refine rt 6 hHeld ?_
  refine rt 7 hHeld ?_
  refine rt 8 hHeld ?_
  refine rt 9 hHeld ?_
  refine rt 10 hHeld ?_
  refine rt 11 hHeld ?_
  refine rt 12 hHeld ?_
  refine rt 13 hHeld ?_
  refine reg_loud (i := 14) rfl (by kernel_rfl) rfl (fun K hK => ?_)
  go_simp
  ((refine (HN.out _).mono ?_))
  rintro e w2 ⟨rfl, hq, hb2⟩
  refine hK.out _ _ (trivial) (fun hNew => ?_)
  clear hK K hHeld
  have hHeld := hNew
  clear hNew
  try simp only [Act.put, List.setIfInBounds_toArray, List.set_cons_zero, List.set_cons_succ]
  refine rt 15 hHeld ?_
  refine rt 16 hHeld ?_
  refine rt 17 hHeld ?_
  refine rt 18 hHeld ?_
  refine rt 19 hHeld ?_
  refine reg_done (by kernel_rfl) ?_ _
  -- END OF REGION leaf
  clear hHeld
  have HQ := Lib.hid hq
  have h2 := HH.out.below hb2
  have HC2 := Lib.hid (Chg.of_below (S := C) hb2)
  have HLF := Lib.hid (tLeaf_any h2 HL.out HLV.out hq)
  have HHK := Lib.hid h2
  clear hq hb2 h2
  go_wp2_with fail
  refine HLF.out.mono ?_
  rintro e w3 ⟨k, C', A', xs', rfl, h3, s3, l3, hk3, t3, keep3, t3', live3, max3, fr3⟩
  have hq3 : IsBlock w3 w.heap.size sg := HQ.out.chg s3.chg (HHK.out.notBlk HQ.out.type)
  have HP : Hid (BldPost w w3 p C A xs root vis L m f t (.returned (.int .i64 (k : Int)))) := by
    refine ⟨.leaf k w.heap.size sg, C', A', xs', rfl, ⟨h3, ⟨hk3, hq3⟩, ⟨by simp [TT.nums], by simp [TT.bl], fun j hj => ?_⟩, l3, fun j hj => ?_, fun q hq => ?_, fun j hj => ?_, ?_, max3, fr3, ?_⟩, HB.out⟩
    · simp [TT.nums] at hj; subst hj; exact t3'
    · rcases s3.new j hj with h | h
      · exact Or.inl h
      · right; have := HC2.out.size; omega
    · simp [TT.bl] at hq; omega
    · refine ⟨(keep3 j hj).1, (keep3 j hj).2, ?_⟩
      simp only [TT.nums, List.mem_cons, List.not_mem_nil, or_false]
      rintro rfl; exact t3 hj
    · rw [live3]; simp [TT.st, ST.size]
    · exact HC2.out.trans s3.chg (fun j hj => Or.inl hj)
  clear h3 s3 l3 hk3 t3 keep3 t3' live3 max3 fr3 hq3 HB HLF HHK HC2 HQ
  go_wp2_with fail
  go_ret
  exact HP.out

end Go.Proofs.YtacoeohmdngnkaaDoor

namespace Go.Proofs.YtacoeohmdngnkaaDoor
set_option linter.unusedVariables false
set_option linter.unusedSimpArgs false
open Go.RowKit

section
variable {w w2 w3 w4 : World} {p : Nat} {C C2 C3 : Nat → Prop} {A A2 A3 : Ar} {xs x2 x3 : List Nd} {root vis : Int} {Ta Tb : TT}
theorem BldStep.subA (Sa : BldStep w w2 p C A xs root vis Ta C2 A2 x2) (Sb : BldStep w2 w3 p C2 A2 x2 root vis Tb C3 A3 x3) : Sub w3 x3 Ta :=
  Sa.sub.chgC Sa.head Sb.chg (fun j hj => (Sb.keep j (Sa.own.tk j hj)).1)
theorem BldStep.joined (Sa : BldStep w w2 p C A xs root vis Ta C2 A2 x2) (Sb : BldStep w2 w3 p C2 A2 x2 root vis Tb C3 A3 x3) {e : Ending} (hn : NodePost w3 w4 p C3 A3 x3 root vis (TT.pair 0 Ta Tb).nd e)
    {L : List Bool} {m f t : Nat} (hB : Bld L m f t (.pair Ta.st Tb.st)) : BldPost w w4 p C A xs root vis L m f t e := by
  obtain ⟨k, C', A', xs', rfl, h4, s4, l4, hk4, t4, keep4, t4', live4, max4, fr4⟩ := hn.ex
  have s1 := Sa.chg.size
  have s2 := Sb.chg.size
  have kA : ∀ j ∈ Ta.nums, A3.T[j]? = some true := fun j hj => (Sb.keep j (Sa.own.tk j hj)).2.1
  have kB : ∀ j ∈ Tb.nums, A3.T[j]? = some true := Sb.own.tk
  have dAB : ∀ j ∈ Ta.nums, j ∉ Tb.nums := fun j hj => (Sb.keep j (Sa.own.tk j hj)).2.2
  have subA := (Sa.subA Sb).chgC Sb.head s4.chg (fun j hj => (keep4 j (kA j hj)).1)
  have subB := Sb.sub.chgC Sb.head s4.chg (fun j hj => (keep4 j (kB j hj)).1)
  refine ⟨.pair k Ta Tb, C', A', xs', rfl, ⟨h4, ⟨hk4, subA, subB⟩, ⟨?_, ?_, ?_⟩, l4, ?_, ?_, ?_, ?_, ?_, fun h => fr4 (Sb.fr (Sa.fr h)), ?_⟩, hB⟩
  · simp only [TT.nums, List.nodup_cons, List.mem_append, not_or, List.nodup_append]
    exact ⟨⟨fun h => t4 (kA k h), fun h => t4 (kB k h)⟩, Sa.own.nn, Sb.own.nn, fun j hj i hi e => dAB j hj (e ▸ hi)⟩
  · simp only [TT.bl, List.nodup_append]
    refine ⟨Sa.own.bn, Sb.own.bn, fun j hj i hi e => ?_⟩
    have h1 := (Sa.sub.type hj).lt
    have h2 := Sb.newB i hi
    omega
  · intro j hj
    simp only [TT.nums, List.mem_cons, List.mem_append] at hj
    rcases hj with rfl | hj | hj
    · exact t4'
    · exact (keep4 j (kA j hj)).2
    · exact (keep4 j (kB j hj)).2
  · intro j hj
    rcases s4.new j hj with h | h
    · rcases Sb.newC j h with h | h
      · exact Sa.newC j h
      · right; omega
    · right; omega
  · intro q hq
    simp only [TT.bl, List.mem_append] at hq
    rcases hq with hq | hq
    · exact Sa.newB q hq
    · have := Sb.newB q hq; omega
  · intro j hj
    have k1 := Sa.keep j hj
    have k2 := Sb.keep j k1.2.1
    have k3 := keep4 j k2.2.1
    refine ⟨k3.1.trans (k2.1.trans k1.1), k3.2, ?_⟩
    simp only [TT.nums, List.mem_cons, List.mem_append]
    rintro (rfl | hj | hj)
    · exact t4 k2.2.1
    · exact k1.2.2 hj
    · exact k2.2.2 hj
  · have := Sa.live; have := Sb.live; simp only [TT.st, ST.size]; omega
  · rw [max4, Sb.max, Sa.max]
  · refine (Sa.chg.trans Sb.chg (fun j hj => Sa.newC j hj)).trans s4.chg (fun j hj => ?_)
    rcases Sb.newC j hj with h | h
    · exact Sa.newC j h
    · right; omega
end

set_option maxHeartbeats 3200000 in
set_option maxRecDepth 100000 in
theorem tBuild_any {p : Nat} {root vis : Int} {a : Option Addr} {c : Nat} {L : List Bool} {m : Nat} (hc : L.length ≤ c) (hL : L.length ≤ 2147483648) (hm : m = (L.length + 127) / 128) (n : Nat) :
    ∀ (w : World) (C : Nat → Prop) (A : Ar) (xs : List Nd) (f t : Nat), Head w p C A xs root vis → xs.length = A.T.length → ReadsV w a (L.map Value.bool) → (∀ ad, a = some ad → ¬ C ad.block ∧ ad.block < w.heap.size) →
      t - f = n → 1 ≤ n → t ≤ m → A.live + 2 * n ≤ A.M + 1 →
      Calls Tryd.prog 93 #[.pointer (some ⟨p, 0, none⟩), .slice a L.length c, .int .i64 f, .int .i64 t, .int .i64 m] w fun e w' => BldPost w w' p C A xs root vis L m f t e := by
  induction n using Nat.strongRecOn with
  | ind n ih =>
    intro w C A xs f t h hlen hr had hn hn1 ht hlive
    by_cases h1 : n = 1
    · exact tBuild_leaf h hlen hr hc hL hm (by omega) ht (by omega)
    · obtain ⟨k, hk⟩ : ∃ k, k = (f + t) / 2 := ⟨_, rfl⟩
      have hp0 : 0 < m := by omega
      have IHA := Lib.hid (ih (k - f) (by omega) w C A xs f k h hlen hr had rfl (by omega) (by omega) (by omega))
      have HIB : Hid (∀ w2 Ta C2 A2 x2, BldStep w w2 p C A xs root vis Ta C2 A2 x2 → Bld L m f k Ta.st → Calls Tryd.prog 93 #[.pointer (some ⟨p, 0, none⟩), .slice a L.length c, .int .i64 k, .int .i64 t, .int .i64 m] w2 fun e w' => BldPost w2 w' p C2 A2 x2 root vis L m k t e) := by
        intro w2 Ta C2 A2 x2 Sa Ba
        have hs := Sa.chg.size
        refine ih (t - k) (by omega) w2 C2 A2 x2 k t Sa.head Sa.len (hr.chg Sa.chg (fun ad h => (had ad h).1)) (fun ad h => ⟨fun hc2 => ?_, ?_⟩) rfl (by omega) ht ?_
        · rcases Sa.newC _ hc2 with h2 | h2
          · exact (had ad h).1 h2
          · have := (had ad h).2; omega
        · have := (had ad h).2; omega
        · have e1 := Ba.leaves; have e2 := Ta.st.size_leaves; have e3 := Sa.live; have e4 := Sa.max; omega
      have small : ∀ {f' t' : Nat} {T : ST}, Bld L m f' t' T → f' ≤ t' → t' ≤ m → Small T := by
        intro f' t' T hB h1 h2
        have e0 := segL_len (L := L) h1 h2 hp0
        have e1 := seg_top (n := L.length) h2 hp0
        have e2 := T.high_size; have e3 := T.size_leaves; have e4 := hB.leaves
        refine ⟨?_, by omega⟩
        rw [hB.bits, e0]; exact Nat.le_trans (Nat.sub_le _ _) (Nat.le_trans e1 (by omega))
      have HP : Hid (∀ w2 Ta C2 A2 x2 w3 Tb C3 A3 x3, BldStep w w2 p C A xs root vis Ta C2 A2 x2 → Bld L m f k Ta.st → BldStep w2 w3 p C2 A2 x2 root vis Tb C3 A3 x3 → Bld L m k t Tb.st →
          Calls Tryd.prog 98 #[.pointer (some ⟨p, 0, none⟩), .int .i64 Ta.num, .int .i64 Tb.num] w3 fun e w' => BldPost w w' p C A xs root vis L m f t e) := by
        intro w2 Ta C2 A2 x2 w3 Tb C3 A3 x3 Sa Ba Sb Bb
        have e1 := Ba.leaves; have e2 := Ta.st.size_leaves; have e3 := Sa.live; have e4 := Sa.max
        have g1 := Bb.leaves; have g2 := Tb.st.size_leaves; have g3 := Sb.live; have g4 := Sb.max
        refine (tPair_any Sb.head Sb.len (by omega) (Sa.subA Sb) Sb.sub (fun j hj => (Sb.keep j (Sa.own.tk j hj)).2.1) Sb.own.tk (small Ba (by omega) (by omega)) (small Bb (by omega) (by omega))).mono ?_
        intro e w' hN
        exact Sa.joined Sb hN (bld_pair hp0 (by omega) ht (hk ▸ Ba) (hk ▸ Bb))
      have hbt : t ≤ 16777217 := by omega
      have hft : f ≤ t := by omega
      have d0 : ((t : Int) - (f : Int) == 1) = false := by rw [beq_eq_false_iff_ne]; omega
      have d1 : IntKind.i64.wrap ((t : Int) - (f : Int)) = (t : Int) - (f : Int) := IntWalk.i64_in _ (by omega)
      obtain ⟨ft, hfteq⟩ : ∃ ft, ft = f + t := ⟨_, rfl⟩
      have hw0 : (f : Int) + (t : Int) = (ft : Int) := by omega
      have hw1 : IntKind.i64.wrap (ft : Int) = (ft : Int) := IntWalk.i64_in _ (by omega)
      have hw3 : (ft : Int) / 2 = (k : Int) := by omega
      have hw4 : IntKind.i64.wrap (k : Int) = (k : Int) := IntWalk.i64_in _ (by omega)
      have hw5 : IntKind.i64.wrap ((ft : Int).tdiv 2) = (k : Int) := by rw [Int.tdiv_eq_ediv_of_nonneg (by omega), hw3, hw4]
      have hw6 : IntKind.i64.wrap ((ft : Int) / 2) = (k : Int) := by rw [hw3, hw4]
      clear h hlen hr had hlive ih small hm hL hc hk hfteq
      generalize L.length = n0 at *
      go_enter Tryd.func93, Tryd.ntmps93
      go_wp2_with fail
      refine IHA.out.mono ?_
      rintro e w2 ⟨Ta, C2, A2, x2, rfl, Sa, Ba⟩
      have HSa := Lib.hid Sa
      have HBa := Lib.hid Ba
      have IHB := Lib.hid (HIB.out w2 Ta C2 A2 x2 Sa Ba)
      clear Sa Ba HIB IHA
      go_wp2_with fail
      refine IHB.out.mono ?_
      rintro e w3 ⟨Tb, C3, A3, x3, rfl, Sb, Bb⟩
      have HPP := Lib.hid (HP.out w2 Ta C2 A2 x2 w3 Tb C3 A3 x3 HSa.out HBa.out Sb Bb)
      clear Sb Bb HP IHB HSa HBa
      go_wp2_with fail
      refine HPP.out.mono ?_
      rintro e w4 hh
      have HF := Lib.hid hh
      obtain ⟨T', C', A', xs', rfl, _, _⟩ := hh
      go_wp2_with fail
      go_ret
      exact HF.out

end Go.Proofs.YtacoeohmdngnkaaDoor

namespace Go.Proofs.YtacoeohmdngnkaaDoor
set_option linter.unusedVariables false
set_option linter.unusedSimpArgs false
open Go.RowKit

def boxT (ap : Nat) : Obj := .cells #[.pointer (some ⟨ap, 0, none⟩), .slice none 0 0, .int .i64 (-1), .int .i64 0] 117
theorem head_new {w w1 : World} (hA : IsArena w1 w.heap.size (fun k => k = w.heap.size) (Ar.new 268435456)) (hc : Chg (fun _ => False) w w1) :
    Head (w1.alloc (boxT w.heap.size)) w1.heap.size (fun k => k = w1.heap.size ∨ k = w.heap.size) (Ar.new 268435456) [] (-1) 0 := by
  refine ⟨w.heap.size, fun k => k = w.heap.size, none, 0, ?_, hA.chg (Chg.refl.alloc (S := fun _ => False) (boxT w.heap.size)) (fun _ _ h => h), World.ownsRow_nil _ _ _ _, fun k => ?_⟩
  · change (w1.heap.push (boxT w.heap.size))[w1.heap.size]? = _
    rw [Array.getElem?_push_size]; rfl
  · simp

theorem tNew_nil (w : World) (a : Option Addr) (c : Nat) : Calls Tryd.prog 74 #[.slice a 0 c] w fun e w' => ∃ p q, e = .returned (.pointer (some ⟨p, 0, none⟩)) ∧ w.heap.size ≤ p ∧ w.heap.size ≤ q ∧ Head w' p (fun k => k = p ∨ k = q) (Ar.new 268435456) [] (-1) 0 ∧ Chg (fun _ => False) w w' := by
  have HA : Hid (Calls Tryd.prog 92 #[.int .i64 268435456] w fun e w' => e = .returned (.pointer (some ⟨w.heap.size, 0, none⟩)) ∧ IsArena w' w.heap.size (fun k => k = w.heap.size) (Ar.new 268435456) ∧ Chg (fun _ => False) w w') := arNew_good 268435456 w (by omega)
  go_enter Tryd.func74, Tryd.ntmps74
  go_wp2_with fail
  refine HA.out.mono ?_
  rintro e w1 ⟨rfl, hA, hc⟩
  have HP := Lib.hid (head_new hA hc)
  have HC := Lib.hid hc
  have hs := Lib.hid hc.size
  clear hA hc
  go_wp2_with fail
  go_ret
  exact ⟨w1.heap.size, w.heap.size, rfl, hs.out, Nat.le_refl _, HP.out, HC.out.alloc _⟩

end Go.Proofs.YtacoeohmdngnkaaDoor

namespace Go.Proofs.YtacoeohmdngnkaaDoor
set_option linter.unusedVariables false
set_option linter.unusedSimpArgs false
open Go.RowKit

set_option maxHeartbeats 3200000 in
set_option maxRecDepth 100000 in
theorem tNew_some (w : World) {a : Option Addr} {c : Nat} {L : List Bool} (hr : ReadsV w a (L.map Value.bool)) (hc : L.length ≤ c) (hL : L.length ≤ 2147483648) (h0 : 0 < L.length) (had : ∀ ad, a = some ad → ad.block < w.heap.size) :
    Calls Tryd.prog 74 #[.slice a L.length c] w fun e w' => ∃ p st S, e = .returned (.pointer (some ⟨p, 0, none⟩)) ∧ TreeIs S w' p (some st) st.size 0 ∧ (∀ k, S k → w.heap.size ≤ k) ∧ st.bits = L ∧ Chg (fun _ => False) w w' := by
  have HA : Hid (Calls Tryd.prog 92 #[.int .i64 268435456] w fun e w' => e = .returned (.pointer (some ⟨w.heap.size, 0, none⟩)) ∧ IsArena w' w.heap.size (fun k => k = w.heap.size) (Ar.new 268435456) ∧ Chg (fun _ => False) w w') := arNew_good 268435456 w (by omega)
  obtain ⟨m, hm⟩ : ∃ m, m = (L.length + 127) / 128 := ⟨_, rfl⟩
  have hm1 : 0 < m := by omega
  obtain ⟨z, hz⟩ : ∃ z, z = L.length + 127 := ⟨_, rfl⟩
  have q1 : (L.length : Int) + 128 - 1 = (z : Int) := by omega
  have q3 : (z : Int) / 128 = (m : Int) := by omega
  have q4 : IntKind.i64.wrap (m : Int) = (m : Int) := IntWalk.i64_in _ (by omega)
  have q5 : IntKind.i64.wrap ((z : Int) / 128) = (m : Int) := by rw [q3, q4]
  have q6 : decide ((0 : Int) < (m : Int)) = true := by simp; omega
  have HR := Lib.hid hr
  have HAD := Lib.hid had
  have HT : Hid (∀ w1, IsArena w1 w.heap.size (fun k => k = w.heap.size) (Ar.new 268435456) → Chg (fun _ => False) w w1 → Calls Tryd.prog 93 #[.pointer (some ⟨w1.heap.size, 0, none⟩), .slice a L.length c, .int .i64 0, .int .i64 m, .int .i64 m] (w1.alloc (boxT w.heap.size)) fun e w' =>
      ∃ (T' : TT) (w0 : World), e = .returned (.int .i64 T'.num) ∧ w' = w0 ∧ w0.cell? ⟨w1.heap.size, 2, none⟩ = some (.int .i64 (-1)) ∧ w0.frozen? ⟨w1.heap.size, 2, none⟩ = false ∧ Hid (∃ st S, TreeIs S (w0.setCell ⟨w1.heap.size, 2, none⟩ (.int .i64 T'.num)) w1.heap.size (some st) st.size 0 ∧ (∀ k, S k → w.heap.size ≤ k) ∧ st.bits = L ∧ Chg (fun _ => False) w (w0.setCell ⟨w1.heap.size, 2, none⟩ (.int .i64 T'.num)))) := by
    intro w1 hA hc1
    have hH := head_new hA hc1
    have hs1 := hc1.size
    have g1 : Chg (fun _ => False) w (w1.alloc (boxT w.heap.size)) := hc1.alloc _
    have hs2 := g1.size
    refine (tBuild_any hc hL hm m _ _ _ _ 0 m hH rfl (hr.chg g1 (fun _ _ h => h)) (fun ad h => ⟨?_, ?_⟩) (by omega) hm1 (Nat.le_refl _) (by simp [Ar.new, Ar.live]; omega)).mono ?_
    · have := had ad h; rintro (e | e) <;> omega
    · have := had ad h; omega
    rintro e w' ⟨T', C', A', xs', rfl, S, B⟩
    obtain ⟨b1, b2, b3⟩ := bld_root hm hm1 B
    have hC' : ∀ j, C' j → w.heap.size ≤ j := fun j hj => by
      rcases S.newC j hj with (h | h) | h <;> omega
    obtain ⟨_, y2, _, yf⟩ := S.head.cells
    refine ⟨T', w', rfl, rfl, y2, yf 2, T'.st, fun k => C' k ∨ k ∈ T'.bl, ⟨⟨C', A', xs', some T', S.head.set2 _, ?_, S.own, S.len, ?_, ?_, rfl, ?_, fun k => Iff.rfl⟩, ⟨b2, b3⟩, ?_⟩, ?_, b1, ?_⟩
    · exact S.sub.chgC S.head (S.head.chg3 _ 2) (fun _ _ => rfl)
    · have := S.live; simp [Ar.new, Ar.live] at this; simpa [osz, Ar.live] using this
    · exact S.max
    · have h1 := S.live; have h2 := S.fr rfl; simp [Ar.new, Ar.live, h2] at h1; exact h1.symm
    · change T'.st.bits.length ≤ _; rw [b1]; exact hL
    · rintro k (hk | hk)
      · exact hC' k hk
      · have := S.newB k hk; omega
    · exact ((g1.trans S.chg (fun j hj => Or.inr (by rcases hj with h | h <;> omega))).trans (S.head.chg3 _ 2) (fun j hj => Or.inr (hC' j hj)))
  have q7 : IntKind.i64.wrap ((L.length : Int) + 128) = (L.length : Int) + 128 := IntWalk.i64_in _ (by omega)
  have q8 : IntKind.i64.wrap (z : Int) = (z : Int) := IntWalk.i64_in _ (by omega)
  have q9 : (L.length : Int) + 127 = (z : Int) := by omega
  clear hr had hz hm hc
  generalize L.length = n0 at *
  go_enter Tryd.func74, Tryd.ntmps74
  go_wp2_with fail
  refine HA.out.mono ?_
  rintro e w1 ⟨rfl, hA, hc⟩
  have HB := Lib.hid (HT.out w1 hA hc)
  have hs := Lib.hid hc.size
  clear hA hc HT HA
  go_wp2_with fail
  refine HB.out.mono ?_
  rintro e w2 ⟨T', w0, rfl, rfl, y2, yf, HP⟩
  go_wp2_with fail
  go_ret
  obtain ⟨st, S, h1, h2, h3, h4⟩ := HP.out
  exact ⟨w1.heap.size, st, S, rfl, h1, h2, h3, h4⟩

end Go.Proofs.YtacoeohmdngnkaaDoor

namespace Go.Proofs.YtacoeohmdngnkaaDoor
set_option linter.unusedVariables false
set_option linter.unusedSimpArgs false
open Go.RowKit

end Go.Proofs.YtacoeohmdngnkaaDoor

namespace Go.Proofs.YtacoeohmdngnkaaDoor
set_option linter.unusedVariables false
set_option linter.unusedSimpArgs false
open Go.RowKit

end Go.Proofs.YtacoeohmdngnkaaDoor

namespace Go.Proofs.YtacoeohmdngnkaaDoor
set_option linter.unusedVariables false
set_option linter.unusedSimpArgs false
open Go.RowKit

/-- An arena behind two nodes less. -/
def Ar.fr (a : Ar) (x y : Nat) : Ar := ⟨(a.T.set x false).set y false, a.F ++ [x, y], a.M⟩
section
variable {w : World} {p : Nat} {C : Nat → Prop} {A : Ar} {xs : List Nd} {root vis : Int}
end

theorem SubPre.refl {w w' : World} {C : Nat → Prop} {A : Ar} {xs : List Nd} {T : TT} (hO : Own A T) (hl : xs.length = A.T.length) (hc : Chg C w w') : SubPre w w' C A xs T T C A xs :=
  ⟨hO, hl, fun j hj => Or.inl hj, fun j hj => Or.inl hj, fun j h1 h2 => ⟨rfl, h1, h2⟩, rfl, rfl, hc.mono (fun j hj => Or.inl hj)⟩

end Go.Proofs.YtacoeohmdngnkaaDoor

namespace Go.Proofs.YtacoeohmdngnkaaDoor
set_option linter.unusedVariables false
set_option linter.unusedSimpArgs false
open Go.RowKit

end Go.Proofs.YtacoeohmdngnkaaDoor

namespace Go.Proofs.YtacoeohmdngnkaaDoor
set_option linter.unusedVariables false
set_option linter.unusedSimpArgs false
open Go.RowKit

end Go.Proofs.YtacoeohmdngnkaaDoor

namespace Go.Proofs.YtacoeohmdngnkaaDoor
set_option linter.unusedVariables false
set_option linter.unusedSimpArgs false
open Go.RowKit

end Go.Proofs.YtacoeohmdngnkaaDoor

namespace Go.Proofs.YtacoeohmdngnkaaDoor
set_option linter.unusedVariables false
set_option linter.unusedSimpArgs false
open Go.RowKit

/-- Two changes of a subtree, one behind the other. -/
theorem SubPre.cat {w w1 w2 : World} {C C1 C2 : Nat → Prop} {A A1 A2 : Ar} {xs xs1 xs2 : List Nd} {T T1 T2 : TT} (h : SubPre w w1 C A xs T T1 C1 A1 xs1) (g : SubPre w1 w2 C1 A1 xs1 T1 T2 C2 A2 xs2) : SubPre w w2 C A xs T T2 C2 A2 xs2 := by
  have hs := h.chg.size
  refine ⟨g.own, g.len, fun j hj => ?_, fun q hq => ?_, fun j h1 h2 => ?_, by have := h.live; have := g.live; omega, g.max.trans h.max, h.chg.trans g.chg (fun j hj => ?_)⟩
  · rcases g.newC j hj with e | e
    · exact h.newC j e
    · exact Or.inr (by omega)
  · rcases g.newB q hq with e | e
    · exact h.newB q e
    · exact Or.inr (by omega)
  · obtain ⟨e1, e2, e3⟩ := h.keep j h1 h2
    obtain ⟨f1, f2, f3⟩ := g.keep j e2 e3
    exact ⟨f1.trans e1, f2, f3⟩
  · rcases hj with e | e
    · exact (h.newC j e).imp Or.inl id
    · exact (h.newB j e).imp Or.inr id

end Go.Proofs.YtacoeohmdngnkaaDoor

namespace Go.Proofs.YtacoeohmdngnkaaDoor
set_option linter.unusedVariables false
set_option linter.unusedSimpArgs false
open Go.RowKit

end Go.Proofs.YtacoeohmdngnkaaDoor

namespace Go.Proofs.YtacoeohmdngnkaaDoor
set_option linter.unusedVariables false
set_option linter.unusedSimpArgs false
open Go.RowKit

end Go.Proofs.YtacoeohmdngnkaaDoor

namespace Go.Proofs.YtacoeohmdngnkaaDoor
set_option linter.unusedVariables false
set_option linter.unusedSimpArgs false
open Go.RowKit

end Go.Proofs.YtacoeohmdngnkaaDoor

namespace Go.Proofs.YtacoeohmdngnkaaDoor
set_option linter.unusedVariables false
set_option linter.unusedSimpArgs false
open Go.RowKit

theorem tVisits_any {w : World} {p : Nat} {C : Nat → Prop} {A : Ar} {xs : List Nd} {root vis : Int} (h : Head w p C A xs root vis) :
    Calls Tryd.prog 85 #[.pointer (some ⟨p, 0, none⟩)] w fun e w' => e = .returned (.int .i64 vis) ∧ w = w' := by
  have c3 := h.cells.2.2.1
  clear h
  go_enter Tryd.func85, Tryd.ntmps85
  go_wp2_with fail
  go_ret
  exact ⟨rfl, rfl⟩

end Go.Proofs.YtacoeohmdngnkaaDoor

namespace Go.Proofs.YtacoeohmdngnkaaDoor
set_option linter.unusedVariables false
set_option linter.unusedSimpArgs false
open Go.RowKit

/-- A look at a tree: it is as it was, but for how many nodes were looked at. -/
def TLook (S : Nat → Prop) (w w' : World) (p : Nat) (o : Option ST) (made m : Nat) : Prop := (∃ v : Nat, v ≤ m ∧ TreeIs S w' p o made v) ∧ Chg S w w'

section
variable {S : Nat → Prop} {w w' : World} {p made : Nat} {o : Option ST} {vis : Int}
theorem treeIs_sm {O : Option TT} (hg : Good (ost O)) (hl : (sbits (ost O)).length ≤ 2147483648) : OSm O := by
  cases O with
  | none => trivial
  | some T =>
    have h := good_small hg.2 hl
    refine ⟨?_, by omega⟩
    have : T.st.bits.length ≤ 2147483648 := hl
    omega
theorem ohigh_st (O : Option TT) : ohigh O ≤ shigh (ost O) + 1 := by cases O <;> simp [ohigh, shigh, ost]
/-- What a contract's proof needs of a tree. -/
theorem TreeIs.open (h : TreeIs S w p o made vis) : ∃ (C : Nat → Prop) (A : Ar) (xs : List Nd) (O : Option TT), Head w p C A xs (onum O) vis ∧ OSub w xs O ∧ OSm O ∧ obits O = sbits o ∧ ohigh O ≤ shigh o + 1 ∧ (∀ k, C k → S k) ∧ A.live = osz O ∧ made = A.T.length ∧ ost O = o ∧
    (∀ w' v, Head w' p C A xs (onum O) v → Chg C w w' → TreeIs S w' p o made v ∧ Chg S w w') := by
  obtain ⟨C, A, xs, O, h1, h2, h3, h4, h5, h6, rfl, h8, h9⟩ := h.ex
  have hCS : ∀ k, C k → S k := fun k hk => (h9 k).2 (Or.inl hk)
  exact ⟨C, A, xs, O, h1, h2, treeIs_sm h.good h.len, obits_st O, ohigh_st O, hCS, h5, h8, rfl, fun w' v hH hc =>
    ⟨⟨⟨C, A, xs, O, hH, h2.chgC h1 hc, h3, h4, h5, h6, rfl, h8, h9⟩, h.good, h.len⟩, hc.mono hCS⟩⟩
theorem TreeIs.drewN (h : TreeIs S w p o made vis) (n : Nat) : TreeIs S (w.drewN n) p o made vis := h.below ⟨rfl, rfl, rfl, Nat.le_refl _, fun _ _ => rfl⟩

theorem tVisits_is (h : TreeIs S w p o made vis) : Calls Tryd.prog 85 #[.pointer (some ⟨p, 0, none⟩)] w fun e w' => e = .returned (.int .i64 vis) ∧ w = w' := by
  obtain ⟨C, A, xs, O, h1, _⟩ := h.open
  exact tVisits_any h1
theorem TLook.of {C : Nat → Prop} {A : Ar} {xs : List Nd} {root : Int} {m m' : Nat} (hh : ∀ w' v, Head w' p C A xs root v → Chg C w w' → TreeIs S w' p o made v ∧ Chg S w w') (hL : Look w w' p C A xs root m) (hm : m ≤ m') : TLook S w w' p o made m' := by
  obtain ⟨⟨v, hv, hH⟩, hc⟩ := hL
  exact ⟨⟨v, by omega, (hh w' v hH hc).1⟩, (hh w' v hH hc).2⟩
theorem tGet_is (h : TreeIs S w p o made vis) (k : Nat) (hk : k < (sbits o).length) :
    Calls Tryd.prog 68 #[.pointer (some ⟨p, 0, none⟩), .int .i64 k] w fun e w' => e = .returned (.tuple #[.bool (bitAt (sbits o) k), .int .i64 0]) ∧ TLook S w w' p o made (shigh o + 1) := by
  obtain ⟨C, A, xs, O, h1, h2, hs, e, _, _, _, _, rfl, hh⟩ := h.open
  cases O with
  | none => simp [ost, sbits] at hk
  | some T =>
    refine (tGet_some h1 h2 hs k hk).mono ?_
    rintro e w' ⟨rfl, hL⟩
    exact ⟨rfl, TLook.of hh hL (Nat.le_refl _)⟩
theorem tRank_is (h : TreeIs S w p o made vis) (k : Int) (x : Bool) :
    Calls Tryd.prog 83 #[.pointer (some ⟨p, 0, none⟩), .int .i64 k, .bool x] w fun e w' => e = .returned (.int .i64 (rankL (sbits o) k.toNat x)) ∧ TLook S w w' p o made (shigh o + 1) := by
  obtain ⟨C, A, xs, O, h1, h2, hs, e, hi, _, _, _, _, hh⟩ := h.open
  rw [← e]
  refine (tRank_any h1 h2 hs k x).mono ?_
  rintro e w' ⟨rfl, hL⟩
  exact ⟨rfl, TLook.of hh hL hi⟩
theorem tSelect_is (h : TreeIs S w p o made vis) (hTab : BitTab w) (hN : ¬ S 0) (j : Int) (x : Bool) :
    Calls Tryd.prog 66 #[.pointer (some ⟨p, 0, none⟩), .int .i64 j, .bool x] w fun e w' => e = .returned (.int .i64 (selL (sbits o) j x)) ∧ TLook S w w' p o made (shigh o + 1) := by
  obtain ⟨C, A, xs, O, h1, h2, hs, e, hi, hCS, _, _, _, hh⟩ := h.open
  rw [← e]
  refine (tSelect_any h1 h2 hs hTab (fun hc => hN (hCS _ hc)) j x).mono ?_
  rintro e w' ⟨rfl, hL⟩
  exact ⟨rfl, TLook.of hh hL hi⟩
end

section
variable {S : Nat → Prop} {w w' : World} {p made : Nat} {o : Option ST} {vis : Int}
/-- New. -/
theorem tNew_is (w : World) {a : Option Addr} {c : Nat} (L : List Bool) (hr : ReadsV w a (L.map Value.bool)) (hc : L.length ≤ c) (hL : L.length ≤ 2147483648) :
    Calls Tryd.prog 74 #[.slice a L.length c] w fun e w' => ∃ p S o, e = .returned (.pointer (some ⟨p, 0, none⟩)) ∧ TreeIs S w' p o (match o with | none => 0 | some t => t.size) 0 ∧ (∀ k, S k → w.heap.size ≤ k) ∧ sbits o = L ∧ Chg (fun _ => False) w w' := by
  by_cases h0 : L.length = 0
  · obtain rfl := List.eq_nil_of_length_eq_zero h0
    refine (tNew_nil w a c).mono ?_
    rintro e w' ⟨p, q, rfl, hp, hq, hH, hcg⟩
    refine ⟨p, fun k => k = p ∨ k = q, none, rfl, ⟨⟨_, _, [], none, hH, trivial, trivial, rfl, rfl, rfl, rfl, rfl, fun k => by simp [obl]⟩, trivial, by simp [sbits]⟩, fun k hk => by rcases hk with rfl | rfl <;> assumption, rfl, hcg⟩
  · have had : ∀ ad, a = some ad → ad.block < w.heap.size := by
      intro ad h
      obtain ⟨b, off, h2, h3, _⟩ := hr 0 (by rw [List.length_map]; omega)
      rw [h] at h2; injection h2 with h2; rw [h2]; exact h3
    refine (tNew_some w hr hc hL (by omega) had).mono ?_
    rintro e w' ⟨p, st, S, rfl, h1, h2, h3, h4⟩
    exact ⟨p, S, some st, rfl, h1, h2, h3, h4⟩
end

end Go.Proofs.YtacoeohmdngnkaaDoor

namespace Go.Proofs.YtacoeohmdngnkaaDoor
set_option linter.unusedVariables false
set_option linter.unusedSimpArgs false
open Go.RowKit

/-- The blocks from B on, but for some. -/
def exT (B : Nat) (X : Nat → Prop) (k : Nat) : Prop := B ≤ k ∧ ¬ X k
/-- The block of a row. -/
def obk (v : Value) (k : Nat) : Prop := v.ownBlock = some k
/-- A tree whose blocks lie from B on and are none of X. -/
structure TreeE (B : Nat) (X : Nat → Prop) (w : World) (p : Nat) (o : Option ST) (made : Nat) (vis : Int) : Prop where
  t : ∃ S, TreeIs S w p o made vis ∧ ∀ k, S k → exT B X k
  le : B ≤ w.heap.size
  x : ∀ k, X k → k < w.heap.size

section
variable {B : Nat} {X : Nat → Prop} {w w' : World} {p made : Nat} {o : Option ST} {vis : Int}
theorem TreeE.good (h : TreeE B X w p o made vis) : Good o := by obtain ⟨S, h, _⟩ := h.t; exact h.good
theorem TreeE.len (h : TreeE B X w p o made vis) : (sbits o).length ≤ 2147483648 := by obtain ⟨S, h, _⟩ := h.t; exact h.len
/-- Blocks that came later are none of the tree's. -/
theorem TreeE.less (h : TreeE B X w p o made vis) (hb : Below w.heap.size w w') {Y : Nat → Prop} (hy : ∀ k, Y k → X k ∨ w.heap.size ≤ k) (hl : ∀ k, Y k → k < w'.heap.size) : TreeE B Y w' p o made vis := by
  obtain ⟨S, h1, h2⟩ := h.t
  exact ⟨⟨S, h1.below hb, fun k hk => ⟨(h2 k hk).1, fun hY => (hy k hY).elim (h2 k hk).2 (fun g => by have := h1.lt k hk; omega)⟩⟩, Nat.le_trans h.le hb.size, hl⟩
theorem TreeE.below (h : TreeE B X w p o made vis) (hb : Below w.heap.size w w') : TreeE B X w' p o made vis := h.less hb (fun k hk => Or.inl hk) (fun k hk => Nat.lt_of_lt_of_le (h.x k hk) hb.size)
theorem TreeE.drewN (h : TreeE B X w p o made vis) (n : Nat) : TreeE B X (w.drewN n) p o made vis := h.below ⟨rfl, rfl, rfl, Nat.le_refl _, fun _ _ => rfl⟩
theorem TreeE.chg {S : Nat → Prop} (h : TreeE B X w p o made vis) (hc : Chg S w w') (hd : ∀ k, exT B X k → k < w.heap.size → ¬ S k) : TreeE B X w' p o made vis := by
  obtain ⟨S', h1, h2⟩ := h.t
  exact ⟨⟨S', h1.chg hc (fun k hk => hd k (h2 k hk) (h1.lt k hk)), h2⟩, Nat.le_trans h.le hc.size, fun k hk => Nat.lt_of_lt_of_le (h.x k hk) hc.size⟩
theorem exT_below (hc : Chg (exT B X) w w') (hB : B ≤ w.heap.size) : Below B w w' := hc.below (fun b hb => hb.1) hB

/-- A look, at a tree beside other rows. -/
def ELook (B : Nat) (X : Nat → Prop) (w w' : World) (p : Nat) (o : Option ST) (made m : Nat) : Prop := (∃ v : Nat, v ≤ m ∧ TreeE B X w' p o made v) ∧ Chg (exT B X) w w'
theorem eLook {S : Nat → Prop} {m : Nat} (h : TreeE B X w p o made vis) (hS : ∀ k, S k → exT B X k) (hL : TLook S w w' p o made m) : ELook B X w w' p o made m := by
  obtain ⟨⟨v, hv, h1⟩, hc⟩ := hL
  exact ⟨⟨v, hv, ⟨⟨S, h1, hS⟩, Nat.le_trans h.le hc.size, fun k hk => Nat.lt_of_lt_of_le (h.x k hk) hc.size⟩⟩, hc.mono hS⟩
theorem rank_t (h : TreeE B X w p o made vis) {L : List Bool} (hL : sbits o = L) (k : Int) (x : Bool) {r : Nat} (hr : rankL L k.toNat x = r) :
    Calls Tryd.prog 83 #[.pointer (some ⟨p, 0, none⟩), .int .i64 k, .bool x] w fun e w' => e = .returned (.int .i64 r) ∧ ELook B X w w' p o made (shigh o + 1) := by
  subst hL hr; obtain ⟨S, h1, h2⟩ := h.t
  refine (tRank_is h1 k x).mono ?_
  rintro e w' ⟨rfl, hl⟩
  exact ⟨rfl, eLook h h2 hl⟩
end

end Go.Proofs.YtacoeohmdngnkaaDoor

namespace Go.Proofs.YtacoeohmdngnkaaDoor
set_option linter.unusedVariables false
set_option linter.unusedSimpArgs false
open Go.RowKit

/-- How many shelves a level has. -/
def pw (l : Nat) : Nat := 2 ^ l
theorem pw_pos (l : Nat) : 0 < pw l := Nat.two_pow_pos l
theorem pw_le {l : Nat} (h : l < 9) : pw l ≤ 256 := by
  unfold pw; exact Nat.le_trans (Nat.pow_le_pow_right (by omega) (by omega : l ≤ 8)) (by decide)

theorem TreeIs.types {S : Nat → Prop} {w : World} {p made : Nat} {o : Option ST} {vis : Int} (h : TreeIs S w p o made vis) {k : Nat} (hk : S k) :
    TypeAt w k 117 ∨ TypeAt w k 120 ∨ TypeAt w k 128 ∨ TypeAt w k 4 ∨ TypeAt w k 3 ∨ TypeAt w k 71 := by
  obtain ⟨C, A, xs, O, h1, h2, _, _, _, _, _, _, h9⟩ := h.ex
  rcases (h9 k).1 hk with hk | hk
  · rcases h1.types hk with g | g | g | g | g
    · exact Or.inl g
    · exact Or.inr (Or.inl g)
    · exact Or.inr (Or.inr (Or.inl g))
    · exact Or.inr (Or.inr (Or.inr (Or.inl g)))
    · exact Or.inr (Or.inr (Or.inr (Or.inr (Or.inl g))))
  · cases O with
    | none => simp [obl] at hk
    | some T => exact Or.inr (Or.inr (Or.inr (Or.inr (Or.inr (Sub.type h2 hk)))))
theorem TreeIs.notT {S : Nat → Prop} {w : World} {p made : Nat} {o : Option ST} {vis : Int} (h : TreeIs S w p o made vis) {k : Nat} {T : TypeId} (hk : TypeAt w k T)
    (hT : T ≠ 117 ∧ T ≠ 120 ∧ T ≠ 128 ∧ T ≠ 4 ∧ T ≠ 3 ∧ T ≠ 71) : ¬ S k := by
  intro hs
  rcases h.types hs with g | g | g | g | g | g
  · exact hk.ne g hT.1 rfl
  · exact hk.ne g hT.2.1 rfl
  · exact hk.ne g hT.2.2.1 rfl
  · exact hk.ne g hT.2.2.2.1 rfl
  · exact hk.ne g hT.2.2.2.2.1 rfl
  · exact hk.ne g hT.2.2.2.2.2 rfl

/-- Where a wave's rows and trees lie. -/
structure WD where
  G : Nat → Nat
  C : Nat → Nat
  Q : Nat → Nat → Nat
def WD.row (D : WD) (l : Nat) : Value := .slice (some ⟨D.G l, 0, none⟩) (pw l) (D.C l)
def headV (D : WD) (n : Nat) (vis : Int) : Array Value :=
  #[D.row 0, D.row 1, D.row 2, D.row 3, D.row 4, D.row 5, D.row 6, D.row 7, D.row 8, .int .i64 n, .int .i64 vis]
def rowsV (D : WD) : Value := .agg #[D.row 0, D.row 1, D.row 2, D.row 3, D.row 4, D.row 5, D.row 6, D.row 7, D.row 8]
def shelfV (D : WD) (l k : Nat) : Value := .agg #[.pointer (some ⟨D.Q l k, 0, none⟩), .int .i64 l, .int .i64 k]

/-- A wave: its head at p, its rows, its trees O with their blocks S. -/
structure WaveIn (w : World) (p : Nat) (D : WD) (O : Nat → Nat → Option ST) (S : Nat → Nat → Nat → Prop) (n : Nat) (vis : Int) (Vb : Nat → Nat → Int → Prop) : Prop where
  head : w.heap[p]? = some (.cells (headV D n vis) 86 (0, 0))
  rty : ∀ l, l < 9 → ∃ cs, w.heap[D.G l]? = some (.cells cs 90 (0, 0))
  rows : ∀ l k, l < 9 → k < pw l → w.cell? ⟨D.G l, k * 3, none⟩ = some (.pointer (some ⟨D.Q l k, 0, none⟩)) ∧ w.cell? ⟨D.G l, k * 3 + 1, none⟩ = some (.int .i64 l) ∧ w.cell? ⟨D.G l, k * 3 + 2, none⟩ = some (.int .i64 k)
  tree : ∀ l k, l < 9 → k < pw l → ∃ (made : Nat) (v : Int), Vb l k v ∧ TreeIs (S l k) w (D.Q l k) (O l k) made v
  dis : ∀ l k l' k', l < 9 → k < pw l → l' < 9 → k' < pw l' → (l ≠ l' ∨ k ≠ k') → ∀ j, S l k j → ¬ S l' k' j
/-- All its blocks. -/
def WvB (p : Nat) (D : WD) (S : Nat → Nat → Nat → Prop) (j : Nat) : Prop := j = p ∨ (∃ l, l < 9 ∧ j = D.G l) ∨ ∃ l k, l < 9 ∧ k < pw l ∧ S l k j
/-- A wave whose blocks lie from B on and are none of X. -/
structure WaveE (B : Nat) (X : Nat → Prop) (w : World) (p : Nat) (D : WD) (O : Nat → Nat → Option ST) (n : Nat) (vis : Int) (Vb : Nat → Nat → Int → Prop) : Prop where
  i : ∃ S, WaveIn w p D O S n vis Vb ∧ ∀ j, WvB p D S j → exT B X j
  le : B ≤ w.heap.size
  x : ∀ k, X k → k < w.heap.size
def anyV : Nat → Nat → Int → Prop := fun _ _ _ => True
/-- One tree is another one. -/
def updO {α : Type} (O : Nat → Nat → α) (l k : Nat) (o : α) : Nat → Nat → α := fun l' k' => if l' = l ∧ k' = k then o else O l' k'
theorem updO_same {α : Type} (O : Nat → Nat → α) (l k : Nat) (o : α) : updO O l k o l k = o := by simp [updO]
theorem updO_ne {α : Type} (O : Nat → Nat → α) {l k l' k' : Nat} (o : α) (h : l' ≠ l ∨ k' ≠ k) : updO O l k o l' k' = O l' k' := by
  unfold updO; rw [if_neg (by omega)]
theorem updO_self {α : Type} (O : Nat → Nat → α) (l k : Nat) : updO O l k (O l k) = O := by
  funext l' k'; unfold updO; split
  · next h => rw [h.1, h.2]
  · rfl

section
variable {B : Nat} {X Y : Nat → Prop} {w w' : World} {p n : Nat} {D : WD} {O : Nat → Nat → Option ST} {S : Nat → Nat → Nat → Prop} {vis vis' : Int} {Vb Vc : Nat → Nat → Int → Prop}
theorem WaveIn.tyP (h : WaveIn w p D O S n vis Vb) : TypeAt w p 86 := ⟨_, h.head⟩
theorem WaveIn.tyG (h : WaveIn w p D O S n vis Vb) {l : Nat} (hl : l < 9) : TypeAt w (D.G l) 90 := by
  obtain ⟨cs, h⟩ := h.rty l hl; exact ⟨cs, h⟩
theorem WaveIn.nP (h : WaveIn w p D O S n vis Vb) {l k : Nat} (hl : l < 9) (hk : k < pw l) : ¬ S l k p := by
  obtain ⟨m, v, _, ht⟩ := h.tree l k hl hk
  exact ht.notT h.tyP (by decide)
theorem WaveIn.nG (h : WaveIn w p D O S n vis Vb) {l k l' : Nat} (hl : l < 9) (hk : k < pw l) (hl' : l' < 9) : ¬ S l k (D.G l') := by
  obtain ⟨m, v, _, ht⟩ := h.tree l k hl hk
  exact ht.notT (h.tyG hl') (by decide)
theorem WaveIn.pG (h : WaveIn w p D O S n vis Vb) {l : Nat} (hl : l < 9) : D.G l ≠ p := TypeAt.ne (h.tyG hl) h.tyP (by decide)
theorem WaveIn.lt (h : WaveIn w p D O S n vis Vb) : ∀ j, WvB p D S j → j < w.heap.size := by
  rintro j (rfl | ⟨l, hl, rfl⟩ | ⟨l, k, hl, hk, hj⟩)
  · exact h.tyP.lt
  · exact (h.tyG hl).lt
  · obtain ⟨m, v, _, ht⟩ := h.tree l k hl hk; exact ht.lt j hj
/-- What changes none of its blocks. -/
theorem WaveIn.chg {Z : Nat → Prop} (h : WaveIn w p D O S n vis Vb) (hc : Chg Z w w') (hd : ∀ j, WvB p D S j → ¬ Z j) : WaveIn w' p D O S n vis Vb := by
  refine ⟨hc.heap h.head (hd p (Or.inl rfl)), fun l hl => ?_, fun l k hl hk => ?_, fun l k hl hk => ?_, h.dis⟩
  · obtain ⟨cs, h1⟩ := h.rty l hl
    exact ⟨cs, hc.heap h1 (hd _ (Or.inr (Or.inl ⟨l, hl, rfl⟩)))⟩
  · obtain ⟨a, b, c⟩ := h.rows l k hl hk
    have hn := hd _ (Or.inr (Or.inl ⟨l, hl, rfl⟩))
    exact ⟨hc.cell (p := ⟨D.G l, k * 3, none⟩) a hn, hc.cell (p := ⟨D.G l, k * 3 + 1, none⟩) b hn, hc.cell (p := ⟨D.G l, k * 3 + 2, none⟩) c hn⟩
  · obtain ⟨m, v, hv, ht⟩ := h.tree l k hl hk
    exact ⟨m, v, hv, ht.chg hc (fun j hj => hd j (Or.inr (Or.inr ⟨l, k, hl, hk, hj⟩)))⟩
/-- The head's last cells are written. -/
theorem WaveIn.put (h : WaveIn w p D O S n vis Vb) {n' : Nat} (hc : Chg (fun j => j = p) w w') (hp : w'.heap[p]? = some (.cells (headV D n' vis') 86 (0, 0))) : WaveIn w' p D O S n' vis' Vb := by
  refine ⟨hp, fun l hl => ?_, fun l k hl hk => ?_, fun l k hl hk => ?_, h.dis⟩
  · obtain ⟨cs, h1⟩ := h.rty l hl
    exact ⟨cs, hc.heap h1 (h.pG hl)⟩
  · obtain ⟨a, b, c⟩ := h.rows l k hl hk
    have hn := h.pG hl
    exact ⟨hc.cell (p := ⟨D.G l, k * 3, none⟩) a hn, hc.cell (p := ⟨D.G l, k * 3 + 1, none⟩) b hn, hc.cell (p := ⟨D.G l, k * 3 + 2, none⟩) c hn⟩
  · obtain ⟨m, v, hv, ht⟩ := h.tree l k hl hk
    exact ⟨m, v, hv, ht.chg hc (fun j hj e => h.nP hl hk (by rw [← e]; exact hj))⟩
/-- A step of one tree. -/
theorem WaveIn.step (h : WaveIn w p D O S n vis Vb) {l k : Nat} (hl : l < 9) (hk : k < pw l) {S' : Nat → Prop} {o' : Option ST} {made' : Nat} {v' : Int} (ht : TreeIs S' w' (D.Q l k) o' made' v') (hS : ∀ j, S' j → S l k j ∨ w.heap.size ≤ j) (hc : Chg (S l k) w w')
    (hv : Vc l k v') (hvv : ∀ l' k' v, Vb l' k' v → (l' ≠ l ∨ k' ≠ k) → Vc l' k' v) : WaveIn w' p D (updO O l k o') (updO S l k S') n vis Vc := by
  refine ⟨hc.heap h.head (h.nP hl hk), fun l' hl' => ?_, fun l' k' hl' hk' => ?_, fun l' k' hl' hk' => ?_, fun l1 k1 l2 k2 h1 h2 h3 h4 hne j hj hj2 => ?_⟩
  · obtain ⟨cs, h1⟩ := h.rty l' hl'
    exact ⟨cs, hc.heap h1 (h.nG hl hk hl')⟩
  · obtain ⟨a, b, c⟩ := h.rows l' k' hl' hk'
    have hn := h.nG hl hk hl'
    exact ⟨hc.cell (p := ⟨D.G l', k' * 3, none⟩) a hn, hc.cell (p := ⟨D.G l', k' * 3 + 1, none⟩) b hn, hc.cell (p := ⟨D.G l', k' * 3 + 2, none⟩) c hn⟩
  · by_cases e : l' = l ∧ k' = k
    · obtain ⟨rfl, rfl⟩ := e
      rw [updO_same, updO_same]; exact ⟨made', v', hv, ht⟩
    · have hne : l' ≠ l ∨ k' ≠ k := by omega
      rw [updO_ne _ _ hne, updO_ne _ _ hne]
      obtain ⟨m, v, hvb, ht2⟩ := h.tree l' k' hl' hk'
      exact ⟨m, v, hvv l' k' v hvb hne, ht2.chg hc (fun j hj => h.dis l' k' l k hl' hk' hl hk (by omega) j hj)⟩
  · have key : ∀ l1 k1, l1 < 9 → k1 < pw l1 → updO S l k S' l1 k1 j → (l1 = l ∧ k1 = k ∧ (S l k j ∨ w.heap.size ≤ j)) ∨ ((l1 ≠ l ∨ k1 ≠ k) ∧ S l1 k1 j) := by
      intro l1 k1 h1 h2 hj
      by_cases e : l1 = l ∧ k1 = k
      · obtain ⟨rfl, rfl⟩ := e
        rw [updO_same] at hj
        exact Or.inl ⟨rfl, rfl, hS j hj⟩
      · have hne : l1 ≠ l ∨ k1 ≠ k := by omega
        rw [updO_ne _ _ hne] at hj
        exact Or.inr ⟨hne, hj⟩
    have ltS : ∀ l1 k1, l1 < 9 → k1 < pw l1 → S l1 k1 j → j < w.heap.size := fun l1 k1 h1 h2 hj => h.lt j (Or.inr (Or.inr ⟨l1, k1, h1, h2, hj⟩))
    rcases key l1 k1 h1 h2 hj with ⟨e1, e2, e3⟩ | ⟨e1, e2⟩ <;> rcases key l2 k2 h3 h4 hj2 with ⟨f1, f2, f3⟩ | ⟨f1, f2⟩
    · omega
    · rcases e3 with e3 | e3
      · exact h.dis l k l2 k2 hl hk h3 h4 (by omega) j e3 f2
      · have := ltS l2 k2 h3 h4 f2; omega
    · rcases f3 with f3 | f3
      · exact h.dis l k l1 k1 hl hk h1 h2 (by omega) j f3 e2
      · have := ltS l1 k1 h1 h2 e2; omega
    · exact h.dis l1 k1 l2 k2 h1 h2 h3 h4 hne j e2 f2

theorem WaveE.vb (h : WaveE B X w p D O n vis Vb) (hv : ∀ l k v, Vb l k v → Vc l k v) : WaveE B X w p D O n vis Vc := by
  obtain ⟨S, h1, h2⟩ := h.i
  exact ⟨⟨S, ⟨h1.head, h1.rty, h1.rows, fun l k hl hk => by obtain ⟨m, v, hvb, ht⟩ := h1.tree l k hl hk; exact ⟨m, v, hv l k v hvb, ht⟩, h1.dis⟩, h2⟩, h.le, h.x⟩
theorem WaveE.any (h : WaveE B X w p D O n vis Vb) : WaveE B X w p D O n vis anyV := h.vb (fun _ _ _ _ => trivial)
/-- Blocks that came later are none of the wave's. -/
theorem WaveE.less (h : WaveE B X w p D O n vis Vb) (hb : Below w.heap.size w w') (hy : ∀ k, Y k → X k ∨ w.heap.size ≤ k) (hl : ∀ k, Y k → k < w'.heap.size) : WaveE B Y w' p D O n vis Vb := by
  obtain ⟨S, h1, h2⟩ := h.i
  refine ⟨⟨S, h1.chg (Z := fun _ => False) (Chg.of_below hb) (fun _ _ hf => hf), fun j hj => ⟨(h2 j hj).1, fun hY => (hy j hY).elim (h2 j hj).2 (fun g => by have := h1.lt j hj; omega)⟩⟩, Nat.le_trans h.le hb.size, hl⟩
theorem WaveE.below (h : WaveE B X w p D O n vis Vb) (hb : Below w.heap.size w w') : WaveE B X w' p D O n vis Vb := h.less hb (fun k hk => Or.inl hk) (fun k hk => Nat.lt_of_lt_of_le (h.x k hk) hb.size)
theorem WaveE.drewN (h : WaveE B X w p D O n vis Vb) (m : Nat) : WaveE B X (w.drewN m) p D O n vis Vb := h.below ⟨rfl, rfl, rfl, Nat.le_refl _, fun _ _ => rfl⟩
theorem WaveE.chg {Z : Nat → Prop} (h : WaveE B X w p D O n vis Vb) (hc : Chg Z w w') (hd : ∀ k, exT B X k → k < w.heap.size → ¬ Z k) : WaveE B X w' p D O n vis Vb := by
  obtain ⟨S, h1, h2⟩ := h.i
  exact ⟨⟨S, h1.chg hc (fun k hk => hd k (h2 k hk) (h1.lt k hk)), h2⟩, Nat.le_trans h.le hc.size, fun k hk => Nat.lt_of_lt_of_le (h.x k hk) hc.size⟩
theorem WaveE.mono (h : WaveE B X w p D O n vis Vb) (hy : ∀ k, Y k → X k) : WaveE B Y w p D O n vis Vb := by
  obtain ⟨S, h1, h2⟩ := h.i
  exact ⟨⟨S, h1, fun j hj => ⟨(h2 j hj).1, fun hY => (h2 j hj).2 (hy j hY)⟩⟩, h.le, fun k hk => h.x k (hy k hk)⟩
/-- A step of one tree. -/
theorem WaveE.step (h : WaveE B X w p D O n vis Vb) {l k : Nat} (hl : l < 9) (hk : k < pw l) :
    ∃ (S : Nat → Prop) (made : Nat) (v : Int), Vb l k v ∧ TreeIs S w (D.Q l k) (O l k) made v ∧ (∀ j, S j → exT B X j) ∧
      ∀ w' S' o' made' v' Vc, TreeIs S' w' (D.Q l k) o' made' v' → (∀ j, S' j → S j ∨ w.heap.size ≤ j) → Chg S w w' → Vc l k v' → (∀ l' k' v, Vb l' k' v → (l' ≠ l ∨ k' ≠ k) → Vc l' k' v) →
        WaveE B X w' p D (updO O l k o') n vis Vc ∧ Chg (exT B X) w w' := by
  obtain ⟨S, h1, h2⟩ := h.i
  obtain ⟨m, v, hv, ht⟩ := h1.tree l k hl hk
  have hSx : ∀ j, S l k j → exT B X j := fun j hj => h2 j (Or.inr (Or.inr ⟨l, k, hl, hk, hj⟩))
  refine ⟨S l k, m, v, hv, ht, hSx, fun w' S' o' made' v' Vc ht' hS hc hvc hvv => ⟨⟨⟨updO S l k S', h1.step hl hk ht' hS hc hvc hvv, ?_⟩, Nat.le_trans h.le hc.size, fun j hj => Nat.lt_of_lt_of_le (h.x j hj) hc.size⟩, hc.mono hSx⟩⟩
  rintro j (rfl | ⟨l1, hl1, rfl⟩ | ⟨l1, k1, hl1, hk1, hj⟩)
  · exact h2 _ (Or.inl rfl)
  · exact h2 _ (Or.inr (Or.inl ⟨l1, hl1, rfl⟩))
  · by_cases e : l1 = l ∧ k1 = k
    · obtain ⟨rfl, rfl⟩ := e
      rw [updO_same] at hj
      rcases hS j hj with hj | hj
      · exact hSx j hj
      · exact ⟨Nat.le_trans h.le hj, fun hx => by have := h.x j hx; omega⟩
    · have hne : l1 ≠ l ∨ k1 ≠ k := by omega
      rw [updO_ne _ _ hne] at hj
      exact h2 j (Or.inr (Or.inr ⟨l1, k1, hl1, hk1, hj⟩))
/-- The head. -/
theorem WaveE.head (h : WaveE B X w p D O n vis Vb) : w.heap[p]? = some (.cells (headV D n vis) 86 (0, 0)) ∧ exT B X p := by
  obtain ⟨S, h1, h2⟩ := h.i
  exact ⟨h1.head, h2 p (Or.inl rfl)⟩
theorem WaveE.put (h : WaveE B X w p D O n vis Vb) {n' : Nat} (hc : Chg (fun j => j = p) w w') (hp : w'.heap[p]? = some (.cells (headV D n' vis') 86 (0, 0))) : WaveE B X w' p D O n' vis' Vb := by
  obtain ⟨S, h1, h2⟩ := h.i
  exact ⟨⟨S, h1.put hc hp, h2⟩, Nat.le_trans h.le hc.size, fun j hj => Nat.lt_of_lt_of_le (h.x j hj) hc.size⟩
theorem WaveE.setVis (h : WaveE B X w p D O n vis Vb) (v : Int) : WaveE B X (w.setCell ⟨p, 10, none⟩ (.int .i64 v)) p D O n v Vb ∧ Chg (exT B X) w (w.setCell ⟨p, 10, none⟩ (.int .i64 v)) := by
  have hc : Chg (fun j => j = p) w (w.setCell ⟨p, 10, none⟩ (.int .i64 v)) := Chg.refl.setCell (S := fun j => j = p) ⟨p, 10, none⟩ (Or.inl rfl) _
  exact ⟨h.put hc (heap_setCell_same w p 10 _ _ _ h.head.1), hc.mono (fun j hj => by subst hj; exact h.head.2)⟩
/-- The head's cells. -/
theorem WaveE.cells (h : WaveE B X w p D O n vis Vb) : (∀ l, l < 9 → w.cell? ⟨p, l, none⟩ = some (D.row l)) ∧ w.cell? ⟨p, 9, none⟩ = some (.int .i64 n) ∧ w.cell? ⟨p, 10, none⟩ = some (.int .i64 vis) ∧ (∀ j, w.frozen? ⟨p, j, none⟩ = false) ∧ p < w.heap.size := by
  have hp := h.head.1
  refine ⟨fun l hl => ?_, by rw [cell_of_row w p 9 _ _ _ hp]; rfl, by rw [cell_of_row w p 10 _ _ _ hp]; rfl, fun j => frozen_of_row w p j _ _ hp, (Array.getElem?_eq_some_iff.1 hp).1⟩
  rw [cell_of_row w p l _ _ _ hp]
  have : l = 0 ∨ l = 1 ∨ l = 2 ∨ l = 3 ∨ l = 4 ∨ l = 5 ∨ l = 6 ∨ l = 7 ∨ l = 8 := by omega
  rcases this with rfl | rfl | rfl | rfl | rfl | rfl | rfl | rfl | rfl <;> rfl
/-- A shelf's cells. -/
theorem WaveE.shelf (h : WaveE B X w p D O n vis Vb) {l k : Nat} (hl : l < 9) (hk : k < pw l) : w.cell? ⟨D.G l, k * 3, none⟩ = some (.pointer (some ⟨D.Q l k, 0, none⟩)) ∧ w.cell? ⟨D.G l, k * 3 + 1, none⟩ = some (.int .i64 l) ∧ w.cell? ⟨D.G l, k * 3 + 2, none⟩ = some (.int .i64 k) := by
  obtain ⟨S, h1, _⟩ := h.i
  exact h1.rows l k hl hk
end

end Go.Proofs.YtacoeohmdngnkaaDoor

namespace Go.Proofs.YtacoeohmdngnkaaDoor
set_option linter.unusedVariables false
set_option linter.unusedSimpArgs false
open Go.RowKit

/-- How many nodes a step on one tree looked at. -/
def vbAt (l k M : Nat) : Nat → Nat → Int → Prop := fun l' k' v => l' = l → k' = k → 0 ≤ v ∧ v ≤ M
section
variable {B : Nat} {X : Nat → Prop} {w w' : World} {p n : Nat} {D : WD} {O : Nat → Nat → Option ST} {vis : Int} {Vb : Nat → Nat → Int → Prop} {l k : Nat}
theorem vbAt_at {M v : Nat} (h : v ≤ M) : vbAt l k M l k (v : Int) := fun _ _ => ⟨by omega, by exact_mod_cast h⟩
theorem vbAt_ne {M : Nat} {Vb : Nat → Nat → Int → Prop} : ∀ l' k' v, Vb l' k' v → (l' ≠ l ∨ k' ≠ k) → vbAt l k M l' k' v := fun l' k' v _ hne h1 h2 => by omega
theorem WaveE.tGood (h : WaveE B X w p D O n vis Vb) (hl : l < 9) (hk : k < pw l) : Good (O l k) ∧ (sbits (O l k)).length ≤ 2147483648 := by
  obtain ⟨S, made, v, hv, ht, hS, hst⟩ := h.step hl hk
  exact ⟨ht.good, ht.len⟩
theorem WaveE.tRank (h : WaveE B X w p D O n vis Vb) (hl : l < 9) (hk : k < pw l) (j : Int) (x : Bool) :
    Calls Tryd.prog 83 #[.pointer (some ⟨D.Q l k, 0, none⟩), .int .i64 j, .bool x] w fun e w' => e = .returned (.int .i64 (rankL (sbits (O l k)) j.toNat x)) ∧ WaveE B X w' p D O n vis (vbAt l k (shigh (O l k) + 1)) ∧ Chg (exT B X) w w' := by
  obtain ⟨S, made, v, hv, ht, hS, hst⟩ := h.step hl hk
  refine (tRank_is ht j x).mono ?_
  rintro e w' ⟨rfl, ⟨v', hv', ht'⟩, hc⟩
  have := hst w' S _ made v' (vbAt l k (shigh (O l k) + 1)) ht' (fun j hj => Or.inl hj) hc (vbAt_at hv') vbAt_ne
  rw [updO_self] at this
  exact ⟨rfl, this⟩
theorem WaveE.tGet (h : WaveE B X w p D O n vis Vb) (hl : l < 9) (hk : k < pw l) (j : Nat) (hj : j < (sbits (O l k)).length) :
    Calls Tryd.prog 68 #[.pointer (some ⟨D.Q l k, 0, none⟩), .int .i64 j] w fun e w' => e = .returned (.tuple #[.bool (bitAt (sbits (O l k)) j), .int .i64 0]) ∧ WaveE B X w' p D O n vis (vbAt l k (shigh (O l k) + 1)) ∧ Chg (exT B X) w w' := by
  obtain ⟨S, made, v, hv, ht, hS, hst⟩ := h.step hl hk
  refine (tGet_is ht j hj).mono ?_
  rintro e w' ⟨rfl, ⟨v', hv', ht'⟩, hc⟩
  have := hst w' S _ made v' (vbAt l k (shigh (O l k) + 1)) ht' (fun j hj => Or.inl hj) hc (vbAt_at hv') vbAt_ne
  rw [updO_self] at this
  exact ⟨rfl, this⟩
theorem WaveE.tSelect (h : WaveE B X w p D O n vis Vb) (hl : l < 9) (hk : k < pw l) (hTab : BitTab w) (hN : 0 < B) (j : Int) (x : Bool) :
    Calls Tryd.prog 66 #[.pointer (some ⟨D.Q l k, 0, none⟩), .int .i64 j, .bool x] w fun e w' => e = .returned (.int .i64 (selL (sbits (O l k)) j x)) ∧ WaveE B X w' p D O n vis (vbAt l k (shigh (O l k) + 1)) ∧ Chg (exT B X) w w' := by
  obtain ⟨S, made, v, hv, ht, hS, hst⟩ := h.step hl hk
  refine (tSelect_is ht hTab (fun hs => by have := (hS _ hs).1; omega) j x).mono ?_
  rintro e w' ⟨rfl, ⟨v', hv', ht'⟩, hc⟩
  have := hst w' S _ made v' (vbAt l k (shigh (O l k) + 1)) ht' (fun j hj => Or.inl hj) hc (vbAt_at hv') vbAt_ne
  rw [updO_self] at this
  exact ⟨rfl, this⟩
end

end Go.Proofs.YtacoeohmdngnkaaDoor

namespace Go.Proofs.YtacoeohmdngnkaaDoor
set_option linter.unusedVariables false
set_option linter.unusedSimpArgs false
open Go.RowKit

/-- The cells of a level's first shelves. -/
def shC (Q : Nat → Nat → Nat) (l k : Nat) : List Value := (List.range k).flatMap (fun i => [.pointer (some ⟨Q l i, 0, none⟩), .int .i64 l, .int .i64 i])
theorem shC_succ (Q : Nat → Nat → Nat) (l k : Nat) : shC Q l (k + 1) = shC Q l k ++ [.pointer (some ⟨Q l k, 0, none⟩), .int .i64 l, .int .i64 k] := by
  unfold shC; rw [List.range_succ, List.flatMap_append]; simp
theorem shC_len (Q : Nat → Nat → Nat) (l k : Nat) : (shC Q l k).length = k * 3 := by
  induction k with
  | zero => rfl
  | succ k ih => rw [shC_succ, List.length_append, ih]; simp; omega
theorem shC_congr {Q Q' : Nat → Nat → Nat} {l k : Nat} (h : ∀ i, i < k → Q l i = Q' l i) : shC Q l k = shC Q' l k := by
  induction k with
  | zero => rfl
  | succ k ih => rw [shC_succ, shC_succ, ih (fun i hi => h i (by omega)), h k (by omega)]
theorem shC_get (Q : Nat → Nat → Nat) (l : Nat) {i k : Nat} (h : i < k) : (shC Q l k)[i * 3]? = some (.pointer (some ⟨Q l i, 0, none⟩)) ∧ (shC Q l k)[i * 3 + 1]? = some (.int .i64 l) ∧ (shC Q l k)[i * 3 + 2]? = some (.int .i64 i) := by
  induction k with
  | zero => omega
  | succ k ih =>
    rw [shC_succ]
    by_cases e : i = k
    · subst e
      have hl := shC_len Q l i
      refine ⟨?_, ?_, ?_⟩
      · rw [List.getElem?_append_right (by omega), hl, Nat.sub_self]; rfl
      · rw [List.getElem?_append_right (by omega), hl, show i * 3 + 1 - i * 3 = 1 by omega]; rfl
      · rw [List.getElem?_append_right (by omega), hl, show i * 3 + 2 - i * 3 = 2 by omega]; rfl
    · obtain ⟨a, b, c⟩ := ih (by omega)
      have hl := shC_len Q l k
      refine ⟨?_, ?_, ?_⟩
      · rw [List.getElem?_append_left (by omega)]; exact a
      · rw [List.getElem?_append_left (by omega)]; exact b
      · rw [List.getElem?_append_left (by omega)]; exact c

def headG (V : Nat → Value) (n : Nat) : Array Value := #[V 0, V 1, V 2, V 3, V 4, V 5, V 6, V 7, V 8, .int .i64 n, .int .i64 0]
def putV (V : Nat → Value) (l : Nat) (v : Value) : Nat → Value := fun l' => if l' = l then v else V l'
def incC (c : Nat → Nat) (l : Nat) : Nat → Nat := fun l' => if l' = l then c l + 1 else c l'
theorem headG_put (V : Nat → Value) (n : Nat) {l : Nat} (h : l < 9) (v : Value) : (headG V n).setIfInBounds l v = headG (putV V l v) n := by
  have : l = 0 ∨ l = 1 ∨ l = 2 ∨ l = 3 ∨ l = 4 ∨ l = 5 ∨ l = 6 ∨ l = 7 ∨ l = 8 := by omega
  rcases this with rfl | rfl | rfl | rfl | rfl | rfl | rfl | rfl | rfl <;> rfl
theorem headG_get (V : Nat → Value) (n : Nat) {l : Nat} (h : l < 9) : (headG V n)[l]? = some (V l) := by
  have : l = 0 ∨ l = 1 ∨ l = 2 ∨ l = 3 ∨ l = 4 ∨ l = 5 ∨ l = 6 ∨ l = 7 ∨ l = 8 := by omega
  rcases this with rfl | rfl | rfl | rfl | rfl | rfl | rfl | rfl | rfl <;> rfl

/-- A wave that is being built: so many shelves of each level are there. -/
structure WavePt (w : World) (base p : Nat) (V : Nat → Value) (c : Nat → Nat) (Q : Nat → Nat → Nat) (O : Nat → Nat → Option ST) (S : Nat → Nat → Nat → Prop) (n : Nat) : Prop where
  head : w.heap[p]? = some (.cells (headG V n) 86 (0, 0))
  rows : ∀ l, l < 9 → w.ownsRow base 90 3 (V l) (c l) (shC Q l (c l))
  rdis : ∀ l l' g, l < 9 → l' < 9 → l ≠ l' → (V l).ownBlock = some g → (V l').ownBlock ≠ some g
  tree : ∀ l k, l < 9 → k < c l → ∃ made, TreeIs (S l k) w (Q l k) (O l k) made 0
  dis : ∀ l k l' k', l < 9 → k < c l → l' < 9 → k' < c l' → (l ≠ l' ∨ k ≠ k') → ∀ j, S l k j → ¬ S l' k' j
  low : base ≤ p ∧ ∀ l k j, l < 9 → k < c l → S l k j → base ≤ j

section
variable {w w' : World} {base p n : Nat} {V : Nat → Value} {c : Nat → Nat} {Q : Nat → Nat → Nat} {O : Nat → Nat → Option ST} {S : Nat → Nat → Nat → Prop}
theorem own_ty {w : World} {base : Nat} {e : TypeId} {size : Nat} {v : Value} {n : Nat} {xs : List Value} (h : w.ownsRow base e size v n xs) {g : Nat} (hg : v.ownBlock = some g) : TypeAt w g e := by
  rcases h.2 with ⟨rfl, _⟩ | ⟨g', cap, cur, rfl, _, hgg, _⟩
  · simp [Value.ownBlock] at hg
  · simp [Value.ownBlock] at hg
    subst hg
    exact ⟨cur, hgg⟩
theorem WavePt.tyP (h : WavePt w base p V c Q O S n) : TypeAt w p 86 := ⟨_, h.head⟩
theorem WavePt.tyG (h : WavePt w base p V c Q O S n) {l g : Nat} (hl : l < 9) (hg : (V l).ownBlock = some g) : TypeAt w g 90 := own_ty (h.rows l hl) hg
theorem WavePt.chg {Z : Nat → Prop} (h : WavePt w base p V c Q O S n) (hc : Chg Z w w') (hp : ¬ Z p) (hr : ∀ l g, l < 9 → (V l).ownBlock = some g → ¬ Z g) (ht : ∀ l k j, l < 9 → k < c l → S l k j → ¬ Z j) : WavePt w' base p V c Q O S n :=
  ⟨hc.heap h.head hp, fun l hl => hc.own (h.rows l hl) (fun g hg => hr l g hl hg), h.rdis, fun l k hl hk => by obtain ⟨m, t⟩ := h.tree l k hl hk; exact ⟨m, t.chg hc (fun j hj => ht l k j hl hk hj)⟩, h.dis, h.low⟩
theorem WavePt.below (h : WavePt w base p V c Q O S n) (hb : Below w.heap.size w w') : WavePt w' base p V c Q O S n :=
  h.chg (Z := fun _ => False) (Chg.of_below hb) id (fun _ _ _ _ => id) (fun _ _ _ _ _ _ => id)
theorem WavePt.start (w : World) (n : Nat) (hb : base ≤ w.heap.size) (Q : Nat → Nat → Nat) (O : Nat → Nat → Option ST) (S : Nat → Nat → Nat → Prop) : WavePt (w.alloc (.cells (headG (fun _ => .slice none 0 0) n) 86)) base w.heap.size (fun _ => .slice none 0 0) (fun _ => 0) Q O S n :=
  ⟨heap_alloc_new w _, fun l hl => World.ownsRow_nil _ _ _ _, fun l l' g _ _ _ h => by simp [Value.ownBlock] at h, fun l k _ hk => by omega, fun l k l' k' _ hk => by omega, hb, fun l k j _ hk => by omega⟩

/-- One more shelf. -/
theorem WavePt.push {w1 w2 w3 : World} (h : WavePt w base p V c Q O S n) {l : Nat} (hl : l < 9) {S' : Nat → Prop} {q m : Nat} {o : Option ST} (ht : TreeIs S' w1 q o m 0) (hS : ∀ j, S' j → w.heap.size ≤ j) (h1 : Chg (fun _ => False) w w1) (h2 : Below w1.heap.size w1 w2)
    {v : Value} {g : Nat} (hv : v.ownBlock = some g) (hown : w3.ownsRow base 90 3 v (c l + 1) (shC Q l (c l) ++ [.pointer (some ⟨q, 0, none⟩), .int .i64 l, .int .i64 (c l : Nat)])) (hg : w2.grownBy w3 (V l).ownBlock) (hor : (V l).ownBlock = some g ∨ w2.heap.size ≤ g) :
    WavePt (w3.setCell ⟨p, l, none⟩ v) base p (putV V l v) (incC c l) (updO Q l (c l) q) (updO O l (c l) o) (updO S l (c l) S') n ∧ Chg (fun j => j = p ∨ (V l).ownBlock = some j) w (w3.setCell ⟨p, l, none⟩ v) := by
  have h12 : Chg (fun _ => False) w w2 := h1.trans (Chg.of_below (S := fun _ => False) h2) (fun b hb => hb.elim)
  have h3 : Chg (fun j => (V l).ownBlock = some j) w w3 := (h12.mono (fun j hj => hj.elim)).grown hg (fun k hk => Or.inl hk)
  have h3' : Chg (fun j => (V l).ownBlock = some j) w1 w3 := (Chg.of_below (S := fun j => (V l).ownBlock = some j) h2).grown hg (fun k hk => Or.inl hk)
  have hpw := h.tyP.lt
  have hpl : (V l).ownBlock ≠ some p := fun e => TypeAt.ne (h.tyG hl e) h.tyP (by decide) rfl
  have hset : Chg (fun j => j = p) w3 (w3.setCell ⟨p, l, none⟩ v) := Chg.refl.setCell (S := fun j => j = p) ⟨p, l, none⟩ (Or.inl rfl) v
  have hgt : TypeAt w3 g 90 := own_ty hown hv
  have hhead : w3.heap[p]? = some (.cells (headG V n) 86 (0, 0)) := h3.heap h.head hpl
  have hgp : g ≠ p := fun e => TypeAt.ne hgt ⟨_, hhead⟩ (by decide) e
  have nP : ∀ l' k, l' < 9 → k < c l' → ¬ S l' k p := fun l' k hl' hk => by obtain ⟨m, t⟩ := h.tree l' k hl' hk; exact t.notT h.tyP (by decide)
  have nG : ∀ l' k g', l' < 9 → k < c l' → (V l).ownBlock = some g' → ¬ S l' k g' := fun l' k g' hl' hk e => by obtain ⟨m, t⟩ := h.tree l' k hl' hk; exact t.notT (h.tyG hl e) (by decide)
  have nG' : ∀ j, S' j → (V l).ownBlock ≠ some j := fun j hj e => by have := (h.tyG hl e).lt; have := hS j hj; omega
  have nP' : ¬ S' p := fun hj => by have := hS p hj; omega
  have hsz := h12.size
  refine ⟨⟨?_, fun l' hl' => ?_, fun l1 l2 g' hl1 hl2 hne hg1 hg2 => ?_, fun l' k hl' hk => ?_, fun l1 k1 l2 k2 hl1 hk1 hl2 hk2 hne j hj1 hj2 => ?_, h.low.1, fun l' k j hl' hk hj => ?_⟩, Chg.setCell (S := fun j => j = p ∨ (V l).ownBlock = some j) (h3.mono (fun j hj => Or.inr hj)) ⟨p, l, none⟩ (Or.inl (Or.inl rfl)) v⟩
  · have := heap_setCell_same w3 p l _ _ v hhead
    rw [headG_put V n hl v] at this
    exact this
  · by_cases e : l' = l
    · subst e
      have e1 : putV V l' v l' = v := by simp [putV]
      have e2 : incC c l' l' = c l' + 1 := by simp [incC]
      rw [e1, e2, shC_succ, updO_same, shC_congr (Q' := Q) (fun i hi => updO_ne Q q (by omega))]
      exact hset.own hown (fun k hk e => by rw [hv] at hk; injection hk with hk; omega)
    · have e1 : putV V l v l' = V l' := by simp [putV, e]
      have e2 : incC c l l' = c l' := by simp [incC, e]
      rw [e1, e2, shC_congr (Q' := Q) (fun i hi => updO_ne Q q (Or.inl e))]
      refine hset.own (h3.own (h.rows l' hl') (fun k hk e3 => h.rdis l l' k hl hl' (Ne.symm e) e3 hk)) (fun k hk e3 => ?_)
      exact TypeAt.ne (h.tyG hl' hk) h.tyP (by decide) e3
  · by_cases e : l1 = l
    · subst e
      have e1 : putV V l1 v l1 = v := by simp [putV]
      have e2 : putV V l1 v l2 = V l2 := by simp [putV, Ne.symm hne]
      rw [e1, hv] at hg1; injection hg1 with hg1; subst hg1
      rw [e2] at hg2
      rcases hor with hor | hor
      · exact h.rdis l1 l2 g hl1 hl2 hne hor hg2
      · have := (h.tyG hl2 hg2).lt; omega
    · by_cases e' : l2 = l
      · subst e'
        have e1 : putV V l2 v l1 = V l1 := by simp [putV, e]
        have e2 : putV V l2 v l2 = v := by simp [putV]
        rw [e2, hv] at hg2; injection hg2 with hg2; subst hg2
        rw [e1] at hg1
        rcases hor with hor | hor
        · exact h.rdis l1 l2 g hl1 hl2 hne hg1 hor
        · have := (h.tyG hl1 hg1).lt; omega
      · have e1 : putV V l v l1 = V l1 := by simp [putV, e]
        have e2 : putV V l v l2 = V l2 := by simp [putV, e']
        rw [e1] at hg1; rw [e2] at hg2
        exact h.rdis l1 l2 g' hl1 hl2 hne hg1 hg2
  · by_cases e : l' = l ∧ k = c l
    · obtain ⟨rfl, rfl⟩ := e
      rw [updO_same, updO_same, updO_same]
      exact ⟨m, (ht.chg h3' nG').chg hset (fun j hj e => nP' (e ▸ hj))⟩
    · have hne : l' ≠ l ∨ k ≠ c l := by omega
      have hk' : k < c l' := by
        unfold incC at hk
        split at hk
        · next e2 => subst e2; omega
        · exact hk
      rw [updO_ne _ _ hne, updO_ne _ _ hne, updO_ne _ _ hne]
      obtain ⟨m, t⟩ := h.tree l' k hl' hk'
      exact ⟨m, (t.chg h3 (fun j hj e => nG l' k j hl' hk' e hj)).chg hset (fun j hj e => nP l' k hl' hk' (e ▸ hj))⟩
  · have key : ∀ l1 k1, l1 < 9 → k1 < incC c l l1 → updO S l (c l) S' l1 k1 j → (l1 = l ∧ k1 = c l ∧ w.heap.size ≤ j) ∨ ((l1 ≠ l ∨ k1 ≠ c l) ∧ k1 < c l1 ∧ S l1 k1 j ∧ j < w.heap.size) := by
      intro l1 k1 hl1 hk1 hj
      by_cases e : l1 = l ∧ k1 = c l
      · obtain ⟨rfl, rfl⟩ := e
        rw [updO_same] at hj
        exact Or.inl ⟨rfl, rfl, hS j hj⟩
      · have hne : l1 ≠ l ∨ k1 ≠ c l := by omega
        have hk' : k1 < c l1 := by
          unfold incC at hk1
          split at hk1
          · next e2 => subst e2; omega
          · exact hk1
        rw [updO_ne _ _ hne] at hj
        obtain ⟨m, t⟩ := h.tree l1 k1 hl1 hk'
        exact Or.inr ⟨hne, hk', hj, t.lt j hj⟩
    rcases key l1 k1 hl1 hk1 hj1 with ⟨a1, a2, a3⟩ | ⟨a1, a2, a3, a4⟩ <;> rcases key l2 k2 hl2 hk2 hj2 with ⟨b1, b2, b3⟩ | ⟨b1, b2, b3, b4⟩
    · omega
    · omega
    · omega
    · exact h.dis l1 k1 l2 k2 hl1 a2 hl2 b2 hne j a3 b3
  · by_cases e : l' = l ∧ k = c l
    · obtain ⟨rfl, rfl⟩ := e
      rw [updO_same] at hj
      have := hS j hj
      have := h.low.1
      omega
    · have hne : l' ≠ l ∨ k ≠ c l := by omega
      have hk' : k < c l' := by
        unfold incC at hk
        split at hk
        · next e2 => subst e2; omega
        · exact hk
      rw [updO_ne _ _ hne] at hj
      exact h.low.2 l' k j hl' hk' hj

theorem WavePt.mid {w1 w2 w3 : World} (h : WavePt w base p V c Q O S n) {l : Nat} (hl : l < 9) (h1 : Chg (fun _ => False) w w1) (h2 : Below w1.heap.size w1 w2) (hg : w2.grownBy w3 (V l).ownBlock) : w3.cell? ⟨p, l, none⟩ = some (V l) ∧ w3.frozen? ⟨p, l, none⟩ = false := by
  have h12 : Chg (fun _ => False) w w2 := h1.trans (Chg.of_below (S := fun _ => False) h2) (fun b hb => hb.elim)
  have h3 : Chg (fun j => (V l).ownBlock = some j) w w3 := (h12.mono (fun j hj => hj.elim)).grown hg (fun k hk => Or.inl hk)
  have hpl : (V l).ownBlock ≠ some p := fun e => TypeAt.ne (h.tyG hl e) h.tyP (by decide) rfl
  have hhead : w3.heap[p]? = some (.cells (headG V n) 86 (0, 0)) := h3.heap h.head hpl
  exact ⟨by rw [cell_of_row w3 p l _ _ _ hhead, headG_get V n hl], frozen_of_row w3 p l _ _ hhead⟩
/-- All shelves are there: it is a wave. -/
theorem WavePt.done (h : WavePt w base p V c Q O S n) (hc : ∀ l, l < 9 → c l = pw l) (hb : base ≤ w.heap.size) : ∃ D, WaveE base (fun _ => False) w p D O n 0 anyV := by
  have hex : ∀ l, ∃ g cap, l < 9 → V l = .slice (some ⟨g, 0, none⟩) (pw l) cap ∧ ∃ cur : Array Value, base ≤ g ∧ w.heap[g]? = some (.cells cur 90 (0, 0)) ∧ cur.toList.take (pw l * 3) = shC Q l (pw l) := by
    intro l
    by_cases hl : l < 9
    · have h1 := h.rows l hl
      rw [hc l hl] at h1
      rcases h1.2 with ⟨_, h0⟩ | ⟨g, cap, cur, hv, hb, hg, _, _, _, ht⟩
      · have := pw_pos l; omega
      · exact ⟨g, cap, fun _ => ⟨hv, cur, hb, hg, ht⟩⟩
    · exact ⟨0, 0, fun h => absurd h hl⟩
  obtain ⟨G, hG⟩ := Classical.axiomOfChoice hex
  obtain ⟨C, hC⟩ := Classical.axiomOfChoice hG
  refine ⟨⟨G, C, Q⟩, ⟨S, ⟨?_, fun l hl => ?_, fun l k hl hk => ?_, fun l k hl hk => ?_, fun l k l' k' hl hk hl' hk' hne j hj => h.dis l k l' k' hl (by rw [hc l hl]; exact hk) hl' (by rw [hc l' hl']; exact hk') hne j hj⟩, fun j hj => ?_⟩, hb, fun _ hf => hf.elim⟩
  · have hh := h.head
    unfold headG at hh
    rw [(hC 0 (by omega)).1, (hC 1 (by omega)).1, (hC 2 (by omega)).1, (hC 3 (by omega)).1, (hC 4 (by omega)).1, (hC 5 (by omega)).1, (hC 6 (by omega)).1, (hC 7 (by omega)).1, (hC 8 (by omega)).1] at hh
    exact hh
  · obtain ⟨_, cur, _, hg, _⟩ := hC l hl
    exact ⟨cur, hg⟩
  · obtain ⟨_, cur, _, hg, ht⟩ := hC l hl
    obtain ⟨a, b, c'⟩ := shC_get Q l hk
    have key : ∀ i v, (shC Q l (pw l))[i]? = some v → w.cell? ⟨G l, i, none⟩ = some v := by
      intro i v hv
      rw [cell_of_row w (G l) i _ _ _ hg]
      rw [← ht, List.getElem?_take] at hv
      split at hv
      · simpa using hv
      · cases hv
    exact ⟨key _ _ a, key _ _ b, key _ _ c'⟩
  · obtain ⟨m, t⟩ := h.tree l k hl (by rw [hc l hl]; exact hk)
    exact ⟨m, 0, trivial, t⟩
  · rcases hj with rfl | ⟨l, hl, rfl⟩ | ⟨l, k, hl, hk, hj⟩
    · exact ⟨h.low.1, id⟩
    · obtain ⟨_, cur, hb, _, _⟩ := hC l hl
      exact ⟨hb, id⟩
    · exact ⟨h.low.2 l k j hl (by rw [hc l hl]; exact hk) hj, id⟩
end

end Go.Proofs.YtacoeohmdngnkaaDoor

namespace Go.Proofs.YtacoeohmdngnkaaDoor
set_option linter.unusedVariables false
set_option linter.unusedSimpArgs false
open Go.RowKit

/-- Rows of bits F, of a block of slices vs. -/
structure BitsR (w : World) (base b N : Nat) (vs : Nat → Value) (F : Nat → List Bool) : Prop where
  blk : w.heap[b]? = some (.cells (vecL vs N).toArray 39 (0, 0))
  rows : ∀ k, k < N → w.ownsRow base 4 1 (vs k) (F k).length ((F k).map Value.bool)
  dis : ∀ k k' g, k < N → k' < N → k ≠ k' → (vs k).ownBlock = some g → (vs k').ownBlock ≠ some g
  low : base ≤ b

def putF (F : Nat → List Bool) (k : Nat) (x : Bool) : Nat → List Bool := fun k' => if k' = k then F k ++ [x] else F k'
section
variable {w w' : World} {base b N : Nat} {vs : Nat → Value} {F : Nat → List Bool}
theorem BitsR.lt (h : BitsR w base b N vs F) : b < w.heap.size := (Array.getElem?_eq_some_iff.1 h.blk).1
theorem BitsR.cell (h : BitsR w base b N vs F) {k : Nat} (hk : k < N) : w.cell? ⟨b, k, none⟩ = some (vs k) := by
  rw [cell_of_row w b k _ _ _ h.blk, List.getElem?_toArray, vecL_get hk]
theorem BitsR.frz (h : BitsR w base b N vs F) (k : Nat) : w.frozen? ⟨b, k, none⟩ = false := frozen_of_row w b k _ _ h.blk
theorem BitsR.chg {Z : Nat → Prop} (h : BitsR w base b N vs F) (hc : Chg Z w w') (hb : ∀ j, base ≤ j → ¬ Z j) : BitsR w' base b N vs F :=
  ⟨hc.heap h.blk (hb b h.low), fun k hk => hc.own (h.rows k hk) (fun g hg => hb g ((h.rows k hk).lt g hg).1), h.dis, h.low⟩
theorem BitsR.below (h : BitsR w base b N vs F) (hb : Below w.heap.size w w') : BitsR w' base b N vs F := h.chg (Z := fun _ => False) (Chg.of_below hb) (fun _ _ => id)
theorem BitsR.start (w : World) (N : Nat) (hb : base ≤ w.heap.size) : BitsR (w.alloc (.cells (vecL (fun _ => .slice none 0 0) N).toArray 39)) base w.heap.size N (fun _ => .slice none 0 0) (fun _ => []) :=
  ⟨heap_alloc_new w _, fun k hk => World.ownsRow_nil _ _ _ _, fun k k' g _ _ _ h => by simp [Value.ownBlock] at h, hb⟩
theorem BitsR.nB (h : BitsR w base b N vs F) {k : Nat} (hk : k < N) : (vs k).ownBlock ≠ some b := fun e => TypeAt.ne (own_ty (h.rows k hk) e) (⟨_, h.blk⟩ : TypeAt w b 39) (by decide) rfl
/-- One more bit. -/
theorem BitsR.push {w2 w3 : World} (h : BitsR w base b N vs F) {k : Nat} (hk : k < N) {x : Bool} (h2 : Below w.heap.size w w2)
    {v : Value} {g : Nat} (hv : v.ownBlock = some g) (hown : w3.ownsRow base 4 1 v ((F k).length + 1) ((F k).map Value.bool ++ [.bool x])) (hg : w2.grownBy w3 (vs k).ownBlock) (hor : (vs k).ownBlock = some g ∨ w2.heap.size ≤ g) :
    BitsR (w3.setCell ⟨b, k, none⟩ v) base b N (putV vs k v) (putF F k x) ∧ Chg (fun j => j = b ∨ (vs k).ownBlock = some j) w (w3.setCell ⟨b, k, none⟩ v) := by
  have h3 : Chg (fun j => (vs k).ownBlock = some j) w w3 := (Chg.of_below (S := fun j => (vs k).ownBlock = some j) h2).grown hg (fun k hk => Or.inl hk)
  have hset : Chg (fun j => j = b) w3 (w3.setCell ⟨b, k, none⟩ v) := Chg.refl.setCell (S := fun j => j = b) ⟨b, k, none⟩ (Or.inl rfl) v
  have hblk : w3.heap[b]? = some (.cells (vecL vs N).toArray 39 (0, 0)) := h3.heap h.blk (h.nB hk)
  have hgb : g ≠ b := fun e => TypeAt.ne (own_ty hown hv) (⟨_, hblk⟩ : TypeAt w3 b 39) (by decide) e
  have hsz := h2.size
  refine ⟨⟨?_, fun k' hk' => ?_, fun k1 k2 g' hk1 hk2 hne hg1 hg2 => ?_, h.low⟩, Chg.setCell (S := fun j => j = b ∨ (vs k).ownBlock = some j) (h3.mono (fun j hj => Or.inr hj)) ⟨b, k, none⟩ (Or.inl (Or.inl rfl)) v⟩
  · have := heap_setCell_same w3 b k _ _ v hblk
    rw [List.setIfInBounds_toArray, vecL_set] at this
    exact this
  · by_cases e : k' = k
    · subst e
      have e1 : putV vs k' v k' = v := by simp [putV]
      have e2 : putF F k' x k' = F k' ++ [x] := by simp [putF]
      rw [e1, e2, List.length_append, List.map_append]
      exact hset.own hown (fun j hj e => by rw [hv] at hj; injection hj with hj; omega)
    · have e1 : putV vs k v k' = vs k' := by simp [putV, e]
      have e2 : putF F k x k' = F k' := by simp [putF, e]
      rw [e1, e2]
      exact hset.own (h3.own (h.rows k' hk') (fun j hj e3 => h.dis k k' j hk hk' (Ne.symm e) e3 hj)) (fun j hj e3 => h.nB hk' (e3 ▸ hj))
  · have old : ∀ k1, k1 < N → (vs k1).ownBlock = some g → g < w.heap.size := fun k1 hk1 e => ((h.rows k1 hk1).lt g e).2
    by_cases e : k1 = k
    · subst e
      have e1 : putV vs k1 v k1 = v := by simp [putV]
      have e2 : putV vs k1 v k2 = vs k2 := by simp [putV, Ne.symm hne]
      rw [e1, hv] at hg1; injection hg1 with hg1; subst hg1
      rw [e2] at hg2
      rcases hor with hor | hor
      · exact h.dis k1 k2 g hk1 hk2 hne hor hg2
      · have := old k2 hk2 hg2; omega
    · by_cases e' : k2 = k
      · subst e'
        have e1 : putV vs k2 v k1 = vs k1 := by simp [putV, e]
        have e2 : putV vs k2 v k2 = v := by simp [putV]
        rw [e2, hv] at hg2; injection hg2 with hg2; subst hg2
        rw [e1] at hg1
        rcases hor with hor | hor
        · exact h.dis k1 k2 g hk1 hk2 hne hg1 hor
        · have := old k1 hk1 hg1; omega
      · have e1 : putV vs k v k1 = vs k1 := by simp [putV, e]
        have e2 : putV vs k v k2 = vs k2 := by simp [putV, e']
        rw [e1] at hg1; rw [e2] at hg2
        exact h.dis k1 k2 g' hk1 hk2 hne hg1 hg2
end
theorem BitsR.mid {w w2 w3 : World} {base b N : Nat} {vs : Nat → Value} {F : Nat → List Bool} (h : BitsR w base b N vs F) {k : Nat} (hk : k < N) (h2 : Below w.heap.size w w2) (hg : w2.grownBy w3 (vs k).ownBlock) : w3.cell? ⟨b, k, none⟩ = some (vs k) ∧ w3.frozen? ⟨b, k, none⟩ = false := by
  have h3 : Chg (fun j => (vs k).ownBlock = some j) w w3 := (Chg.of_below (S := fun j => (vs k).ownBlock = some j) h2).grown hg (fun k hk => Or.inl hk)
  have hblk : w3.heap[b]? = some (.cells (vecL vs N).toArray 39 (0, 0)) := h3.heap h.blk (h.nB hk)
  exact ⟨by rw [cell_of_row w3 b k _ _ _ hblk, List.getElem?_toArray, vecL_get hk], frozen_of_row w3 b k _ _ hblk⟩
/-- The bits of the first symbols, by their paths. -/
def firstL (L : List Nat) (l j : Nat) : Nat → List Bool := fun k => lvl (L.take j) l k
theorem firstL_zero (L : List Nat) (l : Nat) : firstL L l 0 = fun _ => [] := by funext k; simp [firstL, lvl]
theorem firstL_all (L : List Nat) (l k : Nat) : firstL L l L.length k = lvl L l k := by simp [firstL]
theorem firstL_succ {L : List Nat} {l j s : Nat} (h : L[j]? = some s) : firstL L l (j + 1) = putF (firstL L l j) (pth s l) (bitS s l) := by
  funext k
  have ht : L.take (j + 1) = L.take j ++ [s] := by rw [List.take_add_one, h]; rfl
  unfold firstL putF lvl
  rw [ht, List.filter_append, List.map_append]
  by_cases e : k = pth s l
  · subst e; simp
  · have e' : ¬ pth s l = k := fun x => e x.symm
    simp [e, e']
theorem lvl_lenLe (L : List Nat) (l k j : Nat) : (firstL L l j k).length ≤ L.length := by
  unfold firstL lvl
  rw [List.length_map]
  exact Nat.le_trans (List.length_filter_le _ _) (by rw [List.length_take]; omega)
theorem Tryd.infoBools : (Tryd.prog.info? 39).map (fun i => (i.zero, i.size, i.bytes)) = some (some (.slice none 0 0), 1, 24) := by kernel_rfl
theorem Tryd.infoShelf : (Tryd.prog.info? 90).map (fun i => (i.zero, i.size, i.bytes)) = some (some (.agg #[.pointer none, .int .i64 0, .int .i64 0]), 3, 24) := by kernel_rfl
theorem make_rows (n : Nat) (h : n ≤ 1000000000) (w : World) : (Instr.makeSlice 107 (.int .i64 (n : Int)) (.int .i64 (n : Int))).run Tryd.prog w = .ok (.slice (some ⟨w.heap.size, 0, none⟩) n n) (w.alloc (.cells (vecL (fun _ => .slice none 0 0) n).toArray 39)) :=
  run_makeG Tryd.infoBools Tryd.underlying107 rfl n (by omega) (by unfold maxLen; omega) w

end Go.Proofs.YtacoeohmdngnkaaDoor

namespace Go.Proofs.YtacoeohmdngnkaaDoor
set_option linter.unusedVariables false
set_option linter.unusedSimpArgs false
open Go.RowKit

/-- 'l = append(l, x)' of an element of some cells: the new row is the old one or a new block. -/
theorem wp_pushK {P : Program} {w : World} {o : Oper} {a : Act} {K : Act → World → Prop} {Q : Exit → Act → World → Prop} (s x : Operand) (t : TypeId)
    (ho : o.op = .call { callee := .builtin .append, args := #[s, x], argTypes := #[t, t] })
    (base : Nat) (e : TypeId) {z : Value} {bytes size : Nat} (hinfo : (P.info? e).map (fun i => (i.zero, i.size, i.bytes)) = some (some z, size, bytes)) (ht : P.underlying t = some (.slice e)) (hz1 : z.cells.size = size) (hsz0 : 0 < size)
    (v : Value) (n : Nat) (xs : List Value) (hs : a.eval s = v) (hown : w.ownsRow base e size v n xs)
    (b c : Nat) (us : List Value) (hx : a.eval x = .slice (some ⟨b, 0, none⟩) 1 c) (hl : us.length = size) (hus : ∀ j u, us[j]? = some u → w.cell? ⟨b, j, none⟩ = some u) (h1 : ∀ u ∈ us, u.oneCell' = true)
    (h63 : n + 1 ≤ maxLen) (hbytes : (n + 1) * bytes ≤ 140737488355328) (hbase : base ≤ w.heap.size)
    (h : ∀ g cap w', w'.ownsRow base e size (.slice (some ⟨g, 0, none⟩) (n + 1) cap) (n + 1) (xs ++ us) → w.grownBy w' v.ownBlock → (v.ownBlock = some g ∨ w.heap.size ≤ g) → g < w'.heap.size →
      K (a.put o.dst (.slice (some ⟨g, 0, none⟩) (n + 1) cap)) w') : Oper.wp P o a w K Q := by
  obtain ⟨i, hi, hz, hsz, hby⟩ := info_parts hinfo
  obtain ⟨v', w', hr, h2, h3, _, h5⟩ := run_append_own_at (P := P) w base t o.type e i z size bytes ht hi hz hsz hby hz1 hsz0 v n xs hown ⟨b, 0, none⟩ 1 c us (by omega) (fun j u hj => by rw [Addr.add_lit, Nat.zero_add]; exact hus j u hj) h1 h63 hbytes hbase
  unfold Oper.wp execOp
  simp only [ho, resolve, invoke, builtin, Sem.run_bind, Sem.run_pure, Result.andThen_ok, List.map_toArray, List.map_cons, List.map_nil, hs, hx, hr]
  obtain ⟨a', c', rfl, hn, hb⟩ := own_slice h2
  cases a' with
  | none => exact absurd (hn rfl).1 (by omega)
  | some ad =>
    obtain ⟨g, rfl, hg1, hg2, hg3⟩ := hb _ rfl
    refine h g c' w' h2 h3 ?_ hg2
    rcases h5 with hor | hor
    · left; rw [← hor]; exact hg3
    · right; rw [hor] at hg3; injection hg3 with hg3; omega

end Go.Proofs.YtacoeohmdngnkaaDoor

namespace Go.Proofs.YtacoeohmdngnkaaDoor
set_option linter.unusedVariables false
set_option linter.unusedSimpArgs false
open Go.RowKit

end Go.Proofs.YtacoeohmdngnkaaDoor

namespace Go.Proofs.YtacoeohmdngnkaaDoor
open Go.ChangeShapes Go.WideShapes Go.ChangeAt Go.RowKit

variable {H : Type} {enc : TypeId × Value → H} {P : Program} {w : World} {base : Nat} {sp : Nat → Bool} {held : Bool}

theorem argI_of {t e : TypeId} {k : IntKind} {fuel : Nat} {a : Option Addr} {len cap : Nat} {x : DataW H × List MemPlace} (ht : P.underlying t = some (.slice e)) (he : P.underlying e = some (.int k)) (hc : P.cellsOf e = 1)
    (hf : DataW.trod enc P w base sp held fuel t (Value.slice a len cap).cells.toList = some x) : ∃ xs : List Int, len = xs.length ∧ ArgI k w a cap xs := by
  rcases open_ints ht he hc hf with ⟨hcs, _⟩ | ⟨x, l, c, zs, hcs, _, hl, hm, hz, _, hcell, hwz⟩
  · simp [Value.cells] at hcs
    obtain ⟨rfl, rfl, rfl⟩ := hcs
    exact ⟨[], rfl, ⟨Reads.nil, fun i hi => absurd hi (by simp), by simp, by unfold maxLen; omega, fun _ => rfl⟩⟩
  · simp [Value.cells] at hcs
    obtain ⟨rfl, rfl, rfl⟩ := hcs
    have hzl : len ≤ zs.length := by rw [hz]; split <;> omega
    have hlen : (zs.take len).length = len := by rw [List.length_take]; omega
    clear hz
    refine ⟨zs.take len, hlen.symm, ⟨fun i hi => ?_, fun i hi => ?_, by rw [hlen]; exact hl, hm, fun h => by cases h⟩⟩
    · rw [hlen] at hi ⊢
      obtain ⟨b, off, spot⟩ := x
      have h0 := hcell 0 (by omega)
      have hspot : spot = none := by simpa [Addr.add] using World.cell?_spot h0
      subst hspot
      refine ⟨b, off, rfl, World.block_lt_of_cell? w _ (by simpa [Addr.add] using h0), fun j hj => ?_⟩
      have := hcell j (by omega)
      rw [List.getElem?_take, if_pos hj]
      rw [Addr.add_lit] at this
      simpa [List.getD_eq_getElem?_getD] using this
    · rw [hlen] at hi
      rw [List.getElem?_take, if_pos hi, List.getElem?_eq_getElem (by omega)]
      exact hwz _ (List.getElem_mem _)

end Go.Proofs.YtacoeohmdngnkaaDoor

namespace Go.Proofs.YtacoeohmdngnkaaDoor
set_option linter.unusedVariables false
set_option linter.unusedSimpArgs false
open Go.RowKit

/-- What a law's walk keeps of a block of its own. -/
def BkAt (B : Nat) (w : World) (p : Nat) (l : List Bool) : Prop := IsBlock w p l ∧ B ≤ p
theorem BkAt.below {B : Nat} {w w' : World} {p : Nat} {l : List Bool} (h : BkAt B w p l) (hb : Below w.heap.size w w') : BkAt B w' p l := ⟨h.1.below' hb, h.2⟩
theorem BlkStep.out {B : Nat} {w w' : World} {p : Nat} {l m : List Bool} (h : BlkStep w w' p m) (h0 : BkAt B w p l) (hB : B ≤ w.heap.size) : BkAt B w' p m ∧ Below B w w' :=
  ⟨⟨h.1, h0.2⟩, h.2.below (fun b hb => by have := h0.2; omega) hB⟩

theorem below_drewW {B : Nat} {w w' : World} (h : Below B w w') (n : Nat) : Below B w (w'.drewN n) := ⟨h.os, h.tape, h.output, h.size, h.block⟩

end Go.Proofs.YtacoeohmdngnkaaDoor

namespace Go.Proofs.YtacoeohmdngnkaaDoor
set_option linter.unusedVariables false
set_option linter.unusedSimpArgs false
open Go.RowKit

end Go.Proofs.YtacoeohmdngnkaaDoor

namespace Go.Proofs.YtacoeohmdngnkaaDoor
set_option linter.unusedVariables false
set_option linter.unusedSimpArgs false
open Go.RowKit

end Go.Proofs.YtacoeohmdngnkaaDoor

namespace Go.Proofs.YtacoeohmdngnkaaDoor
set_option linter.unusedVariables false
set_option linter.unusedSimpArgs false
open Go.RowKit

theorem u64r (a : Int) : ∃ u : Int, 0 ≤ u ∧ u < 18446744073709551616 ∧ IntKind.u64.wrap a = u := ⟨IntKind.u64.wrap a, by rw [IntKind.wrap_u64]; omega, by rw [IntKind.wrap_u64]; omega, rfl⟩

end Go.Proofs.YtacoeohmdngnkaaDoor

namespace Go.Proofs.YtacoeohmdngnkaaDoor
set_option linter.unusedVariables false
set_option linter.unusedSimpArgs false
open Go.RowKit

/-- Four cells and what lies below are kept. -/
theorem keep4 {w w1 w2 : World} {N q : Nat} {sa sb sc sd : Value} (hN : N ≤ w.heap.size) (h : (w1.cell? ⟨q, 0, none⟩ = some sa ∧ w1.cell? ⟨q, 1, none⟩ = some sb ∧ w1.cell? ⟨q, 2, none⟩ = some sc ∧ w1.cell? ⟨q, 3, none⟩ = some sd) ∧ Below N w w1) (hb : Below w1.heap.size w1 w2) :
    (w2.cell? ⟨q, 0, none⟩ = some sa ∧ w2.cell? ⟨q, 1, none⟩ = some sb ∧ w2.cell? ⟨q, 2, none⟩ = some sc ∧ w2.cell? ⟨q, 3, none⟩ = some sd) ∧ Below N w w2 := by
  have hq := World.block_lt_of_cell? w1 _ h.1.1
  exact ⟨⟨(hb.cell (p := ⟨q, 0, none⟩) hq).trans h.1.1, (hb.cell (p := ⟨q, 1, none⟩) hq).trans h.1.2.1, (hb.cell (p := ⟨q, 2, none⟩) hq).trans h.1.2.2.1, (hb.cell (p := ⟨q, 3, none⟩) hq).trans h.1.2.2.2⟩, h.2.trans (hb.mono (Nat.le_trans hN h.2.size))⟩

/-- What the calls of 'same' go through: a tree and a row. -/
structure TR (B : Nat) (X : Nat → Prop) (w0 w : World) (p : Nat) (o : Option ST) (made : Nat) (a : Option Addr) (L : List Bool) : Prop where
  t : ∃ v : Int, TreeE B X w p o made v
  bits : sbits o = L
  r : ReadsV w a (L.map Value.bool)
  xa : ∀ ad, a = some ad → X ad.block
  tab : BitTab w
  tl : 0 < B
  chg : Chg (exT B X) w0 w
section
variable {B : Nat} {X : Nat → Prop} {w0 w w' : World} {p made : Nat} {o : Option ST} {a : Option Addr} {L : List Bool}
theorem TR.look (h : TR B X w0 w p o made a L) {m : Nat} (hl : ELook B X w w' p o made m) : TR B X w0 w' p o made a L := by
  obtain ⟨v0, h0⟩ := h.t
  obtain ⟨⟨v, _, h1⟩, hc⟩ := hl
  exact ⟨⟨v, h1⟩, h.bits, h.r.chg hc (fun ad ha hk => hk.2 (h.xa ad ha)), h.xa, h.tab.below (exT_below hc h0.le) h.tl, h.tl, h.chg.trans hc (fun b hb => Or.inl hb)⟩
theorem TR.drewN (h : TR B X w0 w p o made a L) (n : Nat) : TR B X w0 (w.drewN n) p o made a L := by
  obtain ⟨v0, h0⟩ := h.t
  exact ⟨⟨v0, h0.drewN n⟩, h.bits, h.r, h.xa, h.tab, h.tl, h.chg.drewN n⟩
theorem TR.rank (h : TR B X w0 w p o made a L) (k : Int) (x : Bool) :
    Calls Tryd.prog 83 #[.pointer (some ⟨p, 0, none⟩), .int .i64 k, .bool x] w fun e w' => e = .returned (.int .i64 (rankL L k.toNat x)) ∧ TR B X w0 w' p o made a L := by
  obtain ⟨v, h0⟩ := h.t
  refine (rank_t h0 h.bits k x rfl).mono ?_
  rintro e w' ⟨rfl, hl⟩
  exact ⟨rfl, h.look hl⟩
end

end Go.Proofs.YtacoeohmdngnkaaDoor

namespace Go.Proofs.YtacoeohmdngnkaaDoor
set_option linter.unusedVariables false
set_option linter.unusedSimpArgs false
open Go.RowKit

end Go.Proofs.YtacoeohmdngnkaaDoor

namespace Go.Proofs.YtacoeohmdngnkaaDoor
set_option linter.unusedVariables false
set_option linter.unusedSimpArgs false
open Go.RowKit

/-- What the closures of Rows read: how wide, how many, the ranks. -/
structure RkAt (w : World) (bw bn br g cap wide : Nat) (rk : List Int) : Prop where
  wide : w.cell? ⟨bw, 0, none⟩ = some (.int .i64 wide)
  n : w.cell? ⟨bn, 0, none⟩ = some (.int .i64 rk.length)
  row : w.cell? ⟨br, 0, none⟩ = some (.slice (some ⟨g, 0, none⟩) rk.length cap)
  rd : ∀ i, i < rk.length → w.cell? ⟨g, i, none⟩ = some (.int .i64 (sy rk i))

set_option maxHeartbeats 800000 in
theorem behind_any {w : World} {bw bn br g cap wide : Nat} {rk : List Int} (h : RkAt w bw bn br g cap wide rk) (i : Nat) (hi : i < rk.length) (hl : rk.length ≤ 1000000000) (hw : wide ≤ 1000000000) :
    Calls Tryd.prog 78 #[.int .i64 i, .pointer (some ⟨bw, 0, none⟩), .pointer (some ⟨bn, 0, none⟩), .pointer (some ⟨br, 0, none⟩)] w fun e w' => e = .returned (.int .i64 (sy rk (i + wide))) ∧ w = w' := by
  obtain ⟨h1, h2, h3, h4⟩ := h
  by_cases hc : i + wide < rk.length
  · have h5 := h4 (i + wide) hc
    clear h4
    generalize sy rk (i + wide) = x at *
    have d1 : decide ((i : Int) + (wide : Int) < (rk.length : Int)) = true := by simp; omega
    go_enter Tryd.func78, Tryd.ntmps78
    go_wp2_with fail
    go_ret
    exact ⟨rfl, rfl⟩
  · have e : sy rk (i + wide) = -1 := sy_over (by omega)
    rw [e]
    clear h4 e
    have d1 : decide ((i : Int) + (wide : Int) < (rk.length : Int)) = false := by simp; omega
    go_enter Tryd.func78, Tryd.ntmps78
    go_wp2_with fail
    go_ret
    exact ⟨rfl, rfl⟩

/-- A quiet call behind a quiet region. -/
theorem quiet_add_left {P : Program} {f : FuncId} {args : Array Value} {w : World} {a n : Nat} {v : Value}
    (h : Calls P f args (w.drewN (a + n)) fun e w' => e = .returned v ∧ w.drewN (a + n) = w') : Calls P f args (w.drewN (a + n)) fun e w'' => e = .returned v ∧ ∃ m, w'' = w.drewN (a + m) :=
  h.mono fun _ _ ⟨he, hm⟩ => ⟨he, n, hm.symm⟩
theorem RkAt.drewN {w : World} {bw bn br g cap wide : Nat} {rk : List Int} (h : RkAt w bw bn br g cap wide rk) (n : Nat) : RkAt (w.drewN n) bw bn br g cap wide rk := ⟨h.wide, h.n, h.row, h.rd⟩

set_option maxHeartbeats 1600000 in
theorem order_any {w : World} {bw bn br bf g cap wide : Nat} {rk : List Int} (h : RkAt w bw bn br g cap wide rk)
    (hf : w.cell? ⟨bf, 0, none⟩ = some (.func (.func 78) #[] #[.pointer (some ⟨bw, 0, none⟩), .pointer (some ⟨bn, 0, none⟩), .pointer (some ⟨br, 0, none⟩)]))
    (a b : Nat) (ha : a < rk.length) (hb : b < rk.length) (hl : rk.length ≤ 1000000000) (hw : wide ≤ 1000000000) (hr : ∀ i, -1 ≤ sy rk i ∧ sy rk i ≤ 1000000000) :
    Calls Tryd.prog 79 #[.int .i64 a, .int .i64 b, .pointer (some ⟨br, 0, none⟩), .pointer (some ⟨bf, 0, none⟩)] w fun e w' => e = .returned (.int .i64 (ordV rk wide a b)) ∧ ∃ n, w' = w.drewN n := by
  have ka := h.rd a ha
  have kb := h.rd b hb
  have kr := h.row
  have HA : Hid (∀ n, Calls Tryd.prog 78 #[.int .i64 a, .pointer (some ⟨bw, 0, none⟩), .pointer (some ⟨bn, 0, none⟩), .pointer (some ⟨br, 0, none⟩)] (w.drewN n) fun e w' => e = .returned (.int .i64 (sy rk (a + wide))) ∧ w.drewN n = w') := fun n => behind_any (h.drewN n) a ha hl hw
  have HB : Hid (∀ n, Calls Tryd.prog 78 #[.int .i64 b, .pointer (some ⟨bw, 0, none⟩), .pointer (some ⟨bn, 0, none⟩), .pointer (some ⟨br, 0, none⟩)] (w.drewN n) fun e w' => e = .returned (.int .i64 (sy rk (b + wide))) ∧ w.drewN n = w') := fun n => behind_any (h.drewN n) b hb hl hw
  obtain ⟨ra0, ra1⟩ := hr a
  obtain ⟨rb0, rb1⟩ := hr b
  obtain ⟨sa0, sa1⟩ := hr (a + wide)
  obtain ⟨sb0, sb1⟩ := hr (b + wide)
  have HV : Hid (ordV rk wide a b = if sy rk a = sy rk b then sy rk (a + wide) - sy rk (b + wide) else sy rk a - sy rk b) := rfl
  generalize sy rk a = x at *
  generalize sy rk b = y at *
  generalize sy rk (a + wide) = u at *
  generalize sy rk (b + wide) = v at *
  clear h hr
  have i0 : (0 : Int) ≤ (a : Int) := by omega
  have i1 : (a : Int) < (rk.length : Int) := by omega
  have j0 : (0 : Int) ≤ (b : Int) := by omega
  have j1 : (b : Int) < (rk.length : Int) := by omega
  have ew1 : IntKind.i64.wrap (x - y) = x - y := IntWalk.i64_in _ (by omega)
  by_cases hxy : x = y
  · have e : (x != y) = false := by simp [hxy]
    have HR : Hid (ordV rk wide a b = u - v) := by show _ = _; rw [HV.out, if_pos hxy]
    have HX := Lib.hid hxy
    have ew : IntKind.i64.wrap (u - v) = u - v := IntWalk.i64_in _ (by omega)
    clear hxy
    go_enter Tryd.func79, Tryd.ntmps79
    go_wp2_with fail
    go_quiet (fail)
    go_wp2_with fail
    go_quiet ((go_at_call 78; first | with_reducible exact quiet_add_left (HA.out _) | with_reducible exact quiet_add_left (HB.out _)))
    go_wp2_with fail
    go_ret
    exact ⟨ret_int HR.out.symm, _, World.drewN_drewN _ _ _⟩
  · have e : (x != y) = true := by simp [hxy]
    have HR : Hid (ordV rk wide a b = x - y) := by show _ = _; rw [HV.out, if_neg hxy]
    clear hxy
    go_enter Tryd.func79, Tryd.ntmps79
    go_wp2_with fail
    go_quiet (fail)
    go_wp2_with fail
    go_quiet (fail)
    go_wp2_with fail
    go_ret
    exact ⟨ret_int HR.out.symm, _, World.drewN_drewN _ _ _⟩

end Go.Proofs.YtacoeohmdngnkaaDoor

namespace Go.Proofs.YtacoeohmdngnkaaDoor
set_option linter.unusedVariables false
set_option linter.unusedSimpArgs false
open Go.RowKit

theorem sortWorld_chg {α : Type} [Inhabited α] (enc : α → Value) (w : World) (blk m : Nat) (dk : Array α) (os : Array Obj) : Chg (fun b => b = blk) w (sortWorld enc w blk 0 m dk os) := by
  refine ⟨rfl, rfl, rfl, ?_, fun k hk hn => ?_⟩
  · show w.heap.size ≤ ((w.heap.modify blk _) ++ os).size
    simp
  · show ((w.heap.modify blk _) ++ os)[k]? = w.heap[k]?
    rw [Array.getElem?_append_left (by simpa using hk), Array.getElem?_modify, if_neg (fun e => hn e.symm)]
theorem sortWorld_own {α : Type} [Inhabited α] (enc : α → Value) {w : World} {blk n cap base : Nat} {e : TypeId} {xs : List Value} (h : w.ownsRow base e 1 (.slice (some ⟨blk, 0, none⟩) n cap) n xs) (m : Nat) (dk : Array α) (os : Array Obj) (hd : dk.size = n) :
    (sortWorld enc w blk 0 m dk os).ownsRow base e 1 (.slice (some ⟨blk, 0, none⟩) n cap) n (dk.toList.map enc) := by
  obtain ⟨h1, h2⟩ := h
  refine ⟨by simp [hd], ?_⟩
  rcases h2 with ⟨h, _⟩ | ⟨g', cap', cur, hv, hb, hg, hc, hm, hs, ht⟩
  · cases h
  · injection hv with e1 e2 e3
    simp only [Option.some.injEq, Addr.mk.injEq, and_true] at e1
    subst e1; subst e3
    refine .inr ⟨blk, cap, Go.Sort.putCells enc 0 dk cur, rfl, hb, ?_, hc, hm, by simpa [Go.Sort.putCells] using hs, ?_⟩
    · show ((w.heap.modify blk _) ++ os)[blk]? = _
      have hlt := (Array.getElem?_eq_some_iff.1 hg).1
      rw [Array.getElem?_append_left (by simpa using hlt), Array.getElem?_modify, if_pos rfl, hg]
      rfl
    · apply List.ext_getElem?
      intro i
      rw [List.getElem?_take]
      by_cases hi : i < n
      · rw [if_pos (by omega), Array.getElem?_toList, Go.Sort.putCells, Array.getElem?_mapIdx, Array.getElem?_eq_getElem (by omega)]
        simp [hd, hi, show i < dk.size by omega]
      · rw [if_neg (by omega), List.getElem?_eq_none (by simp; omega)]

/-- A place, as a value. -/
def natV (x : Nat) : Value := .int .i64 (x : Int)
theorem RkAt.chg {w w' : World} {S : Nat → Prop} {bw bn br g cap wide : Nat} {rk : List Int} (h : RkAt w bw bn br g cap wide rk) (hc : Chg S w w') (h1 : ¬ S bw) (h2 : ¬ S bn) (h3 : ¬ S br) (h4 : ¬ S g) : RkAt w' bw bn br g cap wide rk :=
  ⟨hc.cell h.wide h1, hc.cell h.n h2, hc.cell h.row h3, fun i hi => hc.cell (h.rd i hi) h4⟩

theorem sort_rows {B : Nat} {w : World} {bw bn br bf g cap wide qr capr : Nat} {l rk : List Int} {r : List Nat} (h : RkAt w bw bn br g cap wide rk)
    (hf : w.cell? ⟨bf, 0, none⟩ = some (.func (.func 78) #[] #[.pointer (some ⟨bw, 0, none⟩), .pointer (some ⟨bn, 0, none⟩), .pointer (some ⟨br, 0, none⟩)]))
    (hrk : RankOf l wide rk) (hp : r.Perm (List.range l.length)) (hown : w.ownsRow B 3 1 (.slice (some ⟨qr, 0, none⟩) r.length capr) r.length (r.map natV))
    (hq : bw ≠ qr ∧ bn ≠ qr ∧ br ≠ qr ∧ bf ≠ qr ∧ g ≠ qr) (h0 : 0 < l.length) (hl : l.length ≤ 1000000000) (hw : wide ≤ 1000000000) (hr : ∀ i, -1 ≤ sy rk i ∧ sy rk i ≤ 1000000000) :
    Calls Tryd.prog 80 #[.slice (some ⟨qr, 0, none⟩) r.length capr, .func (.func 79) #[] #[.pointer (some ⟨br, 0, none⟩), .pointer (some ⟨bf, 0, none⟩)]] w
      fun e w' => e = .returned (.tuple #[]) ∧ ∃ r' : List Nat, SortedK l (wide + wide) r' ∧ r'.length = r.length ∧ w'.ownsRow B 3 1 (.slice (some ⟨qr, 0, none⟩) r.length capr) r.length (r'.map natV) ∧ Chg (fun b => b = qr) w w' := by
  have hrl : r.length = l.length := by have := hp.length_eq; simpa using this
  have hin : ∀ x ∈ r, x < l.length := fun x hx => List.mem_range.1 (hp.mem_iff.1 hx)
  letI : Inhabited (Fin l.length) := ⟨⟨0, h0⟩⟩
  let d : Array (Fin l.length) := (r.attach.map fun x => ⟨x.1, hin x.1 x.2⟩).toArray
  have hdv : d.toList.map Fin.val = r := by
    show (r.attach.map _).map _ = r
    rw [List.map_map]
    exact List.attach_map_subtype_val r
  have hds : d.size = r.length := by rw [← Array.length_toList, ← List.length_map (f := Fin.val), hdv]
  have henc : d.toList.map (fun x : Fin l.length => natV x.1) = r.map natV := by
    have e := congrArg (List.map natV) hdv
    rw [List.map_map] at e
    exact e
  have hqlt := (own_lt hown (k := qr) rfl).2
  have hH : Go.Sort.Holds (fun x : Fin l.length => natV x.1) w qr 0 d := by
    intro j hj
    obtain ⟨g', cap', hv, _, _, _, _, hcell, hfr⟩ := own_some hown (by omega)
    injection hv with e1 _ _
    injection e1 with e1
    injection e1 with e1 _ _
    subst e1
    refine ⟨?_, hfr _⟩
    rw [Nat.zero_add, hcell j (by omega), ← henc, List.getElem?_map]
    simp [hj]
  have hcmp : CmpLays1 Tryd.prog 79 #[.pointer (some ⟨br, 0, none⟩), .pointer (some ⟨bf, 0, none⟩)] (fun x : Fin l.length => natV x.1) (fun x y => ordV rk wide x.1 y.1) qr 0 d.size w := by
    intro m os dk _ x y
    have hc := sortWorld_chg (fun x : Fin l.length => natV x.1) w qr m dk os
    have hx : x.1 < rk.length := by have := x.2; have := hrk.len; omega
    have hy : y.1 < rk.length := by have := y.2; have := hrk.len; omega
    refine (order_any (h.chg hc hq.1 hq.2.1 hq.2.2.1 hq.2.2.2.2) (hc.cell hf hq.2.2.2.1) x.1 y.1 hx hy (by rw [hrk.len]; exact hl) hw hr).mono ?_
    rintro e w' ⟨rfl, n, rfl⟩
    exact ⟨rfl, n, #[], by rw [Go.Sort.grow_empty]⟩
  have hlt : ∀ x y : Fin l.length, ltOf (fun x y : Fin l.length => ordV rk wide x.1 y.1) x y = true ↔ ltK l (wide + wide) x.1 y.1 := fun x y => by
    unfold ltOf; rw [decide_eq_true_eq, ordV_lt hrk]
  have hltf : ∀ x y : Fin l.length, ltOf (fun x y : Fin l.length => ordV rk wide x.1 y.1) x y = false ↔ ¬ ltK l (wide + wide) x.1 y.1 := fun x y => by
    rw [← hlt, Bool.not_eq_true]
  have hO : Go.Sort.SWO (ltOf (fun x y : Fin l.length => ordV rk wide x.1 y.1)) :=
    ⟨fun x => (hltf x x).2 ltK_irrefl, fun x y z a b => (hlt x z).2 (ltK_trans ((hlt x y).1 a) ((hlt y z).1 b)), fun x y z a b => (hltf x z).2 (fun k => by
      rcases ltK_tri l (wide + wide) x.1 y.1 with q | q | q
      · exact (hltf x y).1 a q
      · exact (hltf y z).1 b (eq_ltK q.symm k)
      · exact (hltf y z).1 b (ltK_trans q k))⟩
  have eg : ∀ args w, (callFunc 79 args).run Tryd.prog w = .ok (.enter 79 args) w := enters_of Tryd.func79 (by kernel_rfl) rfl
  have hcon := Tryd.slices_SortFunc (fun x : Fin l.length => natV x.1) (fun _ => rfl) (fun x y => ordV rk wide x.1 y.1) hO 79 #[.pointer (some ⟨br, 0, none⟩), .pointer (some ⟨bf, 0, none⟩)] qr 0 capr d w eg hcmp hH hqlt (by rw [hds]; omega)
  rw [hds] at hcon
  refine hcon.mono ?_
  rintro e w' ⟨rfl, d', n, os, hpi, hsi, rfl⟩
  have hd's : d'.size = r.length := by have := hpi.1; omega
  have hperm : (d'.toList.map Fin.val).Perm r := by
    have := hpi.2.2
    rw [Array.extract_eq_self_of_le (by omega), Array.extract_eq_self_of_le (by omega)] at this
    rw [← hdv]; exact this.map _
  refine ⟨rfl, d'.toList.map Fin.val, ⟨hperm.trans hp, List.pairwise_iff_getElem.2 (fun i j hi hj hij => ?_)⟩, by simp [hd's], ?_, sortWorld_chg _ _ _ _ _ _⟩
  · have hj' : j < d'.size := by simpa using hj
    have := hsi i j (Nat.zero_le _) hij (by omega)
    rw [hltf, getElem!_pos d' i (by omega), getElem!_pos d' j hj'] at this
    simpa using this
  · have := sortWorld_own (fun x : Fin l.length => natV x.1) hown n d' os hd's
    rw [List.map_map]; exact this

end Go.Proofs.YtacoeohmdngnkaaDoor
