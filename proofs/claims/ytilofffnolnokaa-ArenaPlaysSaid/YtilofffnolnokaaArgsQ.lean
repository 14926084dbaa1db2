/- What a walk is told of an argument that is a row of pairs of an integer and a row of integers. -/
import Derived.Test.YtilofffnolnokaaArgsP
namespace Go.Proofs.Ytilofffnolnokaa
open Go.ChangeShapes Go.WideShapes Go.ChangeAt Go.RowKit

/-- A row of integers, as a cell. -/
structure Row where
  a : Option Addr
  cap : Nat
  l : List Int
instance : Inhabited Row := ⟨⟨none, 0, []⟩⟩

/-- A row of pairs of an integer and a row of integers that came in. -/
structure ArgQ (w : World) (a : Option Addr) (cap : Nat) (xs : List (Int × Row)) : Prop where
  reads : ∀ i, i < xs.length → ∃ b off, a = some ⟨b, off, none⟩ ∧ b < w.heap.size ∧ ∀ j, j < xs.length →
    w.cell? ⟨b, off + j * 2, none⟩ = some (.int .i64 (xs[j]?.getD default).1) ∧
    w.cell? ⟨b, off + j * 2 + 1, none⟩ = some (.slice (xs[j]?.getD default).2.a (xs[j]?.getD default).2.l.length (xs[j]?.getD default).2.cap) ∧
    ArgI .i64 w (xs[j]?.getD default).2.a (xs[j]?.getD default).2.cap (xs[j]?.getD default).2.l
  le : xs.length ≤ cap
  max : cap ≤ maxLen

variable {H : Type} {enc : TypeId × Value → H} {P : Program} {w : World} {base : Nat} {sp : Nat → Bool} {held : Bool}

theorem argI_cs {t e : TypeId} {k : IntKind} {fuel : Nat} {cs : List Value} {x : DataW H × List MemPlace} (ht : P.underlying t = some (.slice e)) (he : P.underlying e = some (.int k)) (hc : P.cellsOf e = 1)
    (hf : DataW.trod enc P w base sp held fuel t cs = some x) : ∃ a cap, ∃ xs : List Int, cs = [.slice a xs.length cap] ∧ ArgI k w a cap xs := by
  rcases open_ints ht he hc hf with ⟨hcs, _⟩ | ⟨x, l, c, zs, hcs, _⟩
  · subst hcs
    obtain ⟨xs, h1, h2⟩ := argI_of (a := none) (len := 0) (cap := 0) ht he hc (by simpa [Value.cells] using hf)
    exact ⟨none, 0, xs, by rw [← h1], h2⟩
  · subst hcs
    obtain ⟨xs, h1, h2⟩ := argI_of (a := some x) (len := l) (cap := c) ht he hc (by simpa [Value.cells] using hf)
    exact ⟨some x, c, xs, by rw [← h1], h2⟩

theorem argQ_of {t e g : TypeId} {f0 f1 : Field} {fuel : Nat} {a : Option Addr} {len cap : Nat} {x : DataW H × List MemPlace} (ht : P.underlying t = some (.slice e)) (he : P.underlying e = some (.struct #[f0, f1]))
    (ce : P.cellsOf e = 2) (o0 : f0.offset = 0) (o1 : f1.offset = 1) (c0 : P.cellsOf f0.type = 1) (c1 : P.cellsOf f1.type = 1) (i0 : P.underlying f0.type = some (.int .i64))
    (i1 : P.underlying f1.type = some (.slice g)) (ig : P.underlying g = some (.int .i64)) (cg : P.cellsOf g = 1)
    (hf : DataW.trod enc P w base sp held fuel t (Value.slice a len cap).cells.toList = some x) : ∃ xs : List (Int × Row), len = xs.length ∧ ArgQ w a cap xs := by
  rcases Go.Deep.open_slice_pairs ht he ce o0 o1 c0 c1 hf with ⟨hcs, _⟩ | ⟨x, l, c, m, n, V0, V1, D0, D1, P0, P1, hcs, _, hl, hm, hmm, _, hx⟩
  · simp [Value.cells] at hcs
    obtain ⟨rfl, rfl, rfl⟩ := hcs
    exact ⟨[], rfl, ⟨fun i hi => absurd hi (by simp), by simp, by unfold maxLen; omega⟩⟩
  · simp [Value.cells] at hcs
    obtain ⟨rfl, rfl, rfl⟩ := hcs
    have hlm : len ≤ m := by rw [hmm]; split <;> omega
    have hz : ∀ i, i < m → ∃ z : Int × Row, V0 i = .int .i64 z.1 ∧ V1 i = .slice z.2.a z.2.l.length z.2.cap ∧ ArgI .i64 w z.2.a z.2.cap z.2.l := fun i hi => by
      obtain ⟨_, _, h0, h1⟩ := hx i hi
      obtain ⟨n0, e0, _⟩ := DataW.trod_int i0 h0
      obtain ⟨a1, c1, xs1, e1, hA⟩ := argI_cs i1 ig cg h1
      injection e0 with e0
      injection e1 with e1
      exact ⟨(n0, ⟨a1, c1, xs1⟩), e0, e1, hA⟩
    obtain ⟨z, hzz⟩ := Go.Deep.choose_lt hz
    have hlen : ((List.range len).map z).length = len := by simp
    refine ⟨(List.range len).map z, hlen.symm, ⟨fun i hi => ?_, by rw [hlen]; exact hl, hm⟩⟩
    rw [hlen] at hi ⊢
    obtain ⟨b, off, spot⟩ := x
    have h0 := (hx 0 (by omega)).1
    have hspot : spot = none := by simpa [Addr.add] using World.cell?_spot h0
    subst hspot
    refine ⟨b, off, rfl, World.block_lt_of_cell? w _ (by simpa [Addr.add] using h0), fun j hj => ?_⟩
    obtain ⟨g0, g1, _⟩ := hx j (by omega)
    obtain ⟨z0, z1, z2⟩ := hzz j (by omega)
    rw [z0, Addr.add_lit] at g0
    rw [z1, Addr.add_lit] at g1
    have e : (((List.range len).map z)[j]?.getD default) = z j := by simp [hj]
    rw [e]
    exact ⟨g0, g1, z2⟩

end Go.Proofs.Ytilofffnolnokaa
