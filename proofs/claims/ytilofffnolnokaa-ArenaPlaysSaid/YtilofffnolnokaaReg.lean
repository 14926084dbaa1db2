/- Laws to meet a region that draws its order, one operation after the other; of no program. -/
import Derived.Test.YtilofffnolnokaaBase
import Derived.Deep.RegionHeld3
namespace Go.Proofs.Ytilofffnolnokaa
open Go.RowKit

section
variable {P : Program} {md : Region.Mode} {l : List Oper} {Q : Exit → Act → World → Prop} {S : World → Prop} {i : Nat} {oi : Oper} {fuel : Nat} {listed : Array Bool} {a : Act} {w : World}

theorem reg_get (hi : (l.drop i).head? = some oi) : l.toArray[i]? = some oi := by
  rw [List.head?_drop] at hi
  simpa using hi

/-- The beginning. -/
theorem reg_start {id : Nat} (S : World → Prop) (hm : P.follows .mixedOrders = true) (hS : S w.drew)
    (h : S w.drew → wpAnyH P .any l.toArray (NoPanic Q) S l.length (Array.replicate l.length false) a w.drew) : (Code.region id l.toArray true).wp P Q a w := by
  refine wp_region_noPanic (wp_region_held_drew hm hS ?_)
  rw [List.size_toArray]
  exact h

/-- Operation i yields its value in every world that meets S: it is taken now. -/
theorem reg_take {v : Value} (hi : (l.drop i).head? = some oi) (hk : (Region.noSelect l.toArray && Region.free md l.toArray listed i && (Region.ready md l.toArray listed).contains i) = true)
    (hw : Region.wanted oi (yielded l.toArray a.tmps) = true) (hS : S w) (hy : ∀ w, S w → (execOp a.eval oi).run P w = .ok (.value v) w)
    (h : wpAnyH P md l.toArray (NoPanic Q) S fuel (listed.setIfInBounds i true) (a.put oi.dst v) w) : wpAnyH P md l.toArray (NoPanic Q) S (fuel + 1) listed a w := by
  simp only [Bool.and_eq_true] at hk
  exact wpAnyH_take (reg_get hi) hk.1.1 hk.1.2 hk.2 (fun _ _ _ h => h) (Or.inl ⟨hw, hy⟩) hS h

/-- Operation i is not wanted: it is passed over. -/
theorem reg_skip (hi : (l.drop i).head? = some oi) (hk : (Region.noSelect l.toArray && Region.free md l.toArray listed i && (Region.ready md l.toArray listed).contains i) = true)
    (hw : Region.wanted oi (yielded l.toArray a.tmps) = false) (hS : S w)
    (h : wpAnyH P md l.toArray (NoPanic Q) S fuel (listed.setIfInBounds i true) (a.put oi.dst undef) w) : wpAnyH P md l.toArray (NoPanic Q) S (fuel + 1) listed a w := by
  simp only [Bool.and_eq_true] at hk
  exact wpAnyH_take (reg_get hi) hk.1.1 hk.1.2 hk.2 (fun _ _ _ h => h) (Or.inr ⟨hw, rfl⟩) hS h

/-- Operation i alone may come up: it is carried out; behind it S is shown anew. -/
theorem reg_loud (hi : (l.drop i).head? = some oi) (hr : Region.ready md l.toArray listed = [i]) (hw : Region.wanted oi (yielded l.toArray a.tmps) = true)
    (h : ∀ K : Act → World → Prop, Shut (∀ a w, S w → (S w → wpAnyH P md l.toArray (NoPanic Q) S fuel (listed.setIfInBounds i true) a w) → K a w) → Oper.wp P oi a w K (NoPanic Q)) :
    wpAnyH P md l.toArray (NoPanic Q) S (fuel + 1) listed a w := by
  refine wpAnyH_ready hr (by simp) (AllReadyH.cons (reg_get hi) (fun K hK => ?_) AllReadyH.nil)
  rw [if_pos hw]
  exact h K hK

/-- Two operations may come up: either is carried out first; behind it S is shown anew. -/
theorem reg_loud2 {j : Nat} {oj : Oper} (hi : (l.drop i).head? = some oi) (hj : (l.drop j).head? = some oj) (hr : Region.ready md l.toArray listed = [i, j]) (hwi : Region.wanted oi (yielded l.toArray a.tmps) = true) (hwj : Region.wanted oj (yielded l.toArray a.tmps) = true)
    (h1 : ∀ K : Act → World → Prop, Shut (∀ a w, S w → (S w → wpAnyH P md l.toArray (NoPanic Q) S fuel (listed.setIfInBounds i true) a w) → K a w) → Oper.wp P oi a w K (NoPanic Q))
    (h2 : ∀ K : Act → World → Prop, Shut (∀ a w, S w → (S w → wpAnyH P md l.toArray (NoPanic Q) S fuel (listed.setIfInBounds j true) a w) → K a w) → Oper.wp P oj a w K (NoPanic Q)) :
    wpAnyH P md l.toArray (NoPanic Q) S (fuel + 1) listed a w := by
  refine wpAnyH_ready hr (by simp) (AllReadyH.cons (reg_get hi) (fun K hK => ?_) (AllReadyH.cons (reg_get hj) (fun K hK => ?_) AllReadyH.nil))
  · rw [if_pos hwi]
    exact h1 K hK
  · rw [if_pos hwj]
    exact h2 K hK

/-- Three operations may come up. -/
theorem reg_loud3 {j k : Nat} {oj ok : Oper} (hi : (l.drop i).head? = some oi) (hj : (l.drop j).head? = some oj) (hk : (l.drop k).head? = some ok) (hr : Region.ready md l.toArray listed = [i, j, k]) (hwi : Region.wanted oi (yielded l.toArray a.tmps) = true) (hwj : Region.wanted oj (yielded l.toArray a.tmps) = true) (hwk : Region.wanted ok (yielded l.toArray a.tmps) = true)
    (h1 : ∀ K : Act → World → Prop, Shut (∀ a w, S w → (S w → wpAnyH P md l.toArray (NoPanic Q) S fuel (listed.setIfInBounds i true) a w) → K a w) → Oper.wp P oi a w K (NoPanic Q))
    (h2 : ∀ K : Act → World → Prop, Shut (∀ a w, S w → (S w → wpAnyH P md l.toArray (NoPanic Q) S fuel (listed.setIfInBounds j true) a w) → K a w) → Oper.wp P oj a w K (NoPanic Q))
    (h3 : ∀ K : Act → World → Prop, Shut (∀ a w, S w → (S w → wpAnyH P md l.toArray (NoPanic Q) S fuel (listed.setIfInBounds k true) a w) → K a w) → Oper.wp P ok a w K (NoPanic Q)) :
    wpAnyH P md l.toArray (NoPanic Q) S (fuel + 1) listed a w := by
  refine wpAnyH_ready hr (by simp) (AllReadyH.cons (reg_get hi) (fun K hK => ?_) (AllReadyH.cons (reg_get hj) (fun K hK => ?_) (AllReadyH.cons (reg_get hk) (fun K hK => ?_) AllReadyH.nil)))
  · rw [if_pos hwi]
    exact h1 K hK
  · rw [if_pos hwj]
    exact h2 K hK
  · rw [if_pos hwk]
    exact h3 K hK

/-- Four operations may come up. -/
theorem reg_loud4 {j k m : Nat} {oj ok om : Oper} (hi : (l.drop i).head? = some oi) (hj : (l.drop j).head? = some oj) (hk : (l.drop k).head? = some ok) (hm : (l.drop m).head? = some om) (hr : Region.ready md l.toArray listed = [i, j, k, m]) (hwi : Region.wanted oi (yielded l.toArray a.tmps) = true) (hwj : Region.wanted oj (yielded l.toArray a.tmps) = true) (hwk : Region.wanted ok (yielded l.toArray a.tmps) = true) (hwm : Region.wanted om (yielded l.toArray a.tmps) = true)
    (h1 : ∀ K : Act → World → Prop, Shut (∀ a w, S w → (S w → wpAnyH P md l.toArray (NoPanic Q) S fuel (listed.setIfInBounds i true) a w) → K a w) → Oper.wp P oi a w K (NoPanic Q))
    (h2 : ∀ K : Act → World → Prop, Shut (∀ a w, S w → (S w → wpAnyH P md l.toArray (NoPanic Q) S fuel (listed.setIfInBounds j true) a w) → K a w) → Oper.wp P oj a w K (NoPanic Q))
    (h3 : ∀ K : Act → World → Prop, Shut (∀ a w, S w → (S w → wpAnyH P md l.toArray (NoPanic Q) S fuel (listed.setIfInBounds k true) a w) → K a w) → Oper.wp P ok a w K (NoPanic Q))
    (h4 : ∀ K : Act → World → Prop, Shut (∀ a w, S w → (S w → wpAnyH P md l.toArray (NoPanic Q) S fuel (listed.setIfInBounds m true) a w) → K a w) → Oper.wp P om a w K (NoPanic Q)) :
    wpAnyH P md l.toArray (NoPanic Q) S (fuel + 1) listed a w := by
  refine wpAnyH_ready hr (by simp) (AllReadyH.cons (reg_get hi) (fun K hK => ?_) (AllReadyH.cons (reg_get hj) (fun K hK => ?_) (AllReadyH.cons (reg_get hk) (fun K hK => ?_) (AllReadyH.cons (reg_get hm) (fun K hK => ?_) AllReadyH.nil))))
  · rw [if_pos hwi]
    exact h1 K hK
  · rw [if_pos hwj]
    exact h2 K hK
  · rw [if_pos hwk]
    exact h3 K hK
  · rw [if_pos hwm]
    exact h4 K hK

/-- All have come up. -/
theorem reg_done (hr : Region.ready md l.toArray listed = []) (h : Q .normal a w) (n : Nat) : wpAnyH P md l.toArray (NoPanic Q) S n listed a w :=
  wpAnyH_done hr (NoPanic.normal h) n
/-- Operation i is taken now, as reg_take; its value and the frame behind it are found. -/
theorem rt {v : Value} {a' : Act} (i : Nat) {oi : Oper} (hS : S w) (h : wpAnyH P md l.toArray (NoPanic Q) S fuel (listed.setIfInBounds i true) a' w)
    (hi : (l.drop i).head? = some oi := by rfl) (hk : (Region.noSelect l.toArray && Region.free md l.toArray listed i && (Region.ready md l.toArray listed).contains i) = true := by kernel_rfl)
    (hw : Region.wanted oi (yielded l.toArray a.tmps) = true := by rfl) (hy : ∀ w, S w → (execOp a.eval oi).run P w = .ok (.value v) w := by (intro w hSw; (try dsimp only at hSw); go_simp; all_goals with_reducible rfl))
    (hp : a.put oi.dst v = a' := by ((try simp only [Act.put, List.setIfInBounds_toArray, List.set_cons_zero, List.set_cons_succ]); rfl)) : wpAnyH P md l.toArray (NoPanic Q) S (fuel + 1) listed a w := by
  subst hp
  exact reg_take hi hk hw hS hy h
end

end Go.Proofs.Ytilofffnolnokaa
