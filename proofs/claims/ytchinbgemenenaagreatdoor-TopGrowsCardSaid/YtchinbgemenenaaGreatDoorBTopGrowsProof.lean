/-
  The statement TopGrowsSaid: for whatever input the law answers true, and each argument reads as it read before. No condition.
  The walk lies in XTopGrows; here is the step from the walk to the given statement.
-/
import Derived.Test.YtchinbgemenenaaGreatDoorRows
import Derived.Test.YtchinbgemenenaaGreatDoorCards
import Derived.Test.YtchinbgemenenaaGreatDoorTie
import Derived.Test.YtchinbgemenenaaGreatDoorZq8
import Derived.Test.YtchinbgemenenaaGreatDoorZq18
import Derived.Test.YtchinbgemenenaaGreatDoorZq1
namespace Go.Proofs.YtchinbgemenenaaGreatDoor
open Go.ChangeShapes Go.WideShapes Go.ChangeAt Go.RowKit
open Go.ChangeMaps (open_string shut_string)
set_option linter.unusedVariables false

theorem own_TopGrows : ownKnob Tryz.prog.godebug = none := Ek
theorem laidOut_TopGrows : laidOutB Tryz.prog = true := Ek

set_option maxRecDepth 100000 in
theorem lifted_TopGrows (os : Os) (started : os.Started) (H : Type) (enc : TypeId × Value → H) :
    ReturnsInHanded {} Tryz.checked os 4 .any (fun w args => (Rows.topGrowsSpec.pre enc Tryz.prog Tryz.f4 [] false w args ∧ laidMetH Tryz.prog pP w) ∧ sizedMet enc Tryz.prog Tryz.f4 (OpenSpec.ofChange Rows.topGrowsSpec) false w args) (Rows.topGrowsSpec.post enc Tryz.prog Tryz.f4 false true false false) := by
  refine returnsInHanded_of_change_and (C := Tryz.checked) (X := fun w _ => laidMetH Tryz.prog pP w) (fun _ _ _ hh h => h.of_heap hh) own_TopGrows started Ek Tryz.func4
    (ChangeSpec.witness_shaped (enc := enc) (C := Tryz.checked) (os := os) (X := fun w _ => laidMetH Tryz.prog pP w) false (World.laidAll Tryz.prog os pP) #[.slice none 0 0] 8 (World.laidAll_os _ _ _)
      (World.shaped_of_ZipB Ek Ek) Ek Ek Ek
      (by rw [MakeChecks.laidMetH_plain _ _ _ Ek]; exact laidMet_laidAll _ Ek Ek)) ?_
  intro W base args ds gs before hval0 hW _ _ hL _
  have hval : ∀ (j : Nat) t v, Tryz.f4.params[j]? = some t → args[j]? = some v → Value.okWide Tryz.prog W .any base t v := hval0
  have hW' := hW
  obtain ⟨p, q, hA0, hV, rfl, hfz, hnd⟩ := hW
  have hA : DataW.TrodAll enc Tryz.prog W 0 (fun _ => true) true Tryz.f4.params.toList args.toList ds p := hA0
  rw [Tryz.params4] at hA hval
  obtain ⟨v0, vs0, d0, ds0, p0, q0, hargs, rfl, rfl, h0, r0⟩ := trodAll_cons hA
  obtain ⟨rfl, rfl, rfl⟩ := trodAll_nil r0
  obtain rfl : args = #[v0] := by cases args; simp_all
  obtain ⟨rfl, rfl⟩ := trodVars_none hV
  obtain ⟨a0, len0, cap0, rfl⟩ := okWide_slice Tryz.underlying22 (hval 0 22 v0 rfl rfl)
  have k0 := h0
  have lt0 : ∀ x ∈ p0, x.block < W.heap.size := by obtain ⟨m, hm⟩ := k0; exact DataW.trod_lt m _ _ _ hm
  obtain ⟨z0, rfl, w0⟩ : ∃ xs : List Stp, len0 = xs.length ∧ ArgS W a0 cap0 xs := by
    obtain ⟨fuel, hf⟩ := h0
    exact ad0 Tryz.underlying22 Tryz.underlying34 Ek rfl rfl rfl rfl Ek Ek Ek Ek aF3 aF3 aF3 aF4 aF7 Ek hf
  clear hA0 hval0
  have hT : BitTab W := Pq hL
  refine (walk_TopGrows (w := W) hT a0 cap0 z0 w0).mono fun e W' ⟨he, bel⟩ => ?_
  subst he
  exact ⟨_, rfl, _, _, _, [], _, [], hW', trodAll_mk1 (shut_bool aF6 _), (trodAll_cons_mk (Below.trod laidOut_TopGrows Ek (of_decide_eq_true Ek) k0 bel lt0) trodAll_mk0), rfl, bel.frame _, fun h => by cases h⟩

theorem over_TopGrows : Rows.topGrowsRow.holds Tryz.pinned (OpenSpec.ofChange Rows.topGrowsSpec) :=
  OpenClaim.holds_of_wide 4 Tryz.f4 rfl rfl rfl rfl rfl rfl rfl ⟨rfl, rfl, rfl, rfl, rfl⟩ rfl rfl rfl rfl rfl Ek Tryz.func4 Ek
    (of_decide_eq_true Ek) (by unfold Func.isWrapper; first | (rw [aI4 (by decide +kernel)]; kernel_rfl) | (rw [aI3 (by decide +kernel)]; exact ⟨rfl, rfl⟩))
    (fun os started H enc _ => lifted_TopGrows os started H enc)

theorem proved_TopGrows : Rows.TopGrowsCardSaid :=
  Claim7.holds_tied_plain_at .later [] [.data] true _ false over_TopGrows (fun _ h => by cases h) Ek (fun _ h => by cases h) topGrows_row_tie rfl ⟨rfl, rfl⟩ Ek rfl
    (fun f fn hf hfn => by
      obtain rfl : f = 4 := Option.some.inj ((show Tryz.prog.funcNamed "scrimshaw/scrimshawtop.TopGrows" = some 4 by kernel_rfl).symm.trans hf) |>.symm
      obtain rfl : fn = Tryz.f4 := (Option.some.inj (Tryz.func4.symm.trans hfn)).symm
      exact ⟨Ek, fun j t ht => by
        rw [Tryz.params4] at ht
        have hm : t ∈ [22] := by
          have := Array.mem_of_getElem? ht
          simp at this ⊢
          first | exact this | (rcases this with h | h <;> simp [h]) | (rcases this with h | h | h <;> simp [h]) | (rcases this with h | h | h | h <;> simp [h])
        have hall : ([22].all fun u => !Tryz.prog.wantsStandIn u) = true := Ek
        exact (show Tryz.prog.wantsStandIn t = false by simpa using List.all_eq_true.1 hall t hm)⟩)
    Ek
#print axioms proved_TopGrows
end Go.Proofs.YtchinbgemenenaaGreatDoor
