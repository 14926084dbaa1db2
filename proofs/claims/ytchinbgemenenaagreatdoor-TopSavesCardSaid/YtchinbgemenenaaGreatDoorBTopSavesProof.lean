/-
  The statement TopSavesSaid: for whatever input the law answers true, and each argument reads as it read before. No condition.
  The walk lies in XTopSaves; here is the step from the walk to the given statement.
-/
import Derived.Test.YtchinbgemenenaaGreatDoorRows
import Derived.Test.YtchinbgemenenaaGreatDoorCards
import Derived.Test.YtchinbgemenenaaGreatDoorTie
import Derived.Test.YtchinbgemenenaaGreatDoorProg
import Derived.Test.YtchinbgemenenaaGreatDoorZs20
namespace Go.Proofs.YtchinbgemenenaaGreatDoor
open Go.ChangeShapes Go.WideShapes Go.ChangeAt Go.RowKit
open Go.ChangeMaps (open_string shut_string)
set_option linter.unusedVariables false

theorem own_TopSaves : ownKnob Tryz.prog.godebug = none := Ek
theorem laidOut_TopSaves : laidOutB Tryz.prog = true := Ek

set_option maxRecDepth 100000 in
theorem lifted_TopSaves (os : Os) (started : os.Started) (H : Type) (enc : TypeId × Value -> H) :
    ReturnsInHanded {} Tryz.checked os 3 .any (λw args => (Rows.topSavesSpec.pre enc Tryz.prog Tryz.f3 [] false w args /\ laidMetH Tryz.prog jJ w) /\ sizedMet enc Tryz.prog Tryz.f3 (OpenSpec.ofChange Rows.topSavesSpec) false w args) (Rows.topSavesSpec.post enc Tryz.prog Tryz.f3 false true false false) := by
  refine returnsInHanded_of_change_and (C := Tryz.checked) (X :=λw _ => laidMetH Tryz.prog jJ w) (λ_ _ _ hh h => h.of_heap hh) own_TopSaves started Ek Tryz.func3
    (ChangeSpec.witness_shaped (enc := enc) (C := Tryz.checked) (os := os) (X :=λw _ => laidMetH Tryz.prog jJ w) false (World.laidAll Tryz.prog os jJ) #[.slice none 0 0, .int .i64 0] 8 (World.laidAll_os _ _ _)
      (World.shaped_of_ZipB Ek Ek) Ek Ek Ek
      (by rw [MakeChecks.laidMetH_plain _ _ _ Ek]; exact laidMet_laidAll _ Ek Ek)) ?_
  intro W base args ds gs before hval0 hW _ _ hL _
  have hval : ∀ (j : Nat) t v, Tryz.f3.params[j]? = some t -> args[j]? = some v -> Value.okWide Tryz.prog W .any base t v := hval0
  have hW' := hW
  obtain ⟨p, q, hA0, hV, rfl, hfz, hnd⟩ := hW
  have hA : DataW.TrodAll enc Tryz.prog W 0 (λ_ => true) true Tryz.f3.params.toList args.toList ds p := hA0
  rw [Tryz.params3] at hA hval
  obtain ⟨v0, vs0, d0, ds0, p0, q0, hargs, rfl, rfl, h0, r0⟩ := trodAll_cons hA
  obtain ⟨v1, vs1, d1, ds1, p1, q1, rfl, rfl, rfl, h1, r1⟩ := trodAll_cons r0
  obtain ⟨rfl, rfl, rfl⟩ := trodAll_nil r1
  obtain rfl : args = #[v0, v1] := by cases args; simp_all
  obtain ⟨rfl, rfl⟩ := trodVars_none hV
  obtain ⟨a0, len0, cap0, rfl⟩ := okWide_slice Tryz.underlying22 (hval 0 22 v0 rfl rfl)
  have k0 := h0
  have lt0 : ∀ x ∈ p0, x.block < W.heap.size := by obtain ⟨m, hm⟩ := k0; exact DataW.trod_lt m _ _ _ hm
  obtain ⟨z0, rfl, w0⟩ : ∃ xs : List Stp, len0 = xs.length /\ ArgS W a0 cap0 xs := by
    obtain ⟨fuel, hf⟩ := h0
    exact Rm Tryz.underlying22 Tryz.underlying34 Ek rfl rfl rfl rfl Ek Ek Ek Ek aZ8 aZ8 aZ8 aZ9 ba2 Ek hf
  obtain ⟨a1, rfl, rfl, rfl, w1⟩ := open_int aZ8 (hval 1 3 v1 rfl rfl) h1
  clear hA0 hval0
  have hT : BitTab W := Gk hL
  refine (walk_TopSaves (w := W) hT a0 cap0 z0 w0 a1 w1).mono λe W' ⟨he, bel⟩ => ?_
  subst he
  exact ⟨_, rfl, _, _, _, [], _, [], hW', trodAll_mk1 (shut_bool ba1 _), (trodAll_cons_mk (Below.trod laidOut_TopSaves Ek (bd6 Ek) k0 bel lt0) (trodAll_cons_mk (shut_int aZ8 w1) trodAll_mk0)), rfl, bel.frame _, λh => by cases h⟩

theorem over_TopSaves : Rows.topSavesRow.holds Tryz.pinned (OpenSpec.ofChange Rows.topSavesSpec) :=
  OpenClaim.holds_of_wide 3 Tryz.f3 rfl rfl rfl rfl rfl rfl rfl ⟨rfl, rfl, rfl, rfl, rfl⟩ rfl rfl rfl rfl rfl Ek Tryz.func3 Ek
    (of_decide_eq_true Ek) (by unfold Func.isWrapper; first | (rw [bd0 (by decide +kernel)]; kernel_rfl) | (rw [bc9 (by decide +kernel)]; exact ⟨rfl, rfl⟩))
    (λos started H enc _ => lifted_TopSaves os started H enc)

theorem proved_TopSaves : Rows.TopSavesCardSaid :=
  Claim7.holds_tied_plain_at .later [] [.data] true _ false over_TopSaves (λ_ h => by cases h) Ek (λ_ h => by cases h) topSaves_row_tie rfl ⟨rfl, rfl⟩ Ek rfl
    (λf fn hf hfn => by
      obtain rfl : f = 3 := Option.some.inj ((show Tryz.prog.funcNamed "scrimshaw/scrimshawtop.TopSaves" = some 3 by kernel_rfl).symm.trans hf) |>.symm
      obtain rfl : fn = Tryz.f3 := (Option.some.inj (Tryz.func3.symm.trans hfn)).symm
      exact ⟨Ek, λj t ht => by
        rw [Tryz.params3] at ht
        have hm : t ∈ [22, 3] := by
          have := Array.mem_of_getElem? ht
          simp at this ⊢
          first | exact this | (rcases this with h | h <;> simp [h]) | (rcases this with h | h | h <;> simp [h]) | (rcases this with h | h | h | h <;> simp [h])
        have hall : ([22, 3].all λu => !Tryz.prog.wantsStandIn u) = true := Ek
        exact (show Tryz.prog.wantsStandIn t = false by simpa using List.all_eq_true.1 hall t hm)⟩)
    Ek
#print axioms proved_TopSaves
end Go.Proofs.YtchinbgemenenaaGreatDoor
