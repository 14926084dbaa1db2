/-
  The statement TopRepeatsSaid: for whatever input the law answers true, and each argument reads as it read before. No condition.
  The walk lies in XTopRepeats; here is the step from the walk to the given statement.
-/
import Derived.Test.YtchinbgemenenaaGreatDoorRows
import Derived.Test.YtchinbgemenenaaGreatDoorCards
import Derived.Test.YtchinbgemenenaaGreatDoorTie
import Derived.Test.YtchinbgemenenaaGreatDoorZr8
import Derived.Test.YtchinbgemenenaaGreatDoorZr18
import Derived.Test.YtchinbgemenenaaGreatDoorZr1
namespace Go.Proofs.YtchinbgemenenaaGreatDoor
open Go.ChangeShapes Go.WideShapes Go.ChangeAt Go.RowKit
open Go.ChangeMaps (open_string shut_string)
set_option linter.unusedVariables false

theorem own_TopRepeats : ownKnob Tryz.prog.godebug = none := Ek
theorem laidOut_TopRepeats : laidOutB Tryz.prog = true := Ek

set_option maxRecDepth 100000 in
theorem lifted_TopRepeats (os : Os) (started : os.Started) (H : Type) (enc : TypeId × Value → H) :
    ReturnsInHanded {} Tryz.checked os 6 .any (fun w args => (Rows.topRepeatsSpec.pre enc Tryz.prog Tryz.f6 [] false w args ∧ laidMetH Tryz.prog pS w) ∧ sizedMet enc Tryz.prog Tryz.f6 (OpenSpec.ofChange Rows.topRepeatsSpec) false w args) (Rows.topRepeatsSpec.post enc Tryz.prog Tryz.f6 false true false false) := by
  refine returnsInHanded_of_change_and (C := Tryz.checked) (X := fun w _ => laidMetH Tryz.prog pS w) (fun _ _ _ hh h => h.of_heap hh) own_TopRepeats started Ek Tryz.func6
    (ChangeSpec.witness_shaped (enc := enc) (C := Tryz.checked) (os := os) (X := fun w _ => laidMetH Tryz.prog pS w) false (World.laidAll Tryz.prog os pS) #[.slice none 0 0, .int .i64 0, .slice none 0 0] 8 (World.laidAll_os _ _ _)
      (World.shaped_of_ZipB Ek Ek) Ek Ek Ek
      (by rw [MakeChecks.laidMetH_plain _ _ _ Ek]; exact laidMet_laidAll _ Ek Ek)) ?_
  intro W base args ds gs before hval0 hW _ _ hL _
  have hval : ∀ (j : Nat) t v, Tryz.f6.params[j]? = some t → args[j]? = some v → Value.okWide Tryz.prog W .any base t v := hval0
  have hW' := hW
  obtain ⟨p, q, hA0, hV, rfl, hfz, hnd⟩ := hW
  have hA : DataW.TrodAll enc Tryz.prog W 0 (fun _ => true) true Tryz.f6.params.toList args.toList ds p := hA0
  rw [Tryz.params6] at hA hval
  obtain ⟨v0, vs0, d0, ds0, p0, q0, hargs, rfl, rfl, h0, r0⟩ := trodAll_cons hA
  obtain ⟨v1, vs1, d1, ds1, p1, q1, rfl, rfl, rfl, h1, r1⟩ := trodAll_cons r0
  obtain ⟨v2, vs2, d2, ds2, p2, q2, rfl, rfl, rfl, h2, r2⟩ := trodAll_cons r1
  obtain ⟨rfl, rfl, rfl⟩ := trodAll_nil r2
  obtain rfl : args = #[v0, v1, v2] := by cases args; simp_all
  obtain ⟨rfl, rfl⟩ := trodVars_none hV
  obtain ⟨a0, len0, cap0, rfl⟩ := okWide_slice aE9 (hval 0 32 v0 rfl rfl)
  have k0 := h0
  have lt0 : ∀ x ∈ p0, x.block < W.heap.size := by obtain ⟨m, hm⟩ := k0; exact DataW.trod_lt m _ _ _ hm
  obtain ⟨z0, rfl, w0⟩ : ∃ xs : List Int, len0 = xs.length ∧ ArgI .u8 W a0 cap0 xs := by
    obtain ⟨fuel, hf⟩ := h0
    exact Kc aE9 aF2 Ek hf
  obtain ⟨a1, rfl, rfl, rfl, w1⟩ := open_int aE8 (hval 1 3 v1 rfl rfl) h1
  obtain ⟨a2, len2, cap2, rfl⟩ := okWide_slice aF0 (hval 2 36 v2 rfl rfl)
  have k2 := h2
  have lt2 : ∀ x ∈ p2, x.block < W.heap.size := by obtain ⟨m, hm⟩ := k2; exact DataW.trod_lt m _ _ _ hm
  obtain ⟨z2, rfl, w2⟩ : ∃ xs : List Int, len2 = xs.length ∧ ArgI .i64 W a2 cap2 xs := by
    obtain ⟨fuel, hf⟩ := h2
    exact Kc aF0 aE8 Ek hf
  clear hA0 hval0
  have hT : BitTab W := Pq hL
  refine (walk_TopRepeats (w := W) hT a0 cap0 z0 w0 a1 w1 a2 cap2 z2 w2).mono fun e W' ⟨he, bel⟩ => ?_
  subst he
  exact ⟨_, rfl, _, _, _, [], _, [], hW', trodAll_mk1 (shut_bool aF1 _), (trodAll_cons_mk (Below.trod laidOut_TopRepeats Ek (aI4 Ek) k0 bel lt0) (trodAll_cons_mk (shut_int aE8 w1) (trodAll_cons_mk (Below.trod laidOut_TopRepeats Ek (aI4 Ek) k2 bel lt2) trodAll_mk0))), rfl, bel.frame _, fun h => by cases h⟩

theorem over_TopRepeats : Rows.topRepeatsRow.holds Tryz.pinned (OpenSpec.ofChange Rows.topRepeatsSpec) :=
  OpenClaim.holds_of_wide 6 Tryz.f6 rfl rfl rfl rfl rfl rfl rfl ⟨rfl, rfl, rfl, rfl, rfl⟩ rfl rfl rfl rfl rfl Ek Tryz.func6 Ek
    (of_decide_eq_true Ek) (by unfold Func.isWrapper; first | (rw [aH9 (by decide +kernel)]; kernel_rfl) | (rw [aH8 (by decide +kernel)]; exact ⟨rfl, rfl⟩))
    (fun os started H enc _ => lifted_TopRepeats os started H enc)

theorem proved_TopRepeats : Rows.TopRepeatsCardSaid :=
  Claim7.holds_tied_plain_at .later [] [.data] true _ false over_TopRepeats (fun _ h => by cases h) Ek (fun _ h => by cases h) topRepeats_row_tie rfl ⟨rfl, rfl⟩ Ek rfl
    (fun f fn hf hfn => by
      obtain rfl : f = 6 := Option.some.inj ((show Tryz.prog.funcNamed "scrimshaw/scrimshawtop.TopRepeats" = some 6 by kernel_rfl).symm.trans hf) |>.symm
      obtain rfl : fn = Tryz.f6 := (Option.some.inj (Tryz.func6.symm.trans hfn)).symm
      exact ⟨Ek, fun j t ht => by
        rw [Tryz.params6] at ht
        have hm : t ∈ [32, 3, 36] := by
          have := Array.mem_of_getElem? ht
          simp at this ⊢
          first | exact this | (rcases this with h | h <;> simp [h]) | (rcases this with h | h | h <;> simp [h]) | (rcases this with h | h | h | h <;> simp [h])
        have hall : ([32, 3, 36].all fun u => !Tryz.prog.wantsStandIn u) = true := Ek
        exact (show Tryz.prog.wantsStandIn t = false by simpa using List.all_eq_true.1 hall t hm)⟩)
    Ek
#print axioms proved_TopRepeats
end Go.Proofs.YtchinbgemenenaaGreatDoor
