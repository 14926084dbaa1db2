/- The walk of BitsAsks. -/
import Derived.Test.YticbfhbilfgoiaaDoorRef1In
import Derived.Test.YticbfhbilfgoiaaDoorArgs
namespace Go.Proofs.YticbfhbilfgoiaaDoor
set_option linter.unusedVariables false
set_option linter.unusedSimpArgs false
open Go.RowKit

theorem nats_of {k : IntKind} {w : World} {a : Option Addr} {c : Nat} {xs : List Int} (h : ArgI .u64 w a c xs) : ∃ ws : List Nat, xs = ws.map natI ∧ (∀ x ∈ ws, x < 2 ^ 64) ∧ ws.length = xs.length := by
  have hx : ∀ x ∈ xs, ∃ n : Nat, x = (n : Int) ∧ n < 2 ^ 64 := by
    intro x hx
    obtain ⟨i, hi, rfl⟩ := List.mem_iff_getElem.1 hx
    have := h.wf i hi
    rw [List.getElem?_eq_getElem hi] at this
    exact u64_nat this
  refine ⟨xs.map Int.toNat, ?_, ?_, by simp⟩
  · rw [List.map_map]
    conv => lhs; rw [← List.map_id xs]
    refine List.map_congr_left (fun x hxm => ?_)
    obtain ⟨n, rfl, _⟩ := hx x hxm
    simp [natI]
  · intro x hxm
    obtain ⟨y, hy, rfl⟩ := List.mem_map.1 hxm
    obtain ⟨n, rfl, hn⟩ := hx y hy
    simpa using hn

set_option maxHeartbeats 3200000 in
set_option maxRecDepth 100000 in
theorem walk_BitsAsks (w : World) (hT : BitTab w) (a0 : Option Addr) (c0 : Nat) (z0 : List Int) (w0 : ArgI .u64 w a0 c0 z0) (a1 : Int) (w1 : (Lit.int .u64 a1).wf = true) (a2 : Int) (w2 : (Lit.int .i64 a2).wf = true) (b : Bool) :
    Calls Tryd.prog 4 #[.slice a0 z0.length c0, .int .u64 a1, .int .i64 a2, .bool b] w fun e w' => e = .returned (.bool true) ∧ Below w.heap.size w w' := by
  obtain ⟨x, rfl, hx⟩ := u64_nat w1
  obtain ⟨ws, hz, hws, hlen⟩ := nats_of (k := .u64) w0
  rw [← hlen]
  have hrd : Reads w .u64 a0 (ws.map natI) := by rw [← hz]; exact w0.reads
  have HRD : Hid (∀ w', Below w.heap.size w w' → Reads w' .u64 a0 (ws.map natI)) := fun w' hb => hrd.below hb
  have HWS := Lib.hid hws
  have HT := Lib.hid hT
  clear w0 w1 hz hlen hrd hws hT
  by_cases h10 : 10 < ws.length
  · have d1 : decide ((10 : Int) < (ws.length : Int)) = true := by simp; omega
    go_enter Tryd.func4, Tryd.ntmps4
    go_wp2_with fail
    refine (told1_any _ HT.out).mono ?_
    rintro e w2 ⟨rfl, hb⟩
    go_wp2_with fail
    go_ret
    exact ⟨rfl, hb⟩
  · have d1 : decide ((10 : Int) < (ws.length : Int)) = false := by simp; omega
    have q1 := pcs_le ws
    have tail : ∀ (y z : Nat) (o1 o2 : Bool) (w4 : World), Below w.heap.size w w4 → True := fun _ _ _ _ _ _ => trivial
    clear tail
    by_cases hk : a2 < 0 ∨ 64 ≤ a2
    · go_enter Tryd.func4, Tryd.ntmps4
      go_wp2_with fail
      refine (put_bad x a2 b _ hk).mono ?_
      rintro e w' ⟨rfl, rfl⟩
      go_wp2_with fail
      refine (refPut_bad x a2 b _ hk).mono ?_
      rintro e w' ⟨rfl, rfl⟩
      go_wp2_with fail
      refine (cut_bad x a2 b _ hk).mono ?_
      rintro e w' ⟨rfl, rfl⟩
      go_wp2_with fail
      refine (refCut_bad x a2 b _ hk).mono ?_
      rintro e w' ⟨rfl, rfl⟩
      go_wp2_with fail
      refine (told1_any _ HT.out).mono ?_
      rintro e w5 ⟨rfl, hb⟩
      have hs := hb.size
      go_wp2_with fail
      refine (count_any _ _ ws _ (HRD.out _ hb) HWS.out (by omega)).mono ?_
      rintro e w' ⟨rfl, rfl⟩
      go_wp2_with fail
      refine (refCount_any _ _ ws _ (HRD.out _ hb) HWS.out (by omega)).mono ?_
      rintro e w' ⟨rfl, rfl⟩
      go_wp2_with fail
      refine (rank_any x a2 _ hx).mono ?_
      rintro e w6 ⟨rfl, hb2⟩
      have hb := hb.trans (hb2.mono hs)
      have hs := hb.size
      clear hb2
      generalize hK : min a2.toNat 64 = K at *
      have HK := Lib.hid hK
      clear hK
      go_wp2_with fail
      refine (refRank_any x a2 _ hx).mono ?_
      rintro e w' ⟨rfl, rfl⟩
      rw [HK.out]
      go_wp2_with fail
      refine (select_any x a2 _ hx (HT.out.below' hb)).mono ?_
      rintro e w7 ⟨rfl, hb2⟩
      have hb := hb.trans (hb2.mono hs)
      clear hb2
      go_wp2_with fail
      refine (refSelect_any x a2 _ hx).mono ?_
      rintro e w' ⟨rfl, rfl⟩
      go_wp2_with fail
      go_ret
      exact ⟨rfl, hb⟩
    · obtain ⟨k, rfl⟩ := Int.eq_ofNat_of_zero_le (show 0 ≤ a2 by omega)
      have hk2 : k < 64 := by omega
      clear hk
      go_enter Tryd.func4, Tryd.ntmps4
      go_wp2_with fail
      refine (put_good x k b _ hx hk2).mono ?_
      rintro e w' ⟨rfl, rfl⟩
      go_wp2_with fail
      refine (refPut_good x k b _ hx hk2).mono ?_
      rintro e w3 ⟨rfl, hb⟩
      have hs := hb.size
      go_wp2_with fail
      refine (cut_good x k b _ hx hk2).mono ?_
      rintro e w' ⟨rfl, rfl⟩
      go_wp2_with fail
      refine (refCut_good x k b _ hx hk2).mono ?_
      rintro e w4 ⟨rfl, hb2⟩
      have hb := hb.trans (hb2.mono hs)
      have hs := hb.size
      clear hb2
      go_wp2_with fail
      refine (told1_any _ (HT.out.below' hb)).mono ?_
      rintro e w5 ⟨rfl, hb2⟩
      have hb := hb.trans (hb2.mono hs)
      have hs := hb.size
      clear hb2
      go_wp2_with fail
      refine (count_any _ _ ws _ (HRD.out _ hb) HWS.out (by omega)).mono ?_
      rintro e w' ⟨rfl, rfl⟩
      go_wp2_with fail
      refine (refCount_any _ _ ws _ (HRD.out _ hb) HWS.out (by omega)).mono ?_
      rintro e w' ⟨rfl, rfl⟩
      go_wp2_with fail
      refine (rank_any x k _ hx).mono ?_
      rintro e w6 ⟨rfl, hb2⟩
      have hb := hb.trans (hb2.mono hs)
      have hs := hb.size
      clear hb2
      generalize hK : min ((k : Int)).toNat 64 = K at *
      have HK := Lib.hid hK
      clear hK
      go_wp2_with fail
      refine (refRank_any x k _ hx).mono ?_
      rintro e w' ⟨rfl, rfl⟩
      rw [HK.out]
      go_wp2_with fail
      refine (select_any x k _ hx (HT.out.below' hb)).mono ?_
      rintro e w7 ⟨rfl, hb2⟩
      have hb := hb.trans (hb2.mono hs)
      clear hb2
      go_wp2_with fail
      refine (refSelect_any x k _ hx).mono ?_
      rintro e w' ⟨rfl, rfl⟩
      go_wp2_with fail
      go_ret
      exact ⟨rfl, hb⟩

end Go.Proofs.YticbfhbilfgoiaaDoor
