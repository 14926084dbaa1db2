/- Lemmas and contracts under the claims of this seat: What the walk of TreePlays keeps. -/
import Derived.Test.YtcppgpjodfeigaaDoorZt6

namespace Go.Proofs.YtcppgpjodfeigaaDoor
set_option linter.unusedVariables false
set_option linter.unusedSimpArgs false
open Go.RowKit

theorem and7t (x : Int) : ∃ n : Nat, n < 8 ∧ bits .and .i64 x 7 = (n : Int) := by
  have h : bits .and .i64 x 7 = x % 8 := by
    show IntKind.i64.wrap ((x % 2 ^ 64).toNat &&& ((7 : Int) % 2 ^ 64).toNat : Nat) = _
    have h7 : ((7 : Int) % 2 ^ 64).toNat = 2 ^ 3 - 1 := by decide
    rw [h7, Nat.and_two_pow_sub_one_eq_mod]
    have hw : (((x % 2 ^ 64).toNat % 2 ^ 3 : Nat) : Int) = x % 8 := by omega
    rw [hw]
    exact IntWalk.i64_in _ (by omega)
  exact ⟨(x % 8).toNat, by omega, by rw [h]; omega⟩

def xzk (v : Value) (Z : Option (Nat × Obj)) (k : Nat) : Prop := obk v k ∨ ∃ ob, Z = some (k, ob)
/-- A tree of bits L and a row of bits R, and a block Z of the call's own, apart from one another. -/
structure PK (B : Nat) (Z : Option (Nat × Obj)) (w0 w : World) (p : Nat) (o : Option ST) (made : Nat) (v : Value) (L R : List Bool) (Vb : Int → Prop) : Prop where
  own : w.ownsRow B 4 1 v R.length (R.map Value.bool)
  t : ∃ x : Int, Vb x ∧ TreeE B (xzk v Z) w p o made x
  z : ∀ q ob, Z = some (q, ob) → w.heap[q]? = some ob
  bits : sbits o = L
  bl : Below B w0 w

section
variable {B : Nat} {Z : Option (Nat × Obj)} {w0 w w' : World} {p made made' : Nat} {o o' : Option ST} {v : Value} {L R : List Bool} {Vb Vc : Int → Prop}
theorem PK.le (h : PK B Z w0 w p o made v L R Vb) : B ≤ w.heap.size := by obtain ⟨x, _, h0⟩ := h.t; exact h0.le
theorem PK.good (h : PK B Z w0 w p o made v L R Vb) : Good o ∧ (sbits o).length ≤ 2147483648 := by obtain ⟨x, _, h0⟩ := h.t; exact ⟨h0.good, h0.len⟩
theorem PK.vb (h : PK B Z w0 w p o made v L R Vb) (hv : ∀ x, Vb x → Vc x) : PK B Z w0 w p o made v L R Vc := by
  obtain ⟨x, hx, h0⟩ := h.t
  exact ⟨h.own, ⟨x, hv x hx, h0⟩, h.z, h.bits, h.bl⟩
theorem PK.below (h : PK B Z w0 w p o made v L R Vb) (hb : Below w.heap.size w w') : PK B Z w0 w' p o made v L R Vb := by
  obtain ⟨x, hx, h0⟩ := h.t
  exact ⟨(Chg.of_below (S := fun _ => False) hb).own h.own (fun _ _ hf => hf.elim), ⟨x, hx, h0.below hb⟩, fun q ob hq => (Chg.of_below (S := fun _ => False) hb).heap (h.z q ob hq) id, h.bits, h.bl.trans (hb.mono h.le)⟩
theorem PK.drewN (h : PK B Z w0 w p o made v L R Vb) (n : Nat) : PK B Z w0 (w.drewN n) p o made v L R Vb := h.below ⟨rfl, rfl, rfl, Nat.le_refl _, fun _ _ => rfl⟩
/-- A step of the tree. -/
theorem PK.step (h : PK B Z w0 w p o made v L R Vb) {x : Int} (hx : Vc x) (ht : TreeE B (xzk v Z) w' p o' made' x) (hc : Chg (exT B (xzk v Z)) w w') {L' : List Bool} (hb : sbits o' = L') : PK B Z w0 w' p o' made' v L' R Vc :=
  ⟨hc.own h.own (fun k hk hs => hs.2 (Or.inl hk)), ⟨x, hx, ht⟩, fun q ob hq => hc.heap (h.z q ob hq) (fun hs => hs.2 (Or.inr ⟨ob, hq⟩)), hb, h.bl.trans (exT_below hc h.le)⟩
/-- A new row. -/
theorem PK.row (h : PK B Z w0 w p o made v L R Vb) {v' : Value} {R' : List Bool} (ho : w'.ownsRow w.heap.size 4 1 v' R'.length (R'.map Value.bool)) (hb : Below w.heap.size w w') : PK B Z w0 w' p o made v' L R' Vb := by
  obtain ⟨x, hx, h0⟩ := h.t
  refine ⟨own_mono ho h.le, ⟨x, hx, h0.less hb (Y := xzk v' Z) (fun k hk => ?_) (fun k hk => ?_)⟩, fun q ob hq => (Chg.of_below (S := fun _ => False) hb).heap (h.z q ob hq) id, h.bits, h.bl.trans (hb.mono h.le)⟩
  · rcases hk with hk | ⟨ob, hk⟩
    · exact Or.inr (own_lt ho hk).1
    · exact Or.inl (Or.inr ⟨ob, hk⟩)
  · rcases hk with hk | ⟨ob, hk⟩
    · exact (own_lt ho hk).2
    · exact Nat.lt_of_lt_of_le (Array.getElem?_eq_some_iff.1 (h.z k ob hk)).1 hb.size
/-- A new block is kept apart. -/
theorem PK.addZ (h : PK B none w0 w p o made v L R Vb) {q : Nat} {ob : Obj} (hb : Below w.heap.size w w') (hq : w.heap.size ≤ q) (hz : w'.heap[q]? = some ob) : PK B (some (q, ob)) w0 w' p o made v L R Vb := by
  obtain ⟨x, hx, h0⟩ := h.t
  refine ⟨(Chg.of_below (S := fun _ => False) hb).own h.own (fun _ _ hf => hf.elim), ⟨x, hx, h0.less hb (Y := xzk v (some (q, ob))) (fun k hk => ?_) (fun k hk => ?_)⟩, fun q' ob' hq' => ?_, h.bits, h.bl.trans (hb.mono h.le)⟩
  · rcases hk with hk | ⟨ob, hk⟩
    · exact Or.inl (Or.inl hk)
    · cases hk; exact Or.inr hq
  · rcases hk with hk | ⟨ob, hk⟩
    · exact Nat.lt_of_lt_of_le (own_lt h.own hk).2 hb.size
    · cases hk; exact (Array.getElem?_eq_some_iff.1 hz).1
  · cases hq'; exact hz
theorem PK.dropZ (h : PK B Z w0 w p o made v L R Vb) : PK B none w0 w p o made v L R Vb := by
  obtain ⟨x, hx, h0⟩ := h.t
  obtain ⟨S, h1, h2⟩ := h0.t
  refine ⟨h.own, ⟨x, hx, ⟨⟨S, h1, fun k hk => ⟨(h2 k hk).1, fun hX => (h2 k hk).2 ?_⟩⟩, h0.le, fun k hk => ?_⟩⟩, fun q ob hq => (by cases hq), h.bits, h.bl⟩
  · rcases hX with hX | ⟨ob, hX⟩
    · exact Or.inl hX
    · cases hX
  · rcases hk with hk | ⟨ob, hk⟩
    · exact h0.x k (Or.inl hk)
    · cases hk
/-- How many nodes a step looks at, by the height ahead. -/
def vbB (m : Nat) (x : Int) : Prop := 0 ≤ x ∧ x ≤ m
theorem PK.look (h : PK B Z w0 w p o made v L R Vb) {m : Nat} (hl : ELook B (xzk v Z) w w' p o made m) : PK B Z w0 w' p o made v L R (vbB m) := by
  obtain ⟨⟨x, hx, ht⟩, hc⟩ := hl
  exact h.step (x := (x : Int)) ⟨by omega, by exact_mod_cast hx⟩ ht hc h.bits
theorem PK.ins (h : PK B Z w0 w p o made v L R Vb) (n : Nat) {k : Int} (hk : k = (n : Int)) (hn : n ≤ L.length) (hl : L.length < 2147483648) (b : Bool) :
    Calls Tryd.prog 25 #[.pointer (some ⟨p, 0, none⟩), .int .i64 k, .bool b] w fun e w' => e = .returned (.int .i64 0) ∧ ∃ o' made', PK B Z w0 w' p o' made' v (inL L n b) R (vbB (7 * shigh o + 2)) := by
  obtain ⟨x, hx, h0⟩ := h.t
  refine (insert_t h0 h.bits n hk hn hl b).mono ?_
  rintro e w' ⟨rfl, made', ⟨y, hy, ht⟩, hc⟩
  exact ⟨rfl, _, made', h.step (x := (y : Int)) ⟨by omega, by exact_mod_cast hy⟩ ht hc (by rw [insO_bits (by rw [h.bits]; exact hn), h.bits])⟩
theorem PK.insBad (h : PK B Z w0 w p o made v L R Vb) (k : Int) (b : Bool) (hk : k < 0 ∨ (L.length : Int) < k) :
    Calls Tryd.prog 25 #[.pointer (some ⟨p, 0, none⟩), .int .i64 k, .bool b] w fun e w' => e = .returned (.int .i64 2) ∧ PK B Z w0 w' p o made v L R (vbB 0) := by
  obtain ⟨x, hx, h0⟩ := h.t
  refine (insert_tBad h0 h.bits k b hk).mono ?_
  rintro e w' ⟨rfl, hl⟩
  exact ⟨rfl, h.look hl⟩
theorem PK.del (h : PK B Z w0 w p o made v L R Vb) (n : Nat) {k : Int} (hk : k = (n : Int)) (hn : n < L.length) :
    Calls Tryd.prog 32 #[.pointer (some ⟨p, 0, none⟩), .int .i64 k] w fun e w' => e = .returned (.tuple #[.bool (bitAt L n), .int .i64 0]) ∧ ∃ o', PK B Z w0 w' p o' made v (outL L n) R (vbB (7 * shigh o + 2)) := by
  obtain ⟨x, hx, h0⟩ := h.t
  refine (delete_t h0 h.bits n hk hn rfl).mono ?_
  rintro e w' ⟨rfl, ⟨y, hy, ht⟩, hc⟩
  exact ⟨rfl, _, h.step (x := (y : Int)) ⟨by omega, by exact_mod_cast hy⟩ ht hc (by rw [delO_bits (by rw [h.bits]; exact hn), h.bits])⟩
theorem PK.delBad (h : PK B Z w0 w p o made v L R Vb) (k : Int) (hk : k < 0 ∨ (L.length : Int) ≤ k) :
    Calls Tryd.prog 32 #[.pointer (some ⟨p, 0, none⟩), .int .i64 k] w fun e w' => e = .returned (.tuple #[.bool false, .int .i64 2]) ∧ PK B Z w0 w' p o made v L R (vbB 0) := by
  obtain ⟨x, hx, h0⟩ := h.t
  refine (delete_tBad h0 h.bits k hk).mono ?_
  rintro e w' ⟨rfl, hl⟩
  exact ⟨rfl, h.look hl⟩
theorem PK.get (h : PK B Z w0 w p o made v L R Vb) (n : Nat) {k : Int} (hk : k = (n : Int)) (hn : n < L.length) :
    Calls Tryd.prog 19 #[.pointer (some ⟨p, 0, none⟩), .int .i64 k] w fun e w' => e = .returned (.tuple #[.bool (bitAt L n), .int .i64 0]) ∧ PK B Z w0 w' p o made v L R (vbB (shigh o + 1)) := by
  obtain ⟨x, hx, h0⟩ := h.t
  refine (get_t h0 h.bits n hk hn rfl).mono ?_
  rintro e w' ⟨rfl, hl⟩
  exact ⟨rfl, h.look hl⟩
theorem PK.getBad (h : PK B Z w0 w p o made v L R Vb) (k : Int) (hk : k < 0 ∨ (L.length : Int) ≤ k) :
    Calls Tryd.prog 19 #[.pointer (some ⟨p, 0, none⟩), .int .i64 k] w fun e w' => e = .returned (.tuple #[.bool false, .int .i64 2]) ∧ PK B Z w0 w' p o made v L R (vbB 0) := by
  obtain ⟨x, hx, h0⟩ := h.t
  refine (get_tBad h0 h.bits k hk).mono ?_
  rintro e w' ⟨rfl, hl⟩
  exact ⟨rfl, h.look hl⟩
theorem PK.fine {b : Nat} (h : PK B Z w0 w p o made v L R (vbB (8 * (max (shigh o) b + 2)))) (hb : b ≤ 1000000000) :
    Calls Tryd.prog 29 #[.pointer (some ⟨p, 0, none⟩), .int .i64 (b : Int)] w fun e w' => e = .returned (.bool true) ∧ PK B Z w0 w' p o made v L R (fun _ => True) := by
  obtain ⟨x, hx, h0⟩ := h.t
  obtain ⟨y, rfl⟩ := Int.eq_ofNat_of_zero_le hx.1
  refine (fine5_any h0 b hb (by have := hx.2; exact_mod_cast this)).mono ?_
  rintro e w' ⟨rfl, hl⟩
  exact ⟨rfl, (h.below hl).vb (fun _ _ => trivial)⟩
theorem PK.same {a : Option Addr} {c : Nat} (h : PK B Z w0 w p o made (.slice a L.length c) L L Vb) (k : Int) (hl : L.length ≤ 1000000) (hT : BitTab w) (htl : 0 < B) :
    Calls Tryd.prog 38 #[.pointer (some ⟨p, 0, none⟩), .slice a L.length c, .int .i64 k] w fun e w' => e = .returned (.bool true) ∧ PK B Z w0 w' p o made (.slice a L.length c) L L (fun _ => True) := by
  obtain ⟨x, hx, h0⟩ := h.t
  obtain ⟨a', c', hv, _, had⟩ := own_slice h.own
  injection hv with e1 _ e3
  subst e1 e3
  have htr : TR B (xzk (.slice a L.length c) Z) w w p o made a L := ⟨⟨x, h0⟩, h.bits, readsV_own h.own, fun ad ha => by
    obtain ⟨g, rfl, _, _, h2⟩ := had ad ha; exact Or.inl h2, hT, htl, Chg.refl⟩
  refine (same5_any htr c k hl).mono ?_
  rintro e w' ⟨rfl, h2⟩
  obtain ⟨y, h3⟩ := h2.t
  exact ⟨rfl, h.step (x := y) trivial h3 h2.chg h.bits⟩
end

end Go.Proofs.YtcppgpjodfeigaaDoor
