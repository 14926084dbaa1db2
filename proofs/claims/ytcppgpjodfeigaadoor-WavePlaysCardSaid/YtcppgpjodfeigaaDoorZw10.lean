/- Lemmas and contracts under the claims of this seat: Rows of symbols compared; a letting in and out again; waves beside one another. Plain laws of ranks and places of symbols; of no program. The document's answer for lists of symbols: Level, Rank, Select, In, Out. Rows of shapes that are read; shelves with bits, one by one. What the walk of WavePlays keeps; high, Fine. -/
import Derived.Test.YtcppgpjodfeigaaDoorZw9
import Derived.Test.YtcppgpjodfeigaaDoorZw1
import Derived.IntWalk
import Derived.Test.YtcppgpjodfeigaaDoorZw7

namespace Go.Proofs.YtcppgpjodfeigaaDoor
set_option linter.unusedVariables false
set_option linter.unusedSimpArgs false
open Go.RowKit

theorem readsN {w : World} {a : Option Addr} {L : List Nat} (h : ReadsV w a (L.map wsV)) : Reads w .i64 a (L.map Int.ofNat) := by
  intro i hi
  rw [List.length_map] at hi
  obtain ⟨b, off, ha, hlt, hc⟩ := h i (by rw [List.length_map]; exact hi)
  refine ⟨b, off, ha, hlt, fun j hj => hc j _ ?_⟩
  rw [List.length_map] at hj
  rw [List.getElem?_map, List.getElem?_map, List.getElem?_eq_getElem hj]
  rfl
theorem ofNat_inj {xs ys : List Nat} : (xs.map Int.ofNat = ys.map Int.ofNat) ↔ xs = ys := by
  constructor
  · intro h
    have := congrArg (List.map Int.toNat) h
    rw [List.map_map, List.map_map] at this
    have e : (Int.toNat ∘ Int.ofNat) = id := by funext x; rfl
    rwa [e, List.map_id, List.map_id] at this
  · rintro rfl; rfl
theorem refSameN_any (a b : Option Addr) (c d : Nat) (xs ys : List Nat) (w : World) (hx : ReadsV w a (xs.map wsV)) (hy : ReadsV w b (ys.map wsV)) (hm : xs.length ≤ 1000000000) :
    Calls Tryd.prog 50 #[.slice a xs.length c, .slice b ys.length d] w fun e w' => e = .returned (.bool (decide (xs = ys))) ∧ ∃ n, w' = w.drewN n := by
  have h := refSameI_any a b c d (xs.map Int.ofNat) (ys.map Int.ofNat) w (readsN hx) (readsN hy) (by rw [List.length_map]; omega)
  rw [List.length_map, List.length_map] at h
  refine h.mono ?_
  rintro e w' ⟨rfl, hn⟩
  refine ⟨?_, hn⟩
  unfold sameI
  have e : decide (xs.map Int.ofNat = ys.map Int.ofNat) = decide (xs = ys) := by
    by_cases hxy : xs = ys
    · rw [decide_eq_true hxy, decide_eq_true (ofNat_inj.2 hxy)]
    · rw [decide_eq_false hxy, decide_eq_false (fun h => hxy (ofNat_inj.1 h))]
  rw [e]
theorem outN_in {l : List Nat} {k s : Nat} (h : k ≤ l.length) : outL (inL l k s) k = l := by
  unfold outL inL
  have e : (l.take k).length = k := by rw [List.length_take]; omega
  rw [List.take_append_of_le_length (by omega), List.take_of_length_le (by omega), List.drop_append, e, List.drop_of_length_le (by omega), show k + 1 - k = 1 by omega, List.drop_succ_cons, List.drop_zero, List.nil_append, List.take_append_drop]
theorem atN_in {l : List Nat} {k s : Nat} (h : k ≤ l.length) : (inL l k s)[k]? = some s := by
  unfold inL
  rw [List.getElem?_append_right (by rw [List.length_take]; omega), List.length_take, show k - min k l.length = 0 by omega]
  rfl
theorem Syms.inL {L : List Nat} (h : Syms L) {k s : Nat} (hs : s < 257) : Syms (inL L k s) := by
  intro x hx
  unfold Proofs.YtcppgpjodfeigaaDoor.inL at hx
  rcases List.mem_append.1 hx with hx | hx
  · exact h x (List.mem_of_mem_take hx)
  · rcases List.mem_cons.1 hx with rfl | hx
    · exact hs
    · exact h x (List.mem_of_mem_drop hx)
theorem Syms.outL {L : List Nat} (h : Syms L) {k : Nat} : Syms (outL L k) := by
  intro x hx
  unfold Proofs.YtcppgpjodfeigaaDoor.outL at hx
  rcases List.mem_append.1 hx with hx | hx
  · exact h x (List.mem_of_mem_take hx)
  · exact h x (List.mem_of_mem_drop hx)
theorem shapes_len {L : List Nat} {ys : List (Option ST)} (h : ys.map sbits = nonL L 9) : ys.length = (nonL L 9).length := by
  rw [← h, List.length_map]
theorem nonL_le (L : List Nat) : (nonL L 9).length ≤ 511 := by
  have key : ∀ l, l ≤ 9 → (nonL L l).length ≤ pw l - 1 := by
    intro l
    induction l with
    | zero => intro _; simp [nonL]
    | succ l ih =>
      intro hl
      have e : nonL L (l + 1) = nonL L l ++ ((List.range (pw l)).map (lvl L l)).filter (fun b => decide (0 < b.length)) := by
        unfold nonL; rw [List.range_succ, List.flatMap_append]; simp
      have h1 := ih (by omega)
      have h2 : (((List.range (pw l)).map (lvl L l)).filter (fun b => decide (0 < b.length))).length ≤ pw l :=
        Nat.le_trans (List.length_filter_le _ _) (by simp)
      have h3 : pw (l + 1) = 2 * pw l := by unfold pw; rw [Nat.pow_succ]; omega
      have h4 := pw_pos l
      rw [e, List.length_append]
      omega
  have := key 9 (Nat.le_refl _)
  exact this

section
variable {B : Nat} {X Y : Nat → Prop} {w w' : World} {p : Nat} {L : List Nat}
/-- A wave beside something else that changes. -/
theorem Wv.aside {Z : Nat → Prop} (h : Wv B X w p L) (hc : Chg Z w w') (hd : ∀ k, exT B X k → k < w.heap.size → ¬ Z k) : Wv B (fun k => X k ∨ (w.heap.size ≤ k ∧ k < w'.heap.size)) w' p L := by
  obtain ⟨D, O, v, h, h2⟩ := h
  obtain ⟨S, h1, h3⟩ := h.i
  refine ⟨D, O, v, ⟨⟨S, h1.chg hc (fun k hk => hd k (h3 k hk) (h1.lt k hk)), fun j hj => ⟨(h3 j hj).1, fun hY => hY.elim (h3 j hj).2 (fun g => by have := h1.lt j hj; omega)⟩⟩, Nat.le_trans h.le hc.size, ?_⟩, h2⟩
  rintro k (hk | hk)
  · exact Nat.lt_of_lt_of_le (h.x k hk) hc.size
  · exact hk.2
theorem Wv.xlt (h : Wv B X w p L) {k : Nat} (hk : X k) : k < w.heap.size := by
  obtain ⟨D, O, v, h, h2⟩ := h; exact h.x k hk
end

/-- Three waves beside one another, and beside K. -/
structure W3 (B : Nat) (K : Nat → Prop) (w : World) (pa : Nat) (La : List Nat) (pb : Nat) (Lb : List Nat) (pc : Nat) (Lc : List Nat) : Prop where
  ex : ∃ Xa Xb Xc : Nat → Prop, Wv B Xa w pa La ∧ Wv B Xb w pb Lb ∧ Wv B Xc w pc Lc ∧ (∀ k, B ≤ k → k < w.heap.size → (Xa k ∨ Xb k) ∧ (Xa k ∨ Xc k) ∧ (Xb k ∨ Xc k)) ∧ ∀ k, K k → Xa k ∧ Xb k ∧ Xc k

section
variable {B : Nat} {K : Nat → Prop} {w w' : World} {pa pb pc : Nat} {La Lb Lc : List Nat}
theorem W3.rot (h : W3 B K w pa La pb Lb pc Lc) : W3 B K w pb Lb pc Lc pa La := by
  obtain ⟨Xa, Xb, Xc, ha, hb, hc, hs, hk⟩ := h.ex
  exact ⟨Xb, Xc, Xa, hb, hc, ha, fun k h1 h2 => ⟨(hs k h1 h2).2.2, (hs k h1 h2).1.symm, (hs k h1 h2).2.1.symm⟩, fun k h => ⟨(hk k h).2.1, (hk k h).2.2, (hk k h).1⟩⟩
theorem W3.below (h : W3 B K w pa La pb Lb pc Lc) (hb : Below w.heap.size w w') : W3 B K w' pa La pb Lb pc Lc := by
  obtain ⟨Xa, Xb, Xc, h1, h2, h3, hs, hk⟩ := h.ex
  have hc : Chg (fun _ => False) w w' := Chg.of_below hb
  refine ⟨_, _, _, h1.aside hc (fun _ _ _ h => h), h2.aside hc (fun _ _ _ h => h), h3.aside hc (fun _ _ _ h => h), fun k g1 g2 => ?_, fun k g => ⟨Or.inl (hk k g).1, Or.inl (hk k g).2.1, Or.inl (hk k g).2.2⟩⟩
  by_cases hlt : k < w.heap.size
  · obtain ⟨q1, q2, q3⟩ := hs k g1 hlt
    exact ⟨q1.elim (fun h => Or.inl (Or.inl h)) (fun h => Or.inr (Or.inl h)), q2.elim (fun h => Or.inl (Or.inl h)) (fun h => Or.inr (Or.inl h)), q3.elim (fun h => Or.inl (Or.inl h)) (fun h => Or.inr (Or.inl h))⟩
  · have hge : w.heap.size ≤ k := by omega
    exact ⟨Or.inl (Or.inr ⟨hge, g2⟩), Or.inl (Or.inr ⟨hge, g2⟩), Or.inl (Or.inr ⟨hge, g2⟩)⟩
theorem W3.drewN (h : W3 B K w pa La pb Lb pc Lc) (m : Nat) : W3 B K (w.drewN m) pa La pb Lb pc Lc := h.below ⟨rfl, rfl, rfl, Nat.le_refl _, fun _ _ => rfl⟩
theorem W3.le (h : W3 B K w pa La pb Lb pc Lc) : B ≤ w.heap.size := by
  obtain ⟨Xa, Xb, Xc, h1, _⟩ := h.ex; exact h1.le
/-- What is done with the first one. -/
theorem W3.first {f : FuncId} {args : Array Value} {R : Ending → List Nat → Prop} (h : W3 B K w pa La pb Lb pc Lc)
    (hf : ∀ X, Wv B X w pa La → Calls Tryd.prog f args w fun e w' => ∃ L', R e L' ∧ Wv B X w' pa L' ∧ Chg (exT B X) w w') :
    Calls Tryd.prog f args w fun e w' => ∃ L', R e L' ∧ W3 B K w' pa L' pb Lb pc Lc ∧ Chg (exT B K) w w' := by
  obtain ⟨Xa, Xb, Xc, h1, h2, h3, hs, hk⟩ := h.ex
  refine (hf Xa h1).mono ?_
  rintro e w' ⟨L', hr, hv, hc⟩
  refine ⟨L', hr, ⟨_, _, _, hv, h2.aside hc (fun k g1 g2 g3 => ?_), h3.aside hc (fun k g1 g2 g3 => ?_), fun k g1 g2 => ?_, fun k g => ⟨(hk k g).1, Or.inl (hk k g).2.1, Or.inl (hk k g).2.2⟩⟩, hc.mono (fun k g => ⟨g.1, fun g2 => g.2 (hk k g2).1⟩)⟩
  · exact (hs k g1.1 g2).1.elim g3.2 g1.2
  · exact (hs k g1.1 g2).2.1.elim g3.2 g1.2
  · by_cases hlt : k < w.heap.size
    · obtain ⟨q1, q2, q3⟩ := hs k g1 hlt
      exact ⟨q1.elim Or.inl (fun h => Or.inr (Or.inl h)), q2.elim Or.inl (fun h => Or.inr (Or.inl h)), q3.elim (fun h => Or.inl (Or.inl h)) (fun h => Or.inr (Or.inl h))⟩
    · have hge : w.heap.size ≤ k := by omega
      exact ⟨Or.inr (Or.inr ⟨hge, g2⟩), Or.inr (Or.inr ⟨hge, g2⟩), Or.inl (Or.inr ⟨hge, g2⟩)⟩
theorem W3.ins (h : W3 B K w pa La pb Lb pc Lc) (hL : Syms La) (hn : La.length ≤ 1000000000) (k s : Nat) (hk : k ≤ La.length) (hs : s < 257) :
    Calls Tryd.prog 48 #[.pointer (some ⟨pa, 0, none⟩), .int .i64 k, .int .i64 s] w fun e w' => e = .returned (.int .i64 0) ∧ W3 B K w' pa (inL La k s) pb Lb pc Lc ∧ Chg (exT B K) w w' := by
  refine (h.first (R := fun e L' => e = .returned (.int .i64 0) ∧ L' = inL La k s) (fun X hv => (wvInsert hv hL hn k s hk hs).mono ?_)).mono ?_
  · rintro e w' ⟨rfl, h1, h2⟩; exact ⟨_, ⟨rfl, rfl⟩, h1, h2⟩
  · rintro e w' ⟨_, ⟨rfl, rfl⟩, h1, h2⟩; exact ⟨rfl, h1, h2⟩
/-- All of the first one. -/
theorem W3.all (h : W3 B K w pa La pb Lb pc Lc) (hL : Syms La) (hn : La.length ≤ 1000000000) :
    Calls Tryd.prog 51 #[.pointer (some ⟨pa, 0, none⟩)] w fun e w' =>
      ∃ g, e = .returned (.slice (some ⟨g, 0, none⟩) La.length La.length) ∧ ReadsV w' (some ⟨g, 0, none⟩) (La.map wsV) ∧ W3 B (fun k => K k ∨ k = g) w' pa La pb Lb pc Lc ∧ Chg (exT B K) w w' := by
  obtain ⟨Xa, Xb, Xc, h1, h2, h3, hs, hk⟩ := h.ex
  refine (wvAll h1 hL hn).mono ?_
  rintro e w' ⟨g, rfl, hge, hrow, hv, hc⟩
  refine ⟨g, rfl, readsV_block hrow, ⟨_, _, _, hv, h2.aside hc (fun k g1 g2 g3 => ?_), h3.aside hc (fun k g1 g2 g3 => ?_), fun k g1 g2 => ?_, ?_⟩, hc.mono (fun k g => ⟨g.1, fun g2 => g.2 (hk k g2).1⟩)⟩
  · exact (hs k g1.1 g2).1.elim g3.2 g1.2
  · exact (hs k g1.1 g2).2.1.elim g3.2 g1.2
  · by_cases hlt : k < w.heap.size
    · obtain ⟨q1, q2, q3⟩ := hs k g1 hlt
      exact ⟨q1.elim (fun h => Or.inl (Or.inl h)) (fun h => Or.inr (Or.inl h)), q2.elim (fun h => Or.inl (Or.inl h)) (fun h => Or.inr (Or.inl h)), q3.elim (fun h => Or.inl (Or.inl h)) (fun h => Or.inr (Or.inl h))⟩
    · have hge : w.heap.size ≤ k := by omega
      exact ⟨Or.inr (Or.inr ⟨hge, g2⟩), Or.inr (Or.inr ⟨hge, g2⟩), Or.inl (Or.inr ⟨hge, g2⟩)⟩
  · rintro k (hk2 | rfl)
    · exact ⟨Or.inl (hk k hk2).1, Or.inl (hk k hk2).2.1, Or.inl (hk k hk2).2.2⟩
    · exact ⟨Or.inr rfl, Or.inr ⟨hge, hrow.lt⟩, Or.inr ⟨hge, hrow.lt⟩⟩
theorem W3.shapes (h : W3 B K w pa La pb Lb pc Lc) : Calls Tryd.prog 41 #[.pointer (some ⟨pa, 0, none⟩)] w fun e w' => ∃ a c, e = .returned (.slice a (nonL La 9).length c) ∧ W3 B K w' pa La pb Lb pc Lc ∧ Below w.heap.size w w' := by
  obtain ⟨Xa, Xb, Xc, h1, h2, h3, hs, hk⟩ := h.ex
  refine (wvShapes h1).mono ?_
  rintro e w' ⟨v, ys, rfl, hr, hy, hb⟩
  obtain ⟨a, c, rfl, _, _⟩ := own_slice hr
  exact ⟨a, c, by rw [shapes_len hy], (⟨Xa, Xb, Xc, h1, h2, h3, hs, hk⟩ : W3 B K w pa La pb Lb pc Lc).below hb, hb⟩
end

end Go.Proofs.YtcppgpjodfeigaaDoor

namespace Go.Proofs.YtcppgpjodfeigaaDoor
set_option linter.unusedVariables false
set_option linter.unusedSimpArgs false

/-- All symbols' ranks together. -/
def sumR (L : List Nat) (k m : Nat) : Nat := ((List.range m).map (fun s => rankS L k s)).sum
theorem sumR_zero (L : List Nat) (k : Nat) : sumR L k 0 = 0 := rfl
theorem sumR_succ (L : List Nat) (k m : Nat) : sumR L k (m + 1) = sumR L k m + rankS L k m := by
  unfold sumR; rw [List.range_succ, List.map_append, List.sum_append]; simp
theorem wcnt_lt (l : List Nat) (m : Nat) : (l.filter (fun s => decide (s < m + 1))).length = (l.filter (fun s => decide (s < m))).length + l.count m := by
  induction l with
  | nil => rfl
  | cons x l ih =>
    simp only [List.filter_cons, List.count_cons]
    by_cases h1 : x < m
    · have h2 : x < m + 1 := by omega
      have h3 : ¬ x = m := by omega
      simp [h1, h2, h3, ih]; omega
    · by_cases h2 : x = m
      · subst h2; simp [ih]; omega
      · have h3 : ¬ x < m + 1 := by omega
        simp [h1, h2, h3, ih]
theorem sumR_filter (L : List Nat) (k m : Nat) : sumR L k m = ((L.take k).filter (fun s => decide (s < m))).length := by
  induction m with
  | zero => rw [sumR_zero, List.filter_eq_nil_iff.2 (fun s _ => by simp)]; rfl
  | succ m ih => rw [sumR_succ, ih, wcnt_lt]; rfl
theorem sumR_all {L : List Nat} (hL : ∀ s ∈ L, s < 257) {k : Nat} (hk : k ≤ L.length) : sumR L k 257 = k := by
  rw [sumR_filter, List.filter_eq_self.2 (fun s hs => by simpa using hL s (List.mem_of_mem_take hs)), List.length_take]
  omega
theorem sumR_le {L : List Nat} (k m : Nat) : sumR L k m ≤ k := by
  rw [sumR_filter]
  exact Nat.le_trans (List.length_filter_le _ _) (by rw [List.length_take]; omega)
theorem selS_some {L : List Nat} {j : Int} {s K : Nat} (h : selS L j s = (K : Int)) : L[K]? = some s ∧ (rankS L K s : Int) = j := by
  unfold selS at h
  split at h
  · next i hi =>
    have := List.find?_some hi
    simp only [Bool.and_eq_true, decide_eq_true_eq] at this
    have e : i = K := by omega
    subst e; exact this
  · omega
/-- The symbol of the rank's own place is not ahead. -/
theorem selS_ge {L : List Nat} {k s K : Nat} (h : selS L (rankS L k s : Nat) s = (K : Int)) : k ≤ K := by
  obtain ⟨h1, h2⟩ := selS_some h
  have hlt := (List.getElem?_eq_some_iff.1 h1).1
  rcases Nat.lt_or_ge K k with hc | hc
  · have h3 := rankS_mono L s (show K + 1 ≤ k from hc)
    rw [rankS_succ s hlt, if_pos h1] at h3
    omega
  · exact hc
/-- The place of the rank's last one is ahead. -/
theorem selS_last {L : List Nat} {k s : Nat} (hk : k ≤ L.length) (h : 0 < rankS L k s) : ∃ K : Nat, selS L ((rankS L k s : Nat) - 1 : Int) s = K ∧ K < k := by
  obtain ⟨K, h1, h2, h3⟩ := selS_ex k L s (rankS L k s - 1) hk (by omega)
  exact ⟨K, selS_hit h2 (by rw [h3]; omega), h1⟩

end Go.Proofs.YtcppgpjodfeigaaDoor

namespace Go.Proofs.YtcppgpjodfeigaaDoor
set_option linter.unusedVariables false
set_option linter.unusedSimpArgs false
open Go.RowKit

/-- The bits of a level's symbols with a path, whatever path. -/
def lvI (L : List Nat) (l : Nat) (π : Int) : List Bool := (L.filter (fun s => decide (((pth s l : Nat) : Int) = π))).map (bitS · l)
theorem lvI_snoc {L : List Nat} {k s : Nat} (h : L[k]? = some s) (l : Nat) (π : Int) : lvI (L.take (k + 1)) l π = lvI (L.take k) l π ++ if ((pth s l : Nat) : Int) = π then [bitS s l] else [] := by
  unfold lvI
  rw [List.take_add_one, h, Option.toList_some, List.filter_append, List.map_append]
  congr 1
  by_cases e : ((pth s l : Nat) : Int) = π <;> simp [List.filter_cons, e]
theorem lvI_le (L : List Nat) (l : Nat) (π : Int) : (lvI L l π).length ≤ L.length := by
  unfold lvI; rw [List.length_map]; exact List.length_filter_le _ _
theorem lvI_lvS {L : List Nat} (hL : Syms L) {l : Nat} (hl : l < 9) (π : Int) : lvI L l π = lvS L l π := by
  unfold lvS
  by_cases h : 0 ≤ π ∧ π < (pw l : Nat)
  · obtain ⟨h0, h1⟩ := h
    obtain ⟨q, rfl⟩ := Int.eq_ofNat_of_zero_le h0
    rw [if_pos ⟨by omega, by omega, by omega, by simpa using h1⟩]
    unfold lvI lvl
    simp only [Int.toNat_natCast]
    congr 2
    funext s
    congr 1
    apply propext
    omega
  · rw [if_neg (fun hc => h ⟨hc.2.2.1, by simpa using hc.2.2.2⟩)]
    unfold lvI
    rw [List.filter_eq_nil_iff.2 (fun s hs => ?_)]
    · rfl
    · have h2 := pth_lt (s := s) (l := l) (by have := hL s hs; omega) (by omega)
      have h3 : pw l = 2 ^ l := rfl
      simp only [decide_eq_true_eq]
      omega

set_option maxHeartbeats 3200000 in
set_option maxRecDepth 100000 in
theorem ref6LevelN_any (a : Option Addr) (c : Nat) (L : List Nat) (l π : Int) (w : World) (hr : ReadsV w a (L.map wsV)) (hL : Syms L) (hn : L.length ≤ 1000000) :
    Calls Tryd.prog 42 #[.slice a L.length c, .int .i64 l, .int .i64 π] w (GivesB w.heap.size w (lvS L l π)) := by
  by_cases hl : 0 ≤ l ∧ l < 9
  · obtain ⟨hl0, hl9⟩ := hl
    obtain ⟨m, rfl⟩ := Int.eq_ofNat_of_zero_le hl0
    have hm9 : m < 9 := by omega
    have HLV := Lib.hid (lvI_lvS hL hm9 π)
    have HL := Lib.hid hL
    have d9 : decide (m < 9) = true := decide_eq_true hm9
    have d9' : decide ((m : Int) < 9) = true := decide_eq_true (by omega)
    clear hl0 hl9 hL
    go_enter Tryd.func42, Tryd.ntmps42
    go_wp2_with fail
    go_loopw [7, 8] (fun v i wr => ∃ k : Nat, k ≤ L.length ∧ i = .int .i64 k ∧ wr.ownsRow w.heap.size 4 1 v (lvI (L.take k) m π).length ((lvI (L.take k) m π).map Value.bool) ∧ Below w.heap.size w wr) (fun _ i _ => L.length - (intOf i).toNat)
    case atStart => exact ⟨0, Nat.zero_le _, rfl, World.ownsRow_nil _ _ _ _, Below.refl _ _⟩
    case round => as_aux_lemma =>
      obtain ⟨k, hk, rfl, hown, hb⟩ := hrel
      have hs := hb.size
      have HB := Lib.hid hb
      by_cases hlt : k < L.length
      · obtain ⟨s, hks⟩ : ∃ s, L[k]? = some s := ⟨_, List.getElem?_eq_getElem hlt⟩
        have hs257 := HL.out s (List.mem_of_getElem? hks)
        have HSN := Lib.hid (lvI_snoc hks m π)
        obtain ⟨b, off, rfl, hbl, hcell⟩ := hr.some (by rw [List.length_map]; omega)
        have hc1 : wr.cell? ⟨b, off + k, none⟩ = some (.int .i64 s) := (hb.cell (p := ⟨b, off + k, none⟩) hbl).trans (hcell k _ (by rw [List.getElem?_map, hks]; rfl))
        have hp := refPath_any (s : Int) (m : Int)
        have hq := refSBit_any (s : Int) (m : Int)
        rw [symPath_nat hs257 (by omega)] at hp
        rw [symBit_nat hs257 hm9] at hq
        have HP := Lib.hid hp
        have HQ := Lib.hid hq
        obtain ⟨xs, hxs⟩ : ∃ xs, lvI (L.take k) m π = xs := ⟨_, rfl⟩
        have hxl : xs.length ≤ L.length := by rw [← hxs]; exact Nat.le_trans (lvI_le _ _ _) (by rw [List.length_take]; omega)
        rw [hxs] at hown HSN
        have HO := Lib.hid hown
        have i0 : (0 : Int) ≤ (k : Int) := by omega
        have i1 : (k : Int) < (L.length : Int) := by omega
        clear hks hp hq hcell hb hown hxs
        go_wp2_with fail
        refine (HP.out wr).mono ?_
        rintro e w' ⟨rfl, rfl⟩
        by_cases hpe : ((pth s m : Nat) : Int) = π
        · have HS2 := HSN.out
          rw [if_pos hpe] at HS2
          have HS2 := Lib.hid HS2
          have de : decide (((pth s m : Nat) : Int) = π) = true := decide_eq_true hpe
          clear HSN HP
          subst hpe
          go_wp2_with fail
          refine (HQ.out wr).mono ?_
          rintro e w' ⟨rfl, rfl⟩
          generalize bitS s m = bt at *
          go_wp2_with (at_builtin; refine wpList_push rfl _ _ 23 rfl w.heap.size 4 Tryd.infoBoolR Tryd.underlying23 rfl _ _ _ rfl HO.out rfl rfl ?c1 ?c2 ?c3 ?_)
          case c1 => unfold maxLen; omega
          case c2 => omega
          case c3 => omega
          intro v' w1 hown' hgrow
          have HB1 : Hid (Below w.heap.size w w1) := Lib.hid (HB.out.grown hgrow hs (fun j hj => (HO.out.lt j hj).1))
          have HO1 : Hid (w1.ownsRow w.heap.size 4 1 v' (lvI (L.take (k + 1)) m (pth s m : Nat)).length ((lvI (L.take (k + 1)) m (pth s m : Nat)).map Value.bool)) := Lib.hid (by
            rw [HS2.out, List.length_append, List.map_append]; exact hown')
          clear hown' hgrow
          go_wp2_with fail
          go_roundw
          case rel => exact ⟨k + 1, by omega, by go_num, HO1.out, HB1.out⟩
          case measure => simp [intOf]; omega
        · have HS2 := HSN.out
          rw [if_neg hpe, List.append_nil] at HS2
          have HS2 := Lib.hid HS2
          have de : (((pth s m : Nat) : Int) == π) = false := by rw [beq_eq_false_iff_ne]; exact hpe
          clear HSN HP
          go_wp2_with fail
          go_roundw
          case rel => exact ⟨k + 1, by omega, by go_num, by rw [HS2.out]; exact HO.out, HB.out⟩
          case measure => simp [intOf]; omega
      · obtain rfl : k = L.length := by omega
        rw [List.take_length, HLV.out] at hown
        go_wp2_with fail
        go_ret
        exact ⟨_, rfl, hown, hb⟩
  · have e : lvS L l π = [] := by unfold lvS; rw [if_neg (fun h => hl ⟨h.1, h.2.1⟩)]
    rw [e]
    have hor : L.length = 0 ∨ (0 < L.length ∧ l < 0) ∨ (0 < L.length ∧ 9 ≤ l) := by omega
    clear hl e
    rcases hor with h0 | ⟨h0, h1⟩ | ⟨h0, h1⟩
    · rw [h0]
      go_enter Tryd.func42, Tryd.ntmps42
      go_wp2_with fail
      refine wp_loop_rounds 1 ?_
      rw [rounds_succ]
      go_wp2_with fail
      go_ret
      exact ⟨_, rfl, World.ownsRow_nil _ _ _ _, Below.refl _ _⟩
    · have d0 : decide (0 ≤ l) = false := decide_eq_false (by omega)
      have d1 : decide (0 < L.length) = true := decide_eq_true h0
      have d2 : decide ((0 : Int) < (L.length : Int)) = true := decide_eq_true (by omega)
      go_enter Tryd.func42, Tryd.ntmps42
      go_wp2_with fail
      refine wp_loop_rounds 1 ?_
      rw [rounds_succ]
      go_wp2_with fail
      go_ret
      exact ⟨_, rfl, World.ownsRow_nil _ _ _ _, Below.refl _ _⟩
    · have d0 : decide (0 ≤ l) = true := decide_eq_true (by omega)
      have d3 : decide (l < 9) = false := decide_eq_false (by omega)
      have d1 : decide (0 < L.length) = true := decide_eq_true h0
      have d2 : decide ((0 : Int) < (L.length : Int)) = true := decide_eq_true (by omega)
      go_enter Tryd.func42, Tryd.ntmps42
      go_wp2_with fail
      refine wp_loop_rounds 1 ?_
      rw [rounds_succ]
      go_wp2_with fail
      go_ret
      exact ⟨_, rfl, World.ownsRow_nil _ _ _ _, Below.refl _ _⟩

/-- How many of the first k are s, whatever number s is. -/
def rkI (L : List Nat) (k : Nat) (s : Int) : Nat := (L.take k).countP (fun x : Nat => decide ((x : Int) = s))
theorem rkI_succ {L : List Nat} {k x : Nat} (h : L[k]? = some x) (s : Int) : rkI L (k + 1) s = rkI L k s + if (x : Int) = s then 1 else 0 := by
  unfold rkI
  rw [List.take_add_one, h, Option.toList_some, List.countP_append]
  congr 1
  by_cases e : (x : Int) = s <;> simp [e]
theorem rkI_le (L : List Nat) (k : Nat) (s : Int) : rkI L k s ≤ k := by
  unfold rkI
  exact Nat.le_trans List.countP_le_length (by rw [List.length_take]; omega)
theorem rkI_nat (L : List Nat) (k s : Nat) : rkI L k (s : Int) = rankS L k s := by
  unfold rkI rankS
  rw [List.count]
  congr 1
  funext x
  by_cases e : x = s
  · subst e; simp
  · have e2 : ¬ (x : Int) = (s : Int) := by omega
    simp [e, e2]
/-- What Select answers, whatever number s is. -/
def SelI (L : List Nat) (j s q : Int) : Prop := (∃ K : Nat, q = K ∧ K < L.length ∧ L[K]?.map (fun x : Nat => (x : Int)) = some s ∧ (rkI L K s : Int) = j) ∨ (q = -1 ∧ ∀ K : Nat, L[K]?.map (fun x : Nat => (x : Int)) = some s → (rkI L K s : Int) ≠ j)
theorem selI_nat {L : List Nat} {j q : Int} {s : Nat} (h : SelI L j s q) : q = selS L j s := by
  have key : ∀ K : Nat, L[K]?.map (fun x : Nat => (x : Int)) = some (s : Int) ↔ L[K]? = some s := by
    intro K
    cases hx : L[K]? with
    | none => simp
    | some x => simp only [Option.map_some, Option.some.injEq]; omega
  rcases h with ⟨K, rfl, _, h1, h2⟩ | ⟨rfl, h⟩
  · exact (selS_hit ((key K).1 h1) (by rw [← rkI_nat]; exact h2)).symm
  · exact (selS_none (fun i hi => by rw [← rkI_nat]; exact h i ((key i).2 hi))).symm
theorem selI_bad {L : List Nat} (hL : Syms L) {j q s : Int} (hs : symIs s = false) (h : SelI L j s q) : q = -1 := by
  rcases h with ⟨K, rfl, _, h1, h2⟩ | ⟨rfl, _⟩
  · exfalso
    cases hx : L[K]? with
    | none => rw [hx] at h1; simp at h1
    | some x =>
      rw [hx] at h1
      simp only [Option.map_some, Option.some.injEq] at h1
      have := hL x (List.mem_of_getElem? hx)
      rw [symIs_true (by omega) (by omega)] at hs
      cases hs
  · rfl

set_option maxHeartbeats 3200000 in
set_option maxRecDepth 100000 in
theorem ref6SelectN_any (a : Option Addr) (c : Nat) (L : List Nat) (j s : Int) (w : World) (hr : ReadsV w a (L.map wsV)) (hn : L.length ≤ 1000000) :
    Calls Tryd.prog 58 #[.slice a L.length c, .int .i64 j, .int .i64 s] w fun e w' => (∃ q, e = .returned (.int .i64 q) ∧ SelI L j s q) ∧ w = w' := by
  go_enter Tryd.func58, Tryd.ntmps58
  go_wp2_with fail
  go_loop [7, 8] (fun v i => ∃ k : Nat, k ≤ L.length ∧ i = .int .i64 k ∧ v = .int .i64 (rkI L k s : Nat) ∧ ∀ K : Nat, K < k → L[K]?.map (fun x : Nat => (x : Int)) = some s → (rkI L K s : Int) ≠ j) (fun _ i => L.length - (intOf i).toNat)
  case atStart => exact ⟨0, Nat.zero_le _, rfl, rfl, fun K hK => absurd hK (by omega)⟩
  case round => as_aux_lemma =>
    obtain ⟨k, hk, rfl, rfl, hno⟩ := hrel
    have HNO := Lib.hid hno
    clear hno
    by_cases hlt : k < L.length
    · obtain ⟨x, hx⟩ : ∃ x, L[k]? = some x := ⟨_, List.getElem?_eq_getElem hlt⟩
      obtain ⟨b, off, rfl, hbl, hcell⟩ := hr.some (by rw [List.length_map]; omega)
      have hc1 : w.cell? ⟨b, off + k, none⟩ = some (.int .i64 x) := hcell k _ (by rw [List.getElem?_map, hx]; rfl)
      have HSU := Lib.hid (rkI_succ hx s)
      have HX := Lib.hid hx
      have hrl := rkI_le L k s
      obtain ⟨r, hrr⟩ : ∃ r, rkI L k s = r := ⟨_, rfl⟩
      rw [hrr] at HSU hrl ⊢
      have HRR := Lib.hid hrr
      have i0 : (0 : Int) ≤ (k : Int) := by omega
      have i1 : (k : Int) < (L.length : Int) := by omega
      clear hcell hx hrr
      by_cases hxs : (x : Int) = s
      · subst hxs
        have HS2 := HSU.out
        rw [if_pos rfl] at HS2
        have HS2 := Lib.hid HS2
        clear HSU
        by_cases hj : (r : Int) = j
        · subst hj
          have HF : Hid (SelI L r x k) := Lib.hid (Or.inl ⟨k, rfl, hlt, by rw [HX.out]; rfl, by rw [HRR.out]⟩)
          go_wp2_with fail
          go_ret
          exact ⟨⟨_, rfl, HF.out⟩, rfl⟩
        · have dj : ((r : Int) == j) = false := by rw [beq_eq_false_iff_ne]; exact hj
          have HJ := Lib.hid hj
          clear hj
          go_wp2_with fail
          go_round
          case rel => exact ⟨k + 1, by omega, by go_num, by rw [HS2.out]; go_num, fun K hK h1 => by
            rcases Nat.lt_or_ge K k with h2 | h2
            · exact HNO.out K h2 h1
            · obtain rfl : K = k := by omega
              rw [HRR.out]; exact HJ.out⟩
          case measure => simp [intOf]; omega
      · have HS2 := HSU.out
        rw [if_neg hxs, Nat.add_zero] at HS2
        have HS2 := Lib.hid HS2
        have dx : ((x : Int) != s) = true := by rw [bne_iff_ne]; exact hxs
        have HXS := Lib.hid hxs
        clear HSU hxs
        go_wp2_with fail
        go_round
        case rel => exact ⟨k + 1, by omega, by go_num, by rw [HS2.out]; rfl, fun K hK h1 => by
          rcases Nat.lt_or_ge K k with h2 | h2
          · exact HNO.out K h2 h1
          · obtain rfl : K = k := by omega
            rw [HX.out] at h1
            simp only [Option.map_some, Option.some.injEq] at h1
            exact absurd h1 HXS.out⟩
        case measure => simp [intOf]; omega
    · obtain rfl : k = L.length := by omega
      have HF : Hid (SelI L j s (-1)) := Lib.hid (Or.inr ⟨rfl, fun K h1 => HNO.out K (by
        rcases Nat.lt_or_ge K L.length with h2 | h2
        · exact h2
        · rw [List.getElem?_eq_none h2] at h1; cases h1) h1⟩)
      go_wp2_with fail
      go_ret
      exact ⟨⟨_, rfl, HF.out⟩, rfl⟩

set_option maxHeartbeats 3200000 in
set_option maxRecDepth 100000 in
theorem ref6RankN_any (a : Option Addr) (c : Nat) (L : List Nat) (k s : Int) (w : World) (hr : ReadsV w a (L.map wsV)) (hn : L.length ≤ 1000000) :
    Calls Tryd.prog 56 #[.slice a L.length c, .int .i64 k, .int .i64 s] w fun e w' => e = .returned (.int .i64 (rkI L k.toNat s : Nat)) ∧ w = w' := by
  go_enter Tryd.func56, Tryd.ntmps56
  go_wp2_with fail
  go_loop [7, 8] (fun v i => ∃ m : Nat, m ≤ L.length ∧ m ≤ k.toNat ∧ i = .int .i64 m ∧ v = .int .i64 (rkI L m s : Nat)) (fun _ i => L.length - (intOf i).toNat)
  case atStart => exact ⟨0, Nat.zero_le _, Nat.zero_le _, rfl, rfl⟩
  case round => as_aux_lemma =>
    obtain ⟨m, hm, hmk, rfl, rfl⟩ := hrel
    have hrl := rkI_le L m s
    by_cases h1 : (m : Int) < k
    · by_cases h2 : m < L.length
      · obtain ⟨x, hx⟩ : ∃ x, L[m]? = some x := ⟨_, List.getElem?_eq_getElem h2⟩
        obtain ⟨b, off, rfl, hbl, hcell⟩ := hr.some (by rw [List.length_map]; omega)
        have hc1 : w.cell? ⟨b, off + m, none⟩ = some (.int .i64 x) := hcell m _ (by rw [List.getElem?_map, hx]; rfl)
        have HSU := Lib.hid (rkI_succ hx s)
        obtain ⟨r, hrr⟩ : ∃ r, rkI L m s = r := ⟨_, rfl⟩
        rw [hrr] at HSU hrl ⊢
        have i0 : (0 : Int) ≤ (m : Int) := by omega
        have i1 : (m : Int) < (L.length : Int) := by omega
        clear hcell hx hrr
        by_cases hxs : (x : Int) = s
        · subst hxs
          have HS2 := HSU.out
          rw [if_pos rfl] at HS2
          have HS2 := Lib.hid HS2
          clear HSU
          go_wp2_with fail
          go_round
          case rel => exact ⟨m + 1, by omega, by omega, by go_num, by rw [HS2.out]; go_num⟩
          case measure => simp [intOf]; omega
        · have HS2 := HSU.out
          rw [if_neg hxs, Nat.add_zero] at HS2
          have HS2 := Lib.hid HS2
          have dx : ((x : Int) == s) = false := by rw [beq_eq_false_iff_ne]; exact hxs
          clear HSU hxs
          go_wp2_with fail
          go_round
          case rel => exact ⟨m + 1, by omega, by omega, by go_num, by rw [HS2.out]; rfl⟩
          case measure => simp [intOf]; omega
      · have hR : rkI L k.toNat s = rkI L m s := by unfold rkI; rw [List.take_of_length_le (by omega), List.take_of_length_le (by omega)]
        have HR := Lib.hid hR
        have d2 : decide (m < L.length) = false := decide_eq_false h2
        clear hR hr
        go_wp2_with fail
        go_ret
        exact ⟨ret_int (by rw [HR.out]), rfl⟩
    · have hR : rkI L k.toNat s = rkI L m s := by rw [show k.toNat = m by omega]
      have HR := Lib.hid hR
      clear hR hr
      go_wp2_with fail
      go_ret
      exact ⟨ret_int (by rw [HR.out]), rfl⟩

/-- A row of numbers of the call's own. -/
def GivesN (B : Nat) (w : World) (m : List Int) (e : Ending) (w' : World) : Prop := ∃ v, e = .returned v ∧ w'.ownsRow B 3 1 v m.length (m.map (Value.int .i64)) ∧ Below B w w'

set_option maxHeartbeats 1600000 in
theorem wRefOut (a : Option Addr) (c : Nat) (l : List Int) (k : Nat) (w : World) (hr : ReadsV w a (l.map (Value.int .i64))) (hk : k < l.length) (hc : l.length ≤ c) (hcm : c ≤ maxLen) (hl : l.length ≤ 1000000) (hnil : a = none → l.length = 0 ∧ c = 0) :
    Calls Tryd.prog 55 #[.slice a l.length c, .int .i64 k] w (GivesN w.heap.size w (outL l k)) := by
  have hs1 := fun (w : World) => run_sliceTo (P := Tryd.prog) (w := w) (t := 22) (a := a) (len := l.length) (cap := c) (k := k) Tryd.underlying22 (by kernel_rfl) (by omega)
  have hs2 : ∀ (w : World), (Instr.slice 22 (.slice a l.length c) (some (.int .i64 ((k : Int) + 1))) none none).run Tryd.prog w = .ok (.slice (offA a (k + 1) c) (l.length - (k + 1)) (c - (k + 1))) w :=
    fun w => run_sliceFrom (P := Tryd.prog) (w := w) (t := 22) (a := a) (len := l.length) (cap := c) (k := k + 1) Tryd.underlying22 (by kernel_rfl) (by omega)
  have HNIL := Lib.hid (offA_nil (k := k + 1) hnil)
  have HN0 : Hid (a = none → k = 0 ∧ c = 0) := fun h => by have := hnil h; omega
  have hrt : ReadsV w a ((l.take k).map (Value.int .i64)) := by rw [List.map_take]; exact hr.take k
  have HRT : Hid (∀ w', Below w.heap.size w w' → ReadsV w' a ((l.take k).map (Value.int .i64))) := fun w' hb => hrt.below' hb
  have HRD : Hid (∀ w', Below w.heap.size w w' → ReadsV w' (offA a (k + 1) c) ((l.drop (k + 1)).map (Value.int .i64))) := fun w' hb => by rw [List.map_drop]; exact (hr.below' hb).drop (by simpa using hc)
  have hb0 := below_al w (.cells #[] 3)
  have hown0 : (w.alloc (.cells #[] 3)).ownsRow w.heap.size 3 1 (.slice (some ⟨w.heap.size, 0, none⟩) 0 0) 0 [] := own_zero (Nat.le_refl _) (heap_alloc_new _ _)
  have HL := Lib.hid hl
  have HO0 := Lib.hid hown0
  have HB0 := Lib.hid hb0
  clear hnil hr hrt hown0 hb0
  go_enter Tryd.func55, Tryd.ntmps55
  go_wp2_with (at_builtin; refine wpList_appendL rfl _ _ 22 rfl w.heap.size 3 Tryd.infoIntG Tryd.underlying22 rfl _ 0 _ rfl HO0.out a k c ((l.take k).map (Value.int .i64)) rfl (by simp; omega) HN0.out (HRT.out _ HB0.out).hnews (oneI .i64 _) (by unfold maxLen; omega) (by omega) HB0.out.size ?_)
  intro a1 c1 w1 hown hgrow _
  have hb1 : Below w.heap.size w w1 := HB0.out.grown hgrow HB0.out.size (fun j hj => by simp [Value.ownBlock] at hj; omega)
  have HB1 := Lib.hid hb1
  have hown1 : w1.ownsRow w.heap.size 3 1 (.slice a1 k c1) k ((l.take k).map (Value.int .i64)) := by simpa using hown
  have HOWN := Lib.hid hown1
  clear hown hown1 hgrow hb1
  go_wp2_with (at_builtin; refine wpList_appendL rfl _ _ 22 rfl w.heap.size 3 Tryd.infoIntG Tryd.underlying22 rfl _ k _ rfl HOWN.out (offA a (k + 1) c) (l.length - (k + 1)) (c - (k + 1)) ((l.drop (k + 1)).map (Value.int .i64)) rfl (by simp) HNIL.out (HRD.out _ HB1.out).hnews (oneI .i64 _) (by unfold maxLen; omega) (by omega) HB1.out.size ?_)
  intro a2 c2 w2 hown2 hgrow2 _
  have hb2 : Below w.heap.size w w2 := HB1.out.grown hgrow2 HB1.out.size (fun j hj => (own_lt HOWN.out hj).1)
  have HB2 := Lib.hid hb2
  have HO2 := Lib.hid hown2
  clear hown2 hgrow2 hb2
  go_wp2_with fail
  go_ret
  refine ⟨_, rfl, ?_, HB2.out⟩
  have := HO2.out
  rw [show (outL l k).map (Value.int .i64) = List.take k (List.map (Value.int .i64) l) ++ List.drop (k + 1) (List.map (Value.int .i64) l) by simp [outL]]
  rw [show (outL l k).length = k + (l.length - (k + 1)) by rw [outL_len hk]; omega]
  exact this

set_option maxHeartbeats 1600000 in
theorem wRefIn (a : Option Addr) (c : Nat) (l : List Int) (k : Nat) (b : Int) (w : World) (hr : ReadsV w a (l.map (Value.int .i64))) (hk : k ≤ l.length) (hc : l.length ≤ c) (hcm : c ≤ maxLen) (hl : l.length ≤ 1000000) (hnil : a = none → l.length = 0 ∧ c = 0) :
    Calls Tryd.prog 54 #[.slice a l.length c, .int .i64 k, (.int .i64 b)] w (GivesN w.heap.size w (inL l k b)) := by
  have hs1 := fun (w : World) => run_sliceTo (P := Tryd.prog) (w := w) (t := 22) (a := a) (len := l.length) (cap := c) (k := k) Tryd.underlying22 (by kernel_rfl) (by omega)
  have hs2 := fun (w : World) => run_sliceFrom (P := Tryd.prog) (w := w) (t := 22) (a := a) (len := l.length) (cap := c) (k := k) Tryd.underlying22 (by kernel_rfl) (by omega)
  have HNIL := Lib.hid (offA_nil (k := k) hnil)
  have HN0 : Hid (a = none → k = 0 ∧ c = 0) := fun h => by have := hnil h; omega
  have hrt : ReadsV w a ((l.take k).map (Value.int .i64)) := by rw [List.map_take]; exact hr.take k
  have HRT : Hid (∀ w', Below w.heap.size w w' → ReadsV w' a ((l.take k).map (Value.int .i64))) := fun w' hb => hrt.below' hb
  have HRD : Hid (∀ w', Below w.heap.size w w' → ReadsV w' (offA a k c) ((l.drop k).map (Value.int .i64))) := fun w' hb => by rw [List.map_drop]; exact (hr.below' hb).drop (by simpa using hc)
  have hb0 := below_al w (.cells #[] 3)
  have hown0 : (w.alloc (.cells #[] 3)).ownsRow w.heap.size 3 1 (.slice (some ⟨w.heap.size, 0, none⟩) 0 0) 0 [] := own_zero (Nat.le_refl _) (heap_alloc_new _ _)
  have HL := Lib.hid hl
  have HO0 := Lib.hid hown0
  have HB0 := Lib.hid hb0
  clear hnil hr hrt hown0 hb0
  go_enter Tryd.func54, Tryd.ntmps54
  go_wp2_with (at_builtin; refine wpList_appendL rfl _ _ 22 rfl w.heap.size 3 Tryd.infoIntG Tryd.underlying22 rfl _ 0 _ rfl HO0.out a k c ((l.take k).map (Value.int .i64)) rfl (by simp; omega) HN0.out (HRT.out _ HB0.out).hnews (oneI .i64 _) (by unfold maxLen; omega) (by omega) HB0.out.size ?_)
  intro a1 c1 w1 hown hgrow _
  have hb1 : Below w.heap.size w w1 := HB0.out.grown hgrow HB0.out.size (fun j hj => by simp [Value.ownBlock] at hj; omega)
  have hown1 : w1.ownsRow w.heap.size 3 1 (.slice a1 k c1) k ((l.take k).map (Value.int .i64)) := by simpa using hown
  have HB1 := Lib.hid hb1
  have HOWN := Lib.hid hown1
  clear hown hown1 hgrow hb1
  go_wp2_with fail
  have hs1b := HB1.out.drew.size
  have HB1A : Hid (Below w.heap.size w (w1.drew.alloc (.cells #[(.int .i64 b)] 3))) := HB1.out.drew.alloc hs1b _
  have HOWN2 : Hid ((w1.drew.alloc (.cells #[(.int .i64 b)] 3)).ownsRow w.heap.size 3 1 (.slice a1 k c1) k ((l.take k).map (Value.int .i64))) := World.ownsRow.alloc (w := w1.drew) HOWN.out _
  have HNEW : Hid (∀ p, some (⟨w1.heap.size, 0, none⟩ : Addr) = some p → ∀ j u, [(Value.int .i64) b][j]? = some u → (w1.drew.alloc (.cells #[(.int .i64 b)] 3)).cell? (p.add j) = some u) :=
    (readsV_block (xs := [(.int .i64 b)]) (heap_alloc_new w1.drew _)).hnews
  refine reg_start (fun _ => True) (by kernel_rfl) (trivial) (fun hHeld => ?_)
  refine reg_take (i := 0) (v := ?v0) rfl (by kernel_rfl) rfl hHeld ?y0 ?r0
  case y0 => (intro w hSw; (try dsimp only at hSw); go_simp; all_goals with_reducible rfl)
  try simp only [Act.put, List.setIfInBounds_toArray, List.set_cons_zero, List.set_cons_succ]
  refine reg_take (i := 1) (v := ?v1) rfl (by kernel_rfl) rfl hHeld ?y1 ?r1
  case y1 => (intro w hSw; (try dsimp only at hSw); go_simp; all_goals with_reducible rfl)
  try simp only [Act.put, List.setIfInBounds_toArray, List.set_cons_zero, List.set_cons_succ]
  refine reg_take (i := 4) (v := ?v4) rfl (by kernel_rfl) rfl hHeld ?y4 ?r4
  case y4 => (intro w hSw; (try dsimp only at hSw); go_simp; all_goals with_reducible rfl)
  try simp only [Act.put, List.setIfInBounds_toArray, List.set_cons_zero, List.set_cons_succ]
  refine reg_take (i := 5) (v := ?v5) rfl (by kernel_rfl) rfl hHeld ?y5 ?r5
  case y5 => (intro w hSw; (try dsimp only at hSw); go_simp; all_goals with_reducible rfl)
  try simp only [Act.put, List.setIfInBounds_toArray, List.set_cons_zero, List.set_cons_succ]
  refine reg_take (i := 6) (v := ?v6) rfl (by kernel_rfl) rfl hHeld ?y6 ?r6
  case y6 => (intro w hSw; (try dsimp only at hSw); go_simp; all_goals with_reducible rfl)
  try simp only [Act.put, List.setIfInBounds_toArray, List.set_cons_zero, List.set_cons_succ]
  refine reg_loud (i := 2) rfl (by kernel_rfl) rfl (fun K hK => ?_)
  go_simp
  refine hK.out _ _ (trivial) (fun hNew => ?_)
  clear hK K hHeld
  have hHeld := hNew
  clear hNew
  try simp only [Act.put, List.setIfInBounds_toArray, List.set_cons_zero, List.set_cons_succ]
  refine reg_loud (i := 3) rfl (by kernel_rfl) rfl (fun K hK => ?_)
  refine wp_appendL _ _ 22 rfl w.heap.size 3 Tryd.infoIntG Tryd.underlying22 rfl _ k _ rfl HOWN2.out (some ⟨w1.heap.size, 0, none⟩) 1 1 [(.int .i64 b)] rfl rfl (fun h => by cases h) HNEW.out (oneI .i64 [b]) (by unfold maxLen; omega) (by omega) HB1A.out.size ?_
  intro a2 c2 w2 hown2 hgrow2 _
  have hb2 : Below w.heap.size w w2 := HB1A.out.grown hgrow2 HB1A.out.size (fun j hj => (own_lt HOWN2.out hj).1)
  have HB2 := Lib.hid hb2
  have HO2 := Lib.hid hown2
  clear hown2 hgrow2 hb2
  refine hK.out _ _ (trivial) (fun hNew => ?_)
  clear hK K hHeld
  have hHeld := hNew
  clear hNew
  try simp only [Act.put, List.setIfInBounds_toArray, List.set_cons_zero, List.set_cons_succ]
  refine reg_loud (i := 7) rfl (by kernel_rfl) rfl (fun K hK => ?_)
  refine wp_appendL _ _ 22 rfl w.heap.size 3 Tryd.infoIntG Tryd.underlying22 rfl _ (k + 1) _ rfl HO2.out (offA a k c) (l.length - k) (c - k) ((l.drop k).map (Value.int .i64)) rfl (by simp) HNIL.out (HRD.out w2 (HB2.out)).hnews (oneI .i64 _) (by unfold maxLen; omega) (by omega) HB2.out.size ?_
  intro a3 c3 w3 hown3 hgrow3 _
  have hb3 : Below w.heap.size w w3 := HB2.out.grown hgrow3 HB2.out.size (fun j hj => (own_lt HO2.out hj).1)
  have HB3 := Lib.hid hb3
  have HO3 := Lib.hid hown3
  clear hown3 hgrow3 hb3
  refine hK.out _ _ (trivial) (fun hNew => ?_)
  clear hK K hHeld
  have hHeld := hNew
  clear hNew
  try simp only [Act.put, List.setIfInBounds_toArray, List.set_cons_zero, List.set_cons_succ]
  refine reg_take (i := 8) (v := ?v8) rfl (by kernel_rfl) rfl hHeld ?y8 ?r8
  case y8 => (intro w hSw; (try dsimp only at hSw); go_simp; all_goals with_reducible rfl)
  try simp only [Act.put, List.setIfInBounds_toArray, List.set_cons_zero, List.set_cons_succ]
  refine reg_done (by kernel_rfl) ?_ _
  go_wp2_with fail
  go_ret
  refine ⟨_, rfl, ?_, HB3.out⟩
  have := HO3.out
  rw [show (inL l k b).map (Value.int .i64) = (l.take k).map (Value.int .i64) ++ [(.int .i64 b)] ++ (l.drop k).map (Value.int .i64) by simp [inL]]
  rw [show (inL l k b).length = k + 1 + (l.length - k) by rw [inL_len hk]; omega]
  exact this


/-- A row of symbols of the call's own. -/
def GivesS (B : Nat) (w : World) (m : List Nat) (e : Ending) (w' : World) : Prop := ∃ v, e = .returned v ∧ w'.ownsRow B 3 1 v m.length (m.map wsV) ∧ Below B w w'
theorem map_ofNat (L : List Nat) : (L.map Int.ofNat).map (Value.int .i64) = L.map wsV := by rw [List.map_map]; rfl
theorem wRefInN (a : Option Addr) (c : Nat) (L : List Nat) (k s : Nat) (w : World) (hr : ReadsV w a (L.map wsV)) (hk : k ≤ L.length) (hc : L.length ≤ c) (hcm : c ≤ maxLen) (hl : L.length ≤ 1000000) (hnil : a = none → L.length = 0 ∧ c = 0) :
    Calls Tryd.prog 54 #[.slice a L.length c, .int .i64 k, .int .i64 s] w (GivesS w.heap.size w (inL L k s)) := by
  have h := wRefIn a c (L.map Int.ofNat) k (s : Int) w (by rw [map_ofNat]; exact hr) (by simpa using hk) (by simpa using hc) hcm (by simpa using hl) (by simpa using hnil)
  rw [List.length_map] at h
  refine h.mono ?_
  rintro e w' ⟨v, rfl, ho, hb⟩
  have e1 : inL (L.map Int.ofNat) k (s : Int) = (inL L k s).map Int.ofNat := (map_in Int.ofNat L k s).symm
  rw [e1, map_ofNat, List.length_map] at ho
  exact ⟨v, rfl, ho, hb⟩
theorem wRefOutN (a : Option Addr) (c : Nat) (L : List Nat) (k : Nat) (w : World) (hr : ReadsV w a (L.map wsV)) (hk : k < L.length) (hc : L.length ≤ c) (hcm : c ≤ maxLen) (hl : L.length ≤ 1000000) (hnil : a = none → L.length = 0 ∧ c = 0) :
    Calls Tryd.prog 55 #[.slice a L.length c, .int .i64 k] w (GivesS w.heap.size w (outL L k)) := by
  have h := wRefOut a c (L.map Int.ofNat) k w (by rw [map_ofNat]; exact hr) (by simpa using hk) (by simpa using hc) hcm (by simpa using hl) (by simpa using hnil)
  rw [List.length_map] at h
  refine h.mono ?_
  rintro e w' ⟨v, rfl, ho, hb⟩
  have e1 : outL (L.map Int.ofNat) k = (outL L k).map Int.ofNat := (map_out Int.ofNat L k).symm
  rw [e1, map_ofNat, List.length_map] at ho
  exact ⟨v, rfl, ho, hb⟩

end Go.Proofs.YtcppgpjodfeigaaDoor

namespace Go.Proofs.YtcppgpjodfeigaaDoor
set_option linter.unusedVariables false
set_option linter.unusedSimpArgs false
open Go.RowKit

theorem flat4 : ∀ (ys : List (Option ST)) (i : Nat) (o : Option ST) (j : Nat), ys[i]? = some o → j < 4 → (ys.flatMap shapeC)[i * 4 + j]? = (shapeC o)[j]?
  | [], i, o, j, h, _ => by simp at h
  | y :: ys, 0, o, j, h, hj => by
    simp only [List.getElem?_cons_zero, Option.some.injEq] at h
    subst h
    rw [List.flatMap_cons, List.getElem?_append_left (by rw [shapeC_len]; omega), Nat.zero_mul, Nat.zero_add]
  | y :: ys, i + 1, o, j, h, hj => by
    rw [List.getElem?_cons_succ] at h
    rw [List.flatMap_cons, List.getElem?_append_right (by rw [shapeC_len]; omega), shapeC_len, show (i + 1) * 4 + j - 4 = i * 4 + j by omega]
    exact flat4 ys i o j h hj
theorem shapeC_val (o : Option ST) : ∃ a2 a3 : Nat, shapeC o = [.int .i64 ((sbits o).length : Nat), .int .i64 (shigh o : Nat), .int .i64 a2, .int .i64 a3] := by
  cases o with
  | none => exact ⟨0, 0, rfl⟩
  | some t => exact ⟨_, _, rfl⟩
/-- The cells of a row's shape. -/
theorem shRead {w : World} {base n c : Nat} {a : Option Addr} {ys : List (Option ST)} (h : ShRow w base (.slice a n c) ys) {i : Nat} {o : Option ST} (hi : ys[i]? = some o) :
    ∃ g a2 a3 : Nat, a = some ⟨g, 0, none⟩ ∧ g < w.heap.size ∧ shapeC o = [.int .i64 ((sbits o).length : Nat), .int .i64 (shigh o : Nat), .int .i64 a2, .int .i64 a3] ∧ w.cell? ⟨g, i * 4, none⟩ = some (.int .i64 ((sbits o).length : Nat)) ∧ w.cell? ⟨g, i * 4 + 1, none⟩ = some (.int .i64 (shigh o : Nat)) ∧
      w.cell? ⟨g, i * 4 + 2, none⟩ = some (.int .i64 a2) ∧ w.cell? ⟨g, i * 4 + 3, none⟩ = some (.int .i64 a3) := by
  have hlt := (List.getElem?_eq_some_iff.1 hi).1
  obtain ⟨a2, a3, hc⟩ := shapeC_val o
  obtain ⟨hl, hh⟩ := h
  rcases hh with ⟨_, h0⟩ | ⟨g, cap, cur, hv, hb, hg, hcc, hm, hs, ht⟩
  · omega
  · injection hv with h1 h2 h3
    have key : ∀ j u, j < 4 → (shapeC o)[j]? = some u → w.cell? ⟨g, i * 4 + j, none⟩ = some u := by
      intro j u hj hu
      have h4 := flat4 ys i o j hi hj
      rw [hu, ← ht, List.getElem?_take, if_pos (by omega)] at h4
      rw [cell_of_row w g (i * 4 + j) cur _ (0, 0) hg]
      simpa using h4
    refine ⟨g, a2, a3, h1, (Array.getElem?_eq_some_iff.1 hg).1, hc, key 0 _ (by omega) (by rw [hc]; rfl), key 1 _ (by omega) (by rw [hc]; rfl), key 2 _ (by omega) (by rw [hc]; rfl), key 3 _ (by omega) (by rw [hc]; rfl)⟩
theorem ShRow.below {w w' : World} {base : Nat} {v : Value} {ys : List (Option ST)} (h : ShRow w base v ys) (hb : Below w.heap.size w w') : ShRow w' base v ys := own_belowK h hb

/-- The shelves with bits, up to a shelf. -/
def nonLp (L : List Nat) (l p : Nat) : List (List Bool) := nonL L l ++ ((List.range p).map (lvl L l)).filter (fun b => decide (0 < b.length))
theorem nonLp_zero (L : List Nat) (l : Nat) : nonLp L l 0 = nonL L l := by simp [nonLp]
theorem nonLp_succ (L : List Nat) (l p : Nat) : nonLp L l (p + 1) = nonLp L l p ++ if 0 < (lvl L l p).length then [lvl L l p] else [] := by
  unfold nonLp
  rw [List.range_succ, List.map_append, List.filter_append, List.append_assoc]
  congr 2
  by_cases h : 0 < (lvl L l p).length <;> simp [List.filter_cons, h]
theorem nonLp_full (L : List Nat) (l : Nat) : nonLp L l (pw l) = nonL L (l + 1) := by
  unfold nonLp nonL
  rw [List.range_succ, List.flatMap_append]
  simp
theorem nonL_pre (L : List Nat) {l m : Nat} (h : l ≤ m) : nonL L l <+: nonL L m := by
  induction m with
  | zero => obtain rfl : l = 0 := by omega
            exact List.prefix_refl _
  | succ m ih =>
    by_cases e : l = m + 1
    · subst e; exact List.prefix_refl _
    · refine (ih (by omega)).trans ?_
      rw [← nonLp_full]
      exact List.prefix_append _ _
theorem nonLp_pre (L : List Nat) (l : Nat) {p q : Nat} (h : p ≤ q) : nonLp L l p <+: nonLp L l q := by
  induction q with
  | zero => obtain rfl : p = 0 := by omega
            exact List.prefix_refl _
  | succ q ih =>
    by_cases e : p = q + 1
    · subst e; exact List.prefix_refl _
    · refine (ih (by omega)).trans ?_
      rw [nonLp_succ]
      exact List.prefix_append _ _
theorem nonLp_at (L : List Nat) {l p : Nat} (hl : l < 9) (hp : p < pw l) (hb : 0 < (lvl L l p).length) : (nonL L 9)[(nonLp L l p).length]? = some (lvl L l p) := by
  have h1 : nonLp L l (p + 1) <+: nonL L 9 := ((nonLp_pre L l (show p + 1 ≤ pw l from hp)).trans (by rw [nonLp_full]; exact List.prefix_refl _)).trans (nonL_pre L (show l + 1 ≤ 9 by omega))
  obtain ⟨r, hr⟩ := h1
  rw [← hr, nonLp_succ, if_pos hb, List.append_assoc, List.getElem?_append_right (Nat.le_refl _), Nat.sub_self]
  rfl
theorem nonLp_le (L : List Nat) {l p : Nat} (hl : l < 9) (hp : p ≤ pw l) : (nonLp L l p).length ≤ 511 := by
  have h1 : nonLp L l p <+: nonL L 9 := ((nonLp_pre L l hp).trans (by rw [nonLp_full]; exact List.prefix_refl _)).trans (nonL_pre L (show l + 1 ≤ 9 by omega))
  exact Nat.le_trans h1.length_le (nonL_le L)

end Go.Proofs.YtcppgpjodfeigaaDoor

namespace Go.Proofs.YtcppgpjodfeigaaDoor
set_option linter.unusedVariables false
set_option linter.unusedSimpArgs false
open Go.RowKit

theorem and7t (x : Int) : ∃ n : Nat, n < 8 ∧ bits .and .i64 x 7 = (n : Int) := by
  have h : bits .and .i64 x 7 = x % 8 := by
    show IntKind.i64.wrap ((x % 2 ^ 64).toNat &&& ((7 : Int) % 2 ^ 64).toNat : Nat) = _
    have h7 : ((7 : Int) % 2 ^ 64).toNat = 2 ^ 3 - 1 := by decide
    rw [h7, Nat.and_two_pow_sub_one_eq_mod]
    have hw : (((x % 2 ^ 64).toNat % 2 ^ 3 : Nat) : Int) = x % 8 := by omega
    rw [hw]
    exact IntWalk.i64_in _ (by omega)
  exact ⟨(x % 8).toNat, by omega, by rw [h]; omega⟩

def xzk (v : Value) (Z : Option (Nat × Obj)) (k : Nat) : Prop := obk v k ∨ ∃ ob, Z = some (k, ob)
/-- The greatest height of some shapes. -/
def maxH (ys : List (Option ST)) : Nat := (ys.map shigh).foldl max 0
theorem maxH_snoc (ys : List (Option ST)) (o : Option ST) : maxH (ys ++ [o]) = max (maxH ys) (shigh o) := by simp [maxH]
theorem maxH_mem : ∀ (ys : List (Option ST)) (o : Option ST), o ∈ ys → shigh o ≤ maxH ys := by
  have key : ∀ (l : List Nat) (m : Nat), m ≤ l.foldl max m ∧ ∀ x ∈ l, x ≤ l.foldl max m := by
    intro l
    induction l with
    | nil => intro m; exact ⟨Nat.le_refl _, fun x hx => by simp at hx⟩
    | cons y l ih =>
      intro m
      obtain ⟨h1, h2⟩ := ih (max m y)
      refine ⟨by simp only [List.foldl_cons]; omega, fun x hx => ?_⟩
      simp only [List.foldl_cons]
      rcases List.mem_cons.1 hx with rfl | hx
      · omega
      · exact h2 x hx
  intro ys o ho
  exact (key (ys.map shigh) 0).2 _ (List.mem_map_of_mem ho)
theorem maxH_le {ys : List (Option ST)} {m : Nat} (h : ∀ o ∈ ys, shigh o ≤ m) : maxH ys ≤ m := by
  have key : ∀ (l : List Nat) (x : Nat), x ≤ m → (∀ y ∈ l, y ≤ m) → l.foldl max x ≤ m := by
    intro l
    induction l with
    | nil => intro x hx _; exact hx
    | cons y l ih => intro x hx hl; exact ih _ (by have := hl y (by simp); omega) (fun z hz => hl z (by simp [hz]))
  exact key _ 0 (Nat.zero_le _) (fun y hy => by obtain ⟨o, ho, rfl⟩ := List.mem_map.1 hy; exact h o ho)
theorem shTo_mem {O : Nat → Nat → Option ST} {o : Option ST} (h : o ∈ shTo O 9) : (∃ l k, l < 9 ∧ k < pw l ∧ o = O l k) ∧ 0 < (sbits o).length := by
  unfold shTo at h
  obtain ⟨l, hl, h⟩ := List.mem_flatMap.1 h
  unfold shL at h
  obtain ⟨h1, h2⟩ := List.mem_filter.1 h
  obtain ⟨k, hk, rfl⟩ := List.mem_map.1 h1
  refine ⟨⟨l, k, List.mem_range.1 hl, List.mem_range.1 hk, rfl⟩, ?_⟩
  unfold nonE at h2
  simpa using h2
theorem shTo_in {O : Nat → Nat → Option ST} {l k : Nat} (hl : l < 9) (hk : k < pw l) (h : 0 < (sbits (O l k)).length) : O l k ∈ shTo O 9 := by
  unfold shTo
  refine List.mem_flatMap.2 ⟨l, List.mem_range.2 hl, ?_⟩
  unfold shL
  refine List.mem_filter.2 ⟨List.mem_map.2 ⟨k, List.mem_range.2 hk, rfl⟩, ?_⟩
  unfold nonE
  simpa using h

section
variable {B : Nat} {X : Nat → Prop} {w w' : World} {p n : Nat} {D : WD} {O : Nat → Nat → Option ST} {vis : Int} {Vb : Nat → Nat → Int → Prop}
theorem hiO_max (h : WaveE B X w p D O n vis Vb) : HiO O (maxH (shTo O 9)) := by
  intro l k hl hk
  by_cases hb : 0 < (sbits (O l k)).length
  · exact maxH_mem _ _ (shTo_in hl hk hb)
  · have hg := (h.tGood hl hk).1
    rw [none_of hg (List.eq_nil_of_length_eq_zero (by omega))]
    simp [shigh]
theorem shTo_high (h : WaveE B X w p D O n vis Vb) : maxH (shTo O 9) ≤ 1000000000 := by
  refine maxH_le (fun o ho => ?_)
  obtain ⟨⟨l, k, hl, hk, rfl⟩, _⟩ := shTo_mem ho
  exact waveE_high h l k hl hk
end

set_option maxHeartbeats 3200000 in
set_option maxRecDepth 100000 in
theorem high7_any (w : World) (base : Nat) (a : Option Addr) (c : Nat) (ys : List (Option ST)) (hr : ShRow w base (.slice a ys.length c) ys) (hm : ∀ o ∈ ys, shigh o ≤ 1000000000) (hn : ys.length ≤ 1000000) :
    Calls Tryd.prog 52 #[.slice a ys.length c] w fun e w' => e = .returned (.int .i64 (maxH ys : Nat)) ∧ w = w' := by
  have HM := Lib.hid hm
  have HR := Lib.hid hr
  clear hm hr
  go_enter Tryd.func52, Tryd.ntmps52
  go_wp2_with fail
  go_loop [3, 4] (fun v i => ∃ k : Nat, k ≤ ys.length ∧ i = .int .i64 k ∧ v = .int .i64 (maxH (ys.take k) : Nat)) (fun _ i => ys.length - (intOf i).toNat)
  case atStart => exact ⟨0, Nat.zero_le _, rfl, rfl⟩
  case round => as_aux_lemma =>
    obtain ⟨k, hk, rfl, rfl⟩ := hrel
    by_cases hlt : k < ys.length
    · obtain ⟨o, ho⟩ : ∃ o, ys[k]? = some o := ⟨_, List.getElem?_eq_getElem hlt⟩
      obtain ⟨g, a2, a3, rfl, _, _, _, x1, _, _⟩ := shRead HR.out ho
      have hsn : maxH (ys.take (k + 1)) = max (maxH (ys.take k)) (shigh o) := by rw [List.take_add_one, ho]; exact maxH_snoc _ _
      have hb1 := HM.out o (List.mem_of_getElem? ho)
      have hb2 : maxH (ys.take k) ≤ 1000000000 := maxH_le (fun o h => HM.out o (List.mem_of_mem_take h))
      have HSN := Lib.hid hsn
      generalize maxH (ys.take k) = q at *
      generalize shigh o = z at *
      have i0 : (0 : Int) ≤ (k : Int) := by omega
      have i1 : (k : Int) < (ys.length : Int) := by omega
      clear hsn ho
      go_wp2_with fail
      go_round
      case rel => exact ⟨k + 1, by omega, by go_num, by rw [HSN.out]; congr 1; omega⟩
      case measure => simp [intOf]; omega
    · obtain rfl : k = ys.length := by omega
      rw [List.take_length]
      go_wp2_with fail
      go_ret
      exact ⟨rfl, rfl⟩

set_option maxHeartbeats 6400000 in
set_option maxRecDepth 100000 in
theorem fine7_any {B : Nat} {X : Nat → Prop} {w : World} {p n : Nat} {D : WD} {O : Nat → Nat → Option ST} {Vb : Nat → Nat → Int → Prop} {vis b : Nat} (h : WaveE B X w p D O n (vis : Int) Vb) (hb : b ≤ 1000000000) (hv : vis ≤ 72 * (b + 2)) :
    Calls Tryd.prog 57 #[.pointer (some ⟨p, 0, none⟩), .int .i64 (b : Int)] w fun e w' => e = .returned (.bool true) ∧ Below w.heap.size w w' := by
  have HW := Lib.hid h
  have HM : Hid (∀ o ∈ shTo O 9, (Good o ∧ (sbits o).length ≤ 2147483648) ∧ 0 < (sbits o).length ∧ shigh o ≤ 1000000000) := Lib.hid (fun o ho => by
    obtain ⟨⟨l, k, hl, hk, rfl⟩, h1⟩ := shTo_mem ho
    exact ⟨h.tGood hl hk, h1, waveE_high h l k hl hk⟩)
  have hle := shTo_le O 9 (Nat.le_refl _)
  clear h
  go_enter Tryd.func57, Tryd.ntmps57
  go_wp2_with fail
  refine (wShapes_any HW.out).mono ?_
  rintro e w1 ⟨v, rfl, hr, hb1⟩
  generalize shTo O 9 = ys at *
  obtain ⟨a, c, rfl, _, _⟩ := own_slice hr
  have HR1 := Lib.hid hr
  have HB1 := Lib.hid hb1
  clear hr hb1
  go_wp2_with fail
  go_loopw [6, 7] (fun v i wr => ∃ (k q : Nat), k ≤ ys.length ∧ i = .int .i64 k ∧ v = .int .i64 (q : Nat) ∧ b ≤ q ∧ q ≤ 1000000000 ∧ ShRow wr w.heap.size (.slice a ys.length c) ys ∧ Below w.heap.size w wr) (fun _ i _ => ys.length - (intOf i).toNat)
  case atStart => exact ⟨0, b, Nat.zero_le _, rfl, rfl, Nat.le_refl _, hb, HR1.out, HB1.out⟩
  case round => as_aux_lemma =>
    clear HR1 HB1
    obtain ⟨k, q, hk, rfl, rfl, hbq, hq9, hr, hbw⟩ := hrel
    have HR := Lib.hid hr
    have HB := Lib.hid hbw
    clear hr hbw
    by_cases hlt : k < ys.length
    · obtain ⟨o, ho⟩ : ∃ o, ys[k]? = some o := ⟨_, List.getElem?_eq_getElem hlt⟩
      obtain ⟨hgd, hlen, hhi⟩ := HM.out o (List.mem_of_getElem? ho)
      obtain ⟨g, a2, a3, rfl, hgl, hsc, x0, x1, x2, x3⟩ := shRead HR.out ho
      have HO := Lib.hid ho
      have hmy := fun w => refMay_any hgd.1 hgd.2 w
      rw [shapeC_v, hsc] at hmy
      have HMY := Lib.hid hmy
      have i0 : (0 : Int) ≤ (k : Int) := by omega
      have i1 : (k : Int) < (ys.length : Int) := by omega
      obtain ⟨z, hz⟩ : ∃ z, shigh o = z := ⟨_, rfl⟩
      obtain ⟨ln, hln⟩ : ∃ ln, (sbits o).length = ln := ⟨_, rfl⟩
      have HGD := Lib.hid hgd
      rw [hz] at hhi x1 HMY
      rw [hln] at hlen x0 HMY
      have HZ := Lib.hid hz
      have HLN := Lib.hid hln
      clear hmy hgd hsc ho hz hln
      go_wp2_with fail
      refine (HMY.out wr).mono ?_
      rintro e w3 ⟨rfl, hb3⟩
      have HB3 := Lib.hid (HB.out.trans (hb3.mono HB.out.size))
      have HR3 := Lib.hid (HR.out.below hb3)
      obtain ⟨g', a2', a3', hge, hgl', _, y0, y1, _, _⟩ := shRead HR3.out HO.out
      injection hge with hge; injection hge with hge _ _
      subst hge
      rw [HZ.out] at y1
      rw [HLN.out] at y0
      clear hb3 HB HR HMY x0 x1 x2 x3
      have dl : decide ((ln : Int) < 1) = false := decide_eq_false (by omega)
      have dl2 : decide (ln < 1) = false := decide_eq_false (by omega)
      go_wp2_with fail
      go_roundw
      case rel => exact ⟨k + 1, max q z, by omega, by go_num, by congr 1; omega, by omega, by omega, HR3.out, HB3.out⟩
      case measure => simp [intOf]; omega
    · obtain rfl : k = ys.length := by omega
      have HVS := Lib.hid (wVisits_any (HW.out.below HB.out))
      have dv : decide ((0 : Int) ≤ (vis : Int)) = true := decide_eq_true (by omega)
      have dv2 : decide ((vis : Int) ≤ 72 * ((q : Int) + 2)) = true := decide_eq_true (by omega)
      clear HW HM HR hv
      go_wp2_with fail
      refine HVS.out.mono ?_
      rintro e w' ⟨rfl, rfl⟩
      go_wp2_with fail
      refine HVS.out.mono ?_
      rintro e w' ⟨rfl, rfl⟩
      go_wp2_with fail
      go_ret
      exact ⟨rfl, HB.out⟩

/-- A wave of symbols L and a row of symbols R, and a block Z of the call's own, apart from one another. -/
structure WPK (B : Nat) (Z : Option (Nat × Obj)) (w0 w : World) (p : Nat) (O : Nat → Nat → Option ST) (v : Value) (L R : List Nat) (Vb : Int → Prop) : Prop where
  own : w.ownsRow B 3 1 v R.length (R.map wsV)
  t : ∃ D x, Vb x ∧ WaveE B (xzk v Z) w p D O L.length x anyV
  o : LvlO O L
  sy : Syms L
  z : ∀ q ob, Z = some (q, ob) → w.heap[q]? = some ob
  bl : Below B w0 w
/-- How many nodes a step looks at. -/
def vbW (m : Nat) (x : Int) : Prop := 0 ≤ x ∧ x ≤ m

section
variable {B : Nat} {Z : Option (Nat × Obj)} {w0 w w' : World} {p : Nat} {O O' : Nat → Nat → Option ST} {v : Value} {L R : List Nat} {Vb Vc : Int → Prop}
theorem WPK.le (h : WPK B Z w0 w p O v L R Vb) : B ≤ w.heap.size := by obtain ⟨D, x, _, h0⟩ := h.t; exact h0.le
theorem WPK.vb (h : WPK B Z w0 w p O v L R Vb) (hv : ∀ x, Vb x → Vc x) : WPK B Z w0 w p O v L R Vc := by
  obtain ⟨D, x, hx, h0⟩ := h.t
  exact ⟨h.own, ⟨D, x, hv x hx, h0⟩, h.o, h.sy, h.z, h.bl⟩
theorem WPK.below (h : WPK B Z w0 w p O v L R Vb) (hb : Below w.heap.size w w') : WPK B Z w0 w' p O v L R Vb := by
  obtain ⟨D, x, hx, h0⟩ := h.t
  exact ⟨(Chg.of_below (S := fun _ => False) hb).own h.own (fun _ _ hf => hf.elim), ⟨D, x, hx, h0.below hb⟩, h.o, h.sy, fun q ob hq => (Chg.of_below (S := fun _ => False) hb).heap (h.z q ob hq) id, h.bl.trans (hb.mono h.le)⟩
theorem WPK.drewN (h : WPK B Z w0 w p O v L R Vb) (n : Nat) : WPK B Z w0 (w.drewN n) p O v L R Vb := h.below ⟨rfl, rfl, rfl, Nat.le_refl _, fun _ _ => rfl⟩
/-- A step of the wave. -/
theorem WPK.step (h : WPK B Z w0 w p O v L R Vb) {D : WD} {x : Int} {L' : List Nat} (hx : Vc x) (ht : WaveE B (xzk v Z) w' p D O' L'.length x anyV) (hO : LvlO O' L') (hS : Syms L') (hc : Chg (exT B (xzk v Z)) w w') : WPK B Z w0 w' p O' v L' R Vc :=
  ⟨hc.own h.own (fun k hk hs => hs.2 (Or.inl hk)), ⟨D, x, hx, ht⟩, hO, hS, fun q ob hq => hc.heap (h.z q ob hq) (fun hs => hs.2 (Or.inr ⟨ob, hq⟩)), h.bl.trans (exT_below hc h.le)⟩
/-- A new row. -/
theorem WPK.row (h : WPK B Z w0 w p O v L R Vb) {v' : Value} {R' : List Nat} (ho : w'.ownsRow w.heap.size 3 1 v' R'.length (R'.map wsV)) (hb : Below w.heap.size w w') : WPK B Z w0 w' p O v' L R' Vb := by
  obtain ⟨D, x, hx, h0⟩ := h.t
  refine ⟨own_mono ho h.le, ⟨D, x, hx, h0.less hb (Y := xzk v' Z) (fun k hk => ?_) (fun k hk => ?_)⟩, h.o, h.sy, fun q ob hq => (Chg.of_below (S := fun _ => False) hb).heap (h.z q ob hq) id, h.bl.trans (hb.mono h.le)⟩
  · rcases hk with hk | ⟨ob, hk⟩
    · exact Or.inr (own_lt ho hk).1
    · exact Or.inl (Or.inr ⟨ob, hk⟩)
  · rcases hk with hk | ⟨ob, hk⟩
    · exact (own_lt ho hk).2
    · exact Nat.lt_of_lt_of_le (Array.getElem?_eq_some_iff.1 (h.z k ob hk)).1 hb.size
/-- A new block is kept apart. -/
theorem WPK.addZ (h : WPK B none w0 w p O v L R Vb) {q : Nat} {ob : Obj} (hb : Below w.heap.size w w') (hq : w.heap.size ≤ q) (hz : w'.heap[q]? = some ob) : WPK B (some (q, ob)) w0 w' p O v L R Vb := by
  obtain ⟨D, x, hx, h0⟩ := h.t
  refine ⟨(Chg.of_below (S := fun _ => False) hb).own h.own (fun _ _ hf => hf.elim), ⟨D, x, hx, h0.less hb (Y := xzk v (some (q, ob))) (fun k hk => ?_) (fun k hk => ?_)⟩, h.o, h.sy, fun q' ob' hq' => ?_, h.bl.trans (hb.mono h.le)⟩
  · rcases hk with hk | ⟨ob, hk⟩
    · exact Or.inl (Or.inl hk)
    · cases hk; exact Or.inr hq
  · rcases hk with hk | ⟨ob, hk⟩
    · exact Nat.lt_of_lt_of_le (own_lt h.own hk).2 hb.size
    · cases hk; exact (Array.getElem?_eq_some_iff.1 hz).1
  · cases hq'; exact hz
theorem WPK.dropZ (h : WPK B Z w0 w p O v L R Vb) : WPK B none w0 w p O v L R Vb := by
  obtain ⟨D, x, hx, h0⟩ := h.t
  exact ⟨h.own, ⟨D, x, hx, h0.mono (Y := xzk v none) (fun k hk => hk.elim Or.inl (fun ⟨ob, hk⟩ => by cases hk))⟩, h.o, h.sy, fun q ob hq => (by cases hq), h.bl⟩
theorem WPK.hi (h : WPK B Z w0 w p O v L R Vb) : HiO O (maxH (shTo O 9)) ∧ maxH (shTo O 9) ≤ 1000000000 := by
  obtain ⟨D, x, _, h0⟩ := h.t; exact ⟨hiO_max h0, shTo_high h0⟩
theorem WPK.ins (h : WPK B Z w0 w p O v L R Vb) (n s : Nat) (hn : n ≤ L.length) (hl : L.length ≤ 1000000) (hs : s < 257) {H : Nat} (hH : maxH (shTo O 9) = H) :
    Calls Tryd.prog 48 #[.pointer (some ⟨p, 0, none⟩), .int .i64 n, .int .i64 s] w fun e w' => e = .returned (.int .i64 0) ∧ ∃ O', WPK B Z w0 w' p O' v (inL L n s) R (vbW (72 * (H + 2))) := by
  subst hH
  obtain ⟨D, x, hx, h0⟩ := h.t
  refine (wInsert_any h0 h.o h.sy (by omega) h.hi.1 h.hi.2 n s hn hs).mono ?_
  rintro e w' ⟨rfl, O', y, hy0, hy1, ht, hO, _, hc⟩
  exact ⟨rfl, O', h.step (x := y) ⟨hy0, by omega⟩ (by rw [inL_len hn]; exact ht) hO (h.sy.inL hs) hc⟩
theorem WPK.insBad (h : WPK B Z w0 w p O v L R Vb) (k s : Int) (hk : symIs s = false ∨ k < 0 ∨ (L.length : Int) < k) (m : Nat) :
    Calls Tryd.prog 48 #[.pointer (some ⟨p, 0, none⟩), .int .i64 k, .int .i64 s] w fun e w' => e = .returned (.int .i64 (if symIs s then 2 else 1)) ∧ WPK B Z w0 w' p O v L R (vbW m) := by
  obtain ⟨D, x, hx, h0⟩ := h.t
  refine (wInsert_bad h0 k s hk).mono ?_
  rintro e w' ⟨rfl, h1, hc⟩
  exact ⟨rfl, h.step (x := 0) ⟨by omega, by omega⟩ h1 h.o h.sy hc⟩
theorem WPK.del (h : WPK B Z w0 w p O v L R Vb) (n s : Nat) (hn : L[n]? = some s) (hl : L.length ≤ 1000000) {H : Nat} (hH : maxH (shTo O 9) = H) :
    Calls Tryd.prog 49 #[.pointer (some ⟨p, 0, none⟩), .int .i64 n] w fun e w' => e = .returned (.tuple #[.int .i64 s, .int .i64 0]) ∧ ∃ O', WPK B Z w0 w' p O' v (outL L n) R (vbW (72 * (H + 2))) := by
  subst hH
  obtain ⟨D, x, hx, h0⟩ := h.t
  refine (wDelete_any h0 h.o h.sy (by omega) h.hi.1 h.hi.2 n s hn).mono ?_
  rintro e w' ⟨rfl, O', y, hy0, hy1, ht, hO, _, hc⟩
  exact ⟨rfl, O', h.step (x := y) ⟨hy0, by omega⟩ ht hO h.sy.outL hc⟩
theorem WPK.delBad (h : WPK B Z w0 w p O v L R Vb) (k : Int) (hk : k < 0 ∨ (L.length : Int) ≤ k) (m : Nat) :
    Calls Tryd.prog 49 #[.pointer (some ⟨p, 0, none⟩), .int .i64 k] w fun e w' => e = .returned (.tuple #[.int .i64 (-1), .int .i64 2]) ∧ WPK B Z w0 w' p O v L R (vbW m) := by
  obtain ⟨D, x, hx, h0⟩ := h.t
  refine (wDelete_bad h0 k hk).mono ?_
  rintro e w' ⟨rfl, h1, hc⟩
  exact ⟨rfl, h.step (x := 0) ⟨by omega, by omega⟩ h1 h.o h.sy hc⟩
theorem WPK.get (h : WPK B Z w0 w p O v L R Vb) (n s : Nat) (hn : L[n]? = some s) (hl : L.length ≤ 1000000) {H : Nat} (hH : maxH (shTo O 9) = H) :
    Calls Tryd.prog 45 #[.pointer (some ⟨p, 0, none⟩), .int .i64 n] w fun e w' => e = .returned (.tuple #[.int .i64 s, .int .i64 0]) ∧ WPK B Z w0 w' p O v L R (vbW (72 * (H + 2))) := by
  subst hH
  obtain ⟨D, x, hx, h0⟩ := h.t
  refine (wGet_any h0 h.o h.sy (by omega) h.hi.1 h.hi.2 n s hn).mono ?_
  rintro e w' ⟨rfl, y, hy0, hy1, ht, hc⟩
  exact ⟨rfl, h.step (x := y) ⟨hy0, by omega⟩ ht h.o h.sy hc⟩
theorem WPK.getBad (h : WPK B Z w0 w p O v L R Vb) (k : Int) (hk : k < 0 ∨ (L.length : Int) ≤ k) (m : Nat) :
    Calls Tryd.prog 45 #[.pointer (some ⟨p, 0, none⟩), .int .i64 k] w fun e w' => e = .returned (.tuple #[.int .i64 (-1), .int .i64 2]) ∧ WPK B Z w0 w' p O v L R (vbW m) := by
  obtain ⟨D, x, hx, h0⟩ := h.t
  refine (wGet_bad h0 k hk).mono ?_
  rintro e w' ⟨rfl, h1, hc⟩
  exact ⟨rfl, h.step (x := 0) ⟨by omega, by omega⟩ h1 h.o h.sy hc⟩
theorem WPK.fine {b : Nat} (h : WPK B Z w0 w p O v L R (vbW (72 * (b + 2)))) (hb : b ≤ 1000000000) :
    Calls Tryd.prog 57 #[.pointer (some ⟨p, 0, none⟩), .int .i64 (b : Int)] w fun e w' => e = .returned (.bool true) ∧ WPK B Z w0 w' p O v L R (fun _ => True) := by
  obtain ⟨D, x, hx, h0⟩ := h.t
  obtain ⟨y, rfl⟩ := Int.eq_ofNat_of_zero_le hx.1
  refine (fine7_any h0 hb (by have := hx.2; omega)).mono ?_
  rintro e w' ⟨rfl, hl⟩
  exact ⟨rfl, (h.below hl).vb (fun _ _ => trivial)⟩
/-- Rank, of whatever number. -/
def rkW (L : List Nat) (k s : Int) : Nat := if symIs s then rkI L k.toNat s else 0
theorem WPK.rank (h : WPK B Z w0 w p O v L R Vb) (hl : L.length ≤ 1000000) (k s : Int) :
    Calls Tryd.prog 46 #[.pointer (some ⟨p, 0, none⟩), .int .i64 k, .int .i64 s] w fun e w' => e = .returned (.int .i64 (rkW L k s : Nat)) ∧ WPK B Z w0 w' p O v L R (fun _ => True) := by
  obtain ⟨D, x, hx, h0⟩ := h.t
  by_cases hs : 0 ≤ s ∧ s < 257
  · obtain ⟨n, rfl⟩ := Int.eq_ofNat_of_zero_le hs.1
    refine (wRank_any h0 h.o h.sy (by omega) (waveE_high h0) (Nat.le_refl _) k n (by omega)).mono ?_
    rintro e w' ⟨rfl, y, _, _, h1, hc⟩
    refine ⟨?_, h.step trivial h1 h.o h.sy hc⟩
    unfold rkW
    rw [symIs_true hs.1 hs.2, if_pos rfl, rkI_nat]
  · have e : symIs s = false := symIs_false (by omega)
    refine (wRank_bad h0 k s e).mono ?_
    rintro e' w' ⟨rfl, h1, hc⟩
    refine ⟨?_, h.step trivial h1 h.o h.sy hc⟩
    unfold rkW
    rw [e]; rfl
theorem WPK.select (h : WPK B Z w0 w p O v L R Vb) (hT : BitTab w) (htl : 0 < B) (hl : L.length ≤ 1000000) (j s q : Int) (hq : SelI L j s q) :
    Calls Tryd.prog 47 #[.pointer (some ⟨p, 0, none⟩), .int .i64 j, .int .i64 s] w fun e w' => e = .returned (.int .i64 q) ∧ WPK B Z w0 w' p O v L R (fun _ => True) := by
  obtain ⟨D, x, hx, h0⟩ := h.t
  by_cases hs : 0 ≤ s ∧ s < 257
  · obtain ⟨n, rfl⟩ := Int.eq_ofNat_of_zero_le hs.1
    refine (wSelect_any h0 hT htl h.o h.sy (by omega) (waveE_high h0) (Nat.le_refl _) j n (by omega)).mono ?_
    rintro e w' ⟨rfl, y, h1, hc⟩
    exact ⟨by rw [selI_nat hq], h.step trivial h1 h.o h.sy hc⟩
  · have e : symIs s = false := symIs_false (by omega)
    refine (wSelect_bad h0 j s e).mono ?_
    rintro e' w' ⟨rfl, ⟨y, h1⟩, hc⟩
    exact ⟨by rw [selI_bad h.sy e hq], h.step trivial h1 h.o h.sy hc⟩
theorem selI_ex (L : List Nat) (j s : Int) : ∃ q, SelI L j s q := by
  by_cases h : ∃ K : Nat, L[K]?.map (fun x : Nat => (x : Int)) = some s ∧ (rkI L K s : Int) = j
  · obtain ⟨K, h1, h2⟩ := h
    refine ⟨K, Or.inl ⟨K, rfl, ?_, h1, h2⟩⟩
    rcases Nat.lt_or_ge K L.length with h3 | h3
    · exact h3
    · rw [List.getElem?_eq_none h3] at h1; cases h1
  · exact ⟨-1, Or.inr ⟨rfl, fun K h1 h2 => h ⟨K, h1, h2⟩⟩⟩
/-- Only one place is answered. -/
theorem selI_one {L : List Nat} {j s q r : Int} (h : SelI L j s q) (h' : SelI L j s r) : q = r := by
  have mono : ∀ K M : Nat, K ≤ M → rkI L K s ≤ rkI L M s := by
    intro K M h
    unfold rkI
    exact List.Sublist.countP_le (List.take_sublist_take_left h)
  have step : ∀ K : Nat, L[K]?.map (fun x : Nat => (x : Int)) = some s → rkI L (K + 1) s = rkI L K s + 1 := by
    intro K hK
    cases hx : L[K]? with
    | none => rw [hx] at hK; cases hK
    | some x =>
      rw [hx] at hK
      simp only [Option.map_some, Option.some.injEq] at hK
      rw [rkI_succ hx, if_pos hK]
  rcases h with ⟨K, rfl, _, h1, h2⟩ | ⟨rfl, hn⟩
  · rcases h' with ⟨M, rfl, _, h3, h4⟩ | ⟨rfl, hn'⟩
    · have e : K = M := by
        rcases Nat.lt_trichotomy K M with hlt | heq | hgt
        · have := mono (K + 1) M hlt; rw [step K h1] at this; omega
        · exact heq
        · have := mono (M + 1) K hgt; rw [step M h3] at this; omega
      rw [e]
    · exact absurd h2 (hn' K h1)
  · rcases h' with ⟨M, rfl, _, h3, h4⟩ | ⟨rfl, hn'⟩
    · exact absurd h4 (hn M h3)
    · rfl
theorem WPK.len (h : WPK B Z w0 w p O v L R Vb) : Calls Tryd.prog 59 #[.pointer (some ⟨p, 0, none⟩)] w fun e w' => e = .returned (.int .i64 L.length) ∧ w = w' := by
  obtain ⟨D, x, hx, h0⟩ := h.t
  exact wLen_any h0
theorem WPK.shapes (h : WPK B Z w0 w p O v L R Vb) : Calls Tryd.prog 41 #[.pointer (some ⟨p, 0, none⟩)] w fun e w' => ∃ a c, e = .returned (.slice a (shTo O 9).length c) ∧ ShRow w' w.heap.size (.slice a (shTo O 9).length c) (shTo O 9) ∧ Below w.heap.size w w' := by
  obtain ⟨D, x, hx, h0⟩ := h.t
  refine (wShapes_any h0).mono ?_
  rintro e w' ⟨v, rfl, hr, hb⟩
  obtain ⟨a, c, rfl, _, _⟩ := own_slice hr
  exact ⟨a, c, rfl, hr, hb⟩
theorem WPK.high (h : WPK B Z w0 w p O v L R Vb) {w2 : World} {b : Nat} {a : Option Addr} {c : Nat} (hr : ShRow w2 b (.slice a (shTo O 9).length c) (shTo O 9)) :
    Calls Tryd.prog 52 #[.slice a (shTo O 9).length c] w2 fun e w' => e = .returned (.int .i64 (maxH (shTo O 9) : Nat)) ∧ w2 = w' := by
  obtain ⟨D, x, hx, h0⟩ := h.t
  refine high7_any w2 b a c _ hr (fun o ho => ?_) (by have := shTo_le O 9 (Nat.le_refl _); omega)
  obtain ⟨⟨l, k, hl, hk, rfl⟩, _⟩ := shTo_mem ho
  exact waveE_high h0 l k hl hk
theorem WPK.all (h : WPK B Z w0 w p O v L R Vb) (hl : L.length ≤ 1000000) :
    Calls Tryd.prog 51 #[.pointer (some ⟨p, 0, none⟩)] w fun e w' =>
      ∃ g, e = .returned (.slice (some ⟨g, 0, none⟩) L.length L.length) ∧ ReadsV w' (some ⟨g, 0, none⟩) (L.map wsV) ∧ WPK B Z w0 w' p O v L R (fun _ => True) := by
  obtain ⟨D, x, hx, h0⟩ := h.t
  refine (wAll_any h0 h.o h.sy (by omega) (waveE_high h0) (Nat.le_refl _)).mono ?_
  rintro e w' ⟨g, rfl, hge, hrow, h1, hc⟩
  refine ⟨g, rfl, readsV_block hrow, h.step trivial (h1.mono (fun k hk => Or.inl hk)) h.o h.sy hc⟩
end

end Go.Proofs.YtcppgpjodfeigaaDoor
