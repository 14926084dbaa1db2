/- Rows that are read, of whatever cells; slices of them; append, operation by operation; of no program. -/
import Derived.Test.YtilofffnolnokaaPush
namespace Go.Proofs.Ytilofffnolnokaa
set_option linter.unusedVariables false
set_option linter.unusedSimpArgs false
open Go.RowKit

/-- A row that is read: its cells. -/
def ReadsV (w : World) (a : Option Addr) (xs : List Value) : Prop :=
  ∀ i, i < xs.length → ∃ b off, a = some ⟨b, off, none⟩ ∧ b < w.heap.size ∧ ∀ j u, xs[j]? = some u → w.cell? ⟨b, off + j, none⟩ = some u

section
variable {w w' : World} {a : Option Addr} {xs : List Value}
theorem ReadsV.nil : ReadsV w a [] := fun i hi => absurd hi (by simp)
theorem ReadsV.some (h : ReadsV w a xs) (hn : 0 < xs.length) : ∃ b off, a = some ⟨b, off, none⟩ ∧ b < w.heap.size ∧ ∀ j u, xs[j]? = some u → w.cell? ⟨b, off + j, none⟩ = some u := h 0 hn
theorem ReadsV.below {B : Nat} (h : ReadsV w a xs) (hb : Below B w w') (hB : ∀ ad, a = Option.some ad → ad.block < B) : ReadsV w' a xs := by
  intro i hi
  obtain ⟨b, off, rfl, hlt, hc⟩ := h i hi
  exact ⟨b, off, rfl, by have := hb.size; omega, fun j u hj => (hb.cell (p := ⟨b, off + j, none⟩) (hB ⟨b, off, none⟩ rfl)).trans (hc j u hj)⟩
theorem ReadsV.below' (h : ReadsV w a xs) (hb : Below w.heap.size w w') : ReadsV w' a xs := by
  intro i hi
  obtain ⟨b, off, rfl, hlt, hc⟩ := h i hi
  exact ⟨b, off, rfl, by have := hb.size; omega, fun j u hj => (hb.cell (p := ⟨b, off + j, none⟩) hlt).trans (hc j u hj)⟩
theorem ReadsV.chg {S : Nat → Prop} (h : ReadsV w a xs) (hc : Chg S w w') (hn : ∀ ad, a = Option.some ad → ¬ S ad.block) : ReadsV w' a xs := by
  intro i hi
  obtain ⟨b, off, rfl, hlt, hk⟩ := h i hi
  exact ⟨b, off, rfl, by have := hc.size; omega, fun j u hj => hc.cell (hk j u hj) (hn ⟨b, off, none⟩ rfl)⟩
theorem ReadsV.take (h : ReadsV w a xs) (k : Nat) : ReadsV w a (xs.take k) := by
  intro i hi
  rw [List.length_take] at hi
  obtain ⟨b, off, ha, hlt, hc⟩ := h i (by omega)
  exact ⟨b, off, ha, hlt, fun j u hj => hc j u (by
    rw [List.getElem?_take] at hj
    split at hj
    · exact hj
    · cases hj)⟩

/-- The address of a slice from k on. -/
def offA (a : Option Addr) (k cap : Nat) : Option Addr := if cap = k then a else a.map (·.add k)
theorem ReadsV.drop (h : ReadsV w a xs) {k cap : Nat} (hc : xs.length ≤ cap) : ReadsV w (offA a k cap) (xs.drop k) := by
  intro i hi
  rw [List.length_drop] at hi
  obtain ⟨b, off, rfl, hlt, hx⟩ := h i (by omega)
  have hne : ¬ cap = k := by omega
  refine ⟨b, off + k, by simp [offA, hne, Addr.add_lit], hlt, fun j u hj => ?_⟩
  rw [List.getElem?_drop] at hj
  have := hx (k + j) u hj
  rwa [Nat.add_assoc]
theorem offA_nil {a : Option Addr} {k cap len : Nat} (h : a = none → len = 0 ∧ cap = 0) : offA a k cap = none → len - k = 0 ∧ cap - k = 0 := by
  intro hn
  cases a with
  | none => obtain ⟨rfl, rfl⟩ := h rfl; simp
  | some ad =>
    unfold offA at hn
    split at hn
    · cases hn
    · cases hn

theorem ReadsV.hnews (h : ReadsV w a xs) : ∀ p, a = Option.some p → ∀ j u, xs[j]? = Option.some u → w.cell? (p.add j) = Option.some u := by
  intro p hp j u hu
  have hlt : j < xs.length := (List.getElem?_eq_some_iff.1 hu).1
  obtain ⟨b, off, hab, _, hc⟩ := h j hlt
  rw [hp] at hab; cases hab
  rw [Addr.add_lit]; exact hc j u hu
theorem readsV_own {base : Nat} {e : TypeId} {n c : Nat} {a : Option Addr} (h : w.ownsRow base e 1 (.slice a n c) n xs) : ReadsV w a xs := by
  have hl := own_len h
  intro i hi
  obtain ⟨g, cap, hv, hb, hg, hc, hm, hcell, _⟩ := own_some h (by omega)
  injection hv with h1 h2 h3
  exact ⟨g, 0, h1, hg, fun j u hj => by rw [Nat.zero_add, hcell j (by have := (List.getElem?_eq_some_iff.1 hj).1; omega), hj]⟩
theorem readsV_block {b : Nat} {T : TypeId} (h : w.heap[b]? = some (.cells xs.toArray T (0, 0))) : ReadsV w (some ⟨b, 0, none⟩) xs := by
  intro i hi
  refine ⟨b, 0, rfl, (Array.getElem?_eq_some_iff.1 h).1, fun j u hj => ?_⟩
  rw [cell_of_row w b (0 + j) _ _ _ h, Nat.zero_add, List.getElem?_toArray, hj]
theorem own_zero {g : Nat} {base : Nat} {e : TypeId} (hb : base ≤ g) (h : w.heap[g]? = some (.cells #[] e (0, 0))) : w.ownsRow base e 1 (.slice (some ⟨g, 0, none⟩) 0 0) 0 [] :=
  ⟨rfl, .inr ⟨g, 0, #[], rfl, hb, h, Nat.le_refl _, by unfold maxLen; omega, rfl, rfl⟩⟩
end

section
variable {P : Program} {w : World}
theorem run_sliceTo {t e : TypeId} {a : Option Addr} {len cap k : Nat} (ht : P.underlying t = some (.slice e)) (hinfo : (P.info? e).map (fun i => i.size) = some 1) (hk : k ≤ cap) :
    (Instr.slice t (.slice a len cap) none (some (.int .i64 (k : Int))) none).run P w = .ok (.slice a k cap) w := by
  obtain ⟨i, hi, hs⟩ := Option.map_eq_some_iff.1 hinfo
  have hk' : (k : Int) ≤ (cap : Int) := by omega
  simp [Instr.slice, run_underlying ht, Instr.sliceBounds, Instr.sliceBound, asIntOf, hk', sizeOf, typeInfo, hi, hs, go_sem]
  intro h; omega
theorem run_sliceFrom {t e : TypeId} {a : Option Addr} {len cap k : Nat} (ht : P.underlying t = some (.slice e)) (hinfo : (P.info? e).map (fun i => i.size) = some 1) (hk : k ≤ len) :
    (Instr.slice t (.slice a len cap) (some (.int .i64 (k : Int))) none none).run P w = .ok (.slice (offA a k cap) (len - k) (cap - k)) w := by
  obtain ⟨i, hi, hs⟩ := Option.map_eq_some_iff.1 hinfo
  have hk' : (k : Int) ≤ (len : Int) := by omega
  simp [Instr.slice, run_underlying ht, Instr.sliceBounds, Instr.sliceBound, asIntOf, hk', sizeOf, typeInfo, hi, hs, go_sem, offA]
  intro h; omega
end

theorem oneB (l : List Bool) : ∀ u ∈ l.map Value.bool, u.oneCell' = true := fun u hu => by obtain ⟨b, _, rfl⟩ := List.mem_map.1 hu; rfl
theorem oneI (k : IntKind) (l : List Int) : ∀ u ∈ l.map (Value.int k), u.oneCell' = true := fun u hu => by obtain ⟨b, _, rfl⟩ := List.mem_map.1 hu; rfl

/-- 'append(s, x...)' onto an own row, one operation. -/
theorem wp_appendL {P : Program} {w : World} {o : Oper} {a : Act} {K : Act → World → Prop} {Q : Exit → Act → World → Prop} (s x : Operand) (t : TypeId)
    (ho : o.op = .call { callee := .builtin .append, args := #[s, x], argTypes := #[t, t] })
    (base : Nat) (e : TypeId) {z : Value} {bytes : Nat} (hinfo : (P.info? e).map (fun i => (i.zero, i.size, i.bytes)) = some (some z, 1, bytes)) (ht : P.underlying t = some (.slice e)) (hz1 : z.cells.size = 1)
    (v : Value) (n : Nat) (xs : List Value) (hs : a.eval s = v) (hown : w.ownsRow base e 1 v n xs)
    (ad : Option Addr) (m c : Nat) (news : List Value) (hx : a.eval x = .slice ad m c) (hl : news.length = m) (hnil : ad = none → m = 0 ∧ c = 0)
    (hnews : ∀ p, ad = some p → ∀ j u, news[j]? = some u → w.cell? (p.add j) = some u) (h1 : ∀ u ∈ news, u.oneCell' = true)
    (h63 : n + m ≤ maxLen) (hbytes : (n + m) * bytes ≤ 140737488355328) (hbase : base ≤ w.heap.size)
    (h : ∀ a' c' w', w'.ownsRow base e 1 (.slice a' (n + m) c') (n + m) (xs ++ news) → w.grownBy w' v.ownBlock → (∀ g, a' = some ⟨g, 0, none⟩ → v.ownBlock = some g ∨ w.heap.size ≤ g) →
      K (a.put o.dst (.slice a' (n + m) c')) w') : Oper.wp P o a w K Q := by
  obtain ⟨i, hi, hz, hsz, hby⟩ := info_parts hinfo
  cases ad with
  | none =>
    obtain ⟨rfl, rfl⟩ := hnil rfl
    have hn : news = [] := List.eq_nil_of_length_eq_zero hl
    subst hn
    obtain ⟨a', c', hv, _, hb⟩ := own_slice hown
    have hrun := run_append_owned_none (P := P) (w := w) base t o.type e i 1 ht hi v n xs hown
    unfold Oper.wp execOp
    simp only [ho, resolve, invoke, builtin, Sem.run_bind, Sem.run_pure, Result.andThen_ok, List.map_toArray, List.map_cons, List.map_nil, hs, hx, hrun]
    subst hv
    exact h a' c' w (by simpa using hown) (World.grownBy.refl _ _) (fun g hg => by
      subst hg
      obtain ⟨g', e1, _, _, e2⟩ := hb _ rfl
      cases e1; exact Or.inl e2)
  | some p =>
    obtain ⟨v', w', hr, h2, h3, _, h5⟩ := run_append_own_at (P := P) w base t o.type e i z 1 bytes ht hi hz hsz hby hz1 (by omega) v n xs hown p m c news (by omega) (hnews p rfl) h1 h63 hbytes hbase
    unfold Oper.wp execOp
    simp only [ho, resolve, invoke, builtin, Sem.run_bind, Sem.run_pure, Result.andThen_ok, List.map_toArray, List.map_cons, List.map_nil, hs, hx, hr]
    obtain ⟨a', c', rfl, _, hb⟩ := own_slice h2
    refine h a' c' w' h2 h3 (fun g hg => ?_)
    subst hg
    obtain ⟨g', e1, _, _, e2⟩ := hb _ rfl
    cases e1
    rcases h5 with hor | hor
    · left; rw [← hor]; exact e2
    · right; rw [hor] at e2; injection e2 with e2; omega

/-- What is returned is a row of bools of the call's own. -/
def GivesB (B : Nat) (w : World) (l : List Bool) (e : Ending) (w' : World) : Prop := ∃ v, e = .returned v ∧ w'.ownsRow B 4 1 v l.length (l.map Value.bool) ∧ Below B w w'
theorem Try.infoBoolR : (Try.prog.info? 4).map (fun i => (i.zero, i.size, i.bytes)) = some (some (.bool false), 1, 1) := by kernel_rfl

end Go.Proofs.Ytilofffnolnokaa
