/- Laws on append that say where the new row lies; of no program. -/
import Derived.Test.YtilofffnolnokaaChg
import Derived.Deep.AppendLies
namespace Go.Proofs.Ytilofffnolnokaa
set_option linter.unusedVariables false
set_option linter.unusedSimpArgs false
open Go.RowKit

/-- 'l = append(l, x)': one element is pushed; the new row is the old one or a new block. -/
theorem wpList_pushL {P : Program} {w : World} {ops : Array Oper} {rest : List Oper} {o : Oper} {a : Act} {Q : Exit → Act → World → Prop} {e' : TypeId} {u : Value} (hgd : o.guard = none) (s x : Operand) (t : TypeId)
    (ho : o.op = .call { callee := .builtin .append, args := #[s, x], argTypes := #[t, t] })
    (base : Nat) (e : TypeId) {z : Value} {bytes : Nat} (hinfo : (P.info? e).map (fun i => (i.zero, i.size, i.bytes)) = some (some z, 1, bytes)) (ht : P.underlying t = some (.slice e)) (hz1 : z.cells.size = 1)
    (v : Value) (n : Nat) (xs : List Value) (hs : a.eval s = v) (hown : w.ownsRow base e 1 v n xs)
    (hx : a.eval x = .slice (some ⟨w.heap.size, 0, none⟩) 1 1) (h1 : u.oneCell' = true)
    (h63 : n + 1 ≤ maxLen) (hbytes : (n + 1) * bytes ≤ 140737488355328) (hbase : base ≤ w.heap.size)
    (h : ∀ g cap w', w'.ownsRow base e 1 (.slice (some ⟨g, 0, none⟩) (n + 1) cap) (n + 1) (xs ++ [u]) → w.grownBy w' v.ownBlock → (v.ownBlock = some g ∨ w.heap.size ≤ g) → g < w'.heap.size →
      wpList P ops Q rest (a.put o.dst (.slice (some ⟨g, 0, none⟩) (n + 1) cap)) w') : wpList P ops Q (o :: rest) a (w.alloc (.cells #[u] e')) := by
  obtain ⟨i, hi, hz, hsz, hby⟩ := info_parts hinfo
  refine wpList_append_lies (w.alloc (.cells #[u] e')) hgd s x t ho base e i z 1 bytes ht hi hz hsz hby hz1 (by omega) v n xs hs (hown.alloc _) ⟨w.heap.size, 0, none⟩ 1 1 [u] hx rfl ?_ ?_ (by omega) h63 hbytes ?_ _ rfl ?_
  · intro j u' hj
    match j, hj with
    | 0, hj => simp at hj; subst hj; simp [Addr.add]
  · intro u' hu; simp at hu; subst hu; exact h1
  · simp; omega
  · intro g cap w' h1 h2 h3 h4
    exact h g cap w' h1 ⟨h2.os, h2.tape, h2.output, by have := h2.size; simp at this; omega, fun k hk hne => by
      rw [h2.block k (by simp; omega) hne]; exact Below.heap_alloc w _ k hk⟩ (h3.imp id (fun h => by simp at h; omega)) h4

/-- 'append(s, x...)' onto an own row, whatever slice is appended: nil, empty or not; the new row is the old one or a new block. -/
theorem wpList_appendL {P : Program} {w : World} {ops : Array Oper} {rest : List Oper} {o : Oper} {a : Act} {Q : Exit → Act → World → Prop} (hgd : o.guard = none) (s x : Operand) (t : TypeId)
    (ho : o.op = .call { callee := .builtin .append, args := #[s, x], argTypes := #[t, t] })
    (base : Nat) (e : TypeId) {z : Value} {bytes : Nat} (hinfo : (P.info? e).map (fun i => (i.zero, i.size, i.bytes)) = some (some z, 1, bytes)) (ht : P.underlying t = some (.slice e)) (hz1 : z.cells.size = 1)
    (v : Value) (n : Nat) (xs : List Value) (hs : a.eval s = v) (hown : w.ownsRow base e 1 v n xs)
    (ad : Option Addr) (m c : Nat) (news : List Value) (hx : a.eval x = .slice ad m c) (hl : news.length = m) (hnil : ad = none → m = 0 ∧ c = 0)
    (hnews : ∀ p, ad = some p → ∀ j u, news[j]? = some u → w.cell? (p.add j) = some u) (h1 : ∀ u ∈ news, u.oneCell' = true)
    (h63 : n + m ≤ maxLen) (hbytes : (n + m) * bytes ≤ 140737488355328) (hbase : base ≤ w.heap.size)
    (h : ∀ a' c' w', w'.ownsRow base e 1 (.slice a' (n + m) c') (n + m) (xs ++ news) → w.grownBy w' v.ownBlock → (∀ g, a' = some ⟨g, 0, none⟩ → v.ownBlock = some g ∨ w.heap.size ≤ g) →
      wpList P ops Q rest (a.put o.dst (.slice a' (n + m) c')) w') : wpList P ops Q (o :: rest) a w := by
  obtain ⟨i, hi, hz, hsz, hby⟩ := info_parts hinfo
  by_cases hm : m = 0
  · subst hm
    have hn : news = [] := List.eq_nil_of_length_eq_zero hl
    subst hn
    have key : ∀ v' w', w'.ownsRow base e 1 v' (n + 0) (xs ++ []) → w.grownBy w' v.ownBlock → (v'.ownBlock = v.ownBlock ∨ v'.ownBlock = some w.heap.size) → wpList P ops Q rest (a.put o.dst v') w' := by
      intro v' w' ho' hg' hor
      obtain ⟨a', c', rfl, _, hb⟩ := own_slice ho'
      refine h a' c' w' ho' hg' (fun g hg => ?_)
      subst hg
      obtain ⟨g', e1, _, _, e2⟩ := hb _ rfl
      cases e1
      rcases hor with hor | hor
      · left; rw [← hor]; exact e2
      · right; rw [hor] at e2; injection e2 with e2; omega
    cases ad with
    | none =>
      obtain ⟨_, rfl⟩ := hnil rfl
      exact wpList_append_own_none hgd s x t ho base e i 1 ht hi v n xs hs hown hx (key v w (by simpa using hown) (World.grownBy.refl _ _) (Or.inl rfl))
    | some p =>
      refine wpList_plain hgd fun K hK => ?_
      obtain ⟨v', w', hr, h2, h3, _, h5⟩ := run_append_own_at (P := P) w base t o.type e i z 1 bytes ht hi hz hsz hby hz1 (by omega) v n xs hown p 0 c [] (by simp) (by simp) (by simp) h63 hbytes hbase
      unfold Oper.wp execOp
      simp only [ho, resolve, invoke, builtin, Sem.run_bind, Sem.run_pure, Result.andThen_ok, List.map_toArray, List.map_cons, List.map_nil, hs, hx, hr]
      exact hK _ _ (key v' w' h2 h3 h5)
  · cases ad with
    | none => exact absurd (hnil rfl).1 hm
    | some p =>
      refine wpList_append_lies w hgd s x t ho base e i z 1 bytes ht hi hz hsz hby hz1 (by omega) v n xs hs hown p m c news hx (by omega) (hnews p rfl) h1 (by omega) h63 hbytes hbase _ rfl ?_
      intro g cap w' a1 a2 a3 a4
      exact h _ _ w' a1 a2 (fun g' hg' => by cases hg'; exact a3.imp id (fun h => by omega))

end Go.Proofs.Ytilofffnolnokaa
