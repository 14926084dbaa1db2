/- Plain lemmas on arenas, of no program: which nodes are taken, which are free. -/
import Derived.Below
namespace Go.Proofs.Ytilofffnolnokaa
set_option linter.unusedVariables false
set_option linter.unusedSimpArgs false

/-- An arena: of each number whether it is taken; those that are free, the last one last; how many there may be. -/
structure Ar where
  T : List Bool
  F : List Nat
  M : Nat

/-- What holds of every arena. -/
structure Ar.Ok (a : Ar) : Prop where
  max : a.M ≤ 268435456
  le : a.T.length ≤ a.M
  cnt : a.T.count false = a.F.length
  nd : a.F.Nodup
  iff : ∀ j, a.T[j]? = some false ↔ j ∈ a.F

def arIs (T : List Bool) (k : Int) : Bool := decide (0 ≤ k) && (T[k.toNat]?.getD false)

theorem arIs_iff {T : List Bool} {k : Int} : arIs T k = true ↔ 0 ≤ k ∧ T[k.toNat]? = some true := by
  unfold arIs
  cases h : T[k.toNat]? with
  | none => simp
  | some b => cases b <;> simp

def Ar.live (a : Ar) : Nat := a.T.length - a.F.length

theorem Ar.Ok.fle {a : Ar} (h : a.Ok) : a.F.length ≤ a.T.length := by rw [← h.cnt]; exact List.count_le_length

def Ar.new (m : Nat) : Ar := ⟨[], [], m⟩
theorem Ar.new_ok {m : Nat} (h : m ≤ 268435456) : (Ar.new m).Ok := ⟨h, by simp [Ar.new], by simp [Ar.new], by simp [Ar.new], by simp [Ar.new]⟩

/-- Take, where one is free. -/
def Ar.pop (a : Ar) (k : Nat) : Ar := ⟨a.T.set k true, a.F.dropLast, a.M⟩
/-- Take, where none is free. -/
def Ar.more (a : Ar) : Ar := ⟨a.T ++ [true], a.F, a.M⟩

theorem Ar.more_ok {a : Ar} (h : a.Ok) (hl : a.T.length < a.M) : a.more.Ok := by
  refine ⟨h.max, by simp [Ar.more]; omega, by simp [Ar.more, h.cnt], h.nd, fun j => ?_⟩
  show (a.T ++ [true])[j]? = some false ↔ j ∈ a.F
  rw [← h.iff j, List.getElem?_append]
  split
  · exact Iff.rfl
  · rename_i hj
    rw [List.getElem?_eq_none (l := a.T) (by omega)]
    rcases Nat.lt_or_ge (j - a.T.length) 1 with h1 | h1
    · have : j - a.T.length = 0 := by omega
      rw [this]; simp
    · rw [List.getElem?_eq_none (by simpa using h1)]

theorem Ar.pop_ok {a : Ar} (h : a.Ok) {k : Nat} (hk : a.F.getLast? = some k) : (a.pop k).Ok := by
  have hne : a.F ≠ [] := by intro e; rw [e] at hk; cases hk
  have hF : a.F = a.F.dropLast ++ [k] := by
    rw [List.getLast?_eq_some_getLast hne] at hk
    injection hk with hk
    rw [← hk, List.dropLast_concat_getLast]
  have hmem : k ∈ a.F := by rw [hF]; simp
  have hf := (h.iff k).2 hmem
  have hlt : k < a.T.length := (List.getElem?_eq_some_iff.1 hf).1
  have hfk : a.T[k] = false := (List.getElem?_eq_some_iff.1 hf).2
  have hnd := h.nd
  rw [hF, List.nodup_append] at hnd
  refine ⟨h.max, by simp [Ar.pop]; exact h.le, ?_, hnd.1, fun j => ?_⟩
  · show (a.T.set k true).count false = a.F.dropLast.length
    rw [List.count_set hlt, hfk, h.cnt, List.length_dropLast]; simp
  · show (a.T.set k true)[j]? = some false ↔ j ∈ a.F.dropLast
    rw [List.getElem?_set]
    have hj := h.iff j
    rw [hF, List.mem_append] at hj
    by_cases e : k = j
    · subst e
      rw [if_pos rfl, if_pos hlt]
      have : k ∉ a.F.dropLast := fun hm => hnd.2.2 k hm k (by simp) rfl
      simp [this]
    · rw [if_neg e, hj]
      have : j ∉ [k] := by simp; exact fun h => e h.symm
      simp [this]

/-- The free ones' numbers are old ones. -/
theorem Ar.Ok.last_lt {a : Ar} (h : a.Ok) {k : Nat} (hk : a.F.getLast? = some k) : k < a.T.length := by
  have hm : k ∈ a.F := List.mem_of_getLast? hk
  exact (List.getElem?_eq_some_iff.1 ((h.iff k).2 hm)).1

/-- Nodes are given back one by one; nothing where one of them is not taken. -/
def clr (T : List Bool) : List Int → Option (List Bool)
  | [] => some T
  | k :: l => if arIs T k = true then clr (T.set k.toNat false) l else none

theorem clr_snoc (T : List Bool) (l : List Int) (k : Int) : clr T (l ++ [k]) = (clr T l).bind fun T' => if arIs T' k = true then some (T'.set k.toNat false) else none := by
  induction l generalizing T with
  | nil => simp [clr]
  | cons x l ih =>
    simp only [List.cons_append, clr]
    split
    · exact ih _
    · rfl

theorem clr_length {T T' : List Bool} {l : List Int} (h : clr T l = some T') : T'.length = T.length := by
  induction l generalizing T with
  | nil => simp [clr] at h; rw [h]
  | cons x l ih =>
    simp only [clr] at h
    split at h
    · rw [ih h]; simp
    · cases h

/-- What was given back is taken again: all is as it was. -/
theorem clr_back {T T' : List Bool} {l : List Int} (h : clr T l = some T') : l.foldl (fun T k => T.set k.toNat true) T' = T := by
  apply List.ext_getElem?
  intro j
  have key : ∀ (l : List Int) (T T' : List Bool), clr T l = some T' → ∀ j : Nat, (l.foldl (fun T k => T.set k.toNat true) T')[j]? = T[j]? := by
    intro l
    induction l with
    | nil => intro T T' h j; simp [clr] at h; rw [h]; rfl
    | cons x l ih =>
      intro T T' h j
      simp only [clr] at h
      split at h
      · rename_i hx
        obtain ⟨hx0, hx1⟩ := arIs_iff.1 hx
        obtain ⟨hlt, hv⟩ := List.getElem?_eq_some_iff.1 hx1
        have comm : ∀ (l : List Int) (U : List Bool) (n : Nat), l.foldl (fun T k => T.set k.toNat true) (U.set n true) = (l.foldl (fun T k => T.set k.toNat true) U).set n true := by
          intro l
          induction l with
          | nil => intro U n; rfl
          | cons y l ih2 =>
            intro U n
            simp only [List.foldl_cons]
            by_cases e : n = y.toNat
            · subst e; rw [ih2]
            · rw [List.set_comm _ _ e, ih2]
        simp only [List.foldl_cons]
        rw [comm, List.getElem?_set, ih _ _ h j]
        have hlen : (l.foldl (fun T k => T.set k.toNat true) T').length = T.length := by
          have : ∀ (l : List Int) (U : List Bool), (l.foldl (fun T k => T.set k.toNat true) U).length = U.length := by
            intro l
            induction l with
            | nil => intro U; rfl
            | cons y l ih3 => intro U; simp only [List.foldl_cons]; rw [ih3]; simp
          rw [this, clr_length h]; simp
        split
        · rename_i e
          subst e
          rw [if_pos (by omega), hx1]
        · rename_i e
          rw [List.getElem?_set, if_neg e]
      · cases h
  exact key l T T' h j

theorem clr_get {T T' : List Bool} {l : List Int} (h : clr T l = some T') : (l.map Int.toNat).Nodup ∧ (∀ k ∈ l, 0 ≤ k ∧ T[k.toNat]? = some true) ∧ T'.count false = T.count false + l.length ∧
    ∀ j, T'[j]? = some false ↔ (T[j]? = some false ∨ j ∈ l.map Int.toNat) := by
  induction l generalizing T with
  | nil => simp [clr] at h; subst h; simp
  | cons x l ih =>
    simp only [clr] at h
    split at h
    · rename_i hx
      obtain ⟨hx0, hx1⟩ := arIs_iff.1 hx
      obtain ⟨hlt, hv⟩ := List.getElem?_eq_some_iff.1 hx1
      obtain ⟨h1, h2, h3, h4⟩ := ih h
      have hnx : x.toNat ∉ l.map Int.toNat := by
        intro hm
        obtain ⟨y, hy, he⟩ := List.mem_map.1 hm
        have := (h2 y hy).2
        rw [he, List.getElem?_set, if_pos rfl, if_pos hlt] at this
        cases this
      refine ⟨List.nodup_cons.2 ⟨hnx, h1⟩, fun k hk => ?_, ?_, fun j => ?_⟩
      · rcases List.mem_cons.1 hk with rfl | hk
        · exact ⟨hx0, hx1⟩
        · obtain ⟨hk0, hk1⟩ := h2 k hk
          refine ⟨hk0, ?_⟩
          rw [List.getElem?_set] at hk1
          split at hk1
          · cases hk1
          · exact hk1
      · rw [h3, List.count_set hlt, hv]; simp; omega
      · rw [h4 j, List.getElem?_set, List.map_cons, List.mem_cons]
        by_cases e : x.toNat = j
        · subst e; rw [if_pos rfl, if_pos hlt]; simp
        · rw [if_neg e]
          have : ¬ j = x.toNat := fun h => e h.symm
          simp [this]
    · cases h

/-- Free, where all are taken. -/
def Ar.push (a : Ar) (T' : List Bool) (l : List Int) : Ar := ⟨T', a.F ++ l.map Int.toNat, a.M⟩

theorem Ar.push_ok {a : Ar} (h : a.Ok) {T' : List Bool} {l : List Int} (hc : clr a.T l = some T') : (a.push T' l).Ok := by
  obtain ⟨h1, h2, h3, h4⟩ := clr_get hc
  refine ⟨h.max, by show T'.length ≤ a.M; rw [clr_length hc]; exact h.le, by show T'.count false = (a.F ++ l.map Int.toNat).length; rw [h3, h.cnt]; simp, ?_, fun j => ?_⟩
  · refine List.nodup_append.2 ⟨h.nd, h1, fun x hx y hy e => ?_⟩
    subst e
    obtain ⟨z, hz, rfl⟩ := List.mem_map.1 hy
    have := (h2 z hz).2
    rw [(h.iff _).2 hx] at this
    cases this
  · show T'[j]? = some false ↔ j ∈ a.F ++ l.map Int.toNat
    rw [h4 j, h.iff j, List.mem_append]

/-- Take: what it answers, and the arena behind it. -/
def Ar.take (a : Ar) : Int × Int × Ar :=
  if a.live = a.M then (-1, 3, a) else match a.F.getLast? with
    | some k => ((k : Int), 0, a.pop k)
    | none => ((a.T.length : Int), 0, a.more)
/-- Free: what it answers, and the arena behind it. -/
def Ar.free (a : Ar) (l : List Int) : Int × Ar := match clr a.T l with
  | some T' => (0, a.push T' l)
  | none => (7, a)

theorem Ar.take_ok {a : Ar} (h : a.Ok) : a.take.2.2.Ok := by
  unfold Ar.take
  split
  · exact h
  · rename_i hl
    split
    · rename_i k hk; exact Ar.pop_ok h hk
    · rename_i hk
      have hF : a.F = [] := List.getLast?_eq_none_iff.1 hk
      refine Ar.more_ok h ?_
      have := h.le
      simp only [Ar.live, hF, List.length_nil] at hl
      omega
theorem Ar.free_ok {a : Ar} (h : a.Ok) (l : List Int) : (a.free l).2.Ok := by
  unfold Ar.free
  split
  · rename_i T' hc; exact Ar.push_ok h hc
  · exact h

end Go.Proofs.Ytilofffnolnokaa
