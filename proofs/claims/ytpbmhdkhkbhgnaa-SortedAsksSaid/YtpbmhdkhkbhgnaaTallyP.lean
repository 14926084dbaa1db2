/- Plain lemmas on tallies, of no program: how many there are of each symbol, below, and in all. -/
import Derived.Below
namespace Go.Proofs.Ytpbmhdkhkbhgnaa
set_option linter.unusedVariables false
set_option linter.unusedSimpArgs false

/-- A tally: how many there are of each symbol, and in all. -/
structure Tl where
  N : Nat → Int
  all : Int

/-- How many lesser ones there are. -/
def bl (N : Nat → Int) : Nat → Int
  | 0 => 0
  | k + 1 => bl N k + N k

structure Tl.Ok (t : Tl) : Prop where
  pos : ∀ s, s < 257 → 0 ≤ t.N s
  sum : bl t.N 257 = t.all
  max : t.all ≤ 2147483648

theorem bl_mono {N : Nat → Int} (h : ∀ s, s < 257 → 0 ≤ N s) {a b : Nat} (hab : a ≤ b) (hb : b ≤ 257) : bl N a ≤ bl N b := by
  induction b with
  | zero => have : a = 0 := by omega
            subst this; exact Int.le_refl _
  | succ b ih =>
    by_cases e : a = b + 1
    · subst e; exact Int.le_refl _
    · have := ih (by omega) (by omega)
      have := h b (by omega)
      simp only [bl]; omega

theorem bl_pos {N : Nat → Int} (h : ∀ s, s < 257 → 0 ≤ N s) {b : Nat} (hb : b ≤ 257) : 0 ≤ bl N b := by
  have := bl_mono h (Nat.zero_le b) hb
  simpa [bl] using this

def upd (N : Nat → Int) (s : Nat) (v : Int) : Nat → Int := fun x => if x = s then v else N x

theorem bl_upd (N : Nat → Int) (s : Nat) (v : Int) (k : Nat) : bl (upd N s v) k = bl N k + (if s < k then v - N s else 0) := by
  induction k with
  | zero => simp [bl]
  | succ k ih =>
    simp only [bl, ih, upd]
    by_cases e : k = s
    · subst e
      rw [if_pos rfl, if_neg (by omega), if_pos (by omega)]; omega
    · rw [if_neg e]
      by_cases h : s < k
      · rw [if_pos h, if_pos (by omega)]; omega
      · rw [if_neg h, if_neg (by omega)]; omega

/-- Add, where it counts. -/
def Tl.add (t : Tl) (s : Nat) (n : Int) : Tl := ⟨upd t.N s (t.N s + n), t.all + n⟩

theorem Tl.add_ok {t : Tl} (h : t.Ok) {s : Nat} (hs : s < 257) {n : Int} (h1 : -t.N s ≤ n) (h2 : n ≤ 2147483648 - t.all) : (t.add s n).Ok := by
  refine ⟨fun x hx => ?_, ?_, ?_⟩
  · show 0 ≤ upd t.N s (t.N s + n) x
    unfold upd
    split
    · omega
    · exact h.pos x hx
  · show bl (upd t.N s (t.N s + n)) 257 = t.all + n
    rw [bl_upd, if_pos hs, h.sum]; omega
  · show t.all + n ≤ 2147483648
    omega

def Tl.zero : Tl := ⟨fun _ => 0, 0⟩
theorem bl_zero (k : Nat) : bl (fun _ => 0) k = 0 := by
  induction k with
  | zero => rfl
  | succ k ih => simp [bl, ih]
theorem Tl.zero_ok : Tl.zero.Ok := ⟨fun _ _ => Int.le_refl _, bl_zero 257, by show (0 : Int) ≤ _; omega⟩

/-- Of no tally there is more than of all. -/
theorem Tl.Ok.le {t : Tl} (h : t.Ok) {s : Nat} (hs : s < 257) : t.N s ≤ t.all := by
  have h1 := bl_mono h.pos (show s + 1 ≤ 257 by omega) (Nat.le_refl _)
  have h2 := bl_pos h.pos (show s ≤ 257 by omega)
  have h3 : bl t.N (s + 1) = bl t.N s + t.N s := rfl
  rw [h.sum] at h1
  omega

theorem Tl.Ok.all_pos {t : Tl} (h : t.Ok) : 0 ≤ t.all := by
  have := bl_pos h.pos (Nat.le_refl 257); rw [h.sum] at this; exact this

/-- How far a number goes among the symbols. -/
def clamp (s : Int) : Nat := (min (max s 0) 257).toNat
theorem clamp_le (s : Int) : clamp s ≤ 257 := by unfold clamp; omega

/-- What stands at a place. -/
def IsWhich (t : Tl) (k r : Int) : Prop :=
  ((k < 0 ∨ t.all ≤ k) → r = -1) ∧ ((0 ≤ k ∧ k < t.all) → ∃ s : Nat, s < 257 ∧ r = s ∧ bl t.N s ≤ k ∧ k < bl t.N (s + 1))

theorem IsWhich.unique {t : Tl} (h : t.Ok) {k r r' : Int} (h1 : IsWhich t k r) (h2 : IsWhich t k r') : r = r' := by
  by_cases hk : 0 ≤ k ∧ k < t.all
  · obtain ⟨s, hs, rfl, a1, a2⟩ := h1.2 hk
    obtain ⟨s', hs', rfl, b1, b2⟩ := h2.2 hk
    have e : s = s' := by
      rcases Nat.lt_trichotomy s s' with hl | he | hg
      · have := bl_mono h.pos (show s + 1 ≤ s' by omega) (by omega); omega
      · exact he
      · have := bl_mono h.pos (show s' + 1 ≤ s by omega) (by omega); omega
    rw [e]
  · have h3 : k < 0 ∨ t.all ≤ k := by omega
    rw [h1.1 h3, h2.1 h3]

/-- How many of a list are a symbol. -/
def cnt (l : List Int) (s : Int) : Nat := l.countP (· == s)
/-- The tally of a list of symbols. -/
def Tl.of (l : List Int) : Tl := ⟨fun s => (cnt l s : Int), l.length⟩

theorem cnt_snoc (l : List Int) (x s : Int) : cnt (l ++ [x]) s = cnt l s + (if x = s then 1 else 0) := by
  unfold cnt
  rw [List.countP_append]
  simp only [List.countP_cons, List.countP_nil, beq_iff_eq]
  split <;> simp

theorem Tl.of_snoc (l : List Int) (s : Nat) : Tl.of (l ++ [(s : Int)]) = (Tl.of l).add s 1 := by
  unfold Tl.of Tl.add
  congr 1
  · funext x
    show ((cnt (l ++ [(s : Int)]) (x : Int) : Nat) : Int) = upd _ s _ x
    rw [cnt_snoc]
    unfold upd
    by_cases e : x = s
    · subst e; simp
    · rw [if_neg (by omega), if_neg e]; simp
  · simp

theorem Tl.of_ok {l : List Int} (h : ∀ x ∈ l, 0 ≤ x ∧ x < 257) (hl : l.length ≤ 2147483648) : (Tl.of l).Ok := by
  have key : ∀ (n : Nat), n ≤ l.length → (Tl.of (l.take n)).Ok := by
    intro n
    induction n with
    | zero => intro _; exact Tl.zero_ok
    | succ n ih =>
      intro hn
      have h1 := ih (by omega)
      have hx := h l[n] (List.getElem_mem _)
      have e : l.take (n + 1) = l.take n ++ [(l[n].toNat : Int)] := by
        rw [List.take_succ_eq_append_getElem (by omega), Int.toNat_of_nonneg hx.1]
      rw [e, Tl.of_snoc]
      refine Tl.add_ok h1 (by omega) ?_ ?_
      · have := h1.pos l[n].toNat (by omega); omega
      · show (1 : Int) ≤ 2147483648 - ((l.take n).length : Int)
        rw [List.length_take]; omega
  have := key l.length (Nat.le_refl _)
  rwa [List.take_length] at this

end Go.Proofs.Ytpbmhdkhkbhgnaa
