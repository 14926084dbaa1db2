/- Lemmas and contracts under the claims of this seat: The contracts of sorted.Last and sorted.Same. Plain lemmas for the way back: rows stay in range, what was seen, the tally's sums. Contracts of package tally. Contracts of package tally: Add. The contract of sorted.Back. scrimshawlaw6.told answers true and turns nothing that was there. Plain lemmas on symbols' bits and paths; small helpers for the laws on them. Contracts of the document's answer for symbols: Is, Bit, Path, Syms, Same. What a walk is told of the arguments that came in: rows of integers and of bools. Lemmas for the walk of SymAsks. The laws' helpers of layer 9: Text, told; contracts for rows of the call's own. More helpers for the laws of layer 9: rows as numbers, late rows, literals of the call's own. slices.Insert onto an own row of numbers; cells written one after the other. The closures of package perm that only read. Plain lemmas on arenas, of no program: which nodes are taken, which are free. Contracts of package arena: New, Take, Free, Is, Live, Made. Contracts of arena.Take. -/
import Derived.Test.YtpbmhdkhkbhgnaaZp2
import Derived.Test.YtpbmhdkhkbhgnaaZp1
import Derived.Deep.MidRow
import Derived.Lib.SlBytesConst
import Derived.OpenShut
import Derived.Laws.BytesArg
import Derived.Deep.QuietTactic
import Derived.BigQuiet
import Derived.ProofKit
import Derived.ShutString
import Derived.ChangeOld
import Derived.Below
import Derived.Test.YtpbmhdkhkbhgnaaShelf
import Derived.Test.YtpbmhdkhkbhgnaaShelfP
import Derived.Shelf.Spec.SlicesInsert
import Derived.Shelf.Spec.SlicesInsertGrow
import Derived.Lib.SlBy

namespace Go.Proofs.Ytpbmhdkhkbhgnaa
set_option linter.unusedVariables false
set_option linter.unusedSimpArgs false
open Go.RowKit

/-- What is returned is a row of numbers of the call's own. -/
def GivesI (B : Nat) (w : World) (m : List Int) (e : Ending) (w' : World) : Prop := ∃ v, e = .returned v ∧ w'.ownsRow B 3 1 v m.length (m.map (Value.int .i64)) ∧ Below B w w'
/-- The transform of a text. -/
def LastPost (B : Nat) (w : World) (t : List Int) (e : Ending) (w' : World) : Prop := ∃ m, IsLast t m ∧ GivesI B w m e w'

/-- 'make([]int, 0, n)' -/
theorem make_cap (n : Nat) (h : n ≤ 1000000000) (w : World) : (Instr.makeSlice 22 (.int .i64 0) (.int .i64 (n : Int))).run Try.prog w = .ok (.slice (some ⟨w.heap.size, 0, none⟩) 0 n) (w.alloc (.cells (vecL (fun _ => .int .i64 0) n).toArray 3)) := by
  obtain ⟨i, hi, hiz, hsz, hby⟩ := info_parts Try.infoIntG
  have h2 := run_make (P := Try.prog) w 22 3 i (.int .i64 0) Try.underlying22 hi hiz .i64 .i64 0 (n : Int) (by omega) (by omega) (by rw [hby]; omega) (by omega)
  rw [h2, hsz, Int.toNat_natCast, Nat.mul_one]
  show Result.ok (Value.slice _ (0 : Int).toNat n) (w.alloc (.cells (madeCells #[.int .i64 0] n) 3)) = _
  rw [madeCells_oneG]; rfl
theorem own_cap {w : World} {q n base : Nat} {f : Nat → Value} {e : TypeId} (h : w.heap[q]? = some (.cells (vecL f n).toArray e (0, 0))) (hb : base ≤ q) (hn : n ≤ maxLen) : w.ownsRow base e 1 (.slice (some ⟨q, 0, none⟩) 0 n) 0 [] :=
  ⟨rfl, .inr ⟨q, n, (vecL f n).toArray, rfl, hb, h, Nat.zero_le _, hn, by simp [vecL_len], by simp⟩⟩

set_option maxHeartbeats 1600000 in
theorem last_any (a : Option Addr) (c : Nat) (t : List Int) (w : World) (hr : Reads w .u8 a t) (hb : Bytes t) (hl : t.length ≤ 1000000) :
    Calls Try.prog 24 #[.slice a t.length c] w (LastPost w.heap.size w t) := by
  have HR := Lib.hid hr
  have hls : (symsT t).length = t.length + 1 := symsT_len t
  have HLS := Lib.hid hls
  clear hls
  go_enter Try.func24, Try.ntmps24
  go_wp2_with fail
  have hb0 := below_al w (.cells #[.slice a t.length c] 23)
  refine (symAll1 w.heap.size 1 a c t _ (by simp) (by simp) (hr.below hb0) hb (by omega)).mono ?_
  rintro e w1 ⟨v, rfl, hown, hb1⟩
  obtain ⟨g0, cap0, rfl, hg1, hg2, _, _, hcell, _⟩ := own_some hown (by omega)
  have hbw : Below w.heap.size w w1 := hb0.trans (hb1.mono (by simp))
  have hrc : ∀ j, j < t.length + 1 → w1.cell? ⟨g0, j, none⟩ = some (.int .i64 (sy (symsT t) j)) := by
    intro j hj
    rw [hcell j hj]
    have e : t.map symV ++ [.int .i64 0] = (symsT t).map (Value.int .i64) := by simp [symsT, symV, Function.comp]
    rw [e, List.getElem?_map, List.getElem?_eq_getElem (by have := HLS.out; omega), sy_in (by have := HLS.out; omega)]; rfl
  have HRC : Hid (∀ W, Below w1.heap.size w1 W → ∀ j, j < t.length + 1 → W.cell? ⟨g0, j, none⟩ = some (.int .i64 (sy (symsT t) j))) := fun W hW j hj => (hW.cell (p := ⟨g0, j, none⟩) hg2).trans (hrc j hj)
  have HBW := Lib.hid hbw
  have hgb : g0 < w1.heap.size := hg2
  clear hown hcell hb0 hb1 hg1 hg2 hrc hr hbw
  obtain ⟨n, hn⟩ : ∃ n, t.length + 1 = n := ⟨_, rfl⟩
  have hn0 : 0 < n := by omega
  have hnm : n ≤ 1000001 := by omega
  have hmk := make_cap n (by omega)
  rw [hn] at HRC HLS ⊢
  have HN := Lib.hid hn
  clear hn
  go_wp2_with fail
  have hown : (w1.alloc (.cells (vecL (fun _ => .int .i64 0) n).toArray 3)).ownsRow w.heap.size 3 1 (.slice (some ⟨w1.heap.size, 0, none⟩) 0 n) 0 [] := own_cap (heap_alloc_new w1 _) HBW.out.size (by unfold maxLen; omega)
  have hbw2 := HBW.out.alloc HBW.out.size (.cells (vecL (fun _ => .int .i64 0) n).toArray 3)
  have HRC2 : Hid (∀ W, Below (w1.alloc (.cells (vecL (fun _ => .int .i64 0) n).toArray 3)).heap.size (w1.alloc (.cells (vecL (fun _ => .int .i64 0) n).toArray 3)) W → ∀ j, j < n → W.cell? ⟨g0, j, none⟩ = some (.int .i64 (sy (symsT t) j))) :=
    fun W hW => HRC.out W ((below_al w1 _).trans (hW.mono (by simp)))
  generalize w1.alloc (.cells (vecL (fun _ => .int .i64 0) n).toArray 3) = w2 at *
  generalize w1.heap.size = q0 at *
  have HO := Lib.hid hown
  have HB2 := Lib.hid hbw2
  have hs2 := hbw2.size
  have hq2 : q0 < w2.heap.size := (own_lt hown (k := q0) rfl).2
  have hrd : Reads w2 .u8 a t := by
    intro i hi
    obtain ⟨b, off, h1, h2, h3⟩ := HR.out i hi
    exact ⟨b, off, h1, by omega, fun j hj => (hbw2.cell (p := ⟨b, off + j, none⟩) h2).trans (h3 j hj)⟩
  clear hown hbw2
  refine (rows_any a c t w2 hrd hb hl).mono ?_
  rintro e w3 ⟨r, hrw, v, rfl, hown, hb3⟩
  have hrl : r.length = n := by rw [hrw.len]; exact HLS.out
  rw [hrl] at hown
  obtain ⟨g3, cap3, rfl, hg3a, hg3b, _, _, hc3, _⟩ := own_some hown hn0
  have h23 := hb3.size
  have HO3 := Lib.hid (own_below HO.out hb3 (fun k hk => (own_lt HO.out hk).2))
  have HB3 := Lib.hid (HB2.out.trans (hb3.mono hs2))
  have HC3 : Hid (∀ W, Below w3.heap.size w3 W → ∀ j, j < n → W.cell? ⟨g3, j, none⟩ = some (.int .i64 ((r[j]?.getD 0 : Nat) : Int)) ∧ W.cell? ⟨g0, (r[j]?.getD 0 + n - 1) % n, none⟩ = some (.int .i64 (sy (symsT t) ((r[j]?.getD 0 + n - 1) % n)))) := by
    intro W hW j hj
    refine ⟨(hW.cell (p := ⟨g3, j, none⟩) hg3b).trans ?_, HRC2.out W (hb3.trans (hW.mono hb3.size)) _ (Nat.mod_lt _ hn0)⟩
    rw [hc3 j hj, List.getElem?_map, List.getElem?_eq_getElem (by omega)]
    rfl
  have HLM : Hid (∀ k, k < n → (lastL (symsT t) r)[k]? = some (sy (symsT t) ((r[k]?.getD 0 + n - 1) % n))) := by
    intro k hk
    have h1 := HLS.out
    unfold lastL
    rw [List.getElem?_map, List.getElem?_eq_getElem (show k < r.length by omega), h1]
    simp
  have HIS : Hid (IsLast t (lastL (symsT t) r)) := ⟨byteL_of hb, r, hrw, rfl⟩
  have hml : (lastL (symsT t) r).length = n := by rw [lastL_len]; exact hrl
  have HML := Lib.hid hml
  have hrlt : ∀ k, k < n → r[k]?.getD 0 < n := by
    intro k hk
    have h1 : k < r.length := by omega
    have h2 := hrw.lt h1
    have h3 := HLS.out
    rw [getD_eq h1]; omega
  have HRL := Lib.hid hrlt
  clear hown hb3 hrw hc3 hrl hml hrlt HRC HRC2 HO hrd hb HBW HB2
  generalize lastL (symsT t) r = m at *
  go_wp2_with fail
  go_loopw [4, 16] (fun v i wr => ∃ k : Nat, k ≤ n ∧ i = .int .i64 k ∧ wr.ownsRow w.heap.size 3 1 v k ((m.take k).map (Value.int .i64)) ∧ Below w.heap.size w wr ∧ (∀ q, v.ownBlock = some q → q ≠ g3 ∧ q ≠ g0) ∧ g3 < wr.heap.size ∧ g0 < wr.heap.size ∧ ∀ j, j < n → wr.cell? ⟨g3, j, none⟩ = some (.int .i64 ((r[j]?.getD 0 : Nat) : Int)) ∧ wr.cell? ⟨g0, (r[j]?.getD 0 + n - 1) % n, none⟩ = some (.int .i64 (sy (symsT t) ((r[j]?.getD 0 + n - 1) % n)))) (fun _ i _ => n - (intOf i).toNat)
  case atStart => exact ⟨0, Nat.zero_le _, rfl, by simpa using HO3.out, HB3.out, (fun q hq => by simp [Value.ownBlock] at hq; omega), hg3b, by omega, HC3.out w3 (Below.refl _ _)⟩
  case round =>
    obtain ⟨k, hk, rfl, hown, hbw, hqs, hz1, hz2, hcs⟩ := hrel
    have hs := hbw.size
    by_cases hlt : k < n
    · obtain ⟨c1, c2⟩ := hcs k hlt
      have HCS := Lib.hid hcs
      have hx := HRL.out k hlt
      have hm := HLM.out k hlt
      have htk : m.take (k + 1) = m.take k ++ [sy (symsT t) ((r[k]?.getD 0 + n - 1) % n)] := by
        rw [List.take_add_one, hm]; rfl
      have HTK := Lib.hid htk
      clear hcs htk hm
      generalize r[k]?.getD 0 = x at *
      generalize hu : (x + n - 1) % n = u at *
      have hu2 : (((x : Int) + (n : Int) - 1) % (n : Int)) = (u : Int) := by
        have e : ((x + n - 1 : Nat) : Int) = (x : Int) + (n : Int) - 1 := by omega
        rw [← hu, ← e]; rfl
      have hun : u < n := by rw [← hu]; exact Nat.mod_lt _ hn0
      have HU := Lib.hid hu
      clear hu
      generalize sy (symsT t) u = y at *
      obtain ⟨a4, c4, rfl, _, _⟩ := own_slice hown
      have HQ := Lib.hid hqs
      have HOW := Lib.hid hown
      clear hqs
      go_wp2_with (at_builtin; refine wpList_pushL rfl _ _ 22 rfl w.heap.size 3 Try.infoIntG Try.underlying22 rfl _ _ _ rfl hown rfl rfl ?c1 ?c2 ?c3 ?_)
      case c1 => unfold maxLen; omega
      case c2 => omega
      case c3 => omega
      intro g cap w5 hown' hgrow hor hgl
      have hch : Below w.heap.size w w5 := hbw.grown hgrow hs (fun j hj => (HOW.out.lt j hj).1)
      have hcg : Chg (fun b => (Value.slice a4 k c4).ownBlock = some b) wr w5 := (Chg.refl (S := fun b => (Value.slice a4 k c4).ownBlock = some b)).grown hgrow (fun k hk => Or.inl hk)
      have HO5 : Hid (w5.ownsRow w.heap.size 3 1 (.slice (some ⟨g, 0, none⟩) (k + 1) cap) (k + 1) ((m.take (k + 1)).map (Value.int .i64))) := by
        show w5.ownsRow _ _ _ _ _ _
        rw [HTK.out, List.map_append, List.map_take]; exact hown'
      have HCH := Lib.hid hch
      have HC5 : Hid (∀ j, j < n → w5.cell? ⟨g3, j, none⟩ = some (.int .i64 ((r[j]?.getD 0 : Nat) : Int)) ∧ w5.cell? ⟨g0, (r[j]?.getD 0 + n - 1) % n, none⟩ = some (.int .i64 (sy (symsT t) ((r[j]?.getD 0 + n - 1) % n)))) := by
        intro j hj
        obtain ⟨k1, k2⟩ := HCS.out j hj
        exact ⟨hcg.cell k1 (fun e => (HQ.out _ e).1 rfl), hcg.cell k2 (fun e => (HQ.out _ e).2 rfl)⟩
      have HQ5 : Hid (g ≠ g3 ∧ g ≠ g0) := by
        rcases hor with e | e
        · exact HQ.out g e
        · exact ⟨by omega, by omega⟩
      have hsz := hcg.size
      clear hown hown' hgrow hor hch hcg
      go_wp2_with fail
      go_roundw
      case rel => exact ⟨k + 1, by omega, by go_num, HO5.out, HCH.out, (fun q hq => by simp [Value.ownBlock] at hq; rw [← hq]; exact HQ5.out), by omega, by omega, HC5.out⟩
      case measure => simp [intOf]; omega
    · obtain rfl : k = n := by omega
      rw [List.take_of_length_le (by rw [HML.out]; exact Nat.le_refl _)] at hown
      go_wp2_with fail
      go_ret
      exact ⟨m, HIS.out, _, rfl, by rw [HML.out]; exact hown, hbw⟩

/-- Two lists of numbers are one. -/
theorem same_ints (a b : Option Addr) (n k c d : Nat) (xs ys : List Int) (w : World) (hx : Reads w .i64 a xs) (hy : Reads w .i64 b ys) (hn : n = xs.length) (hk : k = ys.length) (hm : xs.length ≤ 1000000000) (hm2 : ys.length ≤ 1000000000) :
    Calls Try.prog 19 #[.slice a n c, .slice b k d] w fun e w' => e = .returned (.bool (decide (xs = ys))) ∧ ∃ q, w' = w.drewN q := by
  subst hn; subst hk
  have hE : Calls Try.prog 58 #[.slice a xs.length c, .slice b ys.length d] w fun e w' => e = .returned (.bool (decide (xs = ys))) ∧ ∃ q, w' = w.drewN q := by
    by_cases h0 : xs.length = 0
    · have e0 : xs = [] := List.eq_nil_of_length_eq_zero h0
      subst e0
      refine (Try.slices_Equal_int_empty a b c ys.length d w (by omega)).mono ?_
      rintro e w' ⟨rfl, rfl⟩
      refine ⟨ret_bool ?_, 0, rfl⟩
      cases ys <;> simp
    · by_cases hl : xs.length = ys.length
      · obtain ⟨b0, o0, rfl, _, hc0⟩ := hx.some (by omega)
        obtain ⟨b1, o1, rfl, _, hc1⟩ := hy.some (by omega)
        refine (Try.slices_Equal_int b0 o0 xs.length c b1 o1 ys.length d xs ys w (Nat.le_refl _) (Nat.le_refl _) (by omega) (by omega) (fun j hj => ?_) (fun j hj => ?_)).mono ?_
        · rw [hc0 j hj]; simp
        · rw [hc1 j hj]; simp
        · rintro e w' ⟨rfl, q, rfl⟩
          refine ⟨ret_bool ?_, q, rfl⟩
          rw [List.take_length, List.take_length]
          by_cases e : xs = ys <;> simp [e]
      · refine (Try.slices_Equal_int_lens a b xs.length c ys.length d w hl).mono ?_
        rintro e w' ⟨rfl, rfl⟩
        exact ⟨ret_bool (decide_eq_false (fun e => hl (by rw [e]))).symm, 0, rfl⟩
  generalize decide (xs = ys) = r at *
  go_enter Try.func19, Try.ntmps19
  go_wp2_with (go_at_call 58; refine hE.mono ?_; rintro e w' ⟨rfl, q, rfl⟩)
  go_ret
  exact ⟨rfl, q, rfl⟩

end Go.Proofs.Ytpbmhdkhkbhgnaa

namespace Go.Proofs.Ytpbmhdkhkbhgnaa
set_option linter.unusedVariables false
set_option linter.unusedSimpArgs false

theorem cnt_take_lt {m : List Int} {row : Nat} (h : row < m.length) : cnt (m.take row) (sy m row) < cnt m (sy m row) := by
  have e : m = m.take row ++ m[row] :: m.drop (row + 1) := by
    rw [List.getElem_cons_drop, List.take_append_drop]
  have e2 : cnt m (sy m row) = cnt (m.take row) (sy m row) + cnt (m[row] :: m.drop (row + 1)) (sy m row) := by
    conv => lhs; rw [show cnt m (sy m row) = cnt (m.take row ++ m[row] :: m.drop (row + 1)) (sy m row) by rw [← e]]
    unfold cnt; rw [List.countP_append]
  have e3 : 0 < cnt (m[row] :: m.drop (row + 1)) (sy m row) := by
    unfold cnt
    rw [List.countP_cons, sy_in h]; simp
  omega
theorem below_cnt_le (m : List Int) (s : Int) : belowL m s + cnt m s ≤ m.length := by
  unfold belowL cnt
  induction m with
  | nil => simp
  | cons x m ih =>
    rw [List.countP_cons, List.countP_cons, List.length_cons]
    by_cases h1 : x < s
    · have : ¬ x = s := by omega
      simp [h1, this]; omega
    · by_cases h2 : x = s
      · subst h2; simp; omega
      · simp [h1, h2]; omega
theorem lfL_lt {m : List Int} {row : Nat} (h : row < m.length) : lfL m row < m.length := by
  have := cnt_take_lt h
  have := below_cnt_le m (sy m row)
  unfold lfL; omega
theorem chain_lt {m : List Int} (h : 0 < m.length) : ∀ k, chain m k < m.length
  | 0 => h
  | k + 1 => lfL_lt (chain_lt h k)

theorem belowL_succ {m : List Int} {s : Nat} : belowL m ((s + 1 : Nat) : Int) = belowL m (s : Int) + cnt m (s : Int) := by
  unfold belowL cnt
  refine countP_or' (fun x _ => ?_) (fun x _ => ?_)
  · by_cases h1 : x < (s : Int)
    · simp [h1]; omega
    · by_cases h2 : x = (s : Int)
      · subst h2; simp; omega
      · have : ¬ x < ((s + 1 : Nat) : Int) := by omega
        simp only [h1, h2, this, beq_iff_eq, decide_false, Bool.or_false]
        simp [h2]
  · simp; omega
theorem belowL_bl {m : List Int} (hm : ∀ x ∈ m, 0 ≤ x) : ∀ s : Nat, bl (Tl.of m).N s = (belowL m (s : Int) : Int)
  | 0 => by
    have : belowL m ((0 : Nat) : Int) = 0 := by
      unfold belowL
      rw [List.countP_eq_zero]
      intro x hx
      have := hm x hx
      simp; omega
    rw [this]; rfl
  | s + 1 => by
    rw [belowL_succ]
    show bl (Tl.of m).N s + (Tl.of m).N s = _
    rw [belowL_bl hm s]
    show _ + ((cnt m (s : Int) : Nat) : Int) = _
    omega

/-- How often a row was met. -/
def seenC (m : List Int) (j i : Nat) : Nat := (List.range j).countP fun x => chain m x == i
theorem seenC_succ (m : List Int) (j i : Nat) : seenC m (j + 1) i = seenC m j i + (if chain m j = i then 1 else 0) := by
  unfold seenC
  rw [List.range_succ, List.countP_append, List.countP_singleton]
  simp
theorem seenC_pos {m : List Int} {j i : Nat} (h : 0 < seenC m j i) : ∃ x, x < j ∧ chain m x = i := by
  unfold seenC at h
  obtain ⟨x, hx, he⟩ := List.countP_pos_iff.1 h
  exact ⟨x, List.mem_range.1 hx, by simpa using he⟩
theorem seenC_le (m : List Int) (j i : Nat) : seenC m j i ≤ j := by
  unfold seenC
  have := List.countP_le_length (p := fun x => chain m x == i) (l := List.range j)
  simpa using this

/-- The text that the way back tells. -/
def textOf (m : List Int) : List Int := (List.range (m.length - 1)).map fun i => sy m (chain m (m.length - 2 - i)) - 1
theorem textOf_len (m : List Int) : (textOf m).length = m.length - 1 := by simp [textOf]
theorem textOf_get {m : List Int} {i : Nat} (h : i < m.length - 1) : (textOf m)[i]? = some (sy m (chain m (m.length - 2 - i)) - 1) := by simp [textOf, h]
theorem IsLast.text {t m : List Int} (h : IsLast t m) : t = textOf m := by
  have hl := h.len
  apply List.ext_getElem
  · rw [textOf_len]; omega
  · intro i h1 h2
    have e := h.sym (k := t.length - 1 - i) (by omega)
    have h3 := textOf_get (m := m) (i := i) (by omega)
    rw [List.getElem?_eq_getElem h2] at h3
    injection h3 with h3
    rw [h3, show m.length - 2 - i = t.length - 1 - i by omega, e]
    have : t.length - 1 - (t.length - 1 - i) = i := by omega
    simp only [this]; omega

theorem first_bad {α : Type} {P : α → Prop} : ∀ {l : List α}, ¬ (∀ x ∈ l, P x) → ∃ k, ∃ hk : k < l.length, (∀ i (hi : i < k), P (l[i]'(by omega))) ∧ ¬ P l[k]
  | [], h => absurd (fun x hx => by cases hx) h
  | a :: l, h => by
    by_cases ha : P a
    · have : ¬ ∀ x ∈ l, P x := fun hl => h (fun x hx => by
        rcases List.mem_cons.1 hx with rfl | hx
        · exact ha
        · exact hl x hx)
      obtain ⟨k, hk, h1, h2⟩ := first_bad this
      refine ⟨k + 1, by simpa using hk, fun i hi => ?_, by simpa using h2⟩
      cases i with
      | zero => exact ha
      | succ i => simpa using h1 i (by omega)
    · exact ⟨0, by simp, fun i hi => by omega, ha⟩

end Go.Proofs.Ytpbmhdkhkbhgnaa

namespace Go.Proofs.Ytpbmhdkhkbhgnaa
set_option linter.unusedVariables false
set_option linter.unusedSimpArgs false
open Go.RowKit

/-- A tally's counts, as cells. -/
def ofV (N : Nat → Int) : List Value := (List.range 257).map fun s => Value.int .i64 (N s)
/-- A tally's cells. -/
def tlV (t : Tl) : Array Value := (ofV t.N ++ [Value.int .i64 t.all]).toArray

theorem ofV_len (N : Nat → Int) : (ofV N).length = 257 := by simp [ofV]
theorem ofV_get (N : Nat → Int) {s : Nat} (h : s < 257) : (ofV N)[s]? = some (.int .i64 (N s)) := by simp [ofV, h]
theorem tlV_get (t : Tl) {s : Nat} (h : s < 257) : (tlV t)[s]? = some (.int .i64 (t.N s)) := by
  unfold tlV
  rw [List.getElem?_toArray, List.getElem?_append_left (by rw [ofV_len]; exact h), ofV_get _ h]
theorem tlV_all (t : Tl) : (tlV t)[257]? = some (.int .i64 t.all) := by
  unfold tlV
  rw [List.getElem?_toArray, List.getElem?_append_right (by rw [ofV_len]; omega), ofV_len]; rfl
theorem ofV_set (N : Nat → Int) {s : Nat} (h : s < 257) (v : Int) : (ofV N).set s (.int .i64 v) = ofV (upd N s v) := by
  apply List.ext_getElem?
  intro j
  rw [List.getElem?_set, ofV_len]
  by_cases e : s = j
  · subst e; rw [if_pos rfl, if_pos h, ofV_get _ h]; simp [upd]
  · rw [if_neg e]
    by_cases hj : j < 257
    · have e2 : ¬ j = s := fun h => e h.symm
      rw [ofV_get _ hj, ofV_get _ hj]; simp [upd, e2]
    · rw [List.getElem?_eq_none (by rw [ofV_len]; omega), List.getElem?_eq_none (by rw [ofV_len]; omega)]
theorem tlV_add (t : Tl) {s : Nat} (h : s < 257) (n : Int) : ((tlV t).setIfInBounds s (.int .i64 (t.N s + n))).setIfInBounds 257 (.int .i64 (t.all + n)) = tlV (t.add s n) := by
  unfold tlV
  rw [List.setIfInBounds_toArray, List.setIfInBounds_toArray, List.set_append, if_pos (by rw [ofV_len]; exact h), ofV_set _ h, List.set_append, if_neg (by rw [ofV_len]; omega), ofV_len, Nat.sub_self, List.set_cons_zero]
  unfold Tl.add
  rfl

theorem tzero (w : World) : (zeroValue 97).run Try.prog w = .ok (.agg (tlV Tl.zero)) w := by kernel_rfl

/-- Block p holds a tally. -/
structure IsTally (w : World) (p : Nat) (t : Tl) : Prop where
  ok : t.Ok
  at_ : w.heap[p]? = some (.cells (tlV t) 97 (0, 0))

theorem IsTally.chg {w w' : World} {p : Nat} {S : Nat → Prop} {t : Tl} (h : IsTally w p t) (hc : Chg S w w') (hS : ¬ S p) : IsTally w' p t := ⟨h.ok, hc.heap h.at_ hS⟩
theorem IsTally.lt {w : World} {p : Nat} {t : Tl} (h : IsTally w p t) : p < w.heap.size := (Array.getElem?_eq_some_iff.1 h.at_).1

/-- How many there are of a symbol. -/
def tOf (t : Tl) (s : Int) : Int := if 0 ≤ s ∧ s < 257 then t.N s.toNat else 0

theorem tOf_any {w : World} {p : Nat} {t : Tl} (h : IsTally w p t) (s : Int) : Calls Try.prog 60 #[.pointer (some ⟨p, 0, none⟩), .int .i64 s] w fun e w' => e = .returned (.int .i64 (tOf t s)) ∧ w = w' := by
  by_cases hs : 0 ≤ s ∧ s < 257
  · have HR : Hid (t.N s.toNat = tOf t s) := (if_pos hs).symm
    have e : symIs s = true := symIs_true hs.1 hs.2
    obtain ⟨hs0, hs1⟩ := hs
    have hc : w.cell? ⟨p, s.toNat, none⟩ = some (.int .i64 (t.N s.toNat)) := by rw [cell_of_row w p s.toNat _ _ _ h.at_, tlV_get t (by omega)]
    go_enter Try.func60, Try.ntmps60
    go_wp2_with (go_at_call 90; refine (symIs_any _ _).mono ?_; rintro e w' ⟨rfl, rfl⟩)
    go_ret
    exact ⟨ret_int HR.out, rfl⟩
  · have HR : Hid (0 = tOf t s) := (if_neg hs).symm
    have e : symIs s = false := symIs_false hs
    go_enter Try.func60, Try.ntmps60
    go_wp2_with (go_at_call 90; refine (symIs_any _ _).mono ?_; rintro e w' ⟨rfl, rfl⟩)
    go_ret
    exact ⟨ret_int HR.out, rfl⟩

end Go.Proofs.Ytpbmhdkhkbhgnaa

namespace Go.Proofs.Ytpbmhdkhkbhgnaa
set_option linter.unusedVariables false
set_option linter.unusedSimpArgs false
open Go.RowKit

theorem tAdd_nil (s n : Int) (w : World) : Calls Try.prog 89 #[.pointer none, .int .i64 s, .int .i64 n] w fun e w' => e = .returned (.int .i64 6) ∧ w = w' := by
  go_enter Try.func89, Try.ntmps89
  go_wp2
  go_ret
  exact ⟨rfl, rfl⟩

theorem tAdd_bad {w : World} {p : Nat} {s n : Int} (hs : ¬ (0 ≤ s ∧ s < 257)) : Calls Try.prog 89 #[.pointer (some ⟨p, 0, none⟩), .int .i64 s, .int .i64 n] w fun e w' => e = .returned (.int .i64 1) ∧ w = w' := by
  have e : symIs s = false := symIs_false hs
  go_enter Try.func89, Try.ntmps89
  go_wp2_with (go_at_call 90; refine (symIs_any _ _).mono ?_; rintro e w' ⟨rfl, rfl⟩)
  go_ret
  exact ⟨rfl, rfl⟩

theorem tAdd_range {w : World} {p : Nat} {t : Tl} (h : IsTally w p t) {s n : Int} (hs0 : 0 ≤ s) (hs1 : s < 257) (hn : n < -t.N s.toNat ∨ 2147483648 - t.all < n) :
    Calls Try.prog 89 #[.pointer (some ⟨p, 0, none⟩), .int .i64 s, .int .i64 n] w fun e w' => e = .returned (.int .i64 2) ∧ w = w' := by
  have e : symIs s = true := symIs_true hs0 hs1
  have hc : w.cell? ⟨p, s.toNat, none⟩ = some (.int .i64 (t.N s.toNat)) := by rw [cell_of_row w p s.toNat _ _ _ h.at_, tlV_get t (by omega)]
  have hc2 : w.cell? ⟨p, 257, none⟩ = some (.int .i64 t.all) := by rw [cell_of_row w p 257 _ _ _ h.at_, tlV_all]
  have b1 := h.ok.pos s.toNat (by omega)
  have b2 := h.ok.le (s := s.toNat) (by omega)
  have b3 := h.ok.max
  have b4 := h.ok.all_pos
  generalize t.N s.toNat = N at *
  generalize t.all = all at *
  clear h
  by_cases h1 : n < -N
  · have d1 : decide (n < -N) = true := by simpa using h1
    clear hn
    go_enter Try.func89, Try.ntmps89
    go_wp2_with (go_at_call 90; refine (symIs_any _ _).mono ?_; rintro e w' ⟨rfl, rfl⟩)
    go_ret
    exact ⟨rfl, rfl⟩
  · have h2 : 2147483648 - all < n := by omega
    have d1 : decide (n < -N) = false := by simpa using h1
    have d2 : decide (2147483648 - all < n) = true := by simpa using h2
    clear hn
    go_enter Try.func89, Try.ntmps89
    go_wp2_with (go_at_call 90; refine (symIs_any _ _).mono ?_; rintro e w' ⟨rfl, rfl⟩)
    go_ret
    exact ⟨rfl, rfl⟩

set_option maxHeartbeats 1600000 in
theorem tAdd_good {w : World} {p : Nat} {t : Tl} (h : IsTally w p t) {s n : Int} (hs0 : 0 ≤ s) (hs1 : s < 257) (hn1 : -t.N s.toNat ≤ n) (hn2 : n ≤ 2147483648 - t.all) :
    Calls Try.prog 89 #[.pointer (some ⟨p, 0, none⟩), .int .i64 s, .int .i64 n] w fun e w' => e = .returned (.int .i64 0) ∧ IsTally w' p (t.add s.toNat n) ∧ Chg (fun k => k = p) w w' := by
  have e : symIs s = true := symIs_true hs0 hs1
  have hc : w.cell? ⟨p, s.toNat, none⟩ = some (.int .i64 (t.N s.toNat)) := by rw [cell_of_row w p s.toNat _ _ _ h.at_, tlV_get t (by omega)]
  have hc2 : w.cell? ⟨p, 257, none⟩ = some (.int .i64 t.all) := by rw [cell_of_row w p 257 _ _ _ h.at_, tlV_all]
  have hf : w.frozen? ⟨p, s.toNat, none⟩ = false := frozen_of_row w p _ _ _ h.at_
  have hf2 : w.frozen? ⟨p, 257, none⟩ = false := frozen_of_row w p _ _ _ h.at_
  have b1 := h.ok.pos s.toNat (by omega)
  have b2 := h.ok.le (s := s.toNat) (by omega)
  have b3 := h.ok.max
  have b4 := h.ok.all_pos
  have hok := Tl.add_ok h.ok (s := s.toNat) (by omega) hn1 hn2
  have HOK := Lib.hid hok
  have HAT := Lib.hid h.at_
  have HV := Lib.hid (tlV_add t (s := s.toNat) (by omega) n)
  generalize t.N s.toNat = N at *
  generalize hall : t.all = all at *
  have d1 : decide (n < -N) = false := by simp; omega
  have d2 : decide (2147483648 - all < n) = false := by simp; omega
  have hne : s.toNat ≠ 257 := by omega
  have HALL := Lib.hid hall
  clear h hok hall
  go_enter Try.func89, Try.ntmps89
  go_wp2_with (go_at_call 90; refine (symIs_any _ _).mono ?_; rintro e w' ⟨rfl, rfl⟩)
  go_region
  go_wp2
  go_ret
  refine ⟨rfl, ⟨HOK.out, ?_⟩, ?_⟩
  · have h1 := heap_setCell_same _ p 257 _ _ (.int .i64 (all + n)) (heap_setCell_same w p s.toNat _ _ (.int .i64 (N + n)) HAT.out)
    rw [HV.out] at h1
    exact h1
  · exact (((Chg.refl (S := fun k => k = p)).setCell ⟨p, s.toNat, none⟩ (Or.inl rfl) _).setCell ⟨p, 257, none⟩ (Or.inl rfl) _).drew

/-- What Add does, all in all. -/
def Tl.step (t : Tl) (s n : Int) : Int × Tl := if 0 ≤ s ∧ s < 257 then (if n < -t.N s.toNat ∨ 2147483648 - t.all < n then (2, t) else (0, t.add s.toNat n)) else (1, t)

theorem tAdd_any {w : World} {p : Nat} {t : Tl} (h : IsTally w p t) (s n : Int) :
    Calls Try.prog 89 #[.pointer (some ⟨p, 0, none⟩), .int .i64 s, .int .i64 n] w fun e w' => e = .returned (.int .i64 (t.step s n).1) ∧ IsTally w' p (t.step s n).2 ∧ Chg (fun k => k = p) w w' := by
  by_cases hs : 0 ≤ s ∧ s < 257
  · by_cases hn : n < -t.N s.toNat ∨ 2147483648 - t.all < n
    · have e : t.step s n = (2, t) := by unfold Tl.step; rw [if_pos hs, if_pos hn]
      rw [e]
      refine (tAdd_range h hs.1 hs.2 hn).mono ?_
      rintro e w' ⟨rfl, rfl⟩
      exact ⟨rfl, h, Chg.refl⟩
    · have e : t.step s n = (0, t.add s.toNat n) := by unfold Tl.step; rw [if_pos hs, if_neg hn]
      rw [e]
      exact tAdd_good h hs.1 hs.2 (by omega) (by omega)
  · have e : t.step s n = (1, t) := by unfold Tl.step; rw [if_neg hs]
    rw [e]
    refine (tAdd_bad hs).mono ?_
    rintro e w' ⟨rfl, rfl⟩
    exact ⟨rfl, h, Chg.refl⟩

/-- New of symbols. -/
theorem tNew_good {w : World} {a : Option Addr} {c : Nat} {l : List Int} (hl : Reads w .i64 a l) (hs : ∀ x ∈ l, 0 ≤ x ∧ x < 257) (hlen : l.length ≤ 2147483648) :
    Calls Try.prog 59 #[.slice a l.length c] w fun e w' => e = .returned (.tuple #[.pointer (some ⟨w.heap.size, 0, none⟩), .int .i64 0]) ∧ IsTally w' w.heap.size (Tl.of l) ∧ Below w.heap.size w w' := by
  have hz := tzero
  have h0 : IsTally (w.alloc (.cells (tlV Tl.zero) 97)) w.heap.size Tl.zero := ⟨Tl.zero_ok, heap_alloc_new w _⟩
  generalize hV : tlV Tl.zero = V at *
  have H0 := Lib.hid h0
  clear h0 hV
  go_enter Try.func59, Try.ntmps59
  go_wp2_with fail
  go_loopw [12] (fun i wr => ∃ k : Nat, k ≤ l.length ∧ i = .int .i64 k ∧ IsTally wr w.heap.size (Tl.of (l.take k)) ∧ Below w.heap.size w wr) (fun i _ => l.length - (intOf i).toNat)
  case atStart => exact ⟨0, by omega, rfl, H0.out, (Below.refl _ _).alloc (Nat.le_refl _) _⟩
  case round =>
    obtain ⟨k, hk, rfl, hT, hb⟩ := hrel
    have hs1 := hb.size
    by_cases hlt : k < l.length
    · obtain ⟨b, off, rfl, hbl, hcells⟩ := hl.some (by omega)
      have hcx := (hb.cell (p := ⟨b, off + k, none⟩) hbl).trans (hcells k hlt)
      have hx := hs l[k] (List.getElem_mem _)
      have e : l.take (k + 1) = l.take k ++ [((l[k].toNat : Nat) : Int)] := by
        rw [List.take_succ_eq_append_getElem hlt, Int.toNat_of_nonneg hx.1]
      have e2 : Tl.of (l.take (k + 1)) = (Tl.of (l.take k)).add l[k].toNat 1 := by rw [e, Tl.of_snoc]
      have h1 := hT.ok.pos l[k].toNat (by omega)
      have h2 : (1 : Int) ≤ 2147483648 - (Tl.of (l.take k)).all := by
        show (1 : Int) ≤ 2147483648 - ((l.take k).length : Int)
        rw [List.length_take]; omega
      rw [List.getElem?_eq_getElem hlt, Option.getD_some] at hcx
      have hadd := tAdd_good hT hx.1 hx.2 (n := 1) (by omega) h2
      rw [← e2] at hadd
      have HADD := Lib.hid hadd
      generalize l[k] = x at *
      clear hcells e e2 h1 h2 hadd
      go_wp2_with fail
      refine HADD.out.mono ?_
      rintro e w2 ⟨rfl, hT2, hc2⟩
      have hb2 : Below w.heap.size w w2 := hb.trans (hc2.below (fun b hb => by subst hb; exact Nat.le_refl _) hs1)
      clear hT
      go_wp2_with fail
      go_roundw
      case rel => exact ⟨k + 1, by omega, by simp, hT2, hb2⟩
      case measure => simp [intOf]; omega
    · have hkl : k = l.length := by omega
      rw [hkl, List.take_length] at hT
      clear hkl
      go_wp2_with fail
      go_ret2
      exact ⟨rfl, hT, hb⟩

/-- New of one that is no symbol. -/
theorem tNew_bad {w : World} {a : Option Addr} {c : Nat} {x : Int} {l : List Int} (hl : Reads w .i64 a (x :: l)) (hx : ¬ (0 ≤ x ∧ x < 257)) (hlen : l.length ≤ 2147483648) :
    Calls Try.prog 59 #[.slice a (l.length + 1) c] w fun e w' => e = .returned (.tuple #[.pointer none, .int .i64 1]) ∧ Below w.heap.size w w' := by
  have hz := tzero
  generalize tlV Tl.zero = V at *
  obtain ⟨b, off, rfl, hbl, hcells⟩ := hl.some (by simp)
  have hc := hcells 0 (by simp)
  simp only [List.getElem?_cons_zero, Option.getD_some, Nat.add_zero] at hc
  clear hcells
  have hd : decide ((0 : Int) < ((l.length : Int) + 1)) = true := decide_eq_true (by omega)
  go_enter Try.func59, Try.ntmps59
  go_wp2_with fail
  refine wp_loop_rounds 1 ?_
  rw [rounds_succ]
  go_wp2_with fail
  refine (tAdd_bad hx).mono ?_
  rintro e w2 ⟨rfl, rfl⟩
  go_wp2_with fail
  go_ret2
  exact ⟨rfl, (Below.refl _ _).alloc (Nat.le_refl _) _⟩

/-- How many lesser ones there are. -/
def tBelow (t : Tl) (s : Int) : Int := bl t.N (clamp s)

theorem tBelow_any {w : World} {p : Nat} {t : Tl} (h : IsTally w p t) (s : Int) : Calls Try.prog 61 #[.pointer (some ⟨p, 0, none⟩), .int .i64 s] w fun e w' => e = .returned (.int .i64 (tBelow t s)) ∧ w = w' := by
  go_enter Try.func61, Try.ntmps61
  go_wp2_with fail
  have hcl : min (max s 0) 257 = (clamp s : Int) := by unfold clamp; omega
  have hc7 := clamp_le s
  rw [hcl]
  clear hcl
  have HR : Hid (tBelow t s = bl t.N (clamp s)) := rfl
  generalize clamp s = c at *
  go_loop [5, 10] (fun n i => ∃ k : Nat, k ≤ c ∧ i = .int .i64 k ∧ n = .int .i64 (bl t.N k)) (fun _ i => c - (intOf i).toNat)
  case atStart => exact ⟨0, by omega, rfl, rfl⟩
  case round =>
    obtain ⟨k, hk, rfl, rfl⟩ := hrel
    by_cases hlt : k < c
    · have h0 := bl_pos h.ok.pos (show k ≤ 257 by omega)
      have h1 := bl_mono h.ok.pos (show k + 1 ≤ 257 by omega) (Nat.le_refl _)
      rw [h.ok.sum] at h1
      have h2 := h.ok.max
      have h3 : bl t.N (k + 1) = bl t.N k + t.N k := rfl
      have h4 := h.ok.pos k (by omega)
      have ho : tOf t (k : Int) = t.N k := by unfold tOf; rw [if_pos (by omega)]; simp
      have H3 := Lib.hid h3
      have h5 : bl t.N k + t.N k ≤ 2147483648 := by omega
      have HO := Lib.hid ho
      clear h1 h2 h3 ho
      go_wp2_with fail
      refine (tOf_any h _).mono ?_
      rintro e w' ⟨rfl, rfl⟩
      rw [HO.out]
      go_wp2_with fail
      go_round
      case rel => exact ⟨k + 1, by omega, by simp, by rw [H3.out]⟩
      case measure => simp [intOf]; omega
    · obtain rfl : k = c := by omega
      go_wp2_with fail
      go_ret
      exact ⟨ret_int HR.out.symm, rfl⟩

theorem Try.info257 : (Try.prog.info? 37).map (·.size) = some 257 := by kernel_rfl
theorem Try.infoI : (Try.prog.info? 3).map (·.size) = some 1 := by kernel_rfl

/-- One cell out of an array of integers. -/
theorem run_index_ofV (N : Nat → Int) (k : Nat) (hk : k < 257) (w : World) : (Instr.index 37 (.agg (ofV N).toArray) (.int .i64 k)).run Try.prog w = .ok (.int .i64 (N k)) w := by
  have hi := Try.infoI
  obtain ⟨i, hi1, hi2⟩ := Option.map_eq_some_iff.1 hi
  have h1 : (0 : Int) ≤ (k : Int) ∧ (k : Int) < 257 := by omega
  have hg := ofV_get N hk
  simp [Instr.index, asIntOf, run_underlying Try.underlying37, run_underlying Try.underlying3, h1, sizeOf, typeInfo, hi1, hi2, part, isAgg, hg, hk]

end Go.Proofs.Ytpbmhdkhkbhgnaa

namespace Go.Proofs.Ytpbmhdkhkbhgnaa
set_option linter.unusedVariables false
set_option linter.unusedSimpArgs false
open Go.RowKit

/-- tally.New of numbers of which one is no symbol. -/
theorem tNew_fail {w : World} {a : Option Addr} {c k0 : Nat} {l : List Int} (hl : Reads w .i64 a l) (hk0 : k0 < l.length) (hs : ∀ i (hi : i < k0), 0 ≤ l[i]'(by omega) ∧ l[i]'(by omega) < 257) (hx : ¬ (0 ≤ l[k0] ∧ l[k0] < 257)) (hlen : l.length ≤ 2147483648) :
    Calls Try.prog 59 #[.slice a l.length c] w fun e w' => e = .returned (.tuple #[.pointer none, .int .i64 1]) ∧ Below w.heap.size w w' := by
  have hz := tzero
  have h0 : IsTally (w.alloc (.cells (tlV Tl.zero) 97)) w.heap.size Tl.zero := ⟨Tl.zero_ok, heap_alloc_new w _⟩
  generalize hV : tlV Tl.zero = V at *
  have H0 := Lib.hid h0
  clear h0 hV
  go_enter Try.func59, Try.ntmps59
  go_wp2_with fail
  go_loopw [12] (fun i wr => ∃ k : Nat, k ≤ k0 ∧ i = .int .i64 k ∧ IsTally wr w.heap.size (Tl.of (l.take k)) ∧ Below w.heap.size w wr) (fun i _ => l.length - (intOf i).toNat)
  case atStart => exact ⟨0, by omega, rfl, H0.out, (Below.refl _ _).alloc (Nat.le_refl _) _⟩
  case round =>
    obtain ⟨k, hk, rfl, hT, hb⟩ := hrel
    have hs1 := hb.size
    have hlt : k < l.length := by omega
    obtain ⟨b, off, rfl, hbl, hcells⟩ := hl.some (by omega)
    have hcx := (hb.cell (p := ⟨b, off + k, none⟩) hbl).trans (hcells k hlt)
    rw [List.getElem?_eq_getElem hlt, Option.getD_some] at hcx
    by_cases hlt0 : k < k0
    · have hx' := hs k hlt0
      have e : l.take (k + 1) = l.take k ++ [((l[k].toNat : Nat) : Int)] := by
        rw [List.take_succ_eq_append_getElem hlt, Int.toNat_of_nonneg hx'.1]
      have e2 : Tl.of (l.take (k + 1)) = (Tl.of (l.take k)).add l[k].toNat 1 := by rw [e, Tl.of_snoc]
      have h1 := hT.ok.pos l[k].toNat (by omega)
      have h2 : (1 : Int) ≤ 2147483648 - (Tl.of (l.take k)).all := by
        show (1 : Int) ≤ 2147483648 - ((l.take k).length : Int)
        rw [List.length_take]; omega
      have hadd := tAdd_good hT hx'.1 hx'.2 (n := 1) (by omega) h2
      rw [← e2] at hadd
      have HADD := Lib.hid hadd
      have HX := Lib.hid hx
      have HS := Lib.hid hs
      clear hx hs hx'
      generalize l[k] = x at *
      clear hcells e e2 h1 h2 hadd
      go_wp2_with fail
      refine HADD.out.mono ?_
      rintro e w2 ⟨rfl, hT2, hc2⟩
      have hb2 : Below w.heap.size w w2 := hb.trans (hc2.below (fun b hb => by subst hb; exact Nat.le_refl _) hs1)
      clear hT
      go_wp2_with fail
      go_roundw
      case rel => exact ⟨k + 1, by omega, by simp, hT2, hb2⟩
      case measure => simp [intOf]; omega
    · obtain rfl : k = k0 := by omega
      have HX := Lib.hid hx
      clear hx hs hcells
      generalize l[k] = x at *
      go_wp2_with fail
      refine (tAdd_bad HX.out).mono ?_
      rintro e w2 ⟨rfl, rfl⟩
      go_wp2_with fail
      go_ret2
      exact ⟨rfl, hb⟩

/-- What Back tells: the text whose transform it is; nothing, if there is none. -/
def BackPost (B : Nat) (w : World) (m : List Int) (e : Ending) (w' : World) : Prop := ∃ v ok, e = .returned (.tuple #[v, .bool ok]) ∧ Below B w w' ∧
  (ok = true → IsLast (textOf m) m ∧ w'.ownsRow B 5 1 v (textOf m).length ((textOf m).map (Value.int .u8))) ∧ (ok = false → v = .slice none 0 0 ∧ ∀ t, ¬ IsLast t m)
theorem back_no {B : Nat} {w w' : World} {m : List Int} (h : ∀ t, ¬ IsLast t m) (hb : Below B w w') : BackPost B w m (.returned (.tuple #[.slice none 0 0, .bool false])) w' :=
  ⟨_, _, rfl, hb, (fun h => by cases h), fun _ => ⟨rfl, h⟩⟩

theorem zero257 (w : World) : (zeroValue 37).run Try.prog w = .ok (.agg (vecL (fun _ => .int .i64 0) 257).toArray) w := by kernel_rfl

/-- What Back keeps: the tally, what was seen, where the rows lead, the first rows of the symbols. -/
structure BackSt (B : Nat) (w : World) (p qs qt Q n : Nat) (T : Tl) (fs ft ff : Nat → Int) : Prop where
  tally : IsTally w p T
  seen : w.heap[qs]? = some (.cells (vecL (fun i => .int .i64 (fs i)) n).toArray 3 (0, 0))
  lead : w.heap[qt]? = some (.cells (vecL (fun i => .int .i64 (ft i)) n).toArray 3 (0, 0))
  first : w.heap[Q]? = some (.cells (vecL (fun i => .int .i64 (ff i)) 257).toArray 37 (0, 0))
  ne : qs ≠ qt ∧ qs ≠ Q ∧ qt ≠ Q ∧ p ≠ qs ∧ p ≠ qt ∧ p ≠ Q
  lo : B ≤ p ∧ B ≤ qs ∧ B ≤ qt ∧ B ≤ Q
section
variable {B : Nat} {w w' : World} {p qs qt Q n : Nat} {T : Tl} {fs ft ff : Nat → Int}
theorem BackSt.chg (h : BackSt B w p qs qt Q n T fs ft ff) {S : Nat → Prop} (hc : Chg S w w') (h1 : ¬ S p) (h2 : ¬ S qs) (h3 : ¬ S qt) (h4 : ¬ S Q) : BackSt B w' p qs qt Q n T fs ft ff :=
  ⟨h.tally.chg hc h1, hc.heap h.seen h2, hc.heap h.lead h3, hc.heap h.first h4, h.ne, h.lo⟩
theorem BackSt.still (h : BackSt B w p qs qt Q n T fs ft ff) (hb : Below w.heap.size w w') : BackSt B w' p qs qt Q n T fs ft ff := h.chg (Chg.of_below (S := fun _ => False) hb) id id id id
theorem vec_ifG {f : Nat → Int} {j n : Nat} {x : Int} {k : IntKind} : vecL (fun i => if i = j then Value.int k x else Value.int k (f i)) n = vecL (fun i => Value.int k (if i = j then x else f i)) n :=
  vecL_congr (fun i _ => by split <;> rfl)
theorem BackSt.setSeen (h : BackSt B w p qs qt Q n T fs ft ff) (j : Nat) (x : Int) : BackSt B (w.setCell ⟨qs, j, none⟩ (.int .i64 x)) p qs qt Q n T (fun i => if i = j then x else fs i) ft ff := by
  have hc : Chg (fun b => b = qs) w (w.setCell ⟨qs, j, none⟩ (.int .i64 x)) := Chg.refl.setCell (S := fun b => b = qs) ⟨qs, j, none⟩ (Or.inl rfl) _
  obtain ⟨a1, a2, a3, a4, a5, a6⟩ := h.ne
  have ho := vec_set (s := j) h.seen (.int .i64 x)
  rw [vec_ifG] at ho
  exact ⟨h.tally.chg hc a4, ho, hc.heap h.lead (fun e => a1 e.symm), hc.heap h.first (fun e => a2 e.symm), h.ne, h.lo⟩
theorem BackSt.setTo (h : BackSt B w p qs qt Q n T fs ft ff) (j : Nat) (x : Int) : BackSt B (w.setCell ⟨qt, j, none⟩ (.int .i64 x)) p qs qt Q n T fs (fun i => if i = j then x else ft i) ff := by
  have hc : Chg (fun b => b = qt) w (w.setCell ⟨qt, j, none⟩ (.int .i64 x)) := Chg.refl.setCell (S := fun b => b = qt) ⟨qt, j, none⟩ (Or.inl rfl) _
  obtain ⟨a1, a2, a3, a4, a5, a6⟩ := h.ne
  have ho := vec_set (s := j) h.lead (.int .i64 x)
  rw [vec_ifG] at ho
  exact ⟨h.tally.chg hc a5, hc.heap h.seen a1, ho, hc.heap h.first (fun e => a3 e.symm), h.ne, h.lo⟩
theorem BackSt.setFirst (h : BackSt B w p qs qt Q n T fs ft ff) (j : Nat) (x : Int) : BackSt B (w.setCell ⟨Q, j, none⟩ (.int .i64 x)) p qs qt Q n T fs ft (fun i => if i = j then x else ff i) := by
  have hc : Chg (fun b => b = Q) w (w.setCell ⟨Q, j, none⟩ (.int .i64 x)) := Chg.refl.setCell (S := fun b => b = Q) ⟨Q, j, none⟩ (Or.inl rfl) _
  obtain ⟨a1, a2, a3, a4, a5, a6⟩ := h.ne
  have ho := vec_set (s := j) h.first (.int .i64 x)
  rw [vec_ifG] at ho
  exact ⟨h.tally.chg hc a6, hc.heap h.seen a2, hc.heap h.lead a3, ho, h.ne, h.lo⟩
theorem BackSt.congr (h : BackSt B w p qs qt Q n T fs ft ff) {fs' ft' ff' : Nat → Int} (e1 : ∀ i, i < n → fs i = fs' i) (e2 : ∀ i, i < n → ft i = ft' i) (e3 : ∀ i, i < 257 → ff i = ff' i) : BackSt B w p qs qt Q n T fs' ft' ff' :=
  ⟨h.tally, by rw [vecL_congr (g := fun i => .int .i64 (fs i)) (fun i hi => by rw [e1 i hi])]; exact h.seen, by rw [vecL_congr (g := fun i => .int .i64 (ft i)) (fun i hi => by rw [e2 i hi])]; exact h.lead, by rw [vecL_congr (g := fun i => .int .i64 (ff i)) (fun i hi => by rw [e3 i hi])]; exact h.first, h.ne, h.lo⟩
theorem BackSt.cells (h : BackSt B w p qs qt Q n T fs ft ff) : (∀ j, j < n → w.cell? ⟨qs, j, none⟩ = some (.int .i64 (fs j))) ∧ (∀ j, j < n → w.cell? ⟨qt, j, none⟩ = some (.int .i64 (ft j))) ∧ (∀ j, j < 257 → w.cell? ⟨Q, j, none⟩ = some (.int .i64 (ff j))) ∧
    (∀ j, w.frozen? ⟨qs, j, none⟩ = false) ∧ (∀ j, w.frozen? ⟨qt, j, none⟩ = false) ∧ (∀ j, w.frozen? ⟨Q, j, none⟩ = false) :=
  ⟨fun j hj => vec_cell h.seen hj, fun j hj => vec_cell h.lead hj, fun j hj => vec_cell h.first hj, fun j => frozen_of_row w qs j _ _ h.seen, fun j => frozen_of_row w qt j _ _ h.lead, fun j => frozen_of_row w Q j _ _ h.first⟩
end
theorem Try.infoU8 : (Try.prog.info? 5).map (fun i => (i.zero, i.size, i.bytes)) = some (some (.int .u8 0), 1, 1) := by kernel_rfl
theorem make_bytes (n : Nat) (h : n ≤ 1000000000) (w : World) : (Instr.makeSlice 23 (.int .i64 (n : Int)) (.int .i64 (n : Int))).run Try.prog w = .ok (.slice (some ⟨w.heap.size, 0, none⟩) n n) (w.alloc (.cells (vecL (fun _ => .int .u8 0) n).toArray 5)) :=
  run_makeG Try.infoU8 Try.underlying23 rfl n (by omega) (by unfold maxLen; omega) w

set_option maxHeartbeats 4000000 in
set_option maxRecDepth 100000 in
theorem back_any (a : Option Addr) (c : Nat) (m : List Int) (w : World) (hr : Reads w .i64 a m) (hl : m.length ≤ 1000000) :
    Calls Try.prog 20 #[.slice a m.length c] w (BackPost w.heap.size w m) := by
  by_cases hsy : ∀ x ∈ m, 0 ≤ x ∧ x < 257
  · have HSY := Lib.hid hsy
    have hnew := tNew_good (c := c) hr hsy (by omega)
    have HNEW := Lib.hid hnew
    clear hnew hsy
    go_enter Try.func20, Try.ntmps20
    go_wp2_with fail
    refine HNEW.out.mono ?_
    rintro e w1 ⟨rfl, hT, hb1⟩
    have HT := Lib.hid hT
    have HB1 := Lib.hid hb1
    have hs1 := hb1.size
    have hzl := hT.lt
    have hof : tOf (Tl.of m) 0 = (cnt m 0 : Int) := rfl
    have hofc := tOf_any hT 0
    rw [hof] at hofc
    have HOF := Lib.hid hofc
    obtain ⟨p, hp⟩ : ∃ p, w.heap.size = p := ⟨_, rfl⟩
    rw [hp] at HT HOF hzl ⊢
    have HP := Lib.hid hp
    clear hT hb1 hof hofc HNEW hp
    by_cases h1 : cnt m 0 = 1
    · have HH1 := Lib.hid h1
      rw [h1] at HOF
      have hn0 : 0 < m.length := by
        rcases Nat.eq_zero_or_pos m.length with e | e
        · have e2 : m = [] := List.eq_nil_of_length_eq_zero e
          rw [e2] at h1; cases h1
        · exact e
      clear h1
      go_upto_region 4 with (go_at_call 60; refine HOF.out.mono ?_; rintro e w' ⟨rfl, rfl⟩)
      have hmk := make_ints m.length (by omega)
      obtain ⟨b, off, rfl, hbl, hcs⟩ := hr.some hn0
      have HRD : Hid (∀ W, Below w.heap.size w W → ∀ j, j < m.length → W.cell? ⟨b, off + j, none⟩ = some (.int .i64 (sy m j))) := by
        intro W hW j hj
        rw [(hW.cell (p := ⟨b, off + j, none⟩) hbl).trans (hcs j hj), sy_in hj]
        simp [hj]
      have HB0 : Hid (Below w1.heap.size w1 w1.drew) := (Below.refl _ _).drew
      clear hcs hr HOF
      go_cut [6, 7] (fun r6 r7 wx => ∃ qs qt, r6 = .slice (some ⟨qs, 0, none⟩) m.length m.length ∧ r7 = .slice (some ⟨qt, 0, none⟩) m.length m.length ∧ wx.heap[qs]? = some (.cells (vecL (fun _ => .int .i64 0) m.length).toArray 3 (0, 0)) ∧
        wx.heap[qt]? = some (.cells (vecL (fun _ => .int .i64 0) m.length).toArray 3 (0, 0)) ∧ qs ≠ qt ∧ w1.heap.size ≤ qs ∧ w1.heap.size ≤ qt ∧ Below w1.heap.size w1 wx)
      case first => as_aux_lemma =>
    -- REGION 4
        refine reg_start (fun _ => True) (by kernel_rfl) trivial (fun hHeld => ?_)
        generalize w1.drew = x0 at *
        refine reg_take (i := 0) (v := ?mv1) rfl (by kernel_rfl) rfl hHeld ?my1 ?mr1
        case my1 => (intro w hSw; (try dsimp only at hSw); go_simp; all_goals with_reducible rfl)
        try simp only [Act.put, List.setIfInBounds_toArray, List.set_cons_zero, List.set_cons_succ]
        refine reg_take (i := 1) (v := ?mv2) rfl (by kernel_rfl) rfl hHeld ?my2 ?mr2
        case my2 => (intro w hSw; (try dsimp only at hSw); go_simp; all_goals with_reducible rfl)
        try simp only [Act.put, List.setIfInBounds_toArray, List.set_cons_zero, List.set_cons_succ]
        refine reg_take (i := 3) (v := ?mv3) rfl (by kernel_rfl) rfl hHeld ?my3 ?mr3
        case my3 => (intro w hSw; (try dsimp only at hSw); go_simp; all_goals with_reducible rfl)
        try simp only [Act.put, List.setIfInBounds_toArray, List.set_cons_zero, List.set_cons_succ]
        refine reg_take (i := 4) (v := ?mv4) rfl (by kernel_rfl) rfl hHeld ?my4 ?mr4
        case my4 => (intro w hSw; (try dsimp only at hSw); go_simp; all_goals with_reducible rfl)
        try simp only [Act.put, List.setIfInBounds_toArray, List.set_cons_zero, List.set_cons_succ]
        refine wpAnyH_ready (rs := [2, 5]) (by kernel_rfl) (by simp) (all_cons rfl rfl (fun K hK => ?_) (all_cons rfl rfl (fun K hK => ?_) (AllReadyH.nil)))
        · go_simp
          obtain ⟨x1, qs, hx, hq, HB1, HO2, HC1, z1a, z1b, z1c⟩ := mk_step HB0.out (.cells (vecL (fun _ => .int .i64 0) m.length).toArray 3)
          rw [hx, hq]
          clear hx hq
          refine hK.out _ _ trivial (fun hHeld => ?_)
          clear hK K
          try simp only [Act.put, List.setIfInBounds_toArray, List.set_cons_zero, List.set_cons_succ]
          refine reg_take (i := 6) (v := ?mv5) rfl (by kernel_rfl) rfl hHeld ?my5 ?mr5
          case my5 => (intro w hSw; (try dsimp only at hSw); go_simp; all_goals with_reducible rfl)
          try simp only [Act.put, List.setIfInBounds_toArray, List.set_cons_zero, List.set_cons_succ]
          refine wpAnyH_ready (rs := [5]) (by kernel_rfl) (by simp) (all_cons rfl rfl (fun K hK => ?_) (AllReadyH.nil))
          · go_simp
            obtain ⟨x2, qt, hx, hq, HB2, HO5, HC2, z2a, z2b, z2c⟩ := mk_step HB1.out (.cells (vecL (fun _ => .int .i64 0) m.length).toArray 3)
            rw [hx, hq]
            clear hx hq
            refine hK.out _ _ trivial (fun hHeld => ?_)
            clear hK K
            try simp only [Act.put, List.setIfInBounds_toArray, List.set_cons_zero, List.set_cons_succ]
            refine reg_take (i := 7) (v := ?mv6) rfl (by kernel_rfl) rfl hHeld ?my6 ?mr6
            case my6 => (intro w hSw; (try dsimp only at hSw); go_simp; all_goals with_reducible rfl)
            try simp only [Act.put, List.setIfInBounds_toArray, List.set_cons_zero, List.set_cons_succ]
            refine reg_done (by kernel_rfl) ?_ _
            go_wp2_with fail
            go_meet
            case rel => exact ⟨qs, qt, rfl, rfl, (HC2.out (fun _ => False)).heap HO2.out (fun h => h), (Chg.refl (S := (fun _ => False))).heap HO5.out (fun h => h), by omega, by omega, by omega, HB2.out⟩
        · go_simp
          obtain ⟨x1, qt, hx, hq, HB1, HO5, HC1, z1a, z1b, z1c⟩ := mk_step HB0.out (.cells (vecL (fun _ => .int .i64 0) m.length).toArray 3)
          rw [hx, hq]
          clear hx hq
          refine hK.out _ _ trivial (fun hHeld => ?_)
          clear hK K
          try simp only [Act.put, List.setIfInBounds_toArray, List.set_cons_zero, List.set_cons_succ]
          refine wpAnyH_ready (rs := [2]) (by kernel_rfl) (by simp) (all_cons rfl rfl (fun K hK => ?_) (AllReadyH.nil))
          · go_simp
            obtain ⟨x2, qs, hx, hq, HB2, HO2, HC2, z2a, z2b, z2c⟩ := mk_step HB1.out (.cells (vecL (fun _ => .int .i64 0) m.length).toArray 3)
            rw [hx, hq]
            clear hx hq
            refine hK.out _ _ trivial (fun hHeld => ?_)
            clear hK K
            try simp only [Act.put, List.setIfInBounds_toArray, List.set_cons_zero, List.set_cons_succ]
            refine reg_take (i := 6) (v := ?mv7) rfl (by kernel_rfl) rfl hHeld ?my7 ?mr7
            case my7 => (intro w hSw; (try dsimp only at hSw); go_simp; all_goals with_reducible rfl)
            try simp only [Act.put, List.setIfInBounds_toArray, List.set_cons_zero, List.set_cons_succ]
            refine reg_take (i := 7) (v := ?mv8) rfl (by kernel_rfl) rfl hHeld ?my8 ?mr8
            case my8 => (intro w hSw; (try dsimp only at hSw); go_simp; all_goals with_reducible rfl)
            try simp only [Act.put, List.setIfInBounds_toArray, List.set_cons_zero, List.set_cons_succ]
            refine reg_done (by kernel_rfl) ?_ _
            go_wp2_with fail
            go_meet
            case rel => exact ⟨qs, qt, rfl, rfl, (Chg.refl (S := (fun _ => False))).heap HO2.out (fun h => h), (HC2.out (fun _ => False)).heap HO5.out (fun h => h), by omega, by omega, by omega, HB2.out⟩
    -- END OF REGION 4
      case rest => as_aux_lemma =>
        obtain ⟨qs, qt, rfl, rfl, hqs, hqt, hne, hl1, hl2, hbc⟩ := hcut
        have hz := zero257
        have hst : BackSt w.heap.size (wc.alloc (.cells (vecL (fun _ => .int .i64 0) 257).toArray 37)) p qs qt wc.heap.size m.length (Tl.of m) (fun _ => 0) (fun _ => 0) (fun _ => 0) := by
          have hba := below_al wc (.cells (vecL (fun _ => .int .i64 0) 257).toArray 37)
          have z1 := (Array.getElem?_eq_some_iff.1 hqs).1
          have z2 := (Array.getElem?_eq_some_iff.1 hqt).1
          have z3 := hbc.size
          have z4 := HP.out
          exact ⟨(HT.out.chg (Chg.of_below (S := fun _ => False) hbc) id).chg (Chg.of_below (S := fun _ => False) hba) id, below_heap hba hqs, below_heap hba hqt, heap_alloc_new wc _, ⟨hne, by omega, by omega, by omega, by omega, by omega⟩, ⟨by omega, by omega, by omega, by omega⟩⟩
        have hbw : Below w.heap.size w (wc.alloc (.cells (vecL (fun _ => .int .i64 0) 257).toArray 37)) := (HB1.out.trans (hbc.mono hs1)).alloc (by have := hbc.size; omega) _
        have HSTA := Lib.hid hst
        have HBWA := Lib.hid hbw
        generalize hV : vecL (fun _ => Value.int .i64 0) 257 = V at *
        clear hqs hqt hne hl1 hl2 hst hbw hV hmk HT
        go_wp2_with fail
        generalize wc.alloc (.cells V.toArray 37) = wa at *
        generalize wc.heap.size = Q at *
        go_loopw [35, 9] (fun v35 _ wr => ∃ k : Nat, k ≤ 257 ∧ v35 = .int .i64 k ∧ BackSt w.heap.size wr p qs qt Q m.length (Tl.of m) (fun _ => 0) (fun _ => 0) (fun s => if s < k then (belowL m (s : Int) : Int) else 0) ∧ Below w.heap.size w wr) (fun v35 _ _ => 257 - (intOf v35).toNat)
        case atStart => exact ⟨0, by omega, rfl, HSTA.out.congr (fun _ _ => rfl) (fun _ _ => rfl) (fun i _ => by simp), HBWA.out⟩
        case round =>
          clear hbc hz
          obtain ⟨k, hk, rfl, hst, hbw⟩ := hrel
          have hs := hbw.size
          by_cases hlt : k < 257
          · have hbel := tBelow_any hst.tally (k : Int)
            have hnn : ∀ x ∈ m, 0 ≤ x := fun x hx => (HSY.out x hx).1
            have e : tBelow (Tl.of m) (k : Int) = (belowL m (k : Int) : Int) := by
              rw [← belowL_bl hnn k]
              unfold tBelow clamp
              congr 1; omega
            rw [e] at hbel
            have HBEL := Lib.hid hbel
            obtain ⟨_, _, d3, _, _, d6⟩ := hst.cells
            have e1 := d3 k hlt
            have e2 := d6 k
            simp only [Nat.lt_irrefl, if_false] at e1
            have HST := Lib.hid (hst.setFirst k (belowL m (k : Int) : Int))
            have hlo := hst.lo.2.2.2
            clear hbel e hnn d3 d6 hst
            generalize hy : (belowL m (k : Int) : Int) = y at *
            have HY := Lib.hid hy
            clear hy
            go_wp2_with (go_at_call 61; refine HBEL.out.mono ?_; rintro e w' ⟨rfl, rfl⟩)
            go_roundw
            case rel =>
              refine ⟨k + 1, by omega, by go_num, HST.out.congr (fun _ _ => rfl) (fun _ _ => rfl) (fun i _ => ?_), below_setQ hbw hs hlo _⟩
              by_cases e : i = k
              · subst e; rw [if_pos rfl, if_pos (by omega)]; exact HY.out.symm
              · rw [if_neg e]
                by_cases e2 : i < k
                · rw [if_pos e2, if_pos (by omega)]
                · rw [if_neg e2, if_neg (by omega)]
            case measure => simp [intOf]; omega
          · obtain rfl : k = 257 := by omega
            rw [show ((257 : Nat) : Int) = 257 from rfl]
            have HST := Lib.hid (hst.congr (fs' := fun _ => 0) (ft' := fun i => if i < 0 then (lfL m i : Int) else 0) (ff' := fun s => ((belowL m (s : Int) + cnt (m.take 0) (s : Int) : Nat) : Int)) (fun _ _ => rfl) (fun i _ => by simp) (fun i hi => by rw [if_pos hi]; simp [cnt]))
            have HBW := Lib.hid hbw
            clear hst hbw hs hk hlt
            go_wp2_with fail
            go_loopw [46] (fun v46 wr => ∃ k : Nat, k ≤ m.length ∧ v46 = .int .i64 k ∧ BackSt w.heap.size wr p qs qt Q m.length (Tl.of m) (fun _ => 0) (fun i => if i < k then (lfL m i : Int) else 0) (fun s => ((belowL m (s : Int) + cnt (m.take k) (s : Int) : Nat) : Int)) ∧ Below w.heap.size w wr) (fun v46 _ => m.length - (intOf v46).toNat)
            case atStart => exact ⟨0, by omega, rfl, HST.out, HBW.out⟩
            case round =>
              clear HST HBW
              obtain ⟨k, hk, rfl, hst, hbw⟩ := hrel
              have hs := hbw.size
              by_cases hlt : k < m.length
              · have hx := HSY.out m[k] (List.getElem_mem _)
                obtain ⟨x, hxe⟩ := Int.eq_ofNat_of_zero_le hx.1
                have hsk : sy m k = (x : Int) := by rw [sy_in hlt, hxe]
                have e1 := HRD.out wr hbw k hlt
                rw [hsk] at e1
                have hx257 : x < 257 := by omega
                have hlf : lfL m k = belowL m (x : Int) + cnt (m.take k) (x : Int) := by unfold lfL; rw [hsk]
                have hlfl := lfL_lt hlt
                have htk : ∀ s : Nat, cnt (m.take (k + 1)) (s : Int) = cnt (m.take k) (s : Int) + (if s = x then 1 else 0) := by
                  intro s
                  rw [List.take_succ_eq_append_getElem hlt, cnt_snoc, hxe]
                  by_cases e : s = x
                  · subst e; simp
                  · rw [if_neg e, if_neg (by omega)]
                obtain ⟨_, d2, d3, _, d5, d6⟩ := hst.cells
                have e2 := d2 k hlt
                have e3 := d3 x hx257
                have e4 := d5 k
                have e5 := d6 x
                simp only [Nat.lt_irrefl, if_false] at e2
                rw [← hlf] at e3
                have hlo := hst.lo
                have hqq := hst.ne.2.2.1
                have hst2 := (hst.setTo k (lfL m k : Int)).setFirst x ((lfL m k : Int) + 1)
                have HST2 := Lib.hid hst2
                have HTK := Lib.hid htk
                have HLF := Lib.hid hlf
                clear hx hxe hsk hlf htk d2 d3 d5 d6 hst hst2
                generalize hy : lfL m k = y at *
                have HY := Lib.hid hy
                clear hy
                go_wp2_with fail
                go_roundw
                case rel =>
                  refine ⟨k + 1, by omega, by go_num, HST2.out.congr (fun _ _ => rfl) (fun i _ => ?_) (fun i _ => ?_), ?_⟩
                  · by_cases e : i = k
                    · subst e; rw [if_pos rfl, if_pos (by omega), HY.out]
                    · rw [if_neg e]
                      by_cases e2 : i < k
                      · rw [if_pos e2, if_pos (by omega)]
                      · rw [if_neg e2, if_neg (by omega)]
                  · have h1 := HTK.out i
                    by_cases e : i = x
                    · subst e
                      rw [if_pos rfl] at h1 ⊢
                      have := HLF.out
                      omega
                    · rw [if_neg e] at h1 ⊢
                      rw [h1]; rfl
                  · exact below_setQ (below_setQ hbw hs hlo.2.2.1 _) (by simp [World.setCell]; exact hs) hlo.2.2.2 _
                case measure => simp [intOf]; omega
              · obtain rfl : k = m.length := by omega
                have HST := Lib.hid (hst.congr (fs' := fun i => (seenC m 0 i : Int)) (ft' := fun i => (lfL m i : Int)) (ff' := fun s => ((belowL m (s : Int) + cnt (m.take m.length) (s : Int) : Nat) : Int)) (fun i _ => by simp [seenC]) (fun i hi => by rw [if_pos hi]) (fun _ _ => rfl))
                have HBW := Lib.hid hbw
                obtain ⟨n, hn⟩ : ∃ n, m.length = n + 1 := ⟨m.length - 1, by omega⟩
                have hmb := make_bytes n (by omega)
                have hn2 : (n : Int) ≤ 1000000 := by omega
                have HN := Lib.hid hn
                clear hst hbw hs hk hlt
                have ecast : ((m.length : Nat) : Int) = (n : Int) + 1 := by have := HN.out; omega
                have HEC := Lib.hid ecast
                rw [show (n : Int) = (m.length : Int) - 1 by omega] at hmb
                clear ecast hn
                go_wp2_with fail
                clear hmb
                have HST2 := Lib.hid (HST.out.still (below_al wr (.cells (vecL (fun _ => .int .u8 0) n).toArray 5)))
                have hq := heap_alloc_new wr (.cells (vecL (fun _ => .int .u8 0) n).toArray 5)
                have HBW2 := Lib.hid (HBW.out.alloc HBW.out.size (.cells (vecL (fun _ => .int .u8 0) n).toArray 5))
                have hqx : qs < wr.heap.size ∧ qt < wr.heap.size ∧ Q < wr.heap.size ∧ p < wr.heap.size ∧ w.heap.size ≤ wr.heap.size :=
                  ⟨(Array.getElem?_eq_some_iff.1 HST.out.seen).1, (Array.getElem?_eq_some_iff.1 HST.out.lead).1, (Array.getElem?_eq_some_iff.1 HST.out.first).1, HST.out.tally.lt, HBW.out.size⟩
                generalize wr.alloc (.cells (vecL (fun _ => .int .u8 0) n).toArray 5) = wb at *
                generalize wr.heap.size = qx at *
                have HQ := Lib.hid hq
                have HQX := Lib.hid hqx
                clear hq hqx HST HBW
                go_loopw [13, 14] (fun v13 v14 wr => ∃ r : Nat, r ≤ n ∧ v14 = .int .i64 ((r : Int) - 1) ∧ v13 = .int .i64 (chain m (n - r) : Int) ∧ BackSt w.heap.size wr p qs qt Q m.length (Tl.of m) (fun i => (seenC m (n - r) i : Int)) (fun i => (lfL m i : Int)) (fun s => ((belowL m (s : Int) + cnt (m.take m.length) (s : Int) : Nat) : Int)) ∧
                  wr.heap[qx]? = some (.cells (vecL (fun i => .int .u8 (if r ≤ i then (textOf m)[i]?.getD 0 else 0)) n).toArray 5 (0, 0)) ∧ (∀ j, j < n - r → 1 ≤ sy m (chain m j)) ∧ Below w.heap.size w wr) (fun _ v14 _ => (intOf v14 + 1).toNat)
                case atStart =>
                  refine ⟨n, Nat.le_refl _, ?_, ?_, ?_, ?_, ?_, HBW2.out⟩
                  · rfl
                  · rw [Nat.sub_self]; rfl
                  · rw [Nat.sub_self]; exact HST2.out
                  · rw [HQ.out, vecL_congr (fun i hi => ?_)]
                    rw [if_neg (by omega)]
                  · intro j hj; omega
                case round =>
                  clear HST2 HQ HBW2
                  obtain ⟨r, hrn, rfl, rfl, hst, hqr, hbs, hbw⟩ := hrel
                  have hs := hbw.size
                  have hcl := chain_lt hn0 (n - r)
                  have e1 := HRD.out wr hbw (chain m (n - r)) hcl
                  have hxm := HSY.out (sy m (chain m (n - r))) (by rw [sy_in hcl]; exact List.getElem_mem _)
                  have HST := Lib.hid hst
                  have HBS := Lib.hid hbs
                  have HQR := Lib.hid hqr
                  have hn := HN.out
                  rcases Nat.eq_zero_or_pos r with rfl | hr0
                  · rw [Nat.sub_zero] at *
                    have hsl : sy m (chain m n) = 0 ∨ ∀ t, ¬ IsLast t m := by
                      by_cases e : sy m (chain m n) = 0
                      · exact Or.inl e
                      · refine Or.inr (fun t h => e ?_)
                        have h1 := h.len
                        have h2 := h.stop
                        rwa [show t.length = n by omega] at h2
                    have htl : (textOf m).length = n := by rw [textOf_len]; omega
                    have hown : wr.ownsRow w.heap.size 5 1 (.slice (some ⟨qx, 0, none⟩) n n) n ((textOf m).map (Value.int .u8)) := by
                      have e : (textOf m).map (Value.int .u8) = vecL (fun i => .int .u8 (if 0 ≤ i then (textOf m)[i]?.getD 0 else 0)) n := by
                        apply List.ext_getElem?
                        intro z
                        by_cases hz : z < n
                        · rw [vecL_get hz, List.getElem?_map, List.getElem?_eq_getElem (by omega)]; simp
                        · rw [List.getElem?_eq_none (by simp; omega), List.getElem?_eq_none (by rw [vecL_len]; omega)]
                      rw [e]
                      exact own_vecG hqr (by have := HQX.out; omega) (by unfold maxLen; omega)
                    have hbyt : Bytes (textOf m) := by
                      intro z hz
                      have hz2 : z < m.length - 1 := by omega
                      rw [textOf_get hz2, Option.getD_some]
                      have h1 := hbs (m.length - 2 - z) (by omega)
                      have h2 := chain_lt hn0 (m.length - 2 - z)
                      have h3 := HSY.out (sy m (chain m (m.length - 2 - z))) (by rw [sy_in h2]; exact List.getElem_mem _)
                      omega
                    have hrd : Reads wr .u8 (some ⟨qx, 0, none⟩) (textOf m) := by
                      have h1 := own_reads hown
                      exact h1
                    have HSL := Lib.hid hsl
                    have HTL := Lib.hid htl
                    have HOWN := Lib.hid hown
                    have HBYT := Lib.hid hbyt
                    have HRT := Lib.hid hrd
                    clear hn hsl htl hown hbyt hrd hqr hbs hst hxm
                    generalize hce : chain m n = ρ at *
                    have HCE := Lib.hid hce
                    clear hce
                    generalize hx : sy m ρ = x at *
                    have HX := Lib.hid hx
                    clear hx
                    by_cases hx0 : x = 0
                    · subst hx0
                      have hla := last_any (some ⟨qx, 0, none⟩) n (textOf m) wr HRT.out HBYT.out (by have := HTL.out; omega)
                      rw [HTL.out] at hla
                      have HLA := Lib.hid hla
                      clear hla
                      go_wp2_with fail
                      refine HLA.out.mono ?_
                      rintro e w5 ⟨m', hm', v, rfl, hown5, hb5⟩
                      obtain ⟨a5, c5, rfl, _, _⟩ := own_slice hown5
                      have hr5 := own_reads hown5
                      have hrm : Reads w5 .i64 (some ⟨b, off, none⟩) m := by
                        intro z hz
                        refine ⟨b, off, rfl, by have := hb5.size; omega, fun j hj => ?_⟩
                        rw [HRD.out w5 (hbw.trans (hb5.mono hs)) j hj, sy_in hj, List.getElem?_eq_getElem hj]; rfl
                      have hl5 : m'.length = m.length := by rw [hm'.len, HTL.out, HN.out]
                      have hsame := same_ints a5 (some ⟨b, off, none⟩) m'.length m.length c5 c m' m w5 hr5 hrm rfl rfl (by omega) (by omega)
                      have HSAME := Lib.hid hsame
                      have HM' := Lib.hid hm'
                      have HB5 := Lib.hid (hbw.trans (hb5.mono hs))
                      have HO5 := Lib.hid (own_below HOWN.out hb5 (fun k hk => (own_lt HOWN.out hk).2))
                      clear hown5 hr5 hrm hl5 hsame hm' hb5
                      go_wp2_with fail
                      refine HSAME.out.mono ?_
                      rintro e w6 ⟨rfl, nd, rfl⟩
                      by_cases hmm : m' = m
                      · have dd : decide (m' = m) = true := decide_eq_true hmm
                        rw [dd]
                        have HMM := Lib.hid hmm
                        clear hmm dd
                        go_wp2_with fail
                        go_ret2
                        refine ⟨_, _, rfl, below_dN HB5.out nd, fun _ => ⟨?_, ?_⟩, fun h => by cases h⟩
                        · have := HM'.out
                          rwa [HMM.out] at this
                        · rw [HTL.out]; exact HO5.out
                      · have dd : decide (m' = m) = false := decide_eq_false hmm
                        rw [dd]
                        have HNO : Hid (∀ t, ¬ IsLast t m) := fun t h => hmm (by
                          have e := h.text
                          subst e
                          exact HM'.out.same h)
                        clear hmm dd
                        go_wp2_with fail
                        go_ret2
                        exact back_no HNO.out (below_dN HB5.out nd)
                    · have d1 : (x != 0) = true := by simp [hx0]
                      have HNO : Hid (∀ t, ¬ IsLast t m) := (HSL.out).resolve_left hx0
                      clear hx0
                      go_wp2_with fail
                      go_ret2
                      exact back_no HNO.out hbw
                  · obtain ⟨i, rfl⟩ : ∃ i, r = i + 1 := ⟨r - 1, by omega⟩
                    have hnext : lfL m (chain m (n - (i + 1))) = chain m (n - i) := by
                      rw [show n - i = (n - (i + 1)) + 1 by omega]; rfl
                    have htx : (textOf m)[i]?.getD 0 = sy m (chain m (n - (i + 1))) - 1 := by
                      rw [textOf_get (by omega), Option.getD_some, show m.length - 2 - i = n - (i + 1) by omega]
                    have hno1 : sy m (chain m (n - (i + 1))) = 0 → ∀ t, ¬ IsLast t m := fun e t h => by
                      have h1 := h.len
                      have h2 := h.sym (k := n - (i + 1)) (by omega)
                      rw [e] at h2
                      have h3 := h.1 _ (List.getElem_mem (show t.length - 1 - (n - (i + 1)) < t.length by omega))
                      omega
                    have hno2 : 0 < seenC m (n - (i + 1)) (chain m (n - (i + 1))) → ∀ t, ¬ IsLast t m := fun e t h => by
                      obtain ⟨y, hy, he⟩ := seenC_pos e
                      have h1 := h.len
                      exact h.ne (j := y) (k := n - (i + 1)) (by omega) (by omega) (by omega) he
                    have hsle := seenC_le m (n - (i + 1)) (chain m (n - (i + 1)))
                    obtain ⟨d1, d2, _, d4, _, _⟩ := hst.cells
                    have e2 := d1 (chain m (n - (i + 1))) hcl
                    have e3 := d2 (chain m (n - (i + 1))) hcl
                    have e4 := d4 (chain m (n - (i + 1)))
                    have e5 := vec_cell hqr (show i < n by omega)
                    rw [if_neg (by omega)] at e5
                    have e6 : wr.frozen? ⟨qx, i, none⟩ = false := frozen_of_row wr qx i _ _ hqr
                    rw [hnext] at e3
                    have hss : ∀ z, seenC m (n - i) z = seenC m (n - (i + 1)) z + (if chain m (n - (i + 1)) = z then 1 else 0) := fun z => by
                      rw [show n - i = (n - (i + 1)) + 1 by omega, seenC_succ]
                    have HSS := Lib.hid hss
                    have HTX := Lib.hid htx
                    have HNO1 := Lib.hid hno1
                    have HNO2 := Lib.hid hno2
                    have hqx := HQX.out
                    have hlo := hst.lo
                    clear hn hnext htx hno1 hno2 hss d1 d2 d4 hst hqr hbs
                    generalize hce : chain m (n - (i + 1)) = ρ at *
                    generalize hsv : seenC m (n - (i + 1)) ρ = sv at *
                    generalize hxe : sy m ρ = x at *
                    generalize hze : chain m (n - i) = ζ at *
                    have HCE := Lib.hid hce
                    have HSV := Lib.hid hsv
                    have HXE := Lib.hid hxe
                    have HZE := Lib.hid hze
                    clear hce hsv hxe hze
                    by_cases hx1 : 1 ≤ x
                    · have hby := fun w => symByte_yes x w hx1 hxm.2
                      have HBY := Lib.hid hby
                      clear hby
                      by_cases hs0 : sv = 0
                      · rw [hs0, show ((0 : Nat) : Int) = 0 from rfl] at e2
                        rw [hs0] at HSV
                        clear HNO2 hsle hs0
                        have hba : BackSt w.heap.size ((wr.setCell ⟨qs, ρ, none⟩ (.int .i64 1)).setCell ⟨qx, i, none⟩ (.int .u8 (x - 1))) p qs qt Q m.length (Tl.of m) (fun z => (seenC m (n - i) z : Int)) (fun i => (lfL m i : Int)) (fun s => ((belowL m (s : Int) + cnt (m.take m.length) (s : Int) : Nat) : Int)) := by
                          have h1 := HST.out.setSeen ρ 1
                          have h2 := h1.chg (Chg.refl.setCell (S := fun b => b = qx) ⟨qx, i, none⟩ (Or.inl rfl) (.int .u8 (x - 1))) (fun e => by have e : p = qx := e; omega) (fun e => by have e : qs = qx := e; omega) (fun e => by have e : qt = qx := e; omega) (fun e => by have e : Q = qx := e; omega)
                          refine h2.congr (fun z _ => ?_) (fun _ _ => rfl) (fun _ _ => rfl)
                          rw [HSS.out z]
                          by_cases e : z = ρ
                          · subst e; rw [if_pos rfl, if_pos rfl, HSV.out]; rfl
                          · rw [if_neg e, if_neg (fun h => e h.symm)]; rfl
                        have hqq : ((wr.setCell ⟨qs, ρ, none⟩ (.int .i64 1)).setCell ⟨qx, i, none⟩ (.int .u8 (x - 1))).heap[qx]? = some (.cells (vecL (fun z => .int .u8 (if i ≤ z then (textOf m)[z]?.getD 0 else 0)) n).toArray 5 (0, 0)) := by
                          have h0 := (Chg.refl.setCell (S := fun b => b = qs) (w := wr) ⟨qs, ρ, none⟩ (Or.inl rfl) (.int .i64 1)).heap HQR.out (fun e => by have e : qx = qs := e; omega)
                          rw [vec_set h0, vecL_congr]
                          intro z hz
                          by_cases e : z = i
                          · subst e; rw [if_pos rfl, if_pos (Nat.le_refl _), HTX.out]
                          · rw [if_neg e]
                            by_cases e2 : i ≤ z
                            · rw [if_pos e2, if_pos (by omega)]
                            · rw [if_neg e2, if_neg (by omega)]
                        have hbb : Below w.heap.size w ((wr.setCell ⟨qs, ρ, none⟩ (.int .i64 1)).setCell ⟨qx, i, none⟩ (.int .u8 (x - 1))) := below_setQ (below_setQ hbw hs hlo.2.1 _) (by simp [World.setCell]; exact hs) (by omega) _
                        have HBA := Lib.hid hba
                        have HQQ := Lib.hid hqq
                        have HBB := Lib.hid hbb
                        have hne : qx ≠ qs := by omega
                        have hne2 : qt ≠ qs := fun e => HST.out.ne.1 e.symm
                        have hne3 : qt ≠ qx := by omega
                        clear hba hqq hbb
                        go_wp2_with (go_at_call 62; refine (HBY.out _).mono ?_; rintro e w' ⟨rfl, rfl⟩)
                        go_roundw
                        case rel =>
                          refine ⟨i, by omega, by go_num, by rw [HZE.out], HBA.out, HQQ.out, fun j hj => ?_, HBB.out⟩
                          by_cases e : j < n - (i + 1)
                          · exact HBS.out j e
                          · obtain rfl : j = n - (i + 1) := by omega
                            rw [HCE.out, HXE.out]; exact hx1
                        case measure => simp [intOf]
                      · have d1 : decide (0 < sv) = true := by simp; omega
                        have d2 : 0 < sv := by omega
                        have HNO : Hid (∀ t, ¬ IsLast t m) := HNO2.out (by omega)
                        clear hs0
                        go_wp2_with (go_at_call 62; refine (HBY.out _).mono ?_; rintro e w' ⟨rfl, rfl⟩)
                        go_ret2
                        exact back_no HNO.out hbw
                    · have hby := fun w => symByte_no x w (by omega)
                      have HBY := Lib.hid hby
                      have HNO : Hid (∀ t, ¬ IsLast t m) := HNO1.out (by omega)
                      clear hby
                      go_wp2_with (go_at_call 62; refine (HBY.out _).mono ?_; rintro e w' ⟨rfl, rfl⟩)
                      go_ret2
                      exact back_no HNO.out hbw
    · have d1 : ((cnt m 0 : Int) != 1) = true := by rw [bne_iff_ne]; omega
      have HNO : Hid (∀ t, ¬ IsLast t m) := fun t h => h1 h.zero
      clear h1
      generalize (cnt m 0 : Int) = z at *
      go_wp2_with (go_at_call 60; refine HOF.out.mono ?_; rintro e w' ⟨rfl, rfl⟩)
      go_ret2
      exact back_no HNO.out HB1.out
  · have HNO : Hid (∀ t, ¬ IsLast t m) := fun t h => hsy h.range
    obtain ⟨k0, hk0, h1, h2⟩ := first_bad hsy
    have hnew := tNew_fail (c := c) hr hk0 h1 h2 (by omega)
    have HNEW := Lib.hid hnew
    clear hnew h1 h2 hsy
    go_enter Try.func20, Try.ntmps20
    go_wp2_with fail
    refine HNEW.out.mono ?_
    rintro e w1 ⟨rfl, hb1⟩
    go_wp2_with fail
    go_ret2
    exact back_no HNO.out hb1

end Go.Proofs.Ytpbmhdkhkbhgnaa

namespace Go.Proofs.Ytpbmhdkhkbhgnaa
open Go.RowKit

end Go.Proofs.Ytpbmhdkhkbhgnaa

namespace Go.Proofs.Ytpbmhdkhkbhgnaa
open Go.RowKit

theorem u64_of (a : Int) : ∃ u : Int, 0 ≤ u ∧ IntKind.u64.wrap a = u := ⟨IntKind.u64.wrap a, by rw [IntKind.wrap_u64]; omega, rfl⟩

theorem pow_succ' (n : Nat) : (2 : Int) ^ (n + 1) = 2 * 2 ^ n := by rw [Int.pow_succ]; omega

theorem symPath_val {x : Int} {l : Nat} (h0 : 0 ≤ x) (h1 : x < 257) (h : l ≤ 9) : symPath x (l : Int) = x / 2 ^ (9 - l) := by
  unfold symPath
  rw [if_pos ⟨h0, h1, by omega, by omega⟩]
  have e : (9 - (l : Int)).toNat = 9 - l := by omega
  rw [e]

theorem symBit_val {x : Int} {l : Nat} (h0 : 0 ≤ x) (h1 : x < 257) (h : l < 9) : symBit x (l : Int) = decide (x / 2 ^ (8 - l) % 2 = 1) := by
  unfold symBit
  have e : (8 - (l : Int)).toNat = 8 - l := by omega
  rw [e]
  have h2 : (0 : Int) ≤ (l : Int) := by omega
  have h3 : (l : Int) < 9 := by omega
  simp only [h0, h1, h2, h3, true_and]

theorem symPath_zero {x : Int} (h0 : 0 ≤ x) (h1 : x < 257) : symPath x 0 = 0 := by
  have h := symPath_val (l := 0) h0 h1 (by omega)
  have e : ((0 : Nat) : Int) = 0 := rfl
  rw [e] at h
  rw [h]
  have : (2 : Int) ^ (9 - 0) = 512 := by decide
  rw [this]; omega

theorem symPath_nine {x : Int} (h0 : 0 ≤ x) (h1 : x < 257) : symPath x 9 = x := by
  have h := symPath_val (l := 9) h0 h1 (by omega)
  have e : ((9 : Nat) : Int) = 9 := rfl
  rw [e] at h
  rw [h]
  have : (2 : Int) ^ (9 - 9) = 1 := by decide
  rw [this]; omega

theorem symPath_ten {x : Int} : symPath x 10 = -1 := if_neg (by omega)
theorem symBit_nine {x : Int} : symBit x 9 = false := decide_eq_false (by omega)

theorem symPath_step {x : Int} {l : Nat} (h0 : 0 ≤ x) (h1 : x < 257) (h : l < 9) : symPath x ((l + 1 : Nat) : Int) = 2 * symPath x (l : Int) + (if symBit x (l : Int) = true then 1 else 0) := by
  rw [symPath_val h0 h1 (by omega), symPath_val h0 h1 (by omega), symBit_val h0 h1 h]
  have e : 9 - l = (8 - l) + 1 := by omega
  have e2 : 9 - (l + 1) = 8 - l := by omega
  rw [e, e2, pow_succ', Int.mul_comm 2 (2 ^ (8 - l)), ← Int.ediv_ediv_of_nonneg (Int.pow_nonneg (by omega))]
  generalize x / 2 ^ (8 - l) = q
  by_cases hq : q % 2 = 1
  · simp only [hq, decide_true, if_true]; omega
  · simp only [hq, decide_false, if_false, Bool.false_eq_true]; omega

theorem symPath_bd {x : Int} {l : Nat} (h0 : 0 ≤ x) (h1 : x < 257) (h : l ≤ 9) : 0 ≤ symPath x (l : Int) ∧ symPath x (l : Int) < 257 := by
  rw [symPath_val h0 h1 h]
  exact shr_bd x _ h0 h1

theorem symPath_down {x y : Int} {l : Nat} (hx0 : 0 ≤ x) (hx1 : x < 257) (hy0 : 0 ≤ y) (hy1 : y < 257) (h : l < 9) (he : symPath x ((l + 1 : Nat) : Int) = symPath y ((l + 1 : Nat) : Int)) :
    symPath x (l : Int) = symPath y (l : Int) ∧ symBit x (l : Int) = symBit y (l : Int) := by
  rw [symPath_step hx0 hx1 h, symPath_step hy0 hy1 h] at he
  cases hb : symBit x (l : Int) <;> cases hc : symBit y (l : Int) <;> simp only [hb, hc, if_true, if_false, Bool.false_eq_true] at he <;> first | exact ⟨by omega, rfl⟩ | omega

theorem symPath_downs {x y : Int} (hx0 : 0 ≤ x) (hx1 : x < 257) (hy0 : 0 ≤ y) (hy1 : y < 257) : ∀ (l : Nat), l ≤ 9 → symPath x (l : Int) = symPath y (l : Int) → ∀ k, k ≤ l → symPath x (k : Int) = symPath y (k : Int)
  | 0, _, he, k, hk => by obtain rfl : k = 0 := by omega
                          exact he
  | l + 1, hl, he, k, hk => by
    by_cases e : k = l + 1
    · subst e; exact he
    · exact symPath_downs hx0 hx1 hy0 hy1 l (by omega) (symPath_down hx0 hx1 hy0 hy1 (by omega) he).1 k (by omega)

theorem symPath_all {x y : Int} (hx0 : 0 ≤ x) (hx1 : x < 257) (hy0 : 0 ≤ y) (hy1 : y < 257) (he : symPath x ((9 : Nat) : Int) = symPath y ((9 : Nat) : Int)) : x = y := by
  have h1 := symPath_nine hx0 hx1
  have h2 := symPath_nine hy0 hy1
  exact h1.symm.trans (he.trans h2)

/-- Where the paths are one and the bits part, the greater one has the 1. -/
theorem symBit_gt {x y : Int} {l : Nat} (hx0 : 0 ≤ x) (hx1 : x < 257) (hy0 : 0 ≤ y) (hy1 : y < 257) (h : l < 9) (he : symPath x (l : Int) = symPath y (l : Int)) (hb : symBit x (l : Int) ≠ symBit y (l : Int)) :
    symBit x (l : Int) = decide (y < x) := by
  have s1 := symPath_step hx0 hx1 h
  have s2 := symPath_step hy0 hy1 h
  rw [symPath_val hx0 hx1 (by omega)] at s1
  rw [symPath_val hy0 hy1 (by omega)] at s2
  have hp : (0 : Int) < 2 ^ (9 - (l + 1)) := Int.pow_pos (by omega)
  generalize (2 : Int) ^ (9 - (l + 1)) = q at *
  rw [he] at s1
  cases hbx : symBit x (l : Int) <;> cases hby : symBit y (l : Int) <;> rw [hbx, hby] at hb <;> simp only [hbx, hby, if_true, if_false, Bool.false_eq_true] at s1 s2
  · exact absurd rfl hb
  · have hlt : x / q < y / q := by omega
    have : ¬ y ≤ x := fun hyx => by have := Int.ediv_le_ediv hp hyx; omega
    exact (decide_eq_false (by omega)).symm
  · have hlt : y / q < x / q := by omega
    have : ¬ x ≤ y := fun hyx => by have := Int.ediv_le_ediv hp hyx; omega
    exact (decide_eq_true (by omega)).symm
  · exact absurd rfl hb

end Go.Proofs.Ytpbmhdkhkbhgnaa

namespace Go.Proofs.Ytpbmhdkhkbhgnaa
open Go.RowKit

theorem take_snoc (s : ByteArray) (k : Nat) (h : k < s.size) : s.data.toList.take (k + 1) = s.data.toList.take k ++ [s[k]] := by
  rw [List.take_succ_eq_append_getElem (by simpa using h)]; rfl

/-- A string's byte as a symbol's value. -/
def symB (b : UInt8) : Value := .int .i64 ((b.toNat : Int) + 1)

/-- Are two lists of numbers one? -/
def sameI (xs ys : List Int) : Bool := decide (xs = ys)

theorem take_eq_step {xs ys : List Int} {k : Nat} (hx : k < xs.length) (hy : k < ys.length) (h : xs.take k = ys.take k) (he : xs[k]?.getD 0 = ys[k]?.getD 0) : xs.take (k + 1) = ys.take (k + 1) := by
  rw [List.take_add_one, List.take_add_one, h, List.getElem?_eq_getElem hx, List.getElem?_eq_getElem hy]
  rw [List.getElem?_eq_getElem hx, List.getElem?_eq_getElem hy] at he
  simp only [Option.getD_some] at he
  rw [he]

set_option maxHeartbeats 1600000 in
set_option maxRecDepth 100000 in
theorem refSame_any (a b : Option Addr) (c d : Nat) (xs ys : List Int) (w : World) (hx : Reads w .i64 a xs) (hy : Reads w .i64 b ys) (hm : xs.length ≤ 9223372036854775806) :
    Calls Try.prog 22 #[.slice a xs.length c, .slice b ys.length d] w fun e w' => e = .returned (.bool (sameI xs ys)) ∧ ∃ n, w' = w.drewN n := by
  by_cases hl : xs.length = ys.length
  · have hlb : ((xs.length : Int) != (ys.length : Int)) = false := by simp [hl]
    have HL := Lib.hid hl
    rw [← hl] at hlb ⊢
    clear hl
    go_enter Try.func22, Try.ntmps22
    go_wp2
    go_loopw [5] (fun i wr => ∃ k : Nat, k ≤ xs.length ∧ i = .int .i64 k ∧ xs.take k = ys.take k ∧ ∃ n, wr = w.drewN n) (fun i _ => xs.length - (intOf i).toNat)
    case atStart => exact ⟨0, Nat.zero_le _, rfl, rfl, 0, rfl⟩
    case round =>
      obtain ⟨k, hk, rfl, ht, nd, rfl⟩ := hrel
      have HT := Lib.hid ht; clear ht
      by_cases hlt : k < xs.length
      · obtain ⟨b0, o0, rfl, _, hc0⟩ := hx.some (by omega)
        obtain ⟨b1, o1, rfl, _, hc1⟩ := hy.some (by have := HL.out; omega)
        have h0 := hc0 k hlt
        have h1 := hc1 k (by have := HL.out; omega)
        clear hc0 hc1 hx hy
        have HD : Hid ((xs[k]?.getD 0 = ys[k]?.getD 0 → xs.take (k + 1) = ys.take (k + 1)) ∧ (xs[k]?.getD 0 ≠ ys[k]?.getD 0 → sameI xs ys = false)) :=
          ⟨fun he => take_eq_step hlt (by have := HL.out; omega) HT.out he, fun hne => decide_eq_false fun he => hne (by rw [he])⟩
        generalize xs[k]?.getD 0 = x at *
        generalize ys[k]?.getD 0 = y at *
        have hi0 : (0 : Int) ≤ (k : Int) := by omega
        have hi1 : (k : Int) < (xs.length : Int) := by omega
        by_cases hxy : x = y
        · subst hxy
          go_wp2_with fail
          go_quiet (fail)
          go_wp2
          go_roundw
          case rel => exact ⟨k + 1, by omega, by simp, HD.out.1 (by trivial), _, rfl⟩
          case measure => simp [intOf]; omega
        · have hne : (x != y) = true := by simp [hxy]
          have HS : Hid (sameI xs ys = false) := HD.out.2 hxy
          clear hxy
          go_wp2_with fail
          go_quiet (fail)
          go_wp2
          go_ret
          exact ⟨ret_bool HS.out.symm, _, World.drewN_drewN _ _ _⟩
      · obtain rfl : k = xs.length := by omega
        have HS : Hid (sameI xs ys = true) := decide_eq_true (by
          have := HT.out
          rwa [List.take_length, HL.out, List.take_length] at this)
        go_wp2
        go_ret
        exact ⟨ret_bool HS.out.symm, _, rfl⟩
  · have hlb : ((xs.length : Int) != (ys.length : Int)) = true := by rw [bne_iff_ne]; omega
    have hsm : sameI xs ys = false := decide_eq_false fun h => hl (by rw [h])
    rw [hsm]
    clear hsm hl
    go_enter Try.func22, Try.ntmps22
    go_wp2
    go_ret
    exact ⟨rfl, 0, rfl⟩

theorem refSame_len (a b : Option Addr) (n m c d : Nat) (xs ys : List Int) (w : World) (hx : Reads w .i64 a xs) (hy : Reads w .i64 b ys) (hn : n = xs.length) (hm : m = ys.length) (hmx : xs.length ≤ 9223372036854775806) :
    Calls Try.prog 22 #[.slice a n c, .slice b m d] w fun e w' => e = .returned (.bool (sameI xs ys)) ∧ ∃ k, w' = w.drewN k := by
  subst hn; subst hm
  exact refSame_any a b c d xs ys w hx hy hmx

/-- The symbols of bytes, and the end. -/
def symsOf (xs : List Int) : List Int := xs.map (· + 1) ++ [0]
theorem symsOf_len (xs : List Int) : (symsOf xs).length = xs.length + 1 := by simp [symsOf]
theorem symsOf_vals (xs : List Int) : (symsOf xs).map (Value.int .i64) = xs.map symV ++ [.int .i64 0] := by
  simp only [symsOf, List.map_append, List.map_map, List.map_cons, List.map_nil]; rfl

/-- An own row of symbols, as a slice that is read. -/
theorem own_syms {w : World} {base : Nat} {v : Value} {xs : List Int} (h : w.ownsRow base 3 1 v (xs.length + 1) (xs.map symV ++ [.int .i64 0])) :
    ∃ g cap, v = .slice (some ⟨g, 0, none⟩) (xs.length + 1) cap ∧ base ≤ g ∧ g < w.heap.size ∧ Reads w .i64 (some ⟨g, 0, none⟩) (symsOf xs) := by
  obtain ⟨g, cap, rfl, hg1, hg2, hc1, hc2, hcell, hfr⟩ := own_some h (by omega)
  exact ⟨g, cap, rfl, hg1, hg2, own_reads (by rw [symsOf_vals]; exact h)⟩

theorem refIs_any (s : Int) (w : World) : Calls Try.prog 91 #[.int .i64 s] w fun e w' => e = .returned (.bool (symIs s)) ∧ w = w' := by
  by_cases h0 : 0 ≤ s
  · have d0 : decide (0 ≤ s) = true := decide_eq_true h0
    by_cases h1 : s < 257
    · rw [symIs_true h0 h1]
      have d1 : decide (s < 257) = true := decide_eq_true h1
      go_enter Try.func91, Try.ntmps91
      go_wp2
      go_ret
      exact ⟨rfl, rfl⟩
    · rw [symIs_false (by omega)]
      have d1 : decide (s < 257) = false := decide_eq_false h1
      go_enter Try.func91, Try.ntmps91
      go_wp2
      go_ret
      exact ⟨rfl, rfl⟩
  · have d0 : decide (0 ≤ s) = false := decide_eq_false h0
    rw [symIs_false (by omega)]
    go_enter Try.func91, Try.ntmps91
    go_wp2
    go_ret
    exact ⟨rfl, rfl⟩

end Go.Proofs.Ytpbmhdkhkbhgnaa

namespace Go.Proofs.Ytpbmhdkhkbhgnaa
open Go.ChangeShapes Go.WideShapes Go.ChangeAt Go.RowKit

variable {H : Type} {enc : TypeId × Value → H} {P : Program} {w : World} {base : Nat} {sp : Nat → Bool} {held : Bool}

theorem argI_of {t e : TypeId} {k : IntKind} {fuel : Nat} {a : Option Addr} {len cap : Nat} {x : DataW H × List MemPlace} (ht : P.underlying t = some (.slice e)) (he : P.underlying e = some (.int k)) (hc : P.cellsOf e = 1)
    (hf : DataW.trod enc P w base sp held fuel t (Value.slice a len cap).cells.toList = some x) : ∃ xs : List Int, len = xs.length ∧ ArgI k w a cap xs := by
  rcases open_ints ht he hc hf with ⟨hcs, _⟩ | ⟨x, l, c, zs, hcs, _, hl, hm, hz, _, hcell, hwz⟩
  · simp [Value.cells] at hcs
    obtain ⟨rfl, rfl, rfl⟩ := hcs
    exact ⟨[], rfl, ⟨Reads.nil, fun i hi => absurd hi (by simp), by simp, by unfold maxLen; omega, fun _ => rfl⟩⟩
  · simp [Value.cells] at hcs
    obtain ⟨rfl, rfl, rfl⟩ := hcs
    have hzl : len ≤ zs.length := by rw [hz]; split <;> omega
    have hlen : (zs.take len).length = len := by rw [List.length_take]; omega
    clear hz
    refine ⟨zs.take len, hlen.symm, ⟨fun i hi => ?_, fun i hi => ?_, by rw [hlen]; exact hl, hm, fun h => by cases h⟩⟩
    · rw [hlen] at hi ⊢
      obtain ⟨b, off, spot⟩ := x
      have h0 := hcell 0 (by omega)
      have hspot : spot = none := by simpa [Addr.add] using World.cell?_spot h0
      subst hspot
      refine ⟨b, off, rfl, World.block_lt_of_cell? w _ (by simpa [Addr.add] using h0), fun j hj => ?_⟩
      have := hcell j (by omega)
      rw [List.getElem?_take, if_pos hj]
      rw [Addr.add_lit] at this
      simpa [List.getD_eq_getElem?_getD] using this
    · rw [hlen] at hi
      rw [List.getElem?_take, if_pos hi, List.getElem?_eq_getElem (by omega)]
      exact hwz _ (List.getElem_mem _)

end Go.Proofs.Ytpbmhdkhkbhgnaa

namespace Go.Proofs.Ytpbmhdkhkbhgnaa
set_option linter.unusedVariables false
open Go.RowKit

theorem bytes_of {w : World} {a : Option Addr} {c : Nat} {xs : List Int} (h : ArgI .u8 w a c xs) : Bytes xs := fun i hi => by
  have := bounds_u8 (h.wf i hi); omega

/-- 'string(x)' of a row that came in. -/
theorem conv_str {P : Program} {src dst e : TypeId} {w : World} {a : Option Addr} {c : Nat} {xs : List Int} (hs : P.underlying src = some (.slice e)) (he : P.underlying e = some (.int .u8)) (hd : P.underlying dst = some .string) (h : Reads w .u8 a xs) :
    (convert src dst (.slice a xs.length c)).run P w = .ok (.string (strOfNums xs)) w := by
  by_cases h0 : xs.length = 0
  · have hx : xs = [] := List.eq_nil_of_length_eq_zero h0
    subst hx
    cases a with
    | none => exact run_convert_bytes_nil w src e hs he _ _ dst hd
    | some ad =>
      have := run_convert_bytes_back w src dst e ad c [] hs he hd (fun j hj => absurd hj (by simp))
      exact this
  · obtain ⟨b, off, rfl, _, hc⟩ := h.some (by omega)
    exact run_convert_bytes_arg w src e hs he b off xs.length c xs rfl (fun i hi => by rw [hc i hi, List.getD_eq_getElem?_getD]) dst hd

theorem symB_of (xs : List Int) (h : Bytes xs) : (strOfNums xs).data.toList.map symB = xs.map symV := by
  rw [strOfNums_data, List.map_map]
  apply List.ext_getElem
  · simp
  · intro i h1 h2
    simp only [List.length_map] at h1 h2
    have hb := h i h2
    rw [List.getElem?_eq_getElem h2] at hb
    simp only [Option.getD_some] at hb
    simp only [List.getElem_map, Function.comp_apply, symB, symV]
    congr 1
    have : (UInt8.ofNat xs[i].toNat).toNat = xs[i].toNat := by
      rw [UInt8.toNat_ofNat']; exact Nat.mod_eq_of_lt (by omega)
    rw [this]; omega

theorem strOfNums_append (xs ys : List Int) : strOfNums xs ++ strOfNums ys = strOfNums (xs ++ ys) := by
  unfold strOfNums
  rw [ByteArray.mk_append_mk, List.map_append]

theorem symAll_of (pb c : Nat) (a0 : Option Addr) (c0 : Nat) (x0 : List Int) (a1 : Option Addr) (c1 : Nat) (x1 : List Int) (w : World) (hpb : pb < w.heap.size)
    (h0 : w.cell? ⟨pb, 0, none⟩ = some (.slice a0 x0.length c0)) (r0 : Reads w .u8 a0 x0) (b0 : Bytes x0)
    (h1 : w.cell? ⟨pb, 1, none⟩ = some (.slice a1 x1.length c1)) (r1 : Reads w .u8 a1 x1) (b1 : Bytes x1) (ht : x0.length + x1.length ≤ 1000000000) :
    Calls Try.prog 26 #[.slice (some ⟨pb, 0, none⟩) 2 c] w fun e w' =>
      ∃ g cap, e = .returned (.slice (some ⟨g, 0, none⟩) ((x0 ++ x1).length + 1) cap) ∧ Reads w' .i64 (some ⟨g, 0, none⟩) (symsOf (x0 ++ x1)) ∧ w.heap.size ≤ g ∧ g < w'.heap.size ∧ Below w.heap.size w w' := by
  refine (symAll2 pb c a0 c0 x0 a1 c1 x1 w hpb h0 r0 b0 h1 r1 b1 ht).mono ?_
  rintro e w' ⟨v, rfl, hown, hbl⟩
  obtain ⟨g, cap, rfl, h1, h2, h3⟩ := own_syms hown
  exact ⟨g, cap, rfl, h3, h1, h2, hbl⟩

theorem conv_run_keep {P : Program} {src dst e : TypeId} {w : World} {a : Option Addr} {c : Nat} {xs : List Int} (hs : P.underlying src = some (.slice e)) (he : P.underlying e = some (.int .u8)) (hd : P.underlying dst = some .string)
    {w' : World} (h : Reads w .u8 a xs) (hb : Below w.heap.size w w') : (convert src dst (.slice a xs.length c)).run P w' = .ok (.string (strOfNums xs)) w' := conv_str hs he hd (h.below hb)

end Go.Proofs.Ytpbmhdkhkbhgnaa

namespace Go.Proofs.Ytpbmhdkhkbhgnaa
set_option linter.unusedVariables false
set_option linter.unusedSimpArgs false
open Go.RowKit

def RowsAt (B : Nat) (w : World) (t : List Int) (e : Ending) (w' : World) : Prop := ∃ a c r, e = .returned (.slice a (t.length + 1) c) ∧ IsRows (symsT t) r ∧ w'.ownsRow B 3 1 (.slice a (t.length + 1) c) (t.length + 1) (r.map natV) ∧ Below B w w'
theorem rows_at {n : Nat} {w : World} (a : Option Addr) (c : Nat) (t : List Int) (hn : n = t.length) (hr : Reads w .u8 a t) (hb : Bytes t) (hl : t.length ≤ 1000000) :
    Calls Try.prog 17 #[.slice a n c] w (RowsAt w.heap.size w t) := by
  subst hn
  refine (rows_any a c t w hr hb hl).mono ?_
  rintro e w' ⟨r, hrw, v, rfl, hown, hb'⟩
  have hlen : r.length = t.length + 1 := by rw [hrw.len, symsT_len]
  rw [hlen] at hown
  obtain ⟨a', c', rfl, _, _⟩ := own_slice hown
  exact ⟨a', c', r, rfl, hrw, hown, hb'⟩
def LastAt (B : Nat) (w : World) (t : List Int) (e : Ending) (w' : World) : Prop := ∃ a c m, e = .returned (.slice a (t.length + 1) c) ∧ IsLast t m ∧ w'.ownsRow B 3 1 (.slice a (t.length + 1) c) (t.length + 1) (m.map (Value.int .i64)) ∧ Below B w w'
theorem last_at {n : Nat} {w : World} (a : Option Addr) (c : Nat) (t : List Int) (hn : n = t.length) (hr : Reads w .u8 a t) (hb : Bytes t) (hl : t.length ≤ 1000000) :
    Calls Try.prog 24 #[.slice a n c] w (LastAt w.heap.size w t) := by
  subst hn
  refine (last_any a c t w hr hb hl).mono ?_
  rintro e w' ⟨m, hm, v, rfl, hown, hb'⟩
  rw [hm.len] at hown
  obtain ⟨a', c', rfl, _, _⟩ := own_slice hown
  exact ⟨a', c', m, rfl, hm, hown, hb'⟩
/-- Back, where there is a text; where there is none. -/
def BackYes (B : Nat) (w : World) (t : List Int) (e : Ending) (w' : World) : Prop := ∃ a c, e = .returned (.tuple #[.slice a t.length c, .bool true]) ∧ w'.ownsRow B 5 1 (.slice a t.length c) t.length (t.map (Value.int .u8)) ∧ Below B w w'
theorem back_yes {n : Nat} {w : World} {t m : List Int} (h : IsLast t m) (a : Option Addr) (c : Nat) (hn : n = m.length) (hr : Reads w .i64 a m) (hl : m.length ≤ 1000000) :
    Calls Try.prog 20 #[.slice a n c] w (BackYes w.heap.size w t) := by
  subst hn
  refine (back_any a c m w hr hl).mono ?_
  rintro e w' ⟨v, ok, rfl, hb', hy, hno⟩
  cases ok with
  | false => exact absurd h ((hno rfl).2 t)
  | true =>
    obtain ⟨_, hown⟩ := hy rfl
    rw [← h.text] at hown
    obtain ⟨a', c', rfl, _, _⟩ := own_slice hown
    exact ⟨a', c', rfl, hown, hb'⟩
theorem back_none {n : Nat} {w : World} {m : List Int} (h : ∀ t, ¬ IsLast t m) (a : Option Addr) (c : Nat) (hn : n = m.length) (hr : Reads w .i64 a m) (hl : m.length ≤ 1000000) :
    Calls Try.prog 20 #[.slice a n c] w fun e w' => e = .returned (.tuple #[.slice none 0 0, .bool false]) ∧ Below w.heap.size w w' := by
  subst hn
  refine (back_any a c m w hr hl).mono ?_
  rintro e w' ⟨v, ok, rfl, hb', hy, hno⟩
  cases ok with
  | true => exact absurd (hy rfl).1 (h _)
  | false =>
    obtain ⟨rfl, _⟩ := hno rfl
    exact ⟨rfl, hb'⟩

/-- What is returned is some row of bytes of the call's own. -/
def SomeT (B : Nat) (w : World) (most : Nat) (e : Ending) (w' : World) : Prop := ∃ a c t, e = .returned (.slice a t.length c) ∧ Bytes t ∧ t.length ≤ most ∧ w'.ownsRow B 5 1 (.slice a t.length c) t.length (t.map (Value.int .u8)) ∧ Below B w w'
theorem bytes_snoc {t : List Int} {x : Int} (h : Bytes t) (h0 : 0 ≤ x) (h1 : x < 256) : Bytes (t ++ [x]) := by
  intro i hi
  rw [List.getElem?_append]
  split
  · exact h i (by assumption)
  · rw [List.length_append] at hi
    have : i - t.length = 0 := by simp at hi; omega
    rw [this]; exact ⟨h0, h1⟩
theorem wrap_u8 (x : Int) : ∃ y : Int, IntKind.u8.wrap x = y ∧ 0 ≤ y ∧ y < 256 := by
  refine ⟨_, rfl, ?_, ?_⟩ <;> · simp [IntKind.wrap, IntKind.bits, IntKind.signed]; omega

set_option maxHeartbeats 1600000 in
theorem lawText_any (a : Option Addr) (c : Nat) (z : List Int) (most : Nat) (few : Bool) (w : World) (hr : Reads w .i64 a z) (hm : most ≤ 1000) (hz : z.length ≤ maxLen) :
    Calls Try.prog 16 #[.slice a z.length c, .int .i64 most, .bool few] w (SomeT w.heap.size w most) := by
  unfold maxLen at hz
  go_enter Try.func16, Try.ntmps16
  go_wp2_with fail
  go_loopw [7, 8] (fun v i wr => ∃ (k : Nat) (t : List Int), k ≤ z.length ∧ t.length = k ∧ k ≤ most ∧ i = .int .i64 k ∧ Bytes t ∧ wr.ownsRow w.heap.size 5 1 v k (t.map (Value.int .u8)) ∧ Below w.heap.size w wr) (fun _ i _ => z.length - (intOf i).toNat)
  case atStart => exact ⟨0, [], Nat.zero_le _, rfl, Nat.zero_le _, rfl, bytes_nil, World.ownsRow_nil _ _ _ _, Below.refl _ _⟩
  case round =>
    obtain ⟨k, t, hk, ht, hkm, rfl, hbt, hown, hb⟩ := hrel
    have hs := hb.size
    obtain ⟨a4, c4, rfl, _, _⟩ := own_slice hown
    by_cases hlt : k < z.length ∧ k < most
    · obtain ⟨hlt, hlm⟩ := hlt
      obtain ⟨b, off, rfl, hbl, hcells⟩ := hr.some (by omega)
      have hc0 := (hb.cell (p := ⟨b, off + k, none⟩) hbl).trans (hcells k hlt)
      generalize z[k]?.getD 0 = x at *
      have HBT := Lib.hid hbt
      have HT := Lib.hid ht
      clear hcells hbt ht
      have d1 : decide ((k : Int) < (most : Int)) = true := by simp; omega
      obtain ⟨u, hu0, hu1, hu⟩ : ∃ u : Int, 0 ≤ u ∧ u < 18446744073709551616 ∧ IntKind.u64.wrap x = u := ⟨IntKind.u64.wrap x, by rw [IntKind.wrap_u64]; omega, by rw [IntKind.wrap_u64]; omega, rfl⟩
      obtain ⟨y, hy, hy0, hy1⟩ := wrap_u8 x
      have u30 : 0 ≤ u % 3 := by omega
      have u31 : u % 3 < 3 := by omega
      obtain ⟨V, hV, hV0, hV1⟩ : ∃ V : Int, V = (if few then 97 + u % 3 else y) ∧ 0 ≤ V ∧ V < 256 := ⟨_, rfl, by split <;> omega, by split <;> omega⟩
      cases few
      all_goals
        simp only [if_true, if_false, Bool.false_eq_true] at hV
        have HV := Lib.hid hV
        clear hV
        go_wp2_with (at_builtin; refine wpList_push rfl _ _ 23 rfl w.heap.size 5 Try.infoU8 Try.underlying23 rfl _ _ _ rfl hown rfl rfl ?c1 ?c2 ?c3 ?_)
        case c1 => unfold maxLen; omega
        case c2 => omega
        case c3 => omega
        intro v' w5 hown' hgrow
        have hch : Below w.heap.size w w5 := hb.grown hgrow hs (fun j hj => (hown.lt j hj).1)
        rw [← HV.out] at hown'
        have HO : Hid (w5.ownsRow w.heap.size 5 1 v' (k + 1) ((t ++ [V]).map (Value.int .u8))) := by
          show w5.ownsRow _ _ _ _ _ _
          rw [List.map_append]; exact hown'
        have HCH := Lib.hid hch
        have HB1 := Lib.hid (bytes_snoc HBT.out hV0 hV1)
        have HLN : Hid ((t ++ [V]).length = k + 1) := by show _ = _; rw [List.length_append, HT.out]; rfl
        generalize t ++ [V] = t' at *
        clear hown hown' hgrow hch hu hy
        go_wp2_with fail
        go_roundw
        case rel => exact ⟨k + 1, t', by omega, HLN.out, by omega, by go_num, HB1.out, HO.out, HCH.out⟩
        case measure => simp [intOf]; omega
    · have hlt' : ¬ k < z.length ∨ ¬ k < most := by omega
      have hres : SomeT w.heap.size w most (.returned (.slice a4 k c4)) wr := ⟨a4, c4, t, by rw [ht], hbt, by omega, by rw [ht]; exact hown, hb⟩
      have HRES := Lib.hid hres
      clear hres
      by_cases h1 : k < z.length
      · have d1 : decide (k < most) = false := by simp; omega
        go_wp2_with fail
        go_ret
        exact HRES.out
      · go_wp2_with fail
        go_ret
        exact HRES.out

theorem bytes_byteL {t : List Int} (h : ByteL t) : Bytes t := fun i hi => by rw [getD_eq hi]; exact h _ (List.getElem_mem hi)
theorem lit_reads (xs : List Int) (W : World) : Reads (W.alloc (.cells (xs.map (Value.int .i64)).toArray 3)) .i64 (some ⟨W.heap.size, 0, none⟩) xs := fun i hi => ⟨_, _, rfl, by simp, fun j hj => by
  rw [Nat.zero_add, cell_of_row _ W.heap.size j _ _ _ (heap_alloc_new W _)]
  simp [hj]⟩
theorem rows_aba : IsRows (symsT [97, 98, 97]) [3, 2, 0, 1] := by
  have e : symsT [97, 98, 97] = [98, 99, 98, 0] := rfl
  rw [e]
  have l1 : ∀ a b, sy [98, 99, 98, 0] a < sy [98, 99, 98, 0] b → sufLt [98, 99, 98, 0] a b := fun a b h => suf_cons.2 (Or.inl h)
  refine ⟨by decide, ?_⟩
  simp only [List.pairwise_cons, List.mem_cons, List.not_mem_nil, or_false, forall_eq_or_imp, forall_eq, List.Pairwise.nil, and_true, false_implies, implies_true]
  refine ⟨⟨l1 _ _ (by decide), l1 _ _ (by decide), l1 _ _ (by decide)⟩, ⟨suf_cons.2 (Or.inr ⟨by decide, l1 _ _ (by decide)⟩), l1 _ _ (by decide)⟩, l1 _ _ (by decide)⟩
theorem last_aba : IsLast [97, 98, 97] [98, 99, 0, 98] := ⟨by intro x hx; simp at hx; omega, _, rows_aba, rfl⟩

set_option maxHeartbeats 3200000 in
set_option maxRecDepth 100000 in
theorem told9_any (w : World) : Calls Try.prog 18 #[] w fun e w' => e = .returned (.bool true) ∧ Below w.heap.size w w' := by
  have hby : Bytes [97, 98, 97] := bytes_byteL last_aba.1
  have kc := fun (w : World) (C : Array Value) (n c : Nat) => Lib.run_convert_bytes_const (P := Try.prog) w 23 5 C n c Try.underlying23 Try.underlying5
  have hrd : ∀ (W : World) fr, Reads (W.alloc (.cells #[.int .u8 97, .int .u8 98, .int .u8 97] 5 fr)) .u8 (some ⟨W.heap.size, 0, none⟩) [97, 98, 97] := fun W fr i hi => ⟨_, _, rfl, by simp, fun j hj => by
    rw [Nat.zero_add, cell_of_row _ W.heap.size j _ _ _ (heap_alloc_new W _)]
    match j, hj with
    | 0, _ => rfl
    | 1, _ => rfl
    | 2, _ => rfl⟩
  have HRD := Lib.hid hrd
  clear hrd
  have hsm1 : sameI [3, 2, 0, 1] [3, 2, 0, 1] = true := by decide
  have hsm2 : sameI [98, 99, 0, 98] [98, 99, 0, 98] = true := by decide
  have HS1 := Lib.hid hsm1
  have HS2 := Lib.hid hsm2
  have hstr : strOfNums [97, 98, 97] = { data := #[97, 98, 97] } := by decide
  have HSTR := Lib.hid hstr
  clear hsm1 hsm2 hstr
  go_enter Try.func18, Try.ntmps18
  go_wp2_with fail
  have hb0 := below_al w (.cells #[.int .u8 97, .int .u8 98, .int .u8 97] 5 (3, 4))
  refine (rows_at _ _ [97, 98, 97] rfl (HRD.out w _) hby (by simp)).mono ?_
  rintro e w1 ⟨a1, c1, r, rfl, hr, ho1, hb1⟩
  obtain rfl := rows_unique hr rows_aba
  have HB1 := Lib.hid (hb0.trans (hb1.mono hb0.size))
  have HR1 := Lib.hid (own_reads (xs := [3, 2, 0, 1]) ho1)
  clear hr ho1 hb0 hb1
  go_wp2_with fail
  have HB2 := Lib.hid (HB1.out.alloc HB1.out.size (.cells #[.int .u8 97, .int .u8 98, .int .u8 97] 5 (3, 4)))
  have HR2 := Lib.hid (HR1.out.below (below_al w1 (.cells #[.int .u8 97, .int .u8 98, .int .u8 97] 5 (3, 4))))
  refine (last_at _ _ [97, 98, 97] rfl (HRD.out w1 _) hby (by simp)).mono ?_
  rintro e w2 ⟨a2, c2, m, rfl, hm, ho2, hb2⟩
  obtain rfl := hm.same last_aba
  have HB3 := Lib.hid (HB2.out.trans (hb2.mono HB2.out.size))
  have HR3 := Lib.hid (HR2.out.below hb2)
  have HM3 := Lib.hid (own_reads (xs := [98, 99, 0, 98]) ho2)
  clear hm ho2 hb2 HR1 HR2 HB1 HB2
  go_wp2_with fail
  refine (back_yes last_aba a2 c2 rfl HM3.out (by simp)).mono ?_
  rintro e w3 ⟨a3, c3, rfl, ho3, hb3⟩
  have HB4 := Lib.hid (HB3.out.trans (hb3.mono HB3.out.size))
  have HR4 := Lib.hid (HR3.out.below hb3)
  have HM4 := Lib.hid (HM3.out.below hb3)
  have HT4 := Lib.hid (own_reads (xs := [97, 98, 97]) ho3)
  clear ho3 hb3 HB3 HR3 HM3
  go_wp2_with fail
  have hb5 := below_al w3 (.cells #[.int .i64 98, .int .i64 98] 3)
  have HB5 := Lib.hid (HB4.out.trans (hb5.mono HB4.out.size))
  have HR5 := Lib.hid (HR4.out.below hb5)
  have HM5 := Lib.hid (HM4.out.below hb5)
  have HT5 := Lib.hid (HT4.out.below hb5)
  have hno : ∀ t, ¬ IsLast t [98, 98] := fun t h => by
    have := h.zero
    cases this
  refine (back_none hno _ _ rfl (by exact own_reads (xs := [98, 98]) (own_vecG (f := fun _ => .int .i64 98) (n := 2) (base := 0) (e := 3) (heap_alloc_new w3 _) (Nat.zero_le _) (by unfold maxLen; omega))) (by simp)).mono ?_
  rintro e w6 ⟨rfl, hb6⟩
  have HB6 := Lib.hid (HB5.out.trans (hb6.mono HB5.out.size))
  have HR6 := Lib.hid (HR5.out.below hb6)
  have HM6 := Lib.hid (HM5.out.below hb6)
  have HT6 := Lib.hid (HT5.out.below hb6)
  clear hb5 hb6 hno HB4 HR4 HM4 HT4 HB5 HR5 HM5 HT5
  go_wp2_with fail
  have hb7 := below_al w6 (.cells #[.int .i64 3, .int .i64 2, .int .i64 0, .int .i64 1] 3)
  have HB7 := Lib.hid (HB6.out.trans (hb7.mono HB6.out.size))
  have HR7 := Lib.hid (HR6.out.below hb7)
  have HM7 := Lib.hid (HM6.out.below hb7)
  have HT7 := Lib.hid (HT6.out.below hb7)
  refine (refSame_len a1 _ 4 4 c1 4 [3, 2, 0, 1] [3, 2, 0, 1] _ HR7.out (lit_reads [3, 2, 0, 1] w6) rfl rfl (by simp)).mono ?_
  rintro e w' ⟨rfl, n7, rfl⟩
  rw [HS1.out]
  have HB8 : Hid (Below w.heap.size w ((w6.alloc (.cells #[.int .i64 3, .int .i64 2, .int .i64 0, .int .i64 1] 3)).drewN n7)) := below_dN HB7.out n7
  have HR8 : Hid (Reads ((w6.alloc (.cells #[.int .i64 3, .int .i64 2, .int .i64 0, .int .i64 1] 3)).drewN n7) _ _ _) := HR7.out
  have HM8 : Hid (Reads ((w6.alloc (.cells #[.int .i64 3, .int .i64 2, .int .i64 0, .int .i64 1] 3)).drewN n7) _ _ _) := HM7.out
  have HT8 : Hid (Reads ((w6.alloc (.cells #[.int .i64 3, .int .i64 2, .int .i64 0, .int .i64 1] 3)).drewN n7) _ _ _) := HT7.out
  generalize (w6.alloc (.cells #[.int .i64 3, .int .i64 2, .int .i64 0, .int .i64 1] 3)).drewN n7 = w8 at *
  clear hb7 HB6 HR6 HM6 HT6 HB7 HR7 HM7 HT7 HS1
  go_wp2_with fail
  have hb7 := below_al w8 (.cells #[.int .i64 98, .int .i64 99, .int .i64 0, .int .i64 98] 3)
  have HB7 := Lib.hid (HB8.out.trans (hb7.mono HB8.out.size))
  have HR7 := Lib.hid (HR8.out.below hb7)
  have HM7 := Lib.hid (HM8.out.below hb7)
  have HT7 := Lib.hid (HT8.out.below hb7)
  refine (refSame_len a2 _ 4 4 c2 4 [98, 99, 0, 98] [98, 99, 0, 98] _ HM7.out (lit_reads [98, 99, 0, 98] w8) rfl rfl (by simp)).mono ?_
  rintro e w' ⟨rfl, n9, rfl⟩
  rw [HS2.out]
  have HB9 : Hid (Below w.heap.size w ((w8.alloc (.cells #[.int .i64 98, .int .i64 99, .int .i64 0, .int .i64 98] 3)).drewN n9)) := below_dN HB7.out n9
  have HR9 : Hid (Reads ((w8.alloc (.cells #[.int .i64 98, .int .i64 99, .int .i64 0, .int .i64 98] 3)).drewN n9) _ _ _) := HR7.out
  have HM9 : Hid (Reads ((w8.alloc (.cells #[.int .i64 98, .int .i64 99, .int .i64 0, .int .i64 98] 3)).drewN n9) _ _ _) := HM7.out
  have HT9 : Hid (Reads ((w8.alloc (.cells #[.int .i64 98, .int .i64 99, .int .i64 0, .int .i64 98] 3)).drewN n9) _ _ _) := HT7.out
  generalize (w8.alloc (.cells #[.int .i64 98, .int .i64 99, .int .i64 0, .int .i64 98] 3)).drewN n9 = w9 at *
  clear hb7 HB8 HR8 HM8 HT8 HB7 HR7 HM7 HT7 HS2
  have hcv : (convert 23 9 (.slice a3 3 c3)).run Try.prog w9 = .ok (.string { data := #[97, 98, 97] }) w9 := by
    have := conv_str (xs := [97, 98, 97]) (c := c3) Try.underlying23 Try.underlying5 Try.underlying9 HT9.out
    rw [HSTR.out] at this; exact this
  go_wp2_with fail
  refine (last_at none 0 [] rfl Reads.nil bytes_nil (by simp)).mono ?_
  rintro e w10 ⟨a10, c10, m10, rfl, hm10, ho10, hb10⟩
  have HB10 := Lib.hid (HB9.out.trans (hb10.mono HB9.out.size))
  have HR10 := Lib.hid (HR9.out.below hb10)
  have HM10 := Lib.hid (HM9.out.below hb10)
  clear hm10 ho10 hb10 hcv HB9 HR9 HM9 HT9
  go_wp2_with fail
  refine (same_ints a1 a1 4 4 c1 c1 [3, 2, 0, 1] [3, 2, 0, 1] w10 HR10.out HR10.out rfl rfl (by simp) (by simp)).mono ?_
  rintro e w' ⟨rfl, n11, rfl⟩
  rw [show decide (([3, 2, 0, 1] : List Int) = [3, 2, 0, 1]) = true from rfl]
  have HB11 := Lib.hid (below_dN HB10.out n11)
  have HR11 : Hid (Reads (w10.drewN n11) _ _ _) := HR10.out
  have HM11 : Hid (Reads (w10.drewN n11) _ _ _) := HM10.out
  generalize w10.drewN n11 = w11 at *
  clear HB10 HR10 HM10
  go_wp2_with fail
  refine (same_ints a1 a2 4 4 c1 c2 [3, 2, 0, 1] [98, 99, 0, 98] w11 HR11.out HM11.out rfl rfl (by simp) (by simp)).mono ?_
  rintro e w' ⟨rfl, n12, rfl⟩
  rw [show decide (([3, 2, 0, 1] : List Int) = [98, 99, 0, 98]) = false from rfl]
  have HB12 := Lib.hid (below_dN HB11.out n12)
  go_wp2_with fail
  go_ret
  exact ⟨rfl, HB12.out⟩


end Go.Proofs.Ytpbmhdkhkbhgnaa

namespace Go.Proofs.Ytpbmhdkhkbhgnaa
set_option linter.unusedVariables false
set_option linter.unusedSimpArgs false
open Go.RowKit

def natL (r : List Nat) : List Int := r.map fun x : Nat => (x : Int)
theorem natL_len (r : List Nat) : (natL r).length = r.length := by simp [natL]
theorem natV_natL (r : List Nat) : r.map natV = (natL r).map (Value.int .i64) := by simp [natL, natV, Function.comp]
/-- A literal of the call's own. -/
theorem own_lit {e : TypeId} {base n : Nat} (xs : List Value) (W : World) (hn : n = xs.length) (hb : base ≤ W.heap.size) (hm : n ≤ maxLen) : (W.alloc (.cells xs.toArray e)).ownsRow base e 1 (.slice (some ⟨W.heap.size, 0, none⟩) n n) n xs :=
  ⟨by omega, .inr ⟨W.heap.size, n, xs.toArray, rfl, hb, heap_alloc_new W _, Nat.le_refl _, hm, by simp [hn], by simp [hn]⟩⟩
/-- The rows from u on, so much earlier. -/
def lateL (r : List Nat) (u k : Nat) : List Nat := ((r.take k).filter fun i => decide (u ≤ i)).map (· - u)
theorem lateL_zero (r : List Nat) (u : Nat) : lateL r u 0 = [] := rfl
theorem lateL_succ {r : List Nat} {u k : Nat} (h : k < r.length) : lateL r u (k + 1) = lateL r u k ++ (if u ≤ r[k] then [r[k] - u] else []) := by
  unfold lateL
  rw [List.take_add_one, List.getElem?_eq_getElem h, Option.toList_some, List.filter_append, List.map_append]
  congr 1
  by_cases e : u ≤ r[k]
  · simp [e]
  · simp [e]
theorem lateL_len (r : List Nat) (u k : Nat) : (lateL r u k).length ≤ k := by
  unfold lateL
  rw [List.length_map]
  have := List.length_filter_le (fun i => decide (u ≤ i)) (r.take k)
  rw [List.length_take] at this
  omega
theorem lateL_all {r : List Nat} {u n : Nat} (h : r.length = n) : lateL r u n = (r.filter fun i => decide (u ≤ i)).map (· - u) := by
  unfold lateL; rw [List.take_of_length_le (by omega)]
theorem bytes_appendG {s t : List Int} (h : Bytes s) (k : Bytes t) : Bytes (s ++ t) := by
  intro i hi
  rw [List.getElem?_append]
  split
  · exact h i (by assumption)
  · rw [List.length_append] at hi
    exact k _ (by omega)
theorem symsT_append (s t : List Int) : symsT (s ++ t) = s.map (· + 1) ++ symsT t := by simp [symsT]

/-- The row of a slice that the call owns, as one that is read. -/
theorem own_readsN {w : World} {base n c : Nat} {a : Option Addr} {r : List Nat} (h : w.ownsRow base 3 1 (.slice a n c) n (r.map natV)) : Reads w .i64 a (natL r) := by
  rw [natV_natL] at h; exact own_reads h

end Go.Proofs.Ytpbmhdkhkbhgnaa

namespace Go.Proofs.Ytpbmhdkhkbhgnaa
set_option linter.unusedVariables false
set_option linter.unusedSimpArgs false
open Go.RowKit

def setA (cur : Array Value) : Nat → List Value → Array Value
  | _, [] => cur
  | o, v :: r => setA (cur.setIfInBounds o v) (o + 1) r
theorem setA_size : ∀ (vs : List Value) (cur : Array Value) (o : Nat), (setA cur o vs).size = cur.size
  | [], _, _ => rfl
  | v :: r, cur, o => by
    show (setA (cur.setIfInBounds o v) (o + 1) r).size = _
    rw [setA_size r]; simp
theorem setA_out : ∀ (vs : List Value) (cur : Array Value) (o j : Nat), (j < o ∨ o + vs.length ≤ j) → (setA cur o vs)[j]? = cur[j]?
  | [], _, _, _, _ => rfl
  | v :: r, cur, o, j, h => by
    show (setA (cur.setIfInBounds o v) (o + 1) r)[j]? = _
    simp only [List.length_cons] at h
    rw [setA_out r _ _ _ (by omega), Array.getElem?_setIfInBounds, if_neg (by omega)]
theorem setA_in : ∀ (vs : List Value) (cur : Array Value) (o j : Nat), o + vs.length ≤ cur.size → o ≤ j → j < o + vs.length → (setA cur o vs)[j]? = vs[j - o]?
  | [], _, _, _, _, h1, h2 => by simp at h2; omega
  | v :: r, cur, o, j, hs, h1, h2 => by
    show (setA (cur.setIfInBounds o v) (o + 1) r)[j]? = _
    simp only [List.length_cons] at h2 hs
    by_cases e : j = o
    · subst e
      rw [setA_out r _ _ _ (by omega), Array.getElem?_setIfInBounds, if_pos rfl, if_pos (by omega), Nat.sub_self]; rfl
    · rw [setA_in r _ _ _ (by simp; omega) (by omega) (by omega), show j - o = (j - (o + 1)) + 1 by omega]; rfl
theorem setCells_heap : ∀ (vs : List Value) (w : World) (b o : Nat) (cur : Array Value) (e : TypeId), w.heap[b]? = some (.cells cur e (0, 0)) → (w.setCells b o vs).heap[b]? = some (.cells (setA cur o vs) e (0, 0))
  | [], _, _, _, _, _, h => h
  | v :: r, w, b, o, cur, e, h => setCells_heap r _ b (o + 1) _ e (heap_setCell_same w b o cur e v h)
theorem setCells_chg {S : Nat → Prop} {b : Nat} : ∀ (vs : List Value) (w w' : World) (o : Nat), Chg S w w' → (S b ∨ w.heap.size ≤ b) → Chg S w (w'.setCells b o vs)
  | [], _, _, _, h, _ => h
  | v :: r, w, w', o, h, hb => setCells_chg r w _ (o + 1) (h.setCell ⟨b, o, none⟩ hb v) hb

theorem insA_get {α : Type} {l : List α} {k : Nat} {x : α} (hk : k ≤ l.length) (j : Nat) : (insA l k x)[j]? = if j < k then l[j]? else if j = k then some x else l[j - 1]? := by
  unfold insA
  rw [List.getElem?_append]
  have hl : (l.take k).length = k := by simp; omega
  rw [hl]
  by_cases h : j < k
  · rw [if_pos h, if_pos h, List.getElem?_take, if_pos h]
  · rw [if_neg h, if_neg h]
    by_cases e : j = k
    · subst e; simp
    · rw [if_neg e, show j - k = (j - k - 1) + 1 by omega, List.getElem?_cons_succ, List.getElem?_drop]
      congr 1; omega

/-- slices.Insert of one number, onto an own row. -/
theorem insert_own {B : Nat} {w : World} {a : Option Addr} {n c vb vc i : Nat} {xs : List Int} {x : Int} (h : w.ownsRow B 3 1 (.slice a n c) n (xs.map (Value.int .i64))) (hi : i ≤ n)
    (hv : w.heap[vb]? = some (.cells #[.int .i64 x] 3 (0, 0))) (hvn : ∀ k, (Value.slice a n c).ownBlock = some k → k ≠ vb) (hn : n ≤ 1000000000) (hB : B ≤ w.heap.size) :
    Calls Try.prog 73 #[.slice a n c, .int .i64 i, .slice (some ⟨vb, 0, none⟩) 1 vc] w fun e w' => ∃ g c', e = .returned (.slice (some ⟨g, 0, none⟩) (n + 1) c') ∧
      w'.ownsRow B 3 1 (.slice (some ⟨g, 0, none⟩) (n + 1) c') (n + 1) ((insA xs i x).map (Value.int .i64)) ∧ Chg (fun b => (Value.slice a n c).ownBlock = some b) w w' ∧ ((Value.slice a n c).ownBlock = some g ∨ w.heap.size ≤ g) := by
  have hxl : xs.length = n := by have := h.1; simpa using this
  have hm : (insA xs i x).map (Value.int .i64) = insA (xs.map (Value.int .i64)) i (.int .i64 x) := by simp [insA, List.map_take, List.map_drop]
  rw [hm]
  have hil : (insA (xs.map (Value.int .i64)) i (.int .i64 x)).length = n + 1 := by rw [insA_len (by simp; omega)]; simp [hxl]
  have hone : ∀ v ∈ xs.map (Value.int .i64), v.oneCell' = true := oneI .i64 xs
  have hone1 : ∀ v ∈ [Value.int .i64 x], v.oneCell' = true := oneI .i64 [x]
  have hvs : ∀ (j : Nat) (v : Value), [Value.int .i64 x][j]? = some v → w.cell? ⟨vb, 0 + j, none⟩ = some v := by
    intro j v hj
    match j, hj with
    | 0, hj => rw [cell_of_row w vb 0 _ _ _ hv]; simpa using hj
  have hcl : (xs.map (Value.int .i64)).length = n := by simp [hxl]
  generalize xs.map (Value.int .i64) = cs at *
  have hgc1 := grownCap_ge w (n + 1) c 3
  have hgc2 := grownCap_le_maxLen w (n + 1) c 3 (by unfold maxLen; omega)
  rcases h.2 with ⟨hv0, h0⟩ | ⟨g, cap, cur, hv0, hb, hg, h1, h2, hsz, htk⟩
  · injection hv0 with e1 _ e3
    subst e1; subst e3; subst h0
    obtain rfl : i = 0 := by omega
    obtain rfl : cs = [] := List.eq_nil_of_length_eq_zero hcl
    have key := Any2.slices_Insert_int_end_grow Try.laysIns none 0 0 vb 0 1 vc [] [.int .i64 x] w (by omega) (by omega) (by omega) (by omega) rfl rfl (fun _ => rfl) (fun a h => by cases h) hvs hone1
    generalize hG : grownCap w (0 + 1) 0 (Try.laysIns_ren.t 3) = G at key
    have hG1 : 1 ≤ G := by rw [← hG]; exact hgc1
    have hG2 : G ≤ maxLen := by rw [← hG]; exact hgc2
    refine key.mono ?_
    rintro e w' ⟨rfl, rfl⟩
    refine ⟨_, _, rfl, ⟨by simpa using hil, .inr ⟨_, _, _, rfl, hB, heap_alloc_new w.drew _, hG1, hG2, ?_, ?_⟩⟩, Chg.refl.drew.alloc _, Or.inr (Nat.le_refl _)⟩
    · simp [size_zeroCells, Value.cells]; omega
    · simp [insA]
  · injection hv0 with e1 _ e3
    subst e1; subst e3
    have hgl := (Array.getElem?_eq_some_iff.1 hg).1
    have hvg : vb ≠ g := fun e => hvn g rfl e.symm
    have hcur : ∀ j, j < n → cur[j]? = cs[j]? := by
      intro j hj
      rw [← htk, List.getElem?_take, if_pos (by omega), Array.getElem?_toList]
    have hcs : ∀ (j : Nat) (v : Value), cs[j]? = some v → w.cell? ⟨g, 0 + j, none⟩ = some v := by
      intro j v hj
      have hjn : j < n := by have := (List.getElem?_eq_some_iff.1 hj).1; omega
      rw [cell_of_row w g (0 + j) _ _ _ hg, Nat.zero_add, hcur j hjn, hj]
    have hsp : ∀ j, j < c → (w.cell? ⟨g, 0 + j, none⟩).isSome = true := by
      intro j hj
      rw [cell_of_row w g (0 + j) _ _ _ hg, Nat.zero_add, Array.getElem?_eq_getElem (by omega)]; rfl
    have hfz : ∀ j, w.frozen? ⟨g, j, none⟩ = false := fun j => frozen_of_row w g j _ _ hg
    rcases Nat.lt_or_ge i n with hin | hin
    · rcases Nat.lt_or_ge n c with hr | hr
      · refine (Any2.slices_Insert_int_shift Try.laysIns g 0 n c i vb 0 1 vc cs [.int .i64 x] w hin (by omega) (by omega) h2 hvg hcl rfl hcs (fun j hj => hsp j (by omega)) (fun j hj => hfz _) hvs hone hone1 3 3 1 cur.size
          (by unfold World.shape?; rw [hv]; rfl) (by unfold World.shape?; rw [hg]) (by omega) (frozen_of_row w vb 0 _ _ hv) (frozen_of_row w vb 1 _ _ hv)).mono ?_
        rintro e w' ⟨rfl, rfl⟩
        have hh := setCells_heap [.int .i64 x] _ g (0 + i) _ _ (setCells_heap (cs.drop i) w.drew g (0 + (i + 1)) cur 3 hg)
        refine ⟨g, c, rfl, ⟨by simpa using hil, .inr ⟨g, c, _, rfl, hb, hh, by omega, h2, by rw [setA_size, setA_size]; exact hsz, ?_⟩⟩, setCells_chg _ _ _ _ (setCells_chg _ _ _ _ Chg.refl.drew (Or.inl rfl)) (Or.inl rfl), Or.inl rfl⟩
        apply List.ext_getElem?
        intro j
        rw [List.getElem?_take, insA_get (by omega)]
        by_cases hj : j < n + 1
        · rw [if_pos (by omega), Array.getElem?_toList]
          by_cases e : j = i
          · subst e
            rw [setA_in _ _ _ _ (by rw [setA_size]; simp; omega) (by omega) (by simp), if_neg (by omega), if_pos rfl]
            simp
          · rw [setA_out _ _ _ _ (by simp; omega)]
            by_cases hlt : j < i
            · rw [setA_out _ _ _ _ (by omega), if_pos hlt, hcur j (by omega)]
            · rw [setA_in _ _ _ _ (by simp; omega) (by omega) (by simp; omega), if_neg hlt, if_neg e, List.getElem?_drop]
              congr 1; omega
        · rw [if_neg (by omega), if_neg (by omega), if_neg (by omega), List.getElem?_eq_none (by omega)]
      · obtain rfl : n = c := by omega
        have key := Any2.slices_Insert_int_grow Try.laysIns g 0 n n i vb 0 1 vc cs [.int .i64 x] w hin (by omega) (Nat.le_refl _) (by omega) (by omega) hcl rfl hcs hvs hone hone1
        generalize hG : grownCap w (n + 1) n (Try.laysIns_ren.t 3) = G at key
        have hG1 : n + 1 ≤ G := by rw [← hG]; exact hgc1
        have hG2 : G ≤ maxLen := by rw [← hG]; exact hgc2
        refine key.mono ?_
        rintro e w' ⟨rfl, rfl⟩
        have hsz2 : ((cs.take i).toArray ++ Builtin.zeroCells (Value.int .i64 0).cells (n + 1 - i) ++ Builtin.zeroCells (Value.int .i64 0).cells (G - (n + 1))).size = G := by
          simp [size_zeroCells, Value.cells, hcl]; omega
        refine ⟨_, _, rfl, ⟨by simpa using hil, .inr ⟨_, _, _, rfl, hB, setCells_heap (cs.drop i) (World.drew _) _ (i + 1) _ _ (setCells_heap [.int .i64 x] (World.drew _) _ i _ _ (heap_alloc_new w _)), hG1, hG2, ?_, ?_⟩⟩, ?_, Or.inr (Nat.le_refl _)⟩
        · rw [setA_size, setA_size, hsz2, Nat.mul_one]
        · apply List.ext_getElem?
          intro j
          rw [List.getElem?_take, insA_get (by omega)]
          by_cases hj : j < n + 1
          · rw [if_pos (by omega), Array.getElem?_toList]
            by_cases e : j = i
            · subst e
              rw [setA_out _ _ _ _ (by omega), setA_in _ _ _ _ (by simp only [List.length_singleton]; rw [hsz2]; omega) (by omega) (by simp), if_neg (by omega), if_pos rfl]
              simp
            · by_cases hlt : j < i
              · rw [setA_out _ _ _ _ (by omega), setA_out _ _ _ _ (by omega), if_pos hlt]
                rw [Array.getElem?_append_left (by simp [size_zeroCells, Value.cells, hcl]; omega), Array.getElem?_append_left (by simp [hcl]; omega)]
                simp [List.getElem?_take, hlt]
              · rw [setA_in _ _ _ _ (by rw [setA_size, hsz2]; simp; omega) (by omega) (by simp; omega), if_neg hlt, if_neg e, List.getElem?_drop]
                congr 1; omega
          · rw [if_neg (by omega), if_neg (by omega), if_neg (by omega), List.getElem?_eq_none (by omega)]
        · exact setCells_chg _ _ _ _ ((setCells_chg _ _ _ _ ((Chg.refl.alloc _).drew) (Or.inr (Nat.le_refl _))).drew) (Or.inr (Nat.le_refl _))
    · obtain rfl : i = n := by omega
      have hins : insA cs i (.int .i64 x) = cs ++ [.int .i64 x] := by unfold insA; rw [List.take_of_length_le (by omega), List.drop_eq_nil_of_le (by omega)]
      rcases Nat.lt_or_ge i c with hr | hr
      · refine (Any2.slices_Insert_int_end_room Try.laysIns g 0 i c vb 0 1 vc [.int .i64 x] w (by omega) (by omega) h2 rfl (fun j hj => by rw [Nat.add_assoc]; exact hsp _ (by omega)) (fun j hj => hfz _) hvs hone1).mono ?_
        rintro e w' ⟨rfl, rfl⟩
        refine ⟨g, c, rfl, ⟨by simpa using hil, .inr ⟨g, c, _, rfl, hb, setCells_heap [.int .i64 x] w g (0 + i) cur _ hg, by omega, h2, by rw [setA_size]; exact hsz, ?_⟩⟩, setCells_chg _ _ _ _ Chg.refl (Or.inl rfl), Or.inl rfl⟩
        apply List.ext_getElem?
        intro j
        rw [List.getElem?_take, insA_get (by omega)]
        by_cases hj : j < i + 1
        · rw [if_pos (by omega), Array.getElem?_toList]
          by_cases e : j = i
          · subst e
            rw [setA_in _ _ _ _ (by simp; omega) (by omega) (by simp), if_neg (by omega), if_pos rfl]
            simp
          · rw [setA_out _ _ _ _ (by omega), if_pos (by omega), hcur j (by omega)]
        · rw [if_neg (by omega), if_neg (by omega), if_neg (by omega), List.getElem?_eq_none (by omega)]
      · obtain rfl : i = c := by omega
        have key := Any2.slices_Insert_int_end_grow Try.laysIns (some ⟨g, 0, none⟩) i i vb 0 1 vc cs [.int .i64 x] w (by omega) (by omega) (by omega) (by omega) hcl rfl (fun h => by cases h) (fun a h j v hj => by cases h; rw [Addr.add_lit]; exact hcs j v hj) hvs hone1
        generalize hG : grownCap w (i + 1) i (Try.laysIns_ren.t 3) = G at key
        have hG1 : i + 1 ≤ G := by rw [← hG]; exact hgc1
        have hG2 : G ≤ maxLen := by rw [← hG]; exact hgc2
        refine key.mono ?_
        rintro e w' ⟨rfl, rfl⟩
        refine ⟨_, _, rfl, ⟨by simpa using hil, .inr ⟨_, _, _, rfl, hB, heap_alloc_new w.drew _, hG1, hG2, ?_, ?_⟩⟩, Chg.refl.drew.alloc _, Or.inr (Nat.le_refl _)⟩
        · simp [size_zeroCells, Value.cells, hcl]; omega
        · rw [hins]
          simp only [Array.toList_append, Nat.mul_one]
          rw [List.take_append_of_le_length (by simp [hcl]), List.take_of_length_le (by simp [hcl])]

end Go.Proofs.Ytpbmhdkhkbhgnaa

namespace Go.Proofs.Ytpbmhdkhkbhgnaa
set_option linter.unusedVariables false
set_option linter.unusedSimpArgs false
open Go.RowKit

def rowL (L : List (Int × Int)) (i : Nat) : Int := (L[i]?.getD (0, 0)).1
def posL (L : List (Int × Int)) (i : Nat) : Int := (L[i]?.getD (0, 0)).2

/-- What the closures of a Perm read: the pairs' table. -/
structure PmRd (w : World) (bp p gl cap : Nat) (L : List (Int × Int)) : Prop where
  ptr : w.cell? ⟨bp, 0, none⟩ = some (.pointer (some ⟨p, 0, none⟩))
  tab : w.cell? ⟨p, 1, none⟩ = some (.slice (some ⟨gl, 0, none⟩) L.length cap)
  rd : ∀ i, i < L.length → w.cell? ⟨gl, i * 2, none⟩ = some (.int .i64 (rowL L i)) ∧ w.cell? ⟨gl, i * 2 + 1, none⟩ = some (.int .i64 (posL L i))
theorem PmRd.chg {w w' : World} {S : Nat → Prop} {bp p gl cap : Nat} {L : List (Int × Int)} (h : PmRd w bp p gl cap L) (hc : Chg S w w') (h1 : ¬ S bp) (h2 : ¬ S p) (h3 : ¬ S gl) : PmRd w' bp p gl cap L :=
  ⟨hc.cell h.ptr h1, hc.cell h.tab h2, fun i hi => ⟨hc.cell (h.rd i hi).1 h3, hc.cell (h.rd i hi).2 h3⟩⟩
theorem PmRd.below {w w' : World} {bp p gl cap : Nat} {L : List (Int × Int)} (h : PmRd w bp p gl cap L) (hb : Below w.heap.size w w') : PmRd w' bp p gl cap L := h.chg (Chg.of_below (S := fun _ => False) hb) id id id

set_option maxHeartbeats 800000 in
theorem at1_any {w : World} {bp p gl cap : Nat} {L : List (Int × Int)} (h : PmRd w bp p gl cap L) (i : Nat) (x : Int) (hi : i < L.length) (hl : L.length ≤ 1000000000) :
    Calls Try.prog 93 #[.int .i64 i, .int .i64 x, .pointer (some ⟨bp, 0, none⟩)] w fun e w' => e = .returned (.int .i64 (Lib.compareInt (rowL L i) x)) ∧ w = w' := by
  obtain ⟨h1, h2, h3⟩ := h
  obtain ⟨h4, _⟩ := h3 i hi
  clear h3
  generalize rowL L i = y at *
  have hc := Try.cmp_Compare_int y x w
  generalize Lib.compareInt y x = z at *
  go_enter Try.func93, Try.ntmps93
  go_wp2_with (go_at_call 77; refine hc.mono ?_; rintro e w' ⟨rfl, rfl⟩)
  go_ret
  exact ⟨rfl, rfl⟩

set_option maxHeartbeats 800000 in
theorem has1_any {w : World} {bp bx p gl cap : Nat} {L : List (Int × Int)} (h : PmRd w bp p gl cap L) (i : Nat) (x : Int) (hx : w.cell? ⟨bx, 0, none⟩ = some (.int .i64 x)) (hi : i < L.length) (hl : L.length ≤ 1000000000) :
    Calls Try.prog 95 #[.int .i64 i, .pointer (some ⟨bp, 0, none⟩), .pointer (some ⟨bx, 0, none⟩)] w fun e w' => e = .returned (.bool (posL L i == x)) ∧ ∃ q, w' = w.drewN q := by
  obtain ⟨h1, h2, h3⟩ := h
  obtain ⟨_, h4⟩ := h3 i hi
  clear h3
  generalize posL L i = y at *
  have i0 : (0 : Int) ≤ (i : Int) := by omega
  have i1 : (i : Int) < (L.length : Int) := by omega
  go_enter Try.func95, Try.ntmps95
  go_wp2_with fail
  go_quiet (fail)
  go_wp2_with fail
  go_ret
  exact ⟨rfl, _, rfl⟩

set_option maxHeartbeats 1600000 in
theorem move2_any {w : World} {bp p gl cap : Nat} {L : List (Int × Int)} (h : PmRd w bp p gl cap L) (i j : Nat) (hi : i < L.length) (hj : j < L.length) (hl : L.length ≤ 1000000000) :
    Calls Try.prog 76 #[.int .i64 i, .int .i64 j, .pointer (some ⟨bp, 0, none⟩)] w fun e w' => e = .returned (.int .i64 (Lib.compareInt (rowL L i) (rowL L j))) ∧ ∃ q, w' = w.drewN q := by
  obtain ⟨h1, h2, h3⟩ := h
  obtain ⟨h4, _⟩ := h3 i hi
  obtain ⟨h5, _⟩ := h3 j hj
  clear h3
  generalize rowL L i = y at *
  generalize rowL L j = z at *
  have HC : Hid (∀ n, Calls Try.prog 77 #[.int .i64 y, .int .i64 z] (w.drewN n) fun e w' => e = .returned (.int .i64 (Lib.compareInt y z)) ∧ w.drewN n = w') := fun n => (Try.cmp_Compare_int y z (w.drewN n)).mono (fun e w' ⟨h, k⟩ => ⟨h, k.symm⟩)
  generalize Lib.compareInt y z = u at *
  have i0 : (0 : Int) ≤ (i : Int) := by omega
  have i1 : (i : Int) < (L.length : Int) := by omega
  have j0 : (0 : Int) ≤ (j : Int) := by omega
  have j1 : (j : Int) < (L.length : Int) := by omega
  go_enter Try.func76, Try.ntmps76
  go_wp2_with fail
  go_quiet ((go_at_call 77; with_reducible exact quiet_left (HC.out _)))
  go_wp2_with fail
  go_ret
  exact ⟨rfl, _, rfl⟩

end Go.Proofs.Ytpbmhdkhkbhgnaa

namespace Go.Proofs.Ytpbmhdkhkbhgnaa
set_option linter.unusedVariables false
set_option linter.unusedSimpArgs false

/-- An arena: of each number whether it is taken; those that are free, the last one last; how many there may be. -/
structure Ar where
  T : List Bool
  F : List Nat
  M : Nat

/-- What holds of every arena. -/
structure Ar.Ok (a : Ar) : Prop where
  max : a.M ≤ 268435456
  le : a.T.length ≤ a.M
  cnt : a.T.count false = a.F.length
  nd : a.F.Nodup
  iff : ∀ j, a.T[j]? = some false ↔ j ∈ a.F

def arIs (T : List Bool) (k : Int) : Bool := decide (0 ≤ k) && (T[k.toNat]?.getD false)

theorem arIs_iff {T : List Bool} {k : Int} : arIs T k = true ↔ 0 ≤ k ∧ T[k.toNat]? = some true := by
  unfold arIs
  cases h : T[k.toNat]? with
  | none => simp
  | some b => cases b <;> simp

def Ar.live (a : Ar) : Nat := a.T.length - a.F.length

theorem Ar.Ok.fle {a : Ar} (h : a.Ok) : a.F.length ≤ a.T.length := by rw [← h.cnt]; exact List.count_le_length

def Ar.new (m : Nat) : Ar := ⟨[], [], m⟩
theorem Ar.new_ok {m : Nat} (h : m ≤ 268435456) : (Ar.new m).Ok := ⟨h, by simp [Ar.new], by simp [Ar.new], by simp [Ar.new], by simp [Ar.new]⟩

/-- Take, where one is free. -/
def Ar.pop (a : Ar) (k : Nat) : Ar := ⟨a.T.set k true, a.F.dropLast, a.M⟩
/-- Take, where none is free. -/
def Ar.more (a : Ar) : Ar := ⟨a.T ++ [true], a.F, a.M⟩

theorem Ar.more_ok {a : Ar} (h : a.Ok) (hl : a.T.length < a.M) : a.more.Ok := by
  refine ⟨h.max, by simp [Ar.more]; omega, by simp [Ar.more, h.cnt], h.nd, fun j => ?_⟩
  show (a.T ++ [true])[j]? = some false ↔ j ∈ a.F
  rw [← h.iff j, List.getElem?_append]
  split
  · exact Iff.rfl
  · rename_i hj
    rw [List.getElem?_eq_none (l := a.T) (by omega)]
    rcases Nat.lt_or_ge (j - a.T.length) 1 with h1 | h1
    · have : j - a.T.length = 0 := by omega
      rw [this]; simp
    · rw [List.getElem?_eq_none (by simpa using h1)]

theorem Ar.pop_ok {a : Ar} (h : a.Ok) {k : Nat} (hk : a.F.getLast? = some k) : (a.pop k).Ok := by
  have hne : a.F ≠ [] := by intro e; rw [e] at hk; cases hk
  have hF : a.F = a.F.dropLast ++ [k] := by
    rw [List.getLast?_eq_some_getLast hne] at hk
    injection hk with hk
    rw [← hk, List.dropLast_concat_getLast]
  have hmem : k ∈ a.F := by rw [hF]; simp
  have hf := (h.iff k).2 hmem
  have hlt : k < a.T.length := (List.getElem?_eq_some_iff.1 hf).1
  have hfk : a.T[k] = false := (List.getElem?_eq_some_iff.1 hf).2
  have hnd := h.nd
  rw [hF, List.nodup_append] at hnd
  refine ⟨h.max, by simp [Ar.pop]; exact h.le, ?_, hnd.1, fun j => ?_⟩
  · show (a.T.set k true).count false = a.F.dropLast.length
    rw [List.count_set hlt, hfk, h.cnt, List.length_dropLast]; simp
  · show (a.T.set k true)[j]? = some false ↔ j ∈ a.F.dropLast
    rw [List.getElem?_set]
    have hj := h.iff j
    rw [hF, List.mem_append] at hj
    by_cases e : k = j
    · subst e
      rw [if_pos rfl, if_pos hlt]
      have : k ∉ a.F.dropLast := fun hm => hnd.2.2 k hm k (by simp) rfl
      simp [this]
    · rw [if_neg e, hj]
      have : j ∉ [k] := by simp; exact fun h => e h.symm
      simp [this]

/-- The free ones' numbers are old ones. -/
theorem Ar.Ok.last_lt {a : Ar} (h : a.Ok) {k : Nat} (hk : a.F.getLast? = some k) : k < a.T.length := by
  have hm : k ∈ a.F := List.mem_of_getLast? hk
  exact (List.getElem?_eq_some_iff.1 ((h.iff k).2 hm)).1

/-- Nodes are given back one by one; nothing where one of them is not taken. -/
def clr (T : List Bool) : List Int → Option (List Bool)
  | [] => some T
  | k :: l => if arIs T k = true then clr (T.set k.toNat false) l else none

theorem clr_snoc (T : List Bool) (l : List Int) (k : Int) : clr T (l ++ [k]) = (clr T l).bind fun T' => if arIs T' k = true then some (T'.set k.toNat false) else none := by
  induction l generalizing T with
  | nil => simp [clr]
  | cons x l ih =>
    simp only [List.cons_append, clr]
    split
    · exact ih _
    · rfl

theorem clr_length {T T' : List Bool} {l : List Int} (h : clr T l = some T') : T'.length = T.length := by
  induction l generalizing T with
  | nil => simp [clr] at h; rw [h]
  | cons x l ih =>
    simp only [clr] at h
    split at h
    · rw [ih h]; simp
    · cases h

/-- What was given back is taken again: all is as it was. -/
theorem clr_back {T T' : List Bool} {l : List Int} (h : clr T l = some T') : l.foldl (fun T k => T.set k.toNat true) T' = T := by
  apply List.ext_getElem?
  intro j
  have key : ∀ (l : List Int) (T T' : List Bool), clr T l = some T' → ∀ j : Nat, (l.foldl (fun T k => T.set k.toNat true) T')[j]? = T[j]? := by
    intro l
    induction l with
    | nil => intro T T' h j; simp [clr] at h; rw [h]; rfl
    | cons x l ih =>
      intro T T' h j
      simp only [clr] at h
      split at h
      · rename_i hx
        obtain ⟨hx0, hx1⟩ := arIs_iff.1 hx
        obtain ⟨hlt, hv⟩ := List.getElem?_eq_some_iff.1 hx1
        have comm : ∀ (l : List Int) (U : List Bool) (n : Nat), l.foldl (fun T k => T.set k.toNat true) (U.set n true) = (l.foldl (fun T k => T.set k.toNat true) U).set n true := by
          intro l
          induction l with
          | nil => intro U n; rfl
          | cons y l ih2 =>
            intro U n
            simp only [List.foldl_cons]
            by_cases e : n = y.toNat
            · subst e; rw [ih2]
            · rw [List.set_comm _ _ e, ih2]
        simp only [List.foldl_cons]
        rw [comm, List.getElem?_set, ih _ _ h j]
        have hlen : (l.foldl (fun T k => T.set k.toNat true) T').length = T.length := by
          have : ∀ (l : List Int) (U : List Bool), (l.foldl (fun T k => T.set k.toNat true) U).length = U.length := by
            intro l
            induction l with
            | nil => intro U; rfl
            | cons y l ih3 => intro U; simp only [List.foldl_cons]; rw [ih3]; simp
          rw [this, clr_length h]; simp
        split
        · rename_i e
          subst e
          rw [if_pos (by omega), hx1]
        · rename_i e
          rw [List.getElem?_set, if_neg e]
      · cases h
  exact key l T T' h j

theorem clr_get {T T' : List Bool} {l : List Int} (h : clr T l = some T') : (l.map Int.toNat).Nodup ∧ (∀ k ∈ l, 0 ≤ k ∧ T[k.toNat]? = some true) ∧ T'.count false = T.count false + l.length ∧
    ∀ j, T'[j]? = some false ↔ (T[j]? = some false ∨ j ∈ l.map Int.toNat) := by
  induction l generalizing T with
  | nil => simp [clr] at h; subst h; simp
  | cons x l ih =>
    simp only [clr] at h
    split at h
    · rename_i hx
      obtain ⟨hx0, hx1⟩ := arIs_iff.1 hx
      obtain ⟨hlt, hv⟩ := List.getElem?_eq_some_iff.1 hx1
      obtain ⟨h1, h2, h3, h4⟩ := ih h
      have hnx : x.toNat ∉ l.map Int.toNat := by
        intro hm
        obtain ⟨y, hy, he⟩ := List.mem_map.1 hm
        have := (h2 y hy).2
        rw [he, List.getElem?_set, if_pos rfl, if_pos hlt] at this
        cases this
      refine ⟨List.nodup_cons.2 ⟨hnx, h1⟩, fun k hk => ?_, ?_, fun j => ?_⟩
      · rcases List.mem_cons.1 hk with rfl | hk
        · exact ⟨hx0, hx1⟩
        · obtain ⟨hk0, hk1⟩ := h2 k hk
          refine ⟨hk0, ?_⟩
          rw [List.getElem?_set] at hk1
          split at hk1
          · cases hk1
          · exact hk1
      · rw [h3, List.count_set hlt, hv]; simp; omega
      · rw [h4 j, List.getElem?_set, List.map_cons, List.mem_cons]
        by_cases e : x.toNat = j
        · subst e; rw [if_pos rfl, if_pos hlt]; simp
        · rw [if_neg e]
          have : ¬ j = x.toNat := fun h => e h.symm
          simp [this]
    · cases h

/-- Free, where all are taken. -/
def Ar.push (a : Ar) (T' : List Bool) (l : List Int) : Ar := ⟨T', a.F ++ l.map Int.toNat, a.M⟩

theorem Ar.push_ok {a : Ar} (h : a.Ok) {T' : List Bool} {l : List Int} (hc : clr a.T l = some T') : (a.push T' l).Ok := by
  obtain ⟨h1, h2, h3, h4⟩ := clr_get hc
  refine ⟨h.max, by show T'.length ≤ a.M; rw [clr_length hc]; exact h.le, by show T'.count false = (a.F ++ l.map Int.toNat).length; rw [h3, h.cnt]; simp, ?_, fun j => ?_⟩
  · refine List.nodup_append.2 ⟨h.nd, h1, fun x hx y hy e => ?_⟩
    subst e
    obtain ⟨z, hz, rfl⟩ := List.mem_map.1 hy
    have := (h2 z hz).2
    rw [(h.iff _).2 hx] at this
    cases this
  · show T'[j]? = some false ↔ j ∈ a.F ++ l.map Int.toNat
    rw [h4 j, h.iff j, List.mem_append]

/-- Take: what it answers, and the arena behind it. -/
def Ar.take (a : Ar) : Int × Int × Ar :=
  if a.live = a.M then (-1, 3, a) else match a.F.getLast? with
    | some k => ((k : Int), 0, a.pop k)
    | none => ((a.T.length : Int), 0, a.more)
/-- Free: what it answers, and the arena behind it. -/
def Ar.free (a : Ar) (l : List Int) : Int × Ar := match clr a.T l with
  | some T' => (0, a.push T' l)
  | none => (7, a)

theorem Ar.take_ok {a : Ar} (h : a.Ok) : a.take.2.2.Ok := by
  unfold Ar.take
  split
  · exact h
  · rename_i hl
    split
    · rename_i k hk; exact Ar.pop_ok h hk
    · rename_i hk
      have hF : a.F = [] := List.getLast?_eq_none_iff.1 hk
      refine Ar.more_ok h ?_
      have := h.le
      simp only [Ar.live, hF, List.length_nil] at hl
      omega
theorem Ar.free_ok {a : Ar} (h : a.Ok) (l : List Int) : (a.free l).2.Ok := by
  unfold Ar.free
  split
  · rename_i T' hc; exact Ar.push_ok h hc
  · exact h

end Go.Proofs.Ytpbmhdkhkbhgnaa

namespace Go.Proofs.Ytpbmhdkhkbhgnaa
set_option linter.unusedVariables false
set_option linter.unusedSimpArgs false
open Go.RowKit

def natA (k : Nat) : Value := .int .i64 k

/-- Block p holds an arena; its own blocks are S. -/
structure IsArena (w : World) (p : Nat) (S : Nat → Prop) (a : Ar) : Prop where
  ok : a.Ok
  ex : ∃ tv fv, w.heap[p]? = some (.cells #[tv, fv, .int .i64 a.M] 100 (0, 0)) ∧ w.ownsRow 0 4 1 tv a.T.length (a.T.map Value.bool) ∧
    w.ownsRow 0 3 1 fv a.F.length (a.F.map natA) ∧ tv.ownBlock ≠ some p ∧ fv.ownBlock ≠ some p ∧ (∀ g, tv.ownBlock = some g → fv.ownBlock ≠ some g) ∧
    (∀ k, S k ↔ k = p ∨ tv.ownBlock = some k ∨ fv.ownBlock = some k)

theorem IsArena.lt {w : World} {p : Nat} {S : Nat → Prop} {a : Ar} (h : IsArena w p S a) : ∀ k, S k → k < w.heap.size := by
  obtain ⟨tv, fv, hp, ht, hf, _, _, _, hS⟩ := h.ex
  intro k hk
  rcases (hS k).1 hk with rfl | h | h
  · exact (Array.getElem?_eq_some_iff.1 hp).1
  · exact (own_lt ht h).2
  · exact (own_lt hf h).2

theorem IsArena.self {w : World} {p : Nat} {S : Nat → Prop} {a : Ar} (h : IsArena w p S a) : S p := by
  obtain ⟨tv, fv, hp, ht, hf, _, _, _, hS⟩ := h.ex
  exact (hS p).2 (Or.inl rfl)

theorem IsArena.chg {w w' : World} {p : Nat} {S S' : Nat → Prop} {a : Ar} (h : IsArena w p S a) (hc : Chg S' w w') (hd : ∀ k, S k → ¬ S' k) : IsArena w' p S a := by
  obtain ⟨hok, tv, fv, hp, ht, hf, n1, n2, n3, hS⟩ := h
  exact ⟨hok, tv, fv, hc.heap hp (hd p ((hS p).2 (Or.inl rfl))), hc.own ht (fun k hk => hd k ((hS k).2 (Or.inr (Or.inl hk)))), hc.own hf (fun k hk => hd k ((hS k).2 (Or.inr (Or.inr hk)))), n1, n2, n3, hS⟩

/-- What a walk sees of an arena. -/
theorem IsArena.see {w : World} {p : Nat} {S : Nat → Prop} {a : Ar} (h : IsArena w p S a) :
    ∃ ta tc fa fc, w.cell? ⟨p, 0, none⟩ = some (.slice ta a.T.length tc) ∧ w.cell? ⟨p, 1, none⟩ = some (.slice fa a.F.length fc) ∧ w.cell? ⟨p, 2, none⟩ = some (.int .i64 a.M) ∧
      (∀ j, w.frozen? ⟨p, j, none⟩ = false) ∧ w.heap[p]? = some (.cells #[.slice ta a.T.length tc, .slice fa a.F.length fc, .int .i64 a.M] 100 (0, 0)) ∧
      w.ownsRow 0 4 1 (.slice ta a.T.length tc) a.T.length (a.T.map Value.bool) ∧ w.ownsRow 0 3 1 (.slice fa a.F.length fc) a.F.length (a.F.map natA) ∧
      (∀ g, ta = some ⟨g, 0, none⟩ → g ≠ p ∧ g < w.heap.size ∧ fa ≠ some ⟨g, 0, none⟩) ∧ (∀ g, fa = some ⟨g, 0, none⟩ → g ≠ p ∧ g < w.heap.size) ∧
      (∀ ad, ta = some ad → ∃ g, ad = ⟨g, 0, none⟩) ∧ (∀ ad, fa = some ad → ∃ g, ad = ⟨g, 0, none⟩) ∧
      (∀ k, S k ↔ k = p ∨ ta = some ⟨k, 0, none⟩ ∨ fa = some ⟨k, 0, none⟩) ∧ p < w.heap.size := by
  obtain ⟨hok, tv, fv, hp, ht, hf, n1, n2, n3, hS⟩ := h
  obtain ⟨ta, tc, rfl, hta, htb⟩ := own_slice ht
  obtain ⟨fa, fc, rfl, hfa, hfb⟩ := own_slice hf
  have ob : ∀ (x : Option Addr) (n c : Nat) (k : Nat), (∀ ad, x = some ad → ∃ g, ad = ⟨g, 0, none⟩ ∧ 0 ≤ g ∧ g < w.heap.size ∧ (Value.slice x n c).ownBlock = some g) → ((Value.slice x n c).ownBlock = some k ↔ x = some ⟨k, 0, none⟩) := by
    intro x n c k h
    cases x with
    | none => simp [Value.ownBlock]
    | some ad =>
      obtain ⟨g, rfl, _⟩ := h ad rfl
      simp [Value.ownBlock]
  refine ⟨ta, tc, fa, fc, by rw [cell_of_row w p 0 _ _ _ hp]; rfl, by rw [cell_of_row w p 1 _ _ _ hp]; rfl, by rw [cell_of_row w p 2 _ _ _ hp]; rfl, fun j => frozen_of_row w p j _ _ hp, hp, ht, hf, ?_, ?_, ?_, ?_, ?_, (Array.getElem?_eq_some_iff.1 hp).1⟩
  · intro g hg
    obtain ⟨g', e, _, hlt, ho⟩ := htb _ hg
    cases e
    exact ⟨fun e => n1 (e ▸ ho), hlt, fun e => n3 g ho ((ob fa _ fc g hfb).2 e)⟩
  · intro g hg
    obtain ⟨g', e, _, hlt, ho⟩ := hfb _ hg
    cases e
    exact ⟨fun e => n2 (e ▸ ho), hlt⟩
  · intro ad h; obtain ⟨g, e, _⟩ := htb ad h; exact ⟨g, e⟩
  · intro ad h; obtain ⟨g, e, _⟩ := hfb ad h; exact ⟨g, e⟩
  · intro k
    rw [hS k, ob ta _ tc k htb, ob fa _ fc k hfb]

theorem arNew_bad (m : Int) (w : World) (h : m < 0 ∨ 268435456 < m) :
    Calls Try.prog 69 #[.int .i64 m] w fun e w' => e = .returned (.pointer none) ∧ w = w' := by
  rcases h with h | h
  · go_enter Try.func69, Try.ntmps69
    go_wp2
    go_ret
    exact ⟨rfl, rfl⟩
  · have hd : decide (m < 0) = false := by simp; omega
    go_enter Try.func69, Try.ntmps69
    go_wp2
    go_ret
    exact ⟨rfl, rfl⟩

theorem arNew_good (m : Nat) (w : World) (h : m ≤ 268435456) :
    Calls Try.prog 69 #[.int .i64 m] w fun e w' => e = .returned (.pointer (some ⟨w.heap.size, 0, none⟩)) ∧ IsArena w' w.heap.size (fun k => k = w.heap.size) (Ar.new m) ∧ Chg (fun _ => False) w w' := by
  have hd : decide ((m : Int) < 0) = false := by simp
  have hd2 : decide ((268435456 : Int) < (m : Int)) = false := by simp; omega
  go_enter Try.func69, Try.ntmps69
  go_wp2
  go_ret
  refine ⟨rfl, ⟨Ar.new_ok h, .slice none 0 0, .slice none 0 0, heap_alloc_new w _, World.ownsRow_nil _ _ _ _, World.ownsRow_nil _ _ _ _, by simp [Value.ownBlock], by simp [Value.ownBlock], fun g hg => by simp [Value.ownBlock] at hg, fun k => by simp [Value.ownBlock]⟩, Chg.refl.alloc _⟩

theorem arLive_any {w : World} {p : Nat} {S : Nat → Prop} {a : Ar} (h : IsArena w p S a) :
    Calls Try.prog 96 #[.pointer (some ⟨p, 0, none⟩)] w fun e w' => e = .returned (.int .i64 a.live) ∧ ∃ n, w' = w.drewN n := by
  obtain ⟨ta, tc, fa, fc, h0, h1, h2, hfz, hp, ht, hf, n1, n2, n3, n4, hS, hpl⟩ := h.see
  have hle := h.ok.fle
  have hl : (a.T.length : Int) - (a.F.length : Int) = (a.live : Int) := by unfold Ar.live; omega
  have hmx := h.ok.max
  have hm2 := h.ok.le
  clear hp ht hf n1 n2 n3 n4 hS hfz
  have HL := Lib.hid hl; clear hl
  go_enter Try.func96, Try.ntmps96
  go_wp2_with fail
  go_quiet (fail)
  go_wp2
  go_ret
  exact ⟨ret_int HL.out, _, rfl⟩

theorem arIs_any {w : World} {p : Nat} {S : Nat → Prop} {a : Ar} (k : Int) (h : IsArena w p S a) :
    Calls Try.prog 113 #[.pointer (some ⟨p, 0, none⟩), .int .i64 k] w fun e w' => e = .returned (.bool (arIs a.T k)) ∧ w = w' := by
  obtain ⟨ta, tc, fa, fc, h0, h1, h2, hfz, hp, ht, hf, n1, n2, n3, n4, hS, hpl⟩ := h.see
  have hmx := h.ok.max
  have hm2 := h.ok.le
  clear hp hf n1 n2 n4 hS hfz
  by_cases hk0 : 0 ≤ k
  · have d0 : decide (0 ≤ k) = true := by simpa using hk0
    by_cases hk1 : k < a.T.length
    · have d1 : decide (k < (a.T.length : Int)) = true := by simpa using hk1
      obtain ⟨g, cap, hv, _, _, _, _, hcell, _⟩ := own_some ht (by omega)
      injection hv with e1 e2 e3
      subst e1; subst e3
      have hc := hcell k.toNat (by omega)
      rw [List.getElem?_map, List.getElem?_eq_getElem (by omega)] at hc
      simp only [Option.map_some] at hc
      have HR : Hid (a.T[k.toNat] = arIs a.T k) := by
        show _ = (decide (0 ≤ k) && _)
        rw [d0, List.getElem?_eq_getElem (by omega)]; simp
      generalize a.T[k.toNat] = b at *
      clear hcell ht
      go_enter Try.func113, Try.ntmps113
      go_wp2
      go_ret
      exact ⟨ret_bool HR.out, rfl⟩
    · have d1 : decide (k < (a.T.length : Int)) = false := by simpa using hk1
      have HR : Hid (false = arIs a.T k) := by
        show _ = (decide (0 ≤ k) && _)
        rw [List.getElem?_eq_none (by omega)]; simp
      clear ht
      go_enter Try.func113, Try.ntmps113
      go_wp2
      go_ret
      exact ⟨ret_bool HR.out, rfl⟩
  · have d0 : decide (0 ≤ k) = false := by simpa using hk0
    have HR : Hid (false = arIs a.T k) := by
      show _ = (decide (0 ≤ k) && _)
      rw [d0]; rfl
    clear ht
    go_enter Try.func113, Try.ntmps113
    go_wp2
    go_ret
    exact ⟨ret_bool HR.out, rfl⟩

end Go.Proofs.Ytpbmhdkhkbhgnaa

namespace Go.Proofs.Ytpbmhdkhkbhgnaa
set_option linter.unusedVariables false
set_option linter.unusedSimpArgs false
open Go.RowKit

theorem Try.infoBool : (Try.prog.info? 4).map (fun i => (i.zero, i.size, i.bytes)) = some (some (.bool false), 1, 1) := by kernel_rfl
theorem Try.infoInt' : (Try.prog.info? 3).map (fun i => (i.zero, i.size, i.bytes)) = some (some (.int .i64 0), 1, 8) := by kernel_rfl

/-- What a step on an arena leaves: the arena, and all blocks outside its own (or new) as they were. -/
def ArStep (w w' : World) (p : Nat) (S : Nat → Prop) (a' : Ar) : Prop := ∃ S', IsArena w' p S' a' ∧ Chg S w w' ∧ ∀ k, S' k → S k ∨ w.heap.size ≤ k

theorem arTake_full {w : World} {p : Nat} {S : Nat → Prop} {a : Ar} (h : IsArena w p S a) (hl : a.live = a.M) :
    Calls Try.prog 72 #[.pointer (some ⟨p, 0, none⟩)] w fun e w' => e = .returned (.tuple #[.int .i64 (-1), .int .i64 3]) ∧ ∃ n, w' = w.drewN n := by
  obtain ⟨ta, tc, fa, fc, h0, h1, h2, hfz, hp, ht, hf, n1, n2, n3, n4, hS, hpl⟩ := h.see
  clear hp ht hf n1 n2 n3 n4 hS hfz
  have hlb : ((a.live : Int) == (a.M : Int)) = true := by simp [hl]
  clear hl
  have hlive := fun (wx : World) (hx : IsArena wx p S a) => arLive_any hx
  have HL := Lib.hid hlive; clear hlive
  have hq : ∀ n, IsArena (w.drewN n) p S a := fun n => h.chg (Chg.refl.drewN n) (S' := fun _ => False) (fun k hk hf => hf)
  have HQ := Lib.hid hq; clear hq
  go_enter Try.func72, Try.ntmps72
  go_wp2_with fail
  go_quiet ((go_at_call 96; exact Calls.quiet_of (HL.out _ (HQ.out _))))
  go_wp2
  go_ret2
  exact ⟨rfl, _, rfl⟩

theorem heap_set_cells {w : World} {p : Nat} {cs : Array Value} {t : TypeId} (h : w.heap[p]? = some (.cells cs t (0, 0))) (j : Nat) (v : Value) : (w.setCell ⟨p, j, none⟩ v).heap[p]? = some (.cells (cs.setIfInBounds j v) t (0, 0)) :=
  heap_setCell_same w p j cs t v h
theorem heap_set_other {w : World} {b p j : Nat} {v : Value} {o : Obj} (h : w.heap[b]? = some o) (hne : b ≠ p) : (w.setCell ⟨p, j, none⟩ v).heap[b]? = some o := by
  rw [heap_setCell_other w ⟨p, j, none⟩ b v hne]; exact h
theorem own_set_other {w : World} {base : Nat} {e : TypeId} {sz n : Nat} {a : Option Addr} {c : Nat} {xs : List Value} (h : w.ownsRow base e sz (.slice a n c) n xs) {p j : Nat} (v : Value) (hne : ∀ g, a = some ⟨g, 0, none⟩ → g ≠ p) (ha : ∀ ad, a = some ad → ∃ g, ad = ⟨g, 0, none⟩) :
    (w.setCell ⟨p, j, none⟩ v).ownsRow base e sz (.slice a n c) n xs := ownsRow_setCell_other h (by
  cases a with
  | none => simp [Value.ownBlock]
  | some ad =>
    obtain ⟨g, rfl⟩ := ha ad rfl
    simpa [Value.ownBlock] using hne g rfl) v

/-- An arena out of its parts. -/
theorem IsArena.of {w : World} {p : Nat} {a : Ar} {ta fa : Option Addr} {tc fc : Nat} (ok : a.Ok) (hp : w.heap[p]? = some (.cells #[.slice ta a.T.length tc, .slice fa a.F.length fc, .int .i64 a.M] 100 (0, 0)))
    (ht : w.ownsRow 0 4 1 (.slice ta a.T.length tc) a.T.length (a.T.map Value.bool)) (hf : w.ownsRow 0 3 1 (.slice fa a.F.length fc) a.F.length (a.F.map natA))
    (n1 : ∀ g, ta = some ⟨g, 0, none⟩ → g ≠ p ∧ fa ≠ some ⟨g, 0, none⟩) (n2 : ∀ g, fa = some ⟨g, 0, none⟩ → g ≠ p) :
    IsArena w p (fun k => k = p ∨ ta = some ⟨k, 0, none⟩ ∨ fa = some ⟨k, 0, none⟩) a := by
  have ob : ∀ (x : Option Addr) (n c : Nat) (k : Nat), (∀ ad, x = some ad → ∃ g, ad = (⟨g, 0, none⟩ : Addr)) → ((Value.slice x n c).ownBlock = some k ↔ x = some ⟨k, 0, none⟩) := by
    intro x n c k h
    cases x with
    | none => simp [Value.ownBlock]
    | some ad =>
      obtain ⟨g, rfl⟩ := h ad rfl
      simp [Value.ownBlock]
  have ha : ∀ ad, ta = some ad → ∃ g, ad = (⟨g, 0, none⟩ : Addr) := by
    obtain ⟨x, c, hv, _, hb⟩ := own_slice ht
    injection hv with e1 e2 e3
    intro ad h; obtain ⟨g, e, _⟩ := hb ad (e1 ▸ h); exact ⟨g, e⟩
  have hb : ∀ ad, fa = some ad → ∃ g, ad = (⟨g, 0, none⟩ : Addr) := by
    obtain ⟨x, c, hv, _, hb⟩ := own_slice hf
    injection hv with e1 e2 e3
    intro ad h; obtain ⟨g, e, _⟩ := hb ad (e1 ▸ h); exact ⟨g, e⟩
  refine ⟨ok, _, _, hp, ht, hf, fun e => (n1 p ((ob ta _ tc p ha).1 e)).1 rfl, fun e => (n2 p ((ob fa _ fc p hb).1 e)) rfl, fun g hg e => (n1 g ((ob ta _ tc g ha).1 hg)).2 ((ob fa _ fc g hb).1 e), fun k => ?_⟩
  rw [ob ta _ tc k ha, ob fa _ fc k hb]

theorem arTake_pop {w : World} {p : Nat} {S : Nat → Prop} {a : Ar} (h : IsArena w p S a) (hl : a.live ≠ a.M) {k : Nat} (hk : a.F.getLast? = some k) :
    Calls Try.prog 72 #[.pointer (some ⟨p, 0, none⟩)] w fun e w' => e = .returned (.tuple #[.int .i64 k, .int .i64 0]) ∧ ArStep w w' p S (a.pop k) := by
  obtain ⟨ta, tc, fa, fc, h0, h1, h2, hfz, hp, ht, hf, n1, n2, n3, n4, hS, hpl⟩ := h.see
  have hkl := h.ok.last_lt hk
  have hmx := h.ok.max
  have hm2 := h.ok.le
  have hfl := h.ok.fle
  have hne : a.F ≠ [] := by intro e; rw [e] at hk; cases hk
  have hFn : 0 < a.F.length := List.length_pos_iff.2 hne
  obtain ⟨fb, fcap, hv, _, hfb, hfcap, _, hfcell, _⟩ := own_some hf hFn
  injection hv with e1 _ e3
  subst e1; subst e3
  obtain ⟨tb, tcap, hv, _, htb, htcap, _, htcell, htfz⟩ := own_some ht (by omega)
  injection hv with e1 _ e3
  subst e1; subst e3
  obtain ⟨ntp, _, ntf⟩ := n1 tb rfl
  obtain ⟨nfp, _⟩ := n2 fb rfl
  have hcF := hfcell (a.F.length - 1) (by omega)
  rw [List.getElem?_map, ← List.getLast?_eq_getElem?, hk] at hcF
  have hcT := htcell k hkl
  rw [List.getElem?_map, List.getElem?_eq_getElem hkl] at hcT
  simp only [Option.map_some, natA] at hcT hcF
  have hz0 := htfz k
  have hlb : ((a.live : Int) == (a.M : Int)) = false := by simp; omega
  have hq : ∀ n, IsArena (w.drewN n) p S a := fun n => h.chg (Chg.refl.drewN n) (S' := fun _ => False) (fun k hk hf => hf)
  have HQ := Lib.hid hq; clear hq
  have hpop := Ar.pop_ok h.ok hk
  generalize hb0 : a.T[k] = b0 at *
  have hd0 : decide ((0 : Int) < (a.F.length : Int)) = true := by simp; omega
  have hz1 := hfz 1
  have HF := Lib.hid hfz
  have HP := Lib.hid hp
  have HT := Lib.hid ht
  have HFr := Lib.hid hf
  have HS := Lib.hid hS
  clear hfz hp ht hf hS htcell hfcell htfz n1 n2 n3 n4 hl hb0
  obtain ⟨n, hn⟩ : ∃ n, a.F.length = n + 1 := ⟨a.F.length - 1, by omega⟩
  have HN := Lib.hid hn
  rw [hn] at h1 hfcap hd0 hcF hFn hfl
  rw [show n + 1 - 1 = n from by omega] at hcF
  clear hn
  go_enter Try.func72, Try.ntmps72
  go_wp2_with fail
  go_quiet ((go_at_call 96; exact Calls.quiet_of (arLive_any (HQ.out _))))
  go_wp2
  go_ret2
  have e1 : (a.pop k).T.length = a.T.length := by simp [Ar.pop]
  have e2 : (a.pop k).F.length = n := by have := HN.out; simp [Ar.pop]; omega
  have hne2 : fb ≠ tb := fun e => ntf (by rw [e])
  refine ⟨rfl, _, IsArena.of (ta := some ⟨tb, 0, none⟩) (tc := tc) (fa := some ⟨fb, 0, none⟩) (fc := fc) hpop ?_ ?_ ?_ ?_ ?_, ?_, ?_⟩
  · rw [e1, e2]
    have := heap_set_other (heap_set_cells (w := w.drewN nq) HP.out 1 (.slice (some ⟨fb, 0, none⟩) n fc)) (p := tb) (j := k) (v := .bool true) (fun e => ntp e.symm)
    exact this
  · rw [e1]
    have := own_set (own_set_other (w := w.drewN nq) HT.out (p := p) (j := 1) (.slice (some ⟨fb, 0, none⟩) n fc) (fun g hg => by cases hg; exact ntp) (fun ad hg => by cases hg; exact ⟨_, rfl⟩)) k (.bool true)
    rw [← List.map_set] at this
    exact this
  · rw [e2]
    have h3 := HFr.out
    rw [HN.out] at h3
    have h4 := own_take h3 (m := n) (by omega)
    have e3 : (a.F.map natA).take n = (a.pop k).F.map natA := by
      rw [← List.map_take]; congr 1; show _ = a.F.dropLast; rw [List.dropLast_eq_take, HN.out]; rfl
    rw [e3] at h4
    exact own_set_other (own_set_other (w := w.drewN nq) h4 _ (fun g hg => by cases hg; exact nfp) (fun ad hg => by cases hg; exact ⟨_, rfl⟩)) _ (fun g hg => by cases hg; exact hne2) (fun ad hg => by cases hg; exact ⟨_, rfl⟩)
  · intro g hg; cases hg; exact ⟨ntp, ntf⟩
  · intro g hg; cases hg; exact nfp
  · exact ((Chg.refl.drewN nq).setCell _ (Or.inl ((HS.out p).2 (Or.inl rfl))) _).setCell _ (Or.inl ((HS.out tb).2 (Or.inr (Or.inl rfl)))) _
  · exact fun x hx => Or.inl ((HS.out x).2 hx)

theorem arTake_more {w : World} {p : Nat} {S : Nat → Prop} {a : Ar} (h : IsArena w p S a) (hl : a.live ≠ a.M) (hk : a.F = []) :
    Calls Try.prog 72 #[.pointer (some ⟨p, 0, none⟩)] w fun e w' => e = .returned (.tuple #[.int .i64 a.T.length, .int .i64 0]) ∧ ArStep w w' p S a.more := by
  obtain ⟨ta, tc, fa, fc, h0, h1, h2, hfz, hp, ht, hf, n1, n2, n3, n4, hS, hpl⟩ := h.see
  have hmx := h.ok.max
  have hm2 := h.ok.le
  have hlt : a.T.length < a.M := by
    simp only [Ar.live, hk, List.length_nil] at hl; omega
  have hlb : ((a.live : Int) == (a.M : Int)) = false := by simp; omega
  have hq : ∀ n, IsArena (w.drewN n) p S a := fun n => h.chg (Chg.refl.drewN n) (S' := fun _ => False) (fun k hk hf => hf)
  have HQ := Lib.hid hq; clear hq
  have hmore := Ar.more_ok h.ok hlt
  have hz0 := hfz 0
  have hF0 : a.F.length = 0 := by rw [hk]; rfl
  have HP := Lib.hid hp
  have HFr := Lib.hid hf
  have HS := Lib.hid hS
  have HF0 := Lib.hid hF0
  have HK := Lib.hid hk
  have ob : ∀ x n c, (Value.slice ta n c).ownBlock = some x → ta = some ⟨x, 0, none⟩ := by
    intro x n c hx
    cases ta with
    | none => simp [Value.ownBlock] at hx
    | some ad => obtain ⟨g, rfl⟩ := n3 ad rfl; simp [Value.ownBlock] at hx; rw [hx]
  rw [hF0] at h1
  have HN1 := Lib.hid n1
  have HN2 := Lib.hid n2
  have HN3 := Lib.hid n3
  have HN4 := Lib.hid n4
  have HOB := Lib.hid ob
  clear hfz hp hf hS n1 n2 n3 n4 hl hF0 hk ob
  go_enter Try.func72, Try.ntmps72
  go_wp2_with fail
  go_quiet ((go_at_call 96; exact Calls.quiet_of (arLive_any (HQ.out _))))
  go_wp2_with (at_builtin; refine wpList_pushL rfl _ _ 98 rfl 0 4 Try.infoBool Try.underlying98 rfl _ _ _ rfl ht rfl rfl ?c1 ?c2 ?c3 ?_)
  case c1 => unfold maxLen; omega
  case c2 => omega
  case c3 => omega
  intro g cap w1 hown hgrow hor hgl
  have hpn : some p ≠ (Value.slice ta a.T.length tc).ownBlock := fun e => ((HN1.out p (HOB.out p _ _ e.symm)).1 rfl)
  have hp1 : w1.heap[p]? = some (.cells #[.slice ta a.T.length tc, .slice fa a.F.length fc, .int .i64 a.M] 100 (0, 0)) := (hgrow.block p hpl hpn).trans HP.out
  have hc1 : w1.cell? ⟨p, 0, none⟩ = some (.slice ta a.T.length tc) := by rw [cell_of_row w1 p 0 _ _ _ hp1]; rfl
  have hf1 : w1.frozen? ⟨p, 0, none⟩ = false := frozen_of_row w1 p 0 _ _ hp1
  have HP1 := Lib.hid hp1
  have HO := Lib.hid hown
  have HG := Lib.hid hgrow
  have HOR := Lib.hid hor
  clear hp1 hown hgrow hor hpn ht h0 h1
  go_wp2
  go_ret2
  have hgp : g ≠ p := by
    rcases HOR.out with e | e
    · exact fun e2 => (HN1.out g (HOB.out g _ _ e)).1 e2
    · intro e2; subst e2; exact absurd hpl (by have : (w.drewN nq).heap.size = w.heap.size := rfl; omega)
  have hgf : fa ≠ some ⟨g, 0, none⟩ := by
    rcases HOR.out with e | e
    · exact (HN1.out g (HOB.out g _ _ e)).2.2
    · intro e2; have := (HN2.out g e2).2; have h3 : (w.drewN nq).heap.size = w.heap.size := rfl; omega
  have e1 : a.more.T.length = a.T.length + 1 := by simp [Ar.more]
  have hfo : w1.ownsRow 0 3 1 (.slice fa a.F.length fc) a.F.length (a.F.map natA) := by
    refine HFr.out.kept (w := w.drewN nq) HG.out ?_
    cases fa with
    | none => left; rfl
    | some ad =>
      obtain ⟨g2, rfl⟩ := HN4.out ad rfl
      right
      intro e
      have e3 : ta = some ⟨g2, 0, none⟩ := HOB.out g2 _ _ (by rw [← e]; rfl)
      exact (HN1.out g2 e3).2.2 rfl
  refine ⟨by simp, _, IsArena.of (ta := some ⟨g, 0, none⟩) (tc := cap) (fa := fa) (fc := fc) hmore ?_ ?_ ?_ ?_ ?_, ?_, ?_⟩
  · rw [e1]
    exact heap_set_cells HP1.out 0 (.slice (some ⟨g, 0, none⟩) (a.T.length + 1) cap)
  · rw [e1]
    have h3 : a.more.T.map Value.bool = a.T.map Value.bool ++ [.bool true] := by simp [Ar.more]
    rw [h3]
    exact own_set_other HO.out _ (fun g' hg' => by cases hg'; exact hgp) (fun ad hg' => by cases hg'; exact ⟨_, rfl⟩)
  · exact own_set_other hfo _ (fun g' hg' => (HN2.out g' hg').1) (fun ad hg' => HN4.out ad hg')
  · intro g' hg'; cases hg'; exact ⟨hgp, hgf⟩
  · intro g' hg'; exact (HN2.out g' hg').1
  · exact ((Chg.refl.drewN nq).grown HG.out (fun x hx => Or.inl ((HS.out x).2 (Or.inr (Or.inl (HOB.out x _ _ hx)))))).setCell _ (Or.inl ((HS.out p).2 (Or.inl rfl))) _
  · intro x hx
    rcases hx with rfl | hx | hx
    · exact Or.inl ((HS.out _).2 (Or.inl rfl))
    · cases hx
      rcases HOR.out with e | e
      · exact Or.inl ((HS.out _).2 (Or.inr (Or.inl (HOB.out _ _ _ e))))
      · exact Or.inr e
    · exact Or.inl ((HS.out _).2 (Or.inr (Or.inr hx)))

end Go.Proofs.Ytpbmhdkhkbhgnaa
