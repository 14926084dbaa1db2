/- The contracts of sorted.Last and sorted.Same. -/
import Derived.Test.YtpbmhdkhkbhgnaaSortedR
namespace Go.Proofs.Ytpbmhdkhkbhgnaa
set_option linter.unusedVariables false
set_option linter.unusedSimpArgs false
open Go.RowKit

/-- What is returned is a row of numbers of the call's own. -/
def GivesI (B : Nat) (w : World) (m : List Int) (e : Ending) (w' : World) : Prop := ∃ v, e = .returned v ∧ w'.ownsRow B 3 1 v m.length (m.map (Value.int .i64)) ∧ Below B w w'
/-- The transform of a text. -/
def LastPost (B : Nat) (w : World) (t : List Int) (e : Ending) (w' : World) : Prop := ∃ m, IsLast t m ∧ GivesI B w m e w'

/-- 'make([]int, 0, n)' -/
theorem make_cap (n : Nat) (h : n ≤ 1000000000) (w : World) : (Instr.makeSlice 22 (.int .i64 0) (.int .i64 (n : Int))).run Try.prog w = .ok (.slice (some ⟨w.heap.size, 0, none⟩) 0 n) (w.alloc (.cells (vecL (fun _ => .int .i64 0) n).toArray 3)) := by
  obtain ⟨i, hi, hiz, hsz, hby⟩ := info_parts Try.infoIntG
  have h2 := run_make (P := Try.prog) w 22 3 i (.int .i64 0) Try.underlying22 hi hiz .i64 .i64 0 (n : Int) (by omega) (by omega) (by rw [hby]; omega) (by omega)
  rw [h2, hsz, Int.toNat_natCast, Nat.mul_one]
  show Result.ok (Value.slice _ (0 : Int).toNat n) (w.alloc (.cells (madeCells #[.int .i64 0] n) 3)) = _
  rw [madeCells_oneG]; rfl
theorem own_cap {w : World} {q n base : Nat} {f : Nat → Value} {e : TypeId} (h : w.heap[q]? = some (.cells (vecL f n).toArray e (0, 0))) (hb : base ≤ q) (hn : n ≤ maxLen) : w.ownsRow base e 1 (.slice (some ⟨q, 0, none⟩) 0 n) 0 [] :=
  ⟨rfl, .inr ⟨q, n, (vecL f n).toArray, rfl, hb, h, Nat.zero_le _, hn, by simp [vecL_len], by simp⟩⟩

set_option maxHeartbeats 1600000 in
theorem last_any (a : Option Addr) (c : Nat) (t : List Int) (w : World) (hr : Reads w .u8 a t) (hb : Bytes t) (hl : t.length ≤ 1000000) :
    Calls Try.prog 24 #[.slice a t.length c] w (LastPost w.heap.size w t) := by
  have HR := Lib.hid hr
  have hls : (symsT t).length = t.length + 1 := symsT_len t
  have HLS := Lib.hid hls
  clear hls
  go_enter Try.func24, Try.ntmps24
  go_wp2_with fail
  have hb0 := below_al w (.cells #[.slice a t.length c] 23)
  refine (symAll1 w.heap.size 1 a c t _ (by simp) (by simp) (hr.below hb0) hb (by omega)).mono ?_
  rintro e w1 ⟨v, rfl, hown, hb1⟩
  obtain ⟨g0, cap0, rfl, hg1, hg2, _, _, hcell, _⟩ := own_some hown (by omega)
  have hbw : Below w.heap.size w w1 := hb0.trans (hb1.mono (by simp))
  have hrc : ∀ j, j < t.length + 1 → w1.cell? ⟨g0, j, none⟩ = some (.int .i64 (sy (symsT t) j)) := by
    intro j hj
    rw [hcell j hj]
    have e : t.map symV ++ [.int .i64 0] = (symsT t).map (Value.int .i64) := by simp [symsT, symV, Function.comp]
    rw [e, List.getElem?_map, List.getElem?_eq_getElem (by have := HLS.out; omega), sy_in (by have := HLS.out; omega)]; rfl
  have HRC : Hid (∀ W, Below w1.heap.size w1 W → ∀ j, j < t.length + 1 → W.cell? ⟨g0, j, none⟩ = some (.int .i64 (sy (symsT t) j))) := fun W hW j hj => (hW.cell (p := ⟨g0, j, none⟩) hg2).trans (hrc j hj)
  have HBW := Lib.hid hbw
  have hgb : g0 < w1.heap.size := hg2
  clear hown hcell hb0 hb1 hg1 hg2 hrc hr hbw
  obtain ⟨n, hn⟩ : ∃ n, t.length + 1 = n := ⟨_, rfl⟩
  have hn0 : 0 < n := by omega
  have hnm : n ≤ 1000001 := by omega
  have hmk := make_cap n (by omega)
  rw [hn] at HRC HLS ⊢
  have HN := Lib.hid hn
  clear hn
  go_wp2_with fail
  have hown : (w1.alloc (.cells (vecL (fun _ => .int .i64 0) n).toArray 3)).ownsRow w.heap.size 3 1 (.slice (some ⟨w1.heap.size, 0, none⟩) 0 n) 0 [] := own_cap (heap_alloc_new w1 _) HBW.out.size (by unfold maxLen; omega)
  have hbw2 := HBW.out.alloc HBW.out.size (.cells (vecL (fun _ => .int .i64 0) n).toArray 3)
  have HRC2 : Hid (∀ W, Below (w1.alloc (.cells (vecL (fun _ => .int .i64 0) n).toArray 3)).heap.size (w1.alloc (.cells (vecL (fun _ => .int .i64 0) n).toArray 3)) W → ∀ j, j < n → W.cell? ⟨g0, j, none⟩ = some (.int .i64 (sy (symsT t) j))) :=
    fun W hW => HRC.out W ((below_al w1 _).trans (hW.mono (by simp)))
  generalize w1.alloc (.cells (vecL (fun _ => .int .i64 0) n).toArray 3) = w2 at *
  generalize w1.heap.size = q0 at *
  have HO := Lib.hid hown
  have HB2 := Lib.hid hbw2
  have hs2 := hbw2.size
  have hq2 : q0 < w2.heap.size := (own_lt hown (k := q0) rfl).2
  have hrd : Reads w2 .u8 a t := by
    intro i hi
    obtain ⟨b, off, h1, h2, h3⟩ := HR.out i hi
    exact ⟨b, off, h1, by omega, fun j hj => (hbw2.cell (p := ⟨b, off + j, none⟩) h2).trans (h3 j hj)⟩
  clear hown hbw2
  refine (rows_any a c t w2 hrd hb hl).mono ?_
  rintro e w3 ⟨r, hrw, v, rfl, hown, hb3⟩
  have hrl : r.length = n := by rw [hrw.len]; exact HLS.out
  rw [hrl] at hown
  obtain ⟨g3, cap3, rfl, hg3a, hg3b, _, _, hc3, _⟩ := own_some hown hn0
  have h23 := hb3.size
  have HO3 := Lib.hid (own_below HO.out hb3 (fun k hk => (own_lt HO.out hk).2))
  have HB3 := Lib.hid (HB2.out.trans (hb3.mono hs2))
  have HC3 : Hid (∀ W, Below w3.heap.size w3 W → ∀ j, j < n → W.cell? ⟨g3, j, none⟩ = some (.int .i64 ((r[j]?.getD 0 : Nat) : Int)) ∧ W.cell? ⟨g0, (r[j]?.getD 0 + n - 1) % n, none⟩ = some (.int .i64 (sy (symsT t) ((r[j]?.getD 0 + n - 1) % n)))) := by
    intro W hW j hj
    refine ⟨(hW.cell (p := ⟨g3, j, none⟩) hg3b).trans ?_, HRC2.out W (hb3.trans (hW.mono hb3.size)) _ (Nat.mod_lt _ hn0)⟩
    rw [hc3 j hj, List.getElem?_map, List.getElem?_eq_getElem (by omega)]
    rfl
  have HLM : Hid (∀ k, k < n → (lastL (symsT t) r)[k]? = some (sy (symsT t) ((r[k]?.getD 0 + n - 1) % n))) := by
    intro k hk
    have h1 := HLS.out
    unfold lastL
    rw [List.getElem?_map, List.getElem?_eq_getElem (show k < r.length by omega), h1]
    simp
  have HIS : Hid (IsLast t (lastL (symsT t) r)) := ⟨byteL_of hb, r, hrw, rfl⟩
  have hml : (lastL (symsT t) r).length = n := by rw [lastL_len]; exact hrl
  have HML := Lib.hid hml
  have hrlt : ∀ k, k < n → r[k]?.getD 0 < n := by
    intro k hk
    have h1 : k < r.length := by omega
    have h2 := hrw.lt h1
    have h3 := HLS.out
    rw [getD_eq h1]; omega
  have HRL := Lib.hid hrlt
  clear hown hb3 hrw hc3 hrl hml hrlt HRC HRC2 HO hrd hb HBW HB2
  generalize lastL (symsT t) r = m at *
  go_wp2_with fail
  go_loopw [4, 16] (fun v i wr => ∃ k : Nat, k ≤ n ∧ i = .int .i64 k ∧ wr.ownsRow w.heap.size 3 1 v k ((m.take k).map (Value.int .i64)) ∧ Below w.heap.size w wr ∧ (∀ q, v.ownBlock = some q → q ≠ g3 ∧ q ≠ g0) ∧ g3 < wr.heap.size ∧ g0 < wr.heap.size ∧ ∀ j, j < n → wr.cell? ⟨g3, j, none⟩ = some (.int .i64 ((r[j]?.getD 0 : Nat) : Int)) ∧ wr.cell? ⟨g0, (r[j]?.getD 0 + n - 1) % n, none⟩ = some (.int .i64 (sy (symsT t) ((r[j]?.getD 0 + n - 1) % n)))) (fun _ i _ => n - (intOf i).toNat)
  case atStart => exact ⟨0, Nat.zero_le _, rfl, by simpa using HO3.out, HB3.out, (fun q hq => by simp [Value.ownBlock] at hq; omega), hg3b, by omega, HC3.out w3 (Below.refl _ _)⟩
  case round =>
    obtain ⟨k, hk, rfl, hown, hbw, hqs, hz1, hz2, hcs⟩ := hrel
    have hs := hbw.size
    by_cases hlt : k < n
    · obtain ⟨c1, c2⟩ := hcs k hlt
      have HCS := Lib.hid hcs
      have hx := HRL.out k hlt
      have hm := HLM.out k hlt
      have htk : m.take (k + 1) = m.take k ++ [sy (symsT t) ((r[k]?.getD 0 + n - 1) % n)] := by
        rw [List.take_add_one, hm]; rfl
      have HTK := Lib.hid htk
      clear hcs htk hm
      generalize r[k]?.getD 0 = x at *
      generalize hu : (x + n - 1) % n = u at *
      have hu2 : (((x : Int) + (n : Int) - 1) % (n : Int)) = (u : Int) := by
        have e : ((x + n - 1 : Nat) : Int) = (x : Int) + (n : Int) - 1 := by omega
        rw [← hu, ← e]; rfl
      have hun : u < n := by rw [← hu]; exact Nat.mod_lt _ hn0
      have HU := Lib.hid hu
      clear hu
      generalize sy (symsT t) u = y at *
      obtain ⟨a4, c4, rfl, _, _⟩ := own_slice hown
      have HQ := Lib.hid hqs
      have HOW := Lib.hid hown
      clear hqs
      go_wp2_with (at_builtin; refine wpList_pushL rfl _ _ 22 rfl w.heap.size 3 Try.infoIntG Try.underlying22 rfl _ _ _ rfl hown rfl rfl ?c1 ?c2 ?c3 ?_)
      case c1 => unfold maxLen; omega
      case c2 => omega
      case c3 => omega
      intro g cap w5 hown' hgrow hor hgl
      have hch : Below w.heap.size w w5 := hbw.grown hgrow hs (fun j hj => (HOW.out.lt j hj).1)
      have hcg : Chg (fun b => (Value.slice a4 k c4).ownBlock = some b) wr w5 := (Chg.refl (S := fun b => (Value.slice a4 k c4).ownBlock = some b)).grown hgrow (fun k hk => Or.inl hk)
      have HO5 : Hid (w5.ownsRow w.heap.size 3 1 (.slice (some ⟨g, 0, none⟩) (k + 1) cap) (k + 1) ((m.take (k + 1)).map (Value.int .i64))) := by
        show w5.ownsRow _ _ _ _ _ _
        rw [HTK.out, List.map_append, List.map_take]; exact hown'
      have HCH := Lib.hid hch
      have HC5 : Hid (∀ j, j < n → w5.cell? ⟨g3, j, none⟩ = some (.int .i64 ((r[j]?.getD 0 : Nat) : Int)) ∧ w5.cell? ⟨g0, (r[j]?.getD 0 + n - 1) % n, none⟩ = some (.int .i64 (sy (symsT t) ((r[j]?.getD 0 + n - 1) % n)))) := by
        intro j hj
        obtain ⟨k1, k2⟩ := HCS.out j hj
        exact ⟨hcg.cell k1 (fun e => (HQ.out _ e).1 rfl), hcg.cell k2 (fun e => (HQ.out _ e).2 rfl)⟩
      have HQ5 : Hid (g ≠ g3 ∧ g ≠ g0) := by
        rcases hor with e | e
        · exact HQ.out g e
        · exact ⟨by omega, by omega⟩
      have hsz := hcg.size
      clear hown hown' hgrow hor hch hcg
      go_wp2_with fail
      go_roundw
      case rel => exact ⟨k + 1, by omega, by go_num, HO5.out, HCH.out, (fun q hq => by simp [Value.ownBlock] at hq; rw [← hq]; exact HQ5.out), by omega, by omega, HC5.out⟩
      case measure => simp [intOf]; omega
    · obtain rfl : k = n := by omega
      rw [List.take_of_length_le (by rw [HML.out]; exact Nat.le_refl _)] at hown
      go_wp2_with fail
      go_ret
      exact ⟨m, HIS.out, _, rfl, by rw [HML.out]; exact hown, hbw⟩

/-- Two lists of numbers are one. -/
theorem same_ints (a b : Option Addr) (n k c d : Nat) (xs ys : List Int) (w : World) (hx : Reads w .i64 a xs) (hy : Reads w .i64 b ys) (hn : n = xs.length) (hk : k = ys.length) (hm : xs.length ≤ 1000000000) (hm2 : ys.length ≤ 1000000000) :
    Calls Try.prog 19 #[.slice a n c, .slice b k d] w fun e w' => e = .returned (.bool (decide (xs = ys))) ∧ ∃ q, w' = w.drewN q := by
  subst hn; subst hk
  have hE : Calls Try.prog 58 #[.slice a xs.length c, .slice b ys.length d] w fun e w' => e = .returned (.bool (decide (xs = ys))) ∧ ∃ q, w' = w.drewN q := by
    by_cases h0 : xs.length = 0
    · have e0 : xs = [] := List.eq_nil_of_length_eq_zero h0
      subst e0
      refine (Try.slices_Equal_int_empty a b c ys.length d w (by omega)).mono ?_
      rintro e w' ⟨rfl, rfl⟩
      refine ⟨ret_bool ?_, 0, rfl⟩
      cases ys <;> simp
    · by_cases hl : xs.length = ys.length
      · obtain ⟨b0, o0, rfl, _, hc0⟩ := hx.some (by omega)
        obtain ⟨b1, o1, rfl, _, hc1⟩ := hy.some (by omega)
        refine (Try.slices_Equal_int b0 o0 xs.length c b1 o1 ys.length d xs ys w (Nat.le_refl _) (Nat.le_refl _) (by omega) (by omega) (fun j hj => ?_) (fun j hj => ?_)).mono ?_
        · rw [hc0 j hj]; simp
        · rw [hc1 j hj]; simp
        · rintro e w' ⟨rfl, q, rfl⟩
          refine ⟨ret_bool ?_, q, rfl⟩
          rw [List.take_length, List.take_length]
          by_cases e : xs = ys <;> simp [e]
      · refine (Try.slices_Equal_int_lens a b xs.length c ys.length d w hl).mono ?_
        rintro e w' ⟨rfl, rfl⟩
        exact ⟨ret_bool (decide_eq_false (fun e => hl (by rw [e]))).symm, 0, rfl⟩
  generalize decide (xs = ys) = r at *
  go_enter Try.func19, Try.ntmps19
  go_wp2_with (go_at_call 58; refine hE.mono ?_; rintro e w' ⟨rfl, q, rfl⟩)
  go_ret
  exact ⟨rfl, q, rfl⟩

end Go.Proofs.Ytpbmhdkhkbhgnaa
