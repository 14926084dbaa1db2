/- The contract of sym.All: the symbols of all parts, and the end, in memory of the call's own. -/
import Derived.Test.YtpbmhdkhkbhgnaaBase
import Derived.Test.YtpbmhdkhkbhgnaaSym
namespace Go.Proofs.Ytpbmhdkhkbhgnaa
open Go.RowKit

/-- The first j parts, one behind the other. -/
def cat (px : Nat → List Int) : Nat → List Int
  | 0 => []
  | j + 1 => cat px j ++ px j
theorem cat_le (px : Nat → List Int) {j m : Nat} (h : j ≤ m) : (cat px j).length ≤ (cat px m).length := by
  induction m with
  | zero => have : j = 0 := by omega
            subst this; exact Nat.le_refl _
  | succ m ih =>
    by_cases e : j = m + 1
    · subst e; exact Nat.le_refl _
    · have := ih (by omega)
      simp only [cat, List.length_append]; omega

/-- A byte's symbol, as a value. -/
def symV (x : Int) : Value := .int .i64 (x + 1)

theorem Try.infoInt : (Try.prog.info? 3).map (fun i => (i.zero, i.size, i.bytes)) = some (some (.int .i64 0), 1, 8) := by kernel_rfl

set_option maxHeartbeats 1600000 in
set_option maxRecDepth 100000 in
theorem symAll_any (pb m c : Nat) (pa : Nat → Option Addr) (pc : Nat → Nat) (px : Nat → List Int) (w : World)
    (hm : m ≤ 9223372036854775807)
    (hcell : ∀ j, j < m → w.cell? ⟨pb, j, none⟩ = some (.slice (pa j) (px j).length (pc j))) (hpb : pb < w.heap.size)
    (hread : ∀ j, j < m → Reads w .u8 (pa j) (px j)) (hbyte : ∀ j, j < m → ∀ i, i < (px j).length → 0 ≤ (px j)[i]?.getD 0 ∧ (px j)[i]?.getD 0 < 256)
    (htot : (cat px m).length ≤ 1000000000) :
    Calls Try.prog 26 #[.slice (some ⟨pb, 0, none⟩) m c] w fun e w' =>
      ∃ v, e = .returned v ∧ w'.ownsRow w.heap.size 3 1 v ((cat px m).length + 1) ((cat px m).map symV ++ [.int .i64 0]) ∧ Below w.heap.size w w' := by
  go_enter Try.func26, Try.ntmps26
  go_wp2
  go_loopw [3, 10] (fun v i wr => ∃ k : Nat, k ≤ m ∧ i = .int .i64 k ∧ wr.ownsRow w.heap.size 3 1 v (cat px k).length ((cat px k).map symV) ∧ Below w.heap.size w wr)
    (fun _ i _ => m - (intOf i).toNat)
  case atStart => exact ⟨0, Nat.zero_le _, rfl, World.ownsRow_nil _ _ _ _, Below.refl _ _⟩
  case round =>
    obtain ⟨k, hk, rfl, hown, hnx⟩ := hrel
    obtain ⟨wo, rfl⟩ : ∃ wo : World, wo = wr := ⟨_, rfl⟩
    have hs0 := hnx.size
    by_cases hlt : k < m
    · have hc := (hnx.cell (p := ⟨pb, k, none⟩) hpb).trans (hcell k hlt)
      have hr := hread k hlt
      have hb := hbyte k hlt
      have hcl : (cat px (k + 1)).length ≤ 1000000000 := Nat.le_trans (cat_le px (by omega)) htot
      have hcl2 : (cat px k).length + (px k).length ≤ 1000000000 := by simpa [cat] using hcl
      have HC : Hid (cat px (k + 1) = cat px k ++ px k) := rfl
      clear hcell hread hbyte
      generalize hX : px k = xs at *
      generalize pa k = pk at *
      have HX := Lib.hid hX; clear hX
      go_wp2_with fail
      go_loopw [3, 16] (fun v i wr => ∃ n : Nat, n ≤ xs.length ∧ i = .int .i64 n ∧ wr.ownsRow w.heap.size 3 1 v ((cat px k).length + n) ((cat px k ++ xs.take n).map symV) ∧ Below w.heap.size w wr)
        (fun _ i _ => xs.length - (intOf i).toNat)
      case atStart => exact ⟨0, Nat.zero_le _, rfl, by simpa using hown, hnx⟩
      case round =>
        obtain ⟨n, hn, rfl, hown, hnx⟩ := hrel
        have hs1 := hnx.size
        by_cases hln : n < xs.length
        · obtain ⟨b, off, rfl, hlt2, hcells⟩ := hr.some (by omega)
          have hcx := (hnx.cell (p := ⟨b, off + n, none⟩) hlt2).trans (hcells n hln)
          obtain ⟨hb0, hb1⟩ := hb n hln
          have htake : (cat px k ++ xs.take (n + 1)).map symV = (cat px k ++ xs.take n).map symV ++ [symV (xs[n]?.getD 0)] := by
            rw [List.take_add_one, List.getElem?_eq_getElem hln]; simp only [List.map_append, List.append_assoc, Option.toList_some, Option.getD_some, List.map_cons, List.map_nil]
          clear hcells hr hb
          generalize xs[n]?.getD 0 = x at *
          have HT := Lib.hid htake; clear htake
          go_wp2_with (first
            | (go_at_call 68; refine (symOf_any _ _ hb0 hb1).mono ?_; rintro e w' ⟨rfl, rfl⟩)
            | (at_builtin; refine wpList_push rfl _ _ 22 rfl w.heap.size 3 Try.infoInt Try.underlying22 rfl _ _ _ rfl hown rfl rfl ?c1 ?c2 ?c3 ?_))
          case c1 => unfold maxLen; omega
          case c2 => omega
          case c3 => omega
          intro v' w1 hown' hgrow
          have hnx' : Below w.heap.size w w1 := hnx.grown hgrow hs1 (fun j hj => (hown.lt j hj).1)
          go_wp2
          go_roundw
          case rel => exact ⟨n + 1, by omega, by simp, by rw [HT.out]; simpa only [List.map_append, List.map_take, List.append_assoc, Nat.add_assoc, symV] using hown', hnx'⟩
          case measure => simp [intOf]; omega
        · have he : n = xs.length := by omega
          subst he
          rw [List.take_length] at hown
          go_wp2
          go_roundw
          case rel => exact ⟨k + 1, by omega, by simp, by rw [HC.out, List.length_append]; exact hown, hnx⟩
          case measure => simp [intOf]; omega
    · have he : k = m := by omega
      subst he
      go_wp2_with (at_builtin; refine wpList_push rfl _ _ 22 rfl w.heap.size 3 Try.infoInt Try.underlying22 rfl _ _ _ rfl hown rfl rfl ?c1 ?c2 ?c3 ?_)
      case c1 => unfold maxLen; omega
      case c2 => omega
      case c3 => omega
      intro v' w1 hown' hgrow
      have hnx' : Below w.heap.size w w1 := hnx.grown hgrow hs0 (fun j hj => (hown.lt j hj).1)
      go_wp2
      go_ret
      exact ⟨_, rfl, hown', hnx'⟩

end Go.Proofs.Ytpbmhdkhkbhgnaa
