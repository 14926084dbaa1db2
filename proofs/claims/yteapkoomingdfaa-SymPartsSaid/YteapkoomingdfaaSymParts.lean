/- The walk of SymParts: for whatever parts it answers true and turns nothing that was there. -/
import Derived.Test.YteapkoomingdfaaSymAsksL
namespace Go.Proofs.Yteapkoomingdfaa
set_option linter.unusedVariables false
set_option linter.unusedSimpArgs false
open Go.RowKit

theorem cell_alloc_drew (w : World) (c : Array Value) (t : TypeId) (n i : Nat) (hn : n = w.heap.size) : ((w.alloc (.cells c t)).drew).cell? ⟨n, i, none⟩ = c[i]? := World.cell?_alloc_at c t n i hn

theorem symsOf_get {xs : List Int} {i : Nat} (h : i < xs.length) : (symsOf xs)[i]?.getD 0 = xs[i]?.getD 0 + 1 := by
  unfold symsOf
  rw [List.getElem?_append_left (by simpa using h), List.getElem?_map, List.getElem?_eq_getElem h]; rfl
theorem symsOf_last (xs : List Int) : (symsOf xs)[xs.length]?.getD 0 = 0 := by
  unfold symsOf
  rw [List.getElem?_append_right (by simp)]; simp

theorem strOfNums_snoc {xs : List Int} {k : Nat} (h : k < xs.length) : strOfNums (xs.take k) ++ strOfNums [xs[k]?.getD 0] = strOfNums (xs.take (k + 1)) := by
  rw [strOfNums_append]
  congr 1
  rw [List.take_add_one, List.getElem?_eq_getElem h]; rfl

/-- The new row of '[]byte(s)' is read as the numbers of which s was made. -/
theorem bytes_reads (w : World) (xs : List Int) (cap : Nat) (e : TypeId) (fr : Nat × Nat) (h : Bytes xs) :
    Reads (w.alloc (.cells (bytesRow (strOfNums xs) cap) e fr)) .u8 (some ⟨w.heap.size, 0, none⟩) xs := by
  intro i hi
  refine ⟨w.heap.size, 0, rfl, by simp, fun j hj => ?_⟩
  have hb := h j hj
  rw [List.getElem?_eq_getElem hj] at hb ⊢
  simp only [Option.getD_some] at hb ⊢
  rw [Nat.zero_add, World.cell?_alloc_mark]
  have hsz : j < (strOfNums xs).data.size := by simp [strOfNums]; exact hj
  rw [bytesRow_at _ _ _ hsz]
  have : (strOfNums xs).data[j] = UInt8.ofNat xs[j].toNat := by simp [strOfNums]
  rw [this, UInt8.toNat_ofNat', Nat.mod_eq_of_lt (by omega)]
  congr 2
  omega

set_option maxHeartbeats 3200000 in
set_option maxRecDepth 100000 in
theorem walk_SymParts (w : World) (a3 : Option Addr) (c3 : Nat) (x : List Int) (w3 : ArgI .u8 w a3 c3 x) (a4 : Option Addr) (c4 : Nat) (y : List Int) (w4 : ArgI .u8 w a4 c4 y) :
    Calls Try.prog 7 #[.slice a3 x.length c3, .slice a4 y.length c4] w fun e w' => e = .returned (.bool true) ∧ Below w.heap.size w w' := by
  have hx := w3.reads
  have hy := w4.reads
  have hbx := bytes_of w3
  have hby := bytes_of w4
  clear w3 w4
  by_cases hl : x.length ≤ 60
  · by_cases hl2 : y.length ≤ 60
    · have hd1 : decide ((60 : Int) < (x.length : Int)) = false := by simp; omega
      have hd2 : decide ((60 : Int) < (y.length : Int)) = false := by simp; omega
      have hbz : Bytes (x ++ y) := fun i hi => by
        rw [List.getElem?_append]
        rw [List.length_append] at hi
        split
        · exact hbx i (by assumption)
        · exact hby _ (by omega)
      go_enter Try.func7, Try.ntmps7
      go_wp2_with fail
      refine (symAll_of _ _ _ _ x _ _ y _ (by simp) (World.cell?_alloc_at _ _ _ _ rfl) (hx.below ((Below.refl _ _).alloc (Nat.le_refl _) _)) hbx (World.cell?_alloc_at _ _ _ _ rfl) (hy.below ((Below.refl _ _).alloc (Nat.le_refl _) _)) hby (by omega)).mono ?_
      rintro e w1 ⟨g, cap, rfl, hrd, hg, hg', hb1⟩
      have hbw : Below w.heap.size w w1 := ((Below.refl _ _).alloc (Nat.le_refl _) _).trans (hb1.mono (by simp))
      clear hb1 hg
      have hlen : (x ++ y).length = x.length + y.length := List.length_append
      obtain ⟨_, _, he, _, hcell⟩ := hrd.some (by rw [symsOf_len]; omega)
      obtain ⟨rfl, rfl⟩ : g = _ ∧ 0 = _ := by simpa using he
      have hlast := hcell (x.length + y.length) (by rw [symsOf_len, hlen]; omega)
      rw [← hlen, symsOf_last, hlen, Nat.zero_add] at hlast
      have HC := Lib.hid hcell
      have HB := Lib.hid hbz
      have HL := Lib.hid hlen
      clear hcell hbz hlen he hrd
      have hcat : strOfNums x ++ strOfNums y = strOfNums (x ++ y) := strOfNums_append x y
      have HQ := Lib.hid hcat; clear hcat
      go_wp2_with fail
      generalize x ++ y = z at *
      go_loopw [6, 7] (fun s i wr => ∃ k : Nat, k ≤ x.length + y.length ∧ i = .int .i64 k ∧ s = .string (strOfNums (z.take k)) ∧ Below w1.heap.size w1 wr) (fun _ i _ => x.length + y.length - (intOf i).toNat)
      case atStart => exact ⟨0, by omega, rfl, rfl, Below.refl _ _⟩
      case round =>
        obtain ⟨k, hk, rfl, rfl, hnx⟩ := hrel
        have hs1 := hnx.size
        by_cases hlt : k < x.length + y.length
        · have hkz : k < z.length := by have := HL.out; omega
          have hc : wr.cell? ⟨g, k, none⟩ = some (.int .i64 (z[k]?.getD 0 + 1)) := by
            have h := HC.out k (by rw [symsOf_len]; omega)
            rw [symsOf_get hkz, Nat.zero_add] at h
            exact (hnx.cell (p := ⟨g, k, none⟩) hg').trans h
          have hb := HB.out k hkz
          have hsn := strOfNums_snoc hkz
          generalize z[k]?.getD 0 = v at *
          obtain ⟨hb0, hb1⟩ := hb
          have hcv : ∀ (W : World), (convert 27 9 (.slice (some ⟨W.heap.size, 0, none⟩) 1 1)).run Try.prog (W.alloc (.cells #[.int .u8 v] 5)) = .ok (.string (strOfNums [v])) (W.alloc (.cells #[.int .u8 v] 5)) := fun W =>
            conv_str (xs := [v]) Try.underlying27 Try.underlying5 Try.underlying9 (reads_one (World.cell?_alloc_at _ _ _ _ rfl))
          have hadd : ∀ w', (Op.stringOp .add (strOfNums (z.take k)) (strOfNums [v])).run Try.prog w' = .ok (.string (strOfNums (z.take (k + 1)))) w' := fun w' => by
            rw [run_string_add_sum w' _ _ (by rw [strOfNums_size, strOfNums_size, List.length_take]; simp; omega), hsn]
          clear hsn
          generalize strOfNums (z.take k) = sk at *
          generalize hsk : strOfNums (z.take (k + 1)) = sk' at *
          have HSK := Lib.hid hsk; clear hsk
          generalize strOfNums [v] = sv at *
          go_wp2_with (go_at_call 22; refine (symByte_yes (v + 1) _ (by omega) (by omega)).mono ?_; rintro e w' ⟨rfl, rfl⟩)
          go_roundw
          case rel => exact ⟨k + 1, by omega, by simp, by rw [HSK.out], hnx.alloc hs1 _⟩
          case measure => simp [intOf]; omega
        · obtain rfl : k = x.length + y.length := by omega
          have hz : z.take (x.length + y.length) = z := List.take_of_length_le (by have := HL.out; omega)
          rw [hz]
          clear hz
          have hzl := HL.out
          have hxr := hx.below (hbw.trans (hnx.mono hbw.size))
          have hyr := hy.below (hbw.trans (hnx.mono hbw.size))
          have hbz := HB.out
          have hbs := fun (W : World) => run_bytes_of_string (P := Try.prog) W 9 27 5 (strOfNums z) Try.underlying9 Try.underlying27 Try.underlying5
          rw [strOfNums_size, hzl] at hbs
          generalize hcp : grownCap = gc at hbs
          clear hcp
          go_wp2_with fail
          have hz2 := HL.out
          have hzn : z.length ≤ 120 := by omega
          have hadd : ∀ w', (Op.stringOp .add (strOfNums x) (strOfNums y)).run Try.prog w' = .ok (.string (strOfNums z)) w' := fun w' => by
            rw [run_string_add_sum w' _ _ (by rw [strOfNums_size, strOfNums_size]; omega), HQ.out]
          have heq : ((strOfNums z).toList == (strOfNums z).toList) = true := by simp
          generalize hn : x.length + y.length = n at *
          have HN := Lib.hid hn; clear hn
          subst hz2
          refine (symAll1 _ _ _ _ z _ (by simp) (cell_alloc_drew _ _ _ _ _ (by simp)) (Reads.below (bytes_reads wr z _ _ _ hbz) (((Below.refl _ _).alloc (Nat.le_refl _) _).drew)) hbz (by omega)).mono ?_
          rintro e w2 ⟨v, rfl, hown, hb2⟩
          obtain ⟨g2, cap2, rfl, _, _, _⟩ := own_syms hown
          have hbw2 : Below w.heap.size w w2 := (hbw.trans (hnx.mono hbw.size)).trans ((((Below.refl _ _).alloc (Nat.le_refl _) _).alloc (by simp) _).drew.trans (hb2.mono (by simp; omega)) |>.mono (by have := hbw.size; omega))
          clear hown hbs hxr hyr hb2 hbz hlast
          go_wp2_with fail
          refine (told6_any _).mono ?_
          rintro e w3 ⟨rfl, hb3⟩
          have hbw3 := hbw2.trans (hb3.mono hbw2.size)
          have hcx := conv_run_keep (c := c3) Try.underlying27 Try.underlying5 Try.underlying9 hx hbw3
          have hcy := conv_run_keep (c := c4) Try.underlying27 Try.underlying5 Try.underlying9 hy hbw3
          generalize strOfNums x = sx at *
          generalize strOfNums y = sy at *
          generalize strOfNums z = sz at *
          go_wp2
          go_ret
          exact ⟨rfl, hbw3⟩
    · have hd1 : decide ((60 : Int) < (x.length : Int)) = false := by simp; omega
      have hd2 : decide ((60 : Int) < (y.length : Int)) = true := by simp; omega
      go_enter Try.func7, Try.ntmps7
      go_wp2_with (go_at_call 20; refine (told6_any _).mono ?_; rintro e w' ⟨rfl, hb⟩)
      go_ret
      exact ⟨rfl, by assumption⟩
  · have hd1 : decide ((60 : Int) < (x.length : Int)) = true := by simp; omega
    go_enter Try.func7, Try.ntmps7
    go_wp2_with (go_at_call 20; refine (told6_any _).mono ?_; rintro e w' ⟨rfl, hb⟩)
    go_ret
    exact ⟨rfl, by assumption⟩

end Go.Proofs.Yteapkoomingdfaa
