/- The walk of SortedWrong. -/
import Derived.Test.YtpbmhdkhkbhgnaaSortedX
namespace Go.Proofs.Ytpbmhdkhkbhgnaa
set_option linter.unusedVariables false
set_option linter.unusedSimpArgs false
open Go.RowKit

theorem cnt_set {m : List Int} {k : Nat} (h : k < m.length) (v s : Int) : cnt (m.set k v) s + (if m[k] = s then 1 else 0) = cnt m s + (if v = s then 1 else 0) := by
  have e1 : m = m.take k ++ m[k] :: m.drop (k + 1) := by rw [List.getElem_cons_drop, List.take_append_drop]
  have e2 : m.set k v = m.take k ++ v :: m.drop (k + 1) := by
    rw [List.set_eq_take_append_cons_drop, if_pos h]
  have e3 : cnt m s = cnt (m.take k) s + cnt (m[k] :: m.drop (k + 1)) s := by
    conv => lhs; rw [show cnt m s = cnt (m.take k ++ m[k] :: m.drop (k + 1)) s by rw [← e1]]
    unfold cnt; rw [List.countP_append]
  rw [e2, e3]
  unfold cnt
  rw [List.countP_append, List.countP_cons, List.countP_cons]
  simp only [beq_iff_eq]
  omega
theorem none_of_cnt {x : List Int} (h : cnt x 0 ≠ 1) : ∀ t, ¬ IsLast t x := fun t ht => h ht.zero
theorem none_of_bad {x : List Int} {v : Int} (hv : v ∈ x) (h : ¬ (0 ≤ v ∧ v < 257)) : ∀ t, ¬ IsLast t x := fun t ht => h (ht.range v hv)
/-- Zeros up to k turned into fives. -/
def fiveF (m : List Int) (k i : Nat) : Int := if i < k ∧ sy m i = 0 then 5 else sy m i

set_option maxHeartbeats 6400000 in
set_option maxRecDepth 100000 in
theorem walk_SortedWrong (w : World) (a0 : Option Addr) (c0 : Nat) (z0 : List Int) (w0 : ArgI .i64 w a0 c0 z0) (a1 : Bool) (a2 : Int) (w2 : (Lit.int .i64 a2).wf = true) (a3 : Int) (w3 : (Lit.int .i64 a3).wf = true) :
    Calls Try.prog 9 #[.slice a0 z0.length c0, .bool a1, .int .i64 a2, .int .i64 a3] w fun e w' => e = .returned (.bool true) ∧ Below w.heap.size w w' := by
  have hrd := w0.reads
  have hzm := Nat.le_trans w0.le w0.max
  obtain ⟨u, hu0, hu1, hu⟩ : ∃ u : Int, 0 ≤ u ∧ u < 18446744073709551616 ∧ IntKind.u64.wrap a2 = u := ⟨IntKind.u64.wrap a2, by rw [IntKind.wrap_u64]; omega, by rw [IntKind.wrap_u64]; omega, rfl⟩
  obtain ⟨u2, hv0, hv1, hv⟩ : ∃ u : Int, 0 ≤ u ∧ u < 18446744073709551616 ∧ IntKind.u64.wrap a3 = u := ⟨IntKind.u64.wrap a3, by rw [IntKind.wrap_u64]; omega, by rw [IntKind.wrap_u64]; omega, rfl⟩
  clear w0 w2 w3
  go_enter Try.func9, Try.ntmps9
  go_wp2_with fail
  refine (lawText_any a0 c0 z0 40 a1 w hrd (by omega) hzm).mono ?_
  rintro e w1 ⟨ta, tc, t, rfl, hbt, htl, hot, hb1⟩
  have hs1 := hb1.size
  have HOT := Lib.hid hot
  clear hot hrd
  go_wp2_with fail
  refine (last_at ta tc t rfl (own_reads HOT.out) hbt (by omega)).mono ?_
  rintro e w2 ⟨ma, mc, m, rfl, hm, hom, hb2⟩
  have hml : m.length = t.length + 1 := hm.len
  obtain ⟨n, hn⟩ : ∃ n, t.length + 1 = n := ⟨_, rfl⟩
  have hn0 : 0 < n := by omega
  have hnm : n ≤ 41 := by omega
  rw [hn] at hom hml ⊢
  obtain ⟨k, hk⟩ : ∃ k : Nat, u2 % (n : Int) = (k : Int) := ⟨(u2 % (n : Int)).toNat, by have := Int.emod_nonneg u2 (show (n : Int) ≠ 0 by omega); omega⟩
  have hkn : k < n := by
    have := Int.emod_lt_of_pos u2 (show (0 : Int) < (n : Int) by omega)
    omega
  obtain ⟨q, hq4, hq⟩ : ∃ q : Nat, q < 4 ∧ u % 4 = (q : Int) := ⟨(u % 4).toNat, by omega, by omega⟩
  have HM := Lib.hid hm
  have HML := Lib.hid hml
  have HOM := Lib.hid hom
  have HB2 := Lib.hid (hb1.trans (hb2.mono hs1))
  have hs2 := HB2.out.size
  have HRM : Hid (ReadsV (w2.alloc (.cells #[] 3)) ma (m.map (Value.int .i64))) := (readsV_own hom).below' (below_al w2 _)
  have HZ : Hid ((w2.alloc (.cells #[] 3)).ownsRow w2.heap.size 3 1 (.slice (some ⟨w2.heap.size, 0, none⟩) 0 0) 0 []) := own_zero (Nat.le_refl _) (heap_alloc_new _ _)
  obtain ⟨_, _, hte, hnil, _⟩ := own_slice hom
  injection hte with e1 e2 e3
  subst e1; subst e3
  have HNIL := Lib.hid hnil
  clear hnil e2 hm hml hom hb1 hb2 hn HOT
  go_wp2_with (at_builtin; refine wpList_appendL rfl _ _ 22 rfl w2.heap.size 3 Try.infoIntG Try.underlying22 rfl _ 0 _ rfl HZ.out ma n mc (m.map (Value.int .i64)) rfl (by simp [HML.out]) HNIL.out HRM.out.hnews (oneI .i64 _) (by unfold maxLen; omega) (by omega) (by simp) ?_)
  intro xa xc w3 hown3 hgrow3 _
  have HB3 : Hid (Below w.heap.size w w3) := HB2.out.trans ((((Below.refl _ _).alloc (Nat.le_refl _) _).grown hgrow3 (by simp) (fun j hj => by simp [Value.ownBlock] at hj; omega) : Below w2.heap.size w2 w3).mono hs2)
  have hox : w3.ownsRow w.heap.size 3 1 (.slice xa n xc) n (m.map (Value.int .i64)) := by
    have : w3.ownsRow w2.heap.size 3 1 (.slice xa n xc) n (m.map (Value.int .i64)) := by simpa using hown3
    exact own_mono this hs2
  obtain ⟨g, cap, hv3, hgb, hg1, hgc, hgm, hcell, hfr⟩ := own_some hox hn0
  injection hv3 with ha hb hc
  subst ha; subst hc
  have HOX := Lib.hid hox
  have hcf : ∀ i, i < n → w3.cell? ⟨g, i, none⟩ = some (.int .i64 (sy m i)) := by
    intro i hi
    have := HML.out
    rw [hcell i hi, List.getElem?_map, List.getElem?_eq_getElem (by omega), sy_in (by omega)]; rfl
  have HCF := Lib.hid hcf
  have hs3 := HB3.out.size
  clear hown3 hgrow3 hox hcell hcf HZ HRM HNIL HOM hb
  have hk0 := HCF.out k hkn
  have hf0 := hfr k
  have HMS : Hid (cnt m 0 = 1) := HM.out.zero
  have hmk : k < m.length := by rw [HML.out]; exact hkn
  obtain hq0 | hq1 | hq2 | hq3 : q = 0 ∨ q = 1 ∨ q = 2 ∨ q = 3 := by omega
  · have hq' : u % 4 = 0 := by omega
    clear hq hq0 hk0 hf0
    go_wp2_with fail
    clear hk hq' hu hv
    have hst : w3.ownsRow w.heap.size 3 1 (.slice (some ⟨g, 0, none⟩) n xc) n (vecL (fun i => .int .i64 (fiveF m 0 i)) n) := by
      rw [← show m.map (Value.int .i64) = vecL (fun i => .int .i64 (fiveF m 0 i)) n by rw [vec_of_list HML.out]; exact vecL_congr (fun i _ => by simp [fiveF])]
      exact HOX.out
    go_loopw [12] (fun i wr => ∃ j : Nat, j ≤ n ∧ i = .int .i64 j ∧ wr.ownsRow w.heap.size 3 1 (.slice (some ⟨g, 0, none⟩) n xc) n (vecL (fun i => .int .i64 (fiveF m j i)) n) ∧ Below w.heap.size w wr) (fun i _ => n - (intOf i).toNat)
    case atStart => exact ⟨0, Nat.zero_le _, rfl, hst, HB3.out⟩
    case round =>
      clear hst
      obtain ⟨j, hj, rfl, hown, hb⟩ := hrel
      have hs := hb.size
      by_cases hlt : j < n
      · have e1 := own_vcell hown hlt
        rw [show fiveF m j j = sy m j by simp [fiveF]] at e1
        have e2 := own_vfree hown j
        have hset := own_vset hown j (.int .i64 5)
        have HSET := Lib.hid hset
        have HOW := Lib.hid hown
        clear hset hown
        generalize hx : sy m j = x at *
        have HX := Lib.hid hx
        clear hx
        by_cases hx0 : x = 0
        · subst hx0
          go_wp2_with fail
          go_roundw
          case rel =>
            refine ⟨j + 1, by omega, by go_num, ?_, below_setQ hb hs hgb _⟩
            rw [vecL_congr (g := fun i => if i = j then Value.int .i64 5 else .int .i64 (fiveF m j i)) (fun i hi => ?_)]
            · exact HSET.out
            · unfold fiveF
              by_cases e : i = j
              · subst e; rw [if_pos ⟨by omega, HX.out⟩, if_pos rfl]
              · rw [if_neg e]
                by_cases e2 : i < j
                · simp [e2, show i < j + 1 by omega]
                · simp [e2, show ¬ i < j + 1 by omega]
          case measure => simp [intOf]; omega
        · go_wp2_with fail
          go_roundw
          case rel =>
            refine ⟨j + 1, by omega, by go_num, ?_, hb⟩
            rw [vecL_congr (g := fun i => .int .i64 (fiveF m j i)) (fun i hi => ?_)]
            · exact HOW.out
            · unfold fiveF
              by_cases e : i = j
              · subst e
                have := HX.out
                rw [if_neg (by omega), if_neg (by omega)]
              · by_cases e2 : i < j
                · simp [e2, show i < j + 1 by omega]
                · simp [e2, show ¬ i < j + 1 by omega]
          case measure => simp [intOf]; omega
      · obtain rfl : j = n := by omega
        have hxl : ((List.range j).map (fiveF m j)).length = j := by simp
        have hrx : Reads wr .i64 (some ⟨g, 0, none⟩) ((List.range j).map (fiveF m j)) := by
          have e : vecL (fun i => .int .i64 (fiveF m j i)) j = ((List.range j).map (fiveF m j)).map (Value.int .i64) := by
            rw [vec_of_list hxl]; exact vecL_congr (fun i hi => by rw [list_sy _ hi])
          rw [e] at hown
          exact own_reads hown
        have hno := none_of_cnt (x := (List.range j).map (fiveF m j)) (by
          have : cnt ((List.range j).map (fiveF m j)) 0 = 0 := by
            unfold cnt
            rw [List.countP_eq_zero]
            intro x hx
            obtain ⟨i, hi, rfl⟩ := List.mem_map.1 hx
            have := List.mem_range.1 hi
            unfold fiveF
            split
            · simp
            · rename_i h; simp; intro h2; exact h ⟨this, h2⟩
          omega)
        have HRX := Lib.hid hrx
        have HNO := Lib.hid hno
        have HXL := Lib.hid hxl
        clear hown hrx hno hxl
        go_wp2_with fail
        refine (back_none HNO.out _ _ HXL.out.symm HRX.out (by rw [HXL.out]; omega)).mono ?_
        rintro e w5 ⟨rfl, hb5⟩
        have hb6 := hb.trans (hb5.mono hs)
        clear hb5
        go_wp2_with fail
        refine (told9_any _).mono ?_
        rintro e w6 ⟨rfl, hb7⟩
        go_wp2_with fail
        go_ret
        exact ⟨rfl, hb6.trans (hb7.mono hb6.size)⟩
  · have hq' : u % 4 = 1 := by omega
    clear hq hq1
    generalize hx : sy m k = x at *
    have HX : Hid (m[k] = x) := by rw [← sy_in hmk]; exact hx
    clear hx
    by_cases hx0 : x = 0
    · subst hx0
      have hown4 := HOX.out
      have hno := none_of_cnt (x := m ++ [0]) (by rw [cnt_snoc, HMS.out]; simp)
      have HNO := Lib.hid hno
      clear hno
      go_wp2_with (at_builtin; refine wpList_push rfl _ _ 22 rfl w.heap.size 3 Try.infoIntG Try.underlying22 rfl _ _ _ rfl hown4 rfl rfl (by unfold maxLen; omega) (by omega) (by omega) ?_)
      intro v' w5 hown' hgrow
      have hb := HB3.out.grown hgrow hs3 (fun j hj => (HOX.out.lt j hj).1)
      obtain ⟨a5, c5, rfl, _, _⟩ := own_slice hown'
      have hrx : Reads w5 .i64 a5 (m ++ [0]) := by
        have e : m.map (Value.int .i64) ++ [.int .i64 0] = (m ++ [0]).map (Value.int .i64) := by simp
        rw [e] at hown'
        exact own_reads hown'
      have HRX := Lib.hid hrx
      have HB := Lib.hid hb
      have hxl : (m ++ [0]).length = n + 1 := by rw [List.length_append, HML.out]; rfl
      have HXL := Lib.hid hxl
      clear hown' hgrow hb hrx hown4 hk0 hf0 hxl
      go_wp2_with fail
      refine (back_none HNO.out _ _ HXL.out.symm HRX.out (by rw [HXL.out]; omega)).mono ?_
      rintro e w6 ⟨rfl, hb5⟩
      have hb6 := HB.out.trans (hb5.mono HB.out.size)
      clear hb5
      go_wp2_with fail
      refine (told9_any _).mono ?_
      rintro e w7 ⟨rfl, hb7⟩
      go_wp2_with fail
      go_ret
      exact ⟨rfl, hb6.trans (hb7.mono hb6.size)⟩
    · have hno := none_of_cnt (x := m.set k 0) (by
        have h1 := cnt_set hmk 0 0
        rw [HX.out, if_neg hx0, HMS.out] at h1
        simp at h1; omega)
      have hb := below_setQ HB3.out hs3 hgb (s := k) (.int .i64 0)
      have hrx : Reads (w3.setCell ⟨g, k, none⟩ (.int .i64 0)) .i64 (some ⟨g, 0, none⟩) (m.set k 0) := by
        have := own_set HOX.out k (.int .i64 0)
        rw [← List.map_set] at this
        exact own_reads this
      have HNO := Lib.hid hno
      have HB := Lib.hid hb
      have HRX := Lib.hid hrx
      have hxl : (m.set k 0).length = n := by rw [List.length_set, HML.out]
      have HXL := Lib.hid hxl
      clear hno hb hrx hxl
      go_wp2_with fail
      refine (back_none HNO.out _ _ HXL.out.symm HRX.out (by rw [HXL.out]; omega)).mono ?_
      rintro e w6 ⟨rfl, hb5⟩
      have hb6 := HB.out.trans (hb5.mono HB.out.size)
      clear hb5
      go_wp2_with fail
      refine (told9_any _).mono ?_
      rintro e w7 ⟨rfl, hb7⟩
      go_wp2_with fail
      go_ret
      exact ⟨rfl, hb6.trans (hb7.mono hb6.size)⟩
  · have hq' : u % 4 = 2 := by omega
    clear hq hq2
    have hno := none_of_bad (x := m.set k 257) (v := 257) (by rw [List.mem_iff_getElem]; exact ⟨k, by simpa using hmk, by simp⟩) (by omega)
    have hb := below_setQ HB3.out hs3 hgb (s := k) (.int .i64 257)
    have hrx : Reads (w3.setCell ⟨g, k, none⟩ (.int .i64 257)) .i64 (some ⟨g, 0, none⟩) (m.set k 257) := by
      have := own_set HOX.out k (.int .i64 257)
      rw [← List.map_set] at this
      exact own_reads this
    have HNO := Lib.hid hno
    have HB := Lib.hid hb
    have HRX := Lib.hid hrx
    have hxl : (m.set k 257).length = n := by rw [List.length_set, HML.out]
    have HXL := Lib.hid hxl
    clear hno hb hrx hxl
    go_wp2_with fail
    refine (back_none HNO.out _ _ HXL.out.symm HRX.out (by rw [HXL.out]; omega)).mono ?_
    rintro e w6 ⟨rfl, hb5⟩
    have hb6 := HB.out.trans (hb5.mono HB.out.size)
    clear hb5
    go_wp2_with fail
    refine (told9_any _).mono ?_
    rintro e w7 ⟨rfl, hb7⟩
    go_wp2_with fail
    go_ret
    exact ⟨rfl, hb6.trans (hb7.mono hb6.size)⟩
  · have hq' : u % 4 = 3 := by omega
    clear hq hq3
    have hno := none_of_bad (x := m.set k (-1)) (v := -1) (by rw [List.mem_iff_getElem]; exact ⟨k, by simpa using hmk, by simp⟩) (by omega)
    have hb := below_setQ HB3.out hs3 hgb (s := k) (.int .i64 (-1))
    have hrx : Reads (w3.setCell ⟨g, k, none⟩ (.int .i64 (-1))) .i64 (some ⟨g, 0, none⟩) (m.set k (-1)) := by
      have := own_set HOX.out k (.int .i64 (-1))
      rw [← List.map_set] at this
      exact own_reads this
    have HNO := Lib.hid hno
    have HB := Lib.hid hb
    have HRX := Lib.hid hrx
    have hxl : (m.set k (-1)).length = n := by rw [List.length_set, HML.out]
    have HXL := Lib.hid hxl
    clear hno hb hrx hxl
    go_wp2_with fail
    refine (back_none HNO.out _ _ HXL.out.symm HRX.out (by rw [HXL.out]; omega)).mono ?_
    rintro e w6 ⟨rfl, hb5⟩
    have hb6 := HB.out.trans (hb5.mono HB.out.size)
    clear hb5
    go_wp2_with fail
    refine (told9_any _).mono ?_
    rintro e w7 ⟨rfl, hb7⟩
    go_wp2_with fail
    go_ret
    exact ⟨rfl, hb6.trans (hb7.mono hb6.size)⟩

end Go.Proofs.Ytpbmhdkhkbhgnaa
