/- Lemmas and contracts under the claims of this seat: Contracts of package tree that go down: Rank. Contracts of package tree that go down: Select. Trees of bits as a law sees them; Insert. Plain lemmas, of no program: a tree built of so many leaves, the bits dealt out evenly. Contract of package tree: build. Contract of package tree: build, in full. Contract of package tree: New, of no bits. Contract of package tree: New, of some bits. Contracts of package tree: few, level. Contract of package tree: level, where the bits are too many for one leaf. Contract of package tree: mend; nodes given back. Contract of package tree: mend, both children leaves. Contract of package tree: mend, the left child a leaf with too few bits. -/
import Derived.Test.YtcppgpjodfeigaaDoorZw3
import Derived.Test.YtcppgpjodfeigaaDoorZw4
import Derived.Test.YtcppgpjodfeigaaDoorZw1
import Derived.IntWalk

namespace Go.Proofs.YtcppgpjodfeigaaDoor
set_option linter.unusedVariables false
set_option linter.unusedSimpArgs false
open Go.RowKit

theorem tRank_nil (w : World) (k : Int) (x : Bool) : Calls Tryd.prog 20 #[.pointer none, .int .i64 k, .bool x] w fun e w' => e = .returned (.int .i64 0) ∧ w = w' := by
  go_enter Tryd.func20, Tryd.ntmps20
  go_wp2_with fail
  go_ret
  exact ⟨rfl, rfl⟩

/-- Rank at 0. -/
theorem tRank_zero {w : World} {p : Nat} {C : Nat → Prop} {A : Ar} {xs : List Nd} {vis : Int} {o : Option TT} (h : Head w p C A xs (onum o) vis) (hS : OSub w xs o) (k : Int) (x : Bool) (hk : k ≤ 0 ∨ (obits o).length = 0) :
    Calls Tryd.prog 20 #[.pointer (some ⟨p, 0, none⟩), .int .i64 k, .bool x] w fun e w' => e = .returned (.int .i64 0) ∧ Look w w' p C A xs (onum o) 0 := by
  have f3 := h.cells.2.2.2 3
  have c3 := h.cells.2.2.1
  have h0 := h.set3 0
  have hc0 := h.chg3 (.int .i64 0) 3
  have hl := tLen_any h0 (hS.chgC h hc0)
  have HL := Lib.hid hl
  have H0 := Lib.hid h0
  have HC := Lib.hid hc0
  clear h hS h0 hc0 hl
  have hk' : (k < 0) ∨ (k = 0) ∨ (0 < k ∧ (obits o).length = 0) := by omega
  generalize (obits o).length = n at *
  clear hk
  rcases hk' with hk | rfl | ⟨hk, rfl⟩
  all_goals
    go_enter Tryd.func20, Tryd.ntmps20
    go_wp2_with fail
    refine HL.out.mono ?_
    rintro e w' ⟨rfl, m, rfl⟩
    go_wp2_with fail
    go_ret
    exact ⟨rfl, ⟨0, Nat.le_refl _, H0.out.drewN _⟩, HC.out.drewN _⟩

set_option maxHeartbeats 3200000 in
/-- Rank, where there are some. -/
theorem tRank_core {w : World} {p : Nat} {C : Nat → Prop} {A : Ar} {xs : List Nd} {vis : Int} {T0 : TT} (h : Head w p C A xs T0.num vis) (hS : Sub w xs T0) (hm : T0.Sm) (k0 : Int) (K : Nat) (x : Bool)
    (hk : (0 < k0 ∧ k0 ≤ T0.st.bits.length ∧ k0 = K) ∨ ((T0.st.bits.length : Int) < k0 ∧ K = T0.st.bits.length)) (hK : 0 < K) :
    Calls Tryd.prog 20 #[.pointer (some ⟨p, 0, none⟩), .int .i64 k0, .bool x] w fun e w' => e = .returned (.int .i64 (rankL T0.st.bits K x)) ∧ Look w w' p C A xs T0.num (T0.st.high + 1) := by
  have f3 := h.cells.2.2.2 3
  have c3 := h.cells.2.2.1
  have h0 := h.set3 0
  have hc0 := h.chg3 (.int .i64 0) 3
  have hS0 := hS.chgC h hc0 (fun _ _ => rfl)
  have hl := tLen_some h0 hS0
  have c2 := h0.cells.2.1
  have HL := Lib.hid hl
  have H0 := Lib.hid h0
  have HC := Lib.hid hc0
  have HS0 := Lib.hid hS0
  have hhm := hm.high
  have hlm := hm.len
  have hKn : K ≤ T0.st.bits.length := by omega
  have HM := Lib.hid hm
  have HKN := Lib.hid hKn
  have HR : Hid (rankL T0.st.bits K x ≤ 8589934592) := by have := rankL_le T0.st.bits K x; show _ ≤ _; omega
  have d0 : ((K : Int) == 0) = false := by rw [beq_eq_false_iff_ne]; omega
  clear h hS h0 hc0 hl hS0 hm hKn
  obtain ⟨W0, hW0⟩ : ∃ W0, W0 = w.setCell ⟨p, 3, none⟩ (.int .i64 0) := ⟨_, rfl⟩
  rw [← hW0] at HL H0 HC HS0 c2
  have HW0 := Lib.hid hW0
  clear hW0
  obtain ⟨n0, hn0⟩ : ∃ n0, n0 = T0.st.bits.length := ⟨_, rfl⟩
  rw [← hn0] at hk HL hlm HKN
  have HN0 := Lib.hid hn0
  clear hn0
  rcases hk with ⟨hk1, hk2, rfl⟩ | ⟨hk, rfl⟩
  all_goals
    go_enter Tryd.func20, Tryd.ntmps20
    go_wp2_with fail
    rw [← HW0.out]
    refine HL.out.mono ?_
    rintro e w' ⟨rfl, m, rfl⟩
    go_wp2_with fail
    go_loopg [7, 8, 1] (T0.st.high + 1) (fun n a s b wr => ∃ (T : TT) (kn k s0 v : Nat), T.num = kn ∧ a = .int .i64 kn ∧ s = .int .i64 s0 ∧ b = .int .i64 k ∧ 0 < k ∧ k ≤ T.st.bits.length ∧ Sub wr xs T ∧ Head wr p C A xs T0.num v ∧ Chg C w wr ∧
      s0 + rankL T.st.bits k x = rankL T0.st.bits K x ∧ v + T.st.high ≤ T0.st.high ∧ T.st.high < n ∧ T.st.bits.length ≤ 8589934592)
    case atStart => exact ⟨T0, _, _, 0, 0, rfl, rfl, rfl, rfl, by first | exact hK | omega, by rw [← HN0.out]; have := HKN.out; omega, HS0.out.keep (fun _ _ => rfl) (fun _ _ => rfl), H0.out.drewN _, HC.out.drewN _, by simp, by omega, by omega, HM.out.len⟩
    case round =>
      obtain ⟨T, kn, k, s0, v, hkn, rfl, rfl, rfl, hk0, hk, hS, hH, hC, hb, hv, hT, hlen⟩ := hrel
      have hvw := hS.view hkn
      have hx : ∃ x, xs[kn]? = some x := ⟨_, by rw [← hkn]; exact hS.root⟩
      obtain ⟨g, rc, cur, c1, hgp, _⟩ := hH.row (by obtain ⟨x, hx⟩ := hx; have := (List.getElem?_eq_some_iff.1 hx).1; omega)
      obtain ⟨_, _, cv, fz⟩ := hH.cells
      have f3 := fz 3
      have hp := hH.lt p hH.self
      have HH3 : Hid (∀ v : Int, Head (wr.setCell ⟨p, 3, none⟩ (.int .i64 v)) p C A xs T0.num v) := fun v => hH.set3 v
      have HCC := Lib.hid hC
      have hs0 : s0 ≤ 8589934592 := by have := HR.out; omega
      have HB := Lib.hid hb
      have HCp := Lib.hid hH.self
      have HNC : Hid (∀ q l, IsBlock wr q l → ¬ C q) := fun q l h => hH.notBlk h.type
      clear hC hb hx fz HS0 HC H0 HW0 HL c2 hgp hK
      rcases hvw with ⟨q, l, hst, hblk, hx⟩ | ⟨Ta, Tb, hst, hSa, hSb, hx⟩
      · obtain ⟨_, _, hkx, _⟩ := hH.node c1 hx
        obtain ⟨a0, a1, a2, a3, a4, a5, a6, a7⟩ := hH.eight c1 hx
        have hg := World.block_lt_of_cell? wr _ a0
        simp only [ptrN, Option.map_some] at a0 a1 a2 a3 a4 a5 a6 a7
        rw [hst] at hk hv hT hlen
        have hbb := HB.out
        rw [hst] at hbb
        simp only [ST.bits] at hbb
        have HBB := Lib.hid hbb
        have HW : Hid (∀ v o, IsBlock ((wr.setCell ⟨p, 3, none⟩ v).alloc o) q l) := fun v o => hblk.chg ((Chg.refl.setCell ⟨p, 3, none⟩ (Or.inl HCp.out) v).alloc o) (HNC.out q l hblk)
        have HLK := Lib.hid (likeN_rank (x := x) hk)
        simp only [ST.high, ST.bits] at hk hv hT hlen
        have HRR := Lib.hid (rankL_le l k true)
        clear hH hS hkn hx hst hblk hbb
        go_wp2_with fail
        refine (blkRank (HW.out _ _) k).mono ?_
        rintro e w2 ⟨rfl, hb2⟩
        rw [Int.toNat_natCast]
        have HB2 := Lib.hid hb2
        clear hb2
        generalize hr : rankL l k true = r at *
        have HLK2 := Lib.hid (show likeN k r x = rankL l k x by rw [← hr]; exact HLK.out)
        have HRR2 := HRR.out
        have hlk3 := HLK2.out
        generalize hR2 : rankL l k x = R2 at *
        have HLK3 := Lib.hid hlk3
        have hR3 : R2 ≤ k := by rw [← hR2]; exact (rankL_le l k x).1
        clear hr hR2 hlk3 HLK
        go_wp2_with fail
        refine (tLike_any k r x w2 (by omega) (by omega) (by omega)).mono ?_
        rintro e w' ⟨rfl, rfl⟩
        rw [HLK3.out]
        go_wp2_with fail
        go_ret
        refine ⟨ret_int ?_, ⟨v + 1, by omega, ?_⟩, ?_⟩
        · have := HBB.out; omega
        · exact_mod_cast ((HH3.out (v + 1)).below (below_alloc _ _)).below HB2.out
        · exact ((HCC.out.setCell _ (Or.inl HCp.out) _).alloc _).trans (Chg.of_below (S := C) HB2.out) (fun _ h => Or.inl h)
      · obtain ⟨_, _, hkx, _⟩ := hH.node c1 hx
        obtain ⟨a0, a1, a2, a3, a4, a5, a6, a7⟩ := hH.eight c1 hx
        have hg := World.block_lt_of_cell? wr _ a0
        simp only [ptrN, Option.map_none] at a0 a1 a2 a3 a4 a5 a6 a7
        rw [hst] at hk hv hT hlen
        simp only [ST.bits, ST.high, List.length_append] at hk hv hT hlen
        have HSa : Hid (∀ W, Chg C wr W → Sub W xs Ta) := fun W hc => hSa.chgC hH hc (fun _ _ => rfl)
        have HSb : Hid (∀ W, Chg C wr W → Sub W xs Tb) := fun W hc => hSb.chgC hH hc (fun _ _ => rfl)
        have hb := HB.out
        rw [hst] at hb
        simp only [ST.bits] at hb
        have HB2 := Lib.hid hb
        have HLN := Lib.hid (likeN_count Ta.st.bits x)
        have hca := count_le Ta.st.bits true
        have hca2 := count_le Ta.st.bits x
        obtain ⟨na, hna⟩ : ∃ na, Ta.num = na := ⟨_, rfl⟩
        obtain ⟨nb, hnb⟩ : ∃ nb, Tb.num = nb := ⟨_, rfl⟩
        obtain ⟨la, hla⟩ : ∃ la, Ta.st.bits.length = la := ⟨_, rfl⟩
        obtain ⟨ca, hca'⟩ : ∃ ca, Ta.st.bits.count true = ca := ⟨_, rfl⟩
        obtain ⟨cx, hcx⟩ : ∃ cx, Ta.st.bits.count x = cx := ⟨_, rfl⟩
        rw [hla] at hk hlen hca hca2
        rw [hca'] at hca
        rw [hcx] at hca2
        simp only [hna, hnb, hla, hca'] at a0 a1 a2 a3 a4 a5 a6
        have HLN2 := Lib.hid (show likeN la ca x = cx by rw [← hla, ← hca', ← hcx]; exact HLN.out)
        have HNA := Lib.hid hna
        have HNB := Lib.hid hnb
        have HLA := Lib.hid hla
        have HCX := Lib.hid hcx
        by_cases hlt : k ≤ la
        · have d1 : decide (k ≤ la) = true := decide_eq_true hlt
          clear hH hS hkn hx hst hSa hSb hb hna hnb hla hca' hcx HB HLN
          go_wp2_with fail
          go_roundg (max Ta.st.high Tb.st.high + 1)
          case measure => omega
          case rel =>
            refine ⟨Ta, na, k, s0, v + 1, HNA.out, rfl, rfl, rfl, hk0, by rw [HLA.out]; exact hlt, HSa.out _ ((Chg.refl.setCell ⟨p, 3, none⟩ (Or.inl HCp.out) _).alloc _), ?_, HCC.out.trans ((Chg.refl.setCell ⟨p, 3, none⟩ (Or.inl HCp.out) _).alloc _) (fun _ h => Or.inl h), ?_, by omega, by omega, by have := HLA.out; omega⟩
            · exact_mod_cast (HH3.out (v + 1)).below (below_alloc _ _)
            · rw [← HB2.out, rankL_app_l (by rw [HLA.out]; exact hlt)]
        · have d1 : decide (k ≤ la) = false := decide_eq_false hlt
          clear hH hS hkn hx hst hSa hSb hb hna hnb hla hca' hcx HB HLN
          go_wp2_with fail
          refine (tLike_any la ca x _ (by omega) (by omega) (by omega)).mono ?_
          rintro e w' ⟨rfl, rfl⟩
          rw [HLN2.out]
          go_wp2_with fail
          go_quiet (fail)
          go_wp2_with fail
          go_roundg (max Ta.st.high Tb.st.high + 1)
          case measure => omega
          case rel =>
            refine ⟨Tb, nb, k - la, s0 + cx, v + 1, HNB.out, rfl, ?_, ?_, by omega, by omega, HSb.out _ (((Chg.refl.setCell ⟨p, 3, none⟩ (Or.inl HCp.out) _).alloc _).drewN _), ?_, HCC.out.trans (((Chg.refl.setCell ⟨p, 3, none⟩ (Or.inl HCp.out) _).alloc _).drewN _) (fun _ h => Or.inl h), ?_, by omega, by omega, by omega⟩
            · congr 1
            · congr 1; omega
            · exact_mod_cast ((HH3.out (v + 1)).below (below_alloc _ _)).drewN _
            · rw [← HB2.out, rankL_app_r (by rw [HLA.out]; omega), HLA.out, HCX.out]; omega

def ohigh : Option TT → Nat
  | none => 0
  | some T => T.st.high + 1
def OSm : Option TT → Prop
  | none => True
  | some T => T.Sm
theorem Look.mono {w w' : World} {p : Nat} {C : Nat → Prop} {A : Ar} {xs : List Nd} {root : Int} {m m' : Nat} (h : Look w w' p C A xs root m) (hm : m ≤ m') : Look w w' p C A xs root m' := by
  obtain ⟨v, hv, hH⟩ := h.head
  exact ⟨⟨v, by omega, hH⟩, h.chg⟩
/-- Rank, whatever is asked. -/
theorem tRank_any {w : World} {p : Nat} {C : Nat → Prop} {A : Ar} {xs : List Nd} {vis : Int} {o : Option TT} (h : Head w p C A xs (onum o) vis) (hS : OSub w xs o) (hm : OSm o) (k : Int) (x : Bool) :
    Calls Tryd.prog 20 #[.pointer (some ⟨p, 0, none⟩), .int .i64 k, .bool x] w fun e w' => e = .returned (.int .i64 (rankL (obits o) k.toNat x)) ∧ Look w w' p C A xs (onum o) (ohigh o) := by
  by_cases hz : k ≤ 0 ∨ (obits o).length = 0
  · have e0 : rankL (obits o) k.toNat x = 0 := by
      have := rankL_le (obits o) k.toNat x
      rcases hz with hz | hz <;> omega
    rw [e0]
    refine (tRank_zero h hS k x hz).mono ?_
    rintro e w' ⟨rfl, hL⟩
    exact ⟨rfl, hL.mono (Nat.zero_le _)⟩
  · cases o with
    | none => exact absurd (Or.inr rfl) hz
    | some T =>
      have hz' : 0 < k ∧ T.st.bits.length ≠ 0 := ⟨by omega, fun e => hz (Or.inr e)⟩
      by_cases hk : k ≤ T.st.bits.length
      · exact tRank_core h hS hm k k.toNat x (Or.inl ⟨hz'.1, hk, by omega⟩) (by omega)
      · have e1 : rankL (obits (some T)) k.toNat x = rankL T.st.bits T.st.bits.length x := by
          show rankL T.st.bits k.toNat x = _
          rw [rankL_over x (by omega), rankL_over x (Nat.le_refl _)]
        rw [e1]
        exact tRank_core h hS hm k T.st.bits.length x (Or.inr ⟨by omega, rfl⟩) (by omega)

end Go.Proofs.YtcppgpjodfeigaaDoor

namespace Go.Proofs.YtcppgpjodfeigaaDoor
set_option linter.unusedVariables false
set_option linter.unusedSimpArgs false
open Go.RowKit

theorem BitTab.chg {S : Nat → Prop} {w w' : World} (h : BitTab w) (hc : Chg S w w') (hn : ¬ S 0) : BitTab w' := fun j hj => hc.cell (h j hj) hn

theorem tSelect_nil (w : World) (k : Int) (x : Bool) : Calls Tryd.prog 21 #[.pointer none, .int .i64 k, .bool x] w fun e w' => e = .returned (.int .i64 (-1)) ∧ w = w' := by
  go_enter Tryd.func21, Tryd.ntmps21
  go_wp2_with fail
  go_ret
  exact ⟨rfl, rfl⟩

theorem tSelect_neg {w : World} {p : Nat} {C : Nat → Prop} {A : Ar} {xs : List Nd} {root vis : Int} (h : Head w p C A xs root vis) (j : Int) (x : Bool) (hj : j < 0) :
    Calls Tryd.prog 21 #[.pointer (some ⟨p, 0, none⟩), .int .i64 j, .bool x] w fun e w' => e = .returned (.int .i64 (-1)) ∧ Look w w' p C A xs root 0 := by
  have f3 := h.cells.2.2.2 3
  have c3 := h.cells.2.2.1
  have H0 := Lib.hid (h.set3 0)
  have HC := Lib.hid (h.chg3 (.int .i64 0) 3)
  clear h
  go_enter Tryd.func21, Tryd.ntmps21
  go_wp2_with fail
  go_ret
  exact ⟨rfl, ⟨0, Nat.le_refl _, H0.out⟩, HC.out⟩

set_option maxHeartbeats 3200000 in
theorem tSelect_many {w : World} {p : Nat} {C : Nat → Prop} {A : Ar} {xs : List Nd} {vis : Int} {o : Option TT} (h : Head w p C A xs (onum o) vis) (hS : OSub w xs o) (hm : OSm o) (j : Int) (x : Bool) (hj0 : 0 ≤ j) (hj : ((obits o).count x : Int) ≤ j) :
    Calls Tryd.prog 21 #[.pointer (some ⟨p, 0, none⟩), .int .i64 j, .bool x] w fun e w' => e = .returned (.int .i64 (-1)) ∧ Look w w' p C A xs (onum o) 0 := by
  have f3 := h.cells.2.2.2 3
  have c3 := h.cells.2.2.1
  have h0 := h.set3 0
  have hc0 := h.chg3 (.int .i64 0) 3
  have hS0 := hS.chgC h hc0
  have HL := Lib.hid (tLen_any h0 hS0)
  have HO : Hid (∀ n, Calls Tryd.prog 23 #[.pointer (some ⟨p, 0, none⟩)] ((w.setCell ⟨p, 3, none⟩ (.int .i64 0)).drewN n) fun e w' => e = .returned (.int .i64 ((obits o).count true)) ∧ ∃ m, w' = ((w.setCell ⟨p, 3, none⟩ (.int .i64 0)).drewN n).drewN m) := by
    intro n
    refine tOnes_any (h0.drewN n) ?_
    cases o with
    | none => trivial
    | some T => exact Sub.keep hS0 (fun _ _ => rfl) (fun _ _ => rfl)
  have H0 := Lib.hid h0
  have HC := Lib.hid hc0
  have hlen : (obits o).length ≤ 8589934592 := by
    cases o with
    | none => simp [obits]
    | some T => exact hm.len
  have HK := Lib.hid (likeN_count (obits o) x)
  have hct := count_le (obits o) true
  have d0 : decide (j < 0) = false := by simp; omega
  have d1 : decide (((obits o).count x : Int) ≤ j) = true := by simpa using hj
  clear h hS h0 hc0 hS0 hm hj
  generalize (obits o).length = n at *
  generalize (obits o).count x = cx at *
  generalize (obits o).count true = ct at *
  go_enter Tryd.func21, Tryd.ntmps21
  go_wp2_with fail
  refine HL.out.mono ?_
  rintro e w' ⟨rfl, m, rfl⟩
  go_wp2_with fail
  refine (HO.out m).mono ?_
  rintro e w' ⟨rfl, m2, rfl⟩
  go_wp2_with fail
  refine (tLike_any n ct x _ (by omega) (by omega) (by omega)).mono ?_
  rintro e w' ⟨rfl, rfl⟩
  rw [HK.out]
  go_wp2_with fail
  go_ret
  exact ⟨rfl, ⟨0, Nat.le_refl _, H0.out.drewN _⟩, HC.out.drewN _⟩

set_option maxHeartbeats 3200000 in
/-- Select, where there is one. -/
theorem tSelect_core {w : World} {p : Nat} {C : Nat → Prop} {A : Ar} {xs : List Nd} {vis : Int} {T0 : TT} (h : Head w p C A xs T0.num vis) (hS : Sub w xs T0) (hm : T0.Sm) (hTab : BitTab w) (hN : ¬ C 0) (J : Nat) (x : Bool)
    (hJ : J < T0.st.bits.count x) :
    Calls Tryd.prog 21 #[.pointer (some ⟨p, 0, none⟩), .int .i64 J, .bool x] w fun e w' => e = .returned (.int .i64 (selL T0.st.bits J x)) ∧ Look w w' p C A xs T0.num (T0.st.high + 1) := by
  have f3 := h.cells.2.2.2 3
  have c3 := h.cells.2.2.1
  have h0 := h.set3 0
  have hc0 := h.chg3 (.int .i64 0) 3
  have hS0 := hS.chgC h hc0 (fun _ _ => rfl)
  have c2 := h0.cells.2.1
  have HT0 := Lib.hid hTab
  have HNT := Lib.hid hN
  have HL := Lib.hid (tLen_some h0 hS0)
  have HO : Hid (∀ n, Calls Tryd.prog 23 #[.pointer (some ⟨p, 0, none⟩)] ((w.setCell ⟨p, 3, none⟩ (.int .i64 0)).drewN n) fun e w' => e = .returned (.int .i64 (T0.st.bits.count true)) ∧ ∃ m, w' = ((w.setCell ⟨p, 3, none⟩ (.int .i64 0)).drewN n).drewN m) := by
    intro n
    exact tOnes_some (h0.drewN n) (hS0.keep (fun _ _ => rfl) (fun _ _ => rfl))
  have H0 := Lib.hid h0
  have HC := Lib.hid hc0
  have HS0 := Lib.hid hS0
  have hhm := hm.high
  have hlm := hm.len
  have HM := Lib.hid hm
  have HK := Lib.hid (likeN_count T0.st.bits x)
  have hct := count_le T0.st.bits true
  have hcx := count_le T0.st.bits x
  have HJ := Lib.hid hJ
  have hJ2 : J ≤ 8589934592 := by omega
  have HR : Hid (selL T0.st.bits J x ≤ 8589934592 ∧ 0 ≤ selL T0.st.bits J x) := by
    obtain ⟨k, h1, h2, h3⟩ := sel_ex x T0.st.bits J hJ
    rw [selL_hit h1 h2 (by rw [h3])]
    exact ⟨by omega, by omega⟩
  have d0 : decide ((J : Int) < 0) = false := by simp
  have d1 : decide (T0.st.bits.count x ≤ J) = false := decide_eq_false (by omega)
  clear h hS h0 hc0 hS0 hm hTab hN hJ
  obtain ⟨W0, hW0⟩ : ∃ W0, W0 = w.setCell ⟨p, 3, none⟩ (.int .i64 0) := ⟨_, rfl⟩
  rw [← hW0] at HL H0 HC HS0 c2 HO
  have HW0 := Lib.hid hW0
  clear hW0
  obtain ⟨n0, hn0⟩ : ∃ n0, n0 = T0.st.bits.length := ⟨_, rfl⟩
  obtain ⟨cx, hcx0⟩ : ∃ cx, cx = T0.st.bits.count x := ⟨_, rfl⟩
  obtain ⟨ct, hct0⟩ : ∃ ct, ct = T0.st.bits.count true := ⟨_, rfl⟩
  rw [← hn0] at HL hlm hct hcx HK
  rw [← hcx0] at hcx HK d1 HJ
  rw [← hct0] at hct HK HO
  have HCX0 := Lib.hid hcx0
  clear hn0 hcx0 hct0
  go_enter Tryd.func21, Tryd.ntmps21
  go_wp2_with fail
  rw [← HW0.out]
  refine HL.out.mono ?_
  rintro e w' ⟨rfl, m, rfl⟩
  go_wp2_with fail
  refine (HO.out m).mono ?_
  rintro e w' ⟨rfl, m2, rfl⟩
  go_wp2_with fail
  refine (tLike_any n0 ct x _ (by omega) (by omega) (by omega)).mono ?_
  rintro e w' ⟨rfl, rfl⟩
  rw [HK.out]
  go_wp2_with fail
  go_loopg [7, 8, 1] (T0.st.high + 1) (fun n a s b wr => ∃ (T : TT) (kn j s0 v : Nat), T.num = kn ∧ a = .int .i64 kn ∧ s = .int .i64 s0 ∧ b = .int .i64 j ∧ j < T.st.bits.count x ∧ Sub wr xs T ∧ Head wr p C A xs T0.num v ∧ Chg C w wr ∧
    s0 + selL T.st.bits j x = selL T0.st.bits J x ∧ v + T.st.high ≤ T0.st.high ∧ T.st.high < n ∧ T.st.bits.length ≤ 8589934592 ∧ s0 + T.st.bits.length ≤ 8589934592)
  case atStart => exact ⟨T0, _, _, 0, 0, rfl, rfl, rfl, rfl, by rw [← HCX0.out]; exact HJ.out, HS0.out.keep (fun _ _ => rfl) (fun _ _ => rfl), H0.out.drewN _, HC.out.drewN _, by simp, by omega, by omega, HM.out.len, by have := HM.out.len; omega⟩
  case round =>
    obtain ⟨T, kn, k, s0, v, hkn, rfl, rfl, rfl, hk, hS, hH, hC, hb, hv, hT, hlen, hsl⟩ := hrel
    have hvw := hS.view hkn
    have hx : ∃ x, xs[kn]? = some x := ⟨_, by rw [← hkn]; exact hS.root⟩
    obtain ⟨g, rc, cur, c1, hgp, _⟩ := hH.row (by obtain ⟨x, hx⟩ := hx; have := (List.getElem?_eq_some_iff.1 hx).1; omega)
    obtain ⟨_, _, cv, fz⟩ := hH.cells
    have f3 := fz 3
    have hp := hH.lt p hH.self
    have HH3 : Hid (∀ v : Int, Head (wr.setCell ⟨p, 3, none⟩ (.int .i64 v)) p C A xs T0.num v) := fun v => hH.set3 v
    have HTB := Lib.hid (HT0.out.chg hC HNT.out)
    have HCC := Lib.hid hC
    have hkl : k ≤ T.st.bits.length := by have := count_le T.st.bits x; omega
    have hkl2 : k ≤ 8589934592 := by omega
    have HB := Lib.hid hb
    have HCp := Lib.hid hH.self
    have HNC : Hid (∀ q l, IsBlock wr q l → ¬ C q) := fun q l h => hH.notBlk h.type
    clear hC hb hx fz HS0 HC H0 HW0 HL HO c2 hgp hkl
    rcases hvw with ⟨q, l, hst, hblk, hx⟩ | ⟨Ta, Tb, hst, hSa, hSb, hx⟩
    · obtain ⟨_, _, hkx, _⟩ := hH.node c1 hx
      obtain ⟨a0, a1, a2, a3, a4, a5, a6, a7⟩ := hH.eight c1 hx
      have hg := World.block_lt_of_cell? wr _ a0
      simp only [ptrN, Option.map_some] at a0 a1 a2 a3 a4 a5 a6 a7
      rw [hst] at hk hv hT hlen hsl
      have hbb := HB.out
      rw [hst] at hbb
      simp only [ST.bits] at hbb
      have HBB := Lib.hid hbb
      have HW : Hid (∀ v o, IsBlock ((wr.setCell ⟨p, 3, none⟩ v).alloc o) q l) := fun v o => hblk.chg ((Chg.refl.setCell ⟨p, 3, none⟩ (Or.inl HCp.out) v).alloc o) (HNC.out q l hblk)
      have HWT : Hid (∀ v o, BitTab ((wr.setCell ⟨p, 3, none⟩ v).alloc o)) := fun v o => HTB.out.chg ((Chg.refl.setCell ⟨p, 3, none⟩ (Or.inl HCp.out) v).alloc o) HNT.out
      simp only [ST.high, ST.bits] at hk hv hT hlen hsl
      have hR3 : 0 ≤ selL l k x ∧ selL l k x ≤ l.length := by
        obtain ⟨i, h1, h2, h3⟩ := sel_ex x l k hk
        rw [selL_hit h1 h2 (by rw [h3])]
        exact ⟨by omega, by omega⟩
      obtain ⟨hR3, hR4⟩ := hR3
      have hct1 := count_le l true
      clear hH hS hkn hx hst hblk hbb
      have hl0 := tLike_any 0 0 x
      have hl1 : likeN 0 0 x = 0 := by cases x <;> rfl
      rw [hl1] at hl0
      have HL0 := Lib.hid (fun w => hl0 w (by omega) (by omega) (by omega))
      clear hl0 hl1
      go_wp2_with fail
      refine (HL0.out _).mono ?_
      rintro e w2 ⟨rfl, rfl⟩
      go_wp2_with fail
      refine (blkSelect (HW.out _ _) (HWT.out _ _) k x (by omega)).mono ?_
      rintro e w2 ⟨rfl, hb2⟩
      have HB2 := Lib.hid hb2
      clear hb2
      generalize selL l k x = R2 at *
      go_wp2_with fail
      go_ret
      refine ⟨ret_int HBB.out, ⟨v + 1, by omega, ?_⟩, ?_⟩
      · exact_mod_cast ((HH3.out (v + 1)).below (below_alloc _ _)).below HB2.out
      · exact ((HCC.out.setCell _ (Or.inl HCp.out) _).alloc _).trans (Chg.of_below (S := C) HB2.out) (fun _ h => Or.inl h)
    · obtain ⟨_, _, hkx, _⟩ := hH.node c1 hx
      obtain ⟨a0, a1, a2, a3, a4, a5, a6, a7⟩ := hH.eight c1 hx
      have hg := World.block_lt_of_cell? wr _ a0
      simp only [ptrN, Option.map_none] at a0 a1 a2 a3 a4 a5 a6 a7
      rw [hst] at hk hv hT hlen hsl
      simp only [ST.bits, ST.high, List.length_append, List.count_append] at hk hv hT hlen hsl
      have HSa : Hid (∀ W, Chg C wr W → Sub W xs Ta) := fun W hc => hSa.chgC hH hc (fun _ _ => rfl)
      have HSb : Hid (∀ W, Chg C wr W → Sub W xs Tb) := fun W hc => hSb.chgC hH hc (fun _ _ => rfl)
      have hb := HB.out
      rw [hst] at hb
      simp only [ST.bits] at hb
      have HB2 := Lib.hid hb
      have HLN := Lib.hid (likeN_count Ta.st.bits x)
      have hca := count_le Ta.st.bits true
      have hca2 := count_le Ta.st.bits x
      obtain ⟨na, hna⟩ : ∃ na, Ta.num = na := ⟨_, rfl⟩
      obtain ⟨nb, hnb⟩ : ∃ nb, Tb.num = nb := ⟨_, rfl⟩
      obtain ⟨la, hla⟩ : ∃ la, Ta.st.bits.length = la := ⟨_, rfl⟩
      obtain ⟨ca, hca'⟩ : ∃ ca, Ta.st.bits.count true = ca := ⟨_, rfl⟩
      obtain ⟨cx2, hcx2⟩ : ∃ cx, Ta.st.bits.count x = cx := ⟨_, rfl⟩
      rw [hla] at hlen hca hca2 hsl
      rw [hca'] at hca
      rw [hcx2] at hca2 hk
      simp only [hna, hnb, hla, hca'] at a0 a1 a2 a3 a4 a5 a6
      have HLN2 := Lib.hid (show likeN la ca x = cx2 by rw [← hla, ← hca', ← hcx2]; exact HLN.out)
      have HNA := Lib.hid hna
      have HNB := Lib.hid hnb
      have HLA := Lib.hid hla
      have HCX := Lib.hid hcx2
      by_cases hlt : k < cx2
      · have d1 : decide (k < cx2) = true := decide_eq_true hlt
        clear hH hS hkn hx hst hSa hSb hb hna hnb hla hca' hcx2 HB HLN
        go_wp2_with fail
        refine (tLike_any la ca x _ (by omega) (by omega) (by omega)).mono ?_
        rintro e w' ⟨rfl, rfl⟩
        rw [HLN2.out]
        go_wp2_with fail
        go_roundg (max Ta.st.high Tb.st.high + 1)
        case measure => omega
        case rel =>
          refine ⟨Ta, na, k, s0, v + 1, HNA.out, rfl, rfl, rfl, by rw [HCX.out]; exact hlt, HSa.out _ ((Chg.refl.setCell ⟨p, 3, none⟩ (Or.inl HCp.out) _).alloc _), ?_, HCC.out.trans ((Chg.refl.setCell ⟨p, 3, none⟩ (Or.inl HCp.out) _).alloc _) (fun _ h => Or.inl h), ?_, by omega, by omega, by have := HLA.out; omega, by have := HLA.out; omega⟩
          · exact_mod_cast (HH3.out (v + 1)).below (below_alloc _ _)
          · rw [← HB2.out, selL_app_l (by rw [HCX.out]; exact hlt)]
      · have d1 : decide (k < cx2) = false := decide_eq_false hlt
        clear hH hS hkn hx hst hSa hSb hb hna hnb hla hca' hcx2 HB HLN
        go_wp2_with fail
        refine (tLike_any la ca x _ (by omega) (by omega) (by omega)).mono ?_
        rintro e w' ⟨rfl, rfl⟩
        rw [HLN2.out]
        go_wp2_with fail
        go_roundg (max Ta.st.high Tb.st.high + 1)
        case measure => omega
        case rel =>
          refine ⟨Tb, nb, k - cx2, s0 + la, v + 1, HNB.out, rfl, ?_, ?_, by omega, HSb.out _ ((Chg.refl.setCell ⟨p, 3, none⟩ (Or.inl HCp.out) _).alloc _), ?_, HCC.out.trans ((Chg.refl.setCell ⟨p, 3, none⟩ (Or.inl HCp.out) _).alloc _) (fun _ h => Or.inl h), ?_, by omega, by omega, by omega, by omega⟩
          · congr 1
          · congr 1; omega
          · exact_mod_cast (HH3.out (v + 1)).below (below_alloc _ _)
          · rw [← HB2.out, selL_app_r (by rw [HCX.out]; omega) (by rw [List.count_append, HCX.out]; exact hk), HLA.out, HCX.out]; omega

/-- Select, whatever is asked. -/
theorem tSelect_any {w : World} {p : Nat} {C : Nat → Prop} {A : Ar} {xs : List Nd} {vis : Int} {o : Option TT} (h : Head w p C A xs (onum o) vis) (hS : OSub w xs o) (hm : OSm o) (hTab : BitTab w) (hN : ¬ C 0) (j : Int) (x : Bool) :
    Calls Tryd.prog 21 #[.pointer (some ⟨p, 0, none⟩), .int .i64 j, .bool x] w fun e w' => e = .returned (.int .i64 (selL (obits o) j x)) ∧ Look w w' p C A xs (onum o) (ohigh o) := by
  by_cases h0 : j < 0
  · rw [selL_neg h0]
    refine (tSelect_neg h j x h0).mono ?_
    rintro e w' ⟨rfl, hL⟩
    exact ⟨rfl, hL.mono (Nat.zero_le _)⟩
  · by_cases h1 : ((obits o).count x : Int) ≤ j
    · rw [selL_many h1]
      refine (tSelect_many h hS hm j x (by omega) h1).mono ?_
      rintro e w' ⟨rfl, hL⟩
      exact ⟨rfl, hL.mono (Nat.zero_le _)⟩
    · obtain ⟨J, rfl⟩ := Int.eq_ofNat_of_zero_le (show 0 ≤ j by omega)
      cases o with
      | none => exact absurd (show ((obits none).count x : Int) ≤ J by simp [obits]) h1
      | some T => exact tSelect_core h hS hm hTab hN J x (by simp only [obits] at h1; omega)

end Go.Proofs.YtcppgpjodfeigaaDoor

namespace Go.Proofs.YtcppgpjodfeigaaDoor
set_option linter.unusedVariables false
set_option linter.unusedSimpArgs false
open Go.RowKit

def obl : Option TT → List Nat
  | none => []
  | some T => T.bl
def osz : Option TT → Nat
  | none => 0
  | some T => T.st.size
def ost : Option TT → Option ST
  | none => none
  | some T => some T.st
def OOwn (A : Ar) : Option TT → Prop
  | none => True
  | some T => Own A T
/-- The bits of a tree that may have no node. -/
def sbits : Option ST → List Bool
  | none => []
  | some t => t.bits
def shigh : Option ST → Nat
  | none => 0
  | some t => t.high
def Good : Option ST → Prop
  | none => True
  | some t => t.Avl ∧ t.Root
theorem obits_st (O : Option TT) : obits O = sbits (ost O) := by cases O <;> rfl

/-- Block p holds the head of a tree of bits, of blocks S; of how many nodes numbers were made, how many the last call looked at. -/
structure TreeIs (S : Nat → Prop) (w : World) (p : Nat) (o : Option ST) (made : Nat) (vis : Int) : Prop where
  ex : ∃ (C : Nat → Prop) (A : Ar) (xs : List Nd) (O : Option TT), Head w p C A xs (onum O) vis ∧ OSub w xs O ∧ OOwn A O ∧ xs.length = A.T.length ∧ A.live = osz O ∧ A.M = 268435456 ∧ ost O = o ∧ made = A.T.length ∧ (∀ k, S k ↔ C k ∨ k ∈ obl O)
  good : Good o
  len : (sbits o).length ≤ 2147483648

/-- A step of a tree: another one; the blocks it had, or new ones. -/
structure TreeStep (S : Nat → Prop) (w w' : World) (p : Nat) (o' : Option ST) (made' : Nat) (vis' : Int) : Prop where
  ex : ∃ S', TreeIs S' w' p o' made' vis' ∧ ∀ k, S' k → S k ∨ w.heap.size ≤ k
  chg : Chg S w w'

section
variable {S : Nat → Prop} {w w' : World} {p made : Nat} {o : Option ST} {vis : Int}
theorem TreeIs.lt (h : TreeIs S w p o made vis) : ∀ k, S k → k < w.heap.size := by
  obtain ⟨C, A, xs, O, h1, h2, _, _, _, _, _, _, h9⟩ := h.ex
  intro k hk
  rcases (h9 k).1 hk with hk | hk
  · exact h1.lt k hk
  · cases O with
    | none => simp [obl] at hk
    | some T => exact (Sub.type h2 hk).lt
theorem TreeIs.self (h : TreeIs S w p o made vis) : S p := by
  obtain ⟨C, A, xs, O, h1, h2, _, _, _, _, _, _, h9⟩ := h.ex
  exact (h9 p).2 (Or.inl h1.self)
theorem TreeIs.chg {S' : Nat → Prop} (h : TreeIs S w p o made vis) (hc : Chg S' w w') (hd : ∀ k, S k → ¬ S' k) : TreeIs S w' p o made vis := by
  obtain ⟨C, A, xs, O, h1, h2, h3, h4, h5, h6, h7, h8, h9⟩ := h.ex
  refine ⟨⟨C, A, xs, O, h1.chg hc (fun k hk => hd k ((h9 k).2 (Or.inl hk))), ?_, h3, h4, h5, h6, h7, h8, h9⟩, h.good, h.len⟩
  cases O with
  | none => trivial
  | some T => exact Sub.same h2 hc (fun q hq => hd q ((h9 q).2 (Or.inr hq)))
theorem TreeIs.below (h : TreeIs S w p o made vis) (hb : Below w.heap.size w w') : TreeIs S w' p o made vis := h.chg (S' := fun _ => False) (Chg.of_below hb) (fun _ _ h => h)
/-- All sums are small. -/
theorem good_small {t : ST} (hr : t.Root) (hl : t.bits.length ≤ 2147483648) : t.size ≤ 134217729 ∧ t.high < 134217730 := by
  have h1 := hr.len
  have h2 := t.size_leaves
  have h3 := t.high_size
  have h4 := t.leaves_pos
  omega
end

theorem tInsert_nil (w : World) (k : Int) (b : Bool) : Calls Tryd.prog 25 #[.pointer none, .int .i64 k, .bool b] w fun e w' => e = .returned (.int .i64 6) ∧ w = w' := by
  go_enter Tryd.func25, Tryd.ntmps25
  go_wp2_with fail
  go_ret
  exact ⟨rfl, rfl⟩

set_option maxHeartbeats 1600000 in
theorem tInsert_bad {w : World} {p : Nat} {C : Nat → Prop} {A : Ar} {xs : List Nd} {O : Option TT} {vis : Int} (h : Head w p C A xs (onum O) vis) (hS : OSub w xs O) (k : Int) (b : Bool) (hk : k < 0 ∨ ((obits O).length : Int) < k) :
    Calls Tryd.prog 25 #[.pointer (some ⟨p, 0, none⟩), .int .i64 k, .bool b] w fun e w' => e = .returned (.int .i64 2) ∧ Head w' p C A xs (onum O) 0 ∧ Chg C w w' := by
  have f3 := h.cells.2.2.2 3
  have c3 := h.cells.2.2.1
  by_cases h0 : k < 0
  · have H0 := Lib.hid (h.set3 0)
    have HC := Lib.hid (h.chg3 (.int .i64 0) 3)
    clear h hS hk
    go_enter Tryd.func25, Tryd.ntmps25
    go_wp2_with fail
    go_ret
    exact ⟨rfl, H0.out, HC.out⟩
  · have HL := Lib.hid (tLen_any h hS)
    have H0 : Hid (∀ n, Head ((w.drewN n).setCell ⟨p, 3, none⟩ (.int .i64 0)) p C A xs (onum O) 0) := fun n => (h.drewN n).set3 0
    have HC : Hid (∀ n, Chg C w ((w.drewN n).setCell ⟨p, 3, none⟩ (.int .i64 0))) := fun n => (Chg.refl.drewN n).setCell _ (Or.inl h.self) _
    have d0 : decide (k < 0) = false := by simp; omega
    have d1 : decide (((obits O).length : Int) < k) = true := by simp; omega
    clear h hS hk
    generalize (obits O).length = n at *
    go_enter Tryd.func25, Tryd.ntmps25
    go_wp2_with fail
    refine HL.out.mono ?_
    rintro e w' ⟨rfl, m, rfl⟩
    go_wp2_with fail
    go_ret
    exact ⟨rfl, H0.out _, HC.out _⟩

set_option maxHeartbeats 3200000 in
theorem tInsert_none {w : World} {p : Nat} {C : Nat → Prop} {A : Ar} {xs : List Nd} {vis : Int} (h : Head w p C A xs (-1) vis) (hlen : xs.length = A.T.length) (hlive : A.live < A.M) (b : Bool) :
    Calls Tryd.prog 25 #[.pointer (some ⟨p, 0, none⟩), .int .i64 0, .bool b] w fun e w' => e = .returned (.int .i64 0) ∧ ∃ (k q : Nat) (C' : Nat → Prop) (A' : Ar) (xs' : List Nd), Head w' p C' A' xs' k 1 ∧ Sub w' xs' (.leaf k q [b]) ∧ xs'.length = A'.T.length ∧
      A'.T[k]? = some true ∧ A'.live = A.live + 1 ∧ A'.M = A.M ∧ w.heap.size ≤ q ∧ HStep w w' C C' := by
  have f3 := h.cells.2.2.2 3
  have f2 := h.cells.2.2.2 2
  have c3 := h.cells.2.2.1
  have c2 := h.cells.2.1
  have hp := h.lt p h.self
  have HL := Lib.hid (tLen_none h)
  have H0 : Hid (∀ n o, Head (((w.drewN n).setCell ⟨p, 3, none⟩ (.int .i64 0)).alloc o) p C A xs (-1) 0) := fun n o => ((h.drewN n).set3 0).below (below_alloc _ _)
  have HC : Hid (∀ n o, Chg C w (((w.drewN n).setCell ⟨p, 3, none⟩ (.int .i64 0)).alloc o)) := fun n o => ((Chg.refl.drewN n).setCell _ (Or.inl h.self) _).alloc o
  have HRV : Hid (∀ n, ReadsV (((w.drewN n).setCell ⟨p, 3, none⟩ (.int .i64 0)).alloc (.cells #[.bool b] 4)) (some ⟨w.heap.size, 0, none⟩) ([b].map Value.bool)) := fun n => by
    have e : ((w.drewN n).setCell ⟨p, 3, none⟩ (.int .i64 0)).heap.size = w.heap.size := by simp [World.setCell]
    have h1 := heap_alloc_new ((w.drewN n).setCell ⟨p, 3, none⟩ (.int .i64 0)) (.cells #[.bool b] 4)
    rw [e] at h1
    exact readsV_block h1
  have HLN := Lib.hid hlen
  have HLV := Lib.hid hlive
  clear h hlen hlive
  go_enter Tryd.func25, Tryd.ntmps25
  go_wp2_with fail
  refine HL.out.mono ?_
  rintro e w' ⟨rfl, m, rfl⟩
  go_wp2_with fail
  refine (blkNew _ _ 1 [b] (HRV.out m) (by simp)).mono ?_
  rintro e w3 ⟨rfl, hq3, hb3⟩
  have h3 := (H0.out m (.cells #[.bool b] 4)).below hb3
  have g3 := (HC.out m (.cells #[.bool b] 4)).trans (Chg.of_below (S := C) hb3) (fun j hj => Or.inl hj)
  generalize hq : (((w.drewN m).setCell ⟨p, 3, none⟩ (.int .i64 0)).alloc (.cells #[.bool b] 4)).heap.size = q at *
  have hqw : w.heap.size ≤ q := by rw [← hq]; simp [World.setCell]
  have HLF := Lib.hid (tLeaf_any h3 HLN.out HLV.out hq3)
  have H3 := Lib.hid h3
  have G3 := Lib.hid g3
  have HQ3 := Lib.hid hq3
  have HQ := Lib.hid hq
  have HQW := Lib.hid hqw
  clear h3 g3 hq3 hq hqw hb3 H0 HC HRV
  go_wp2_with fail
  first
  | (refine HLF.out.mono ?_)
  | (rw [HQ.out]; refine HLF.out.mono ?_)
  rintro e w4 hP
  obtain ⟨k2, C4, A4, xs4, rfl, h4, s4, l4, x4, n4, kp4, t4, lv4, m4, _⟩ := hP.ex
  obtain ⟨_, d2, d3, fz4⟩ := h4.cells
  have z2 := fz4 2
  have z3 := fz4 3
  have H4 := Lib.hid h4
  have S4 := Lib.hid s4
  have HQ4 := Lib.hid (HQ3.out.chg s4.chg (H3.out.notBlk HQ3.out.type))
  have HR : Hid (xs4.length = A4.T.length ∧ xs4[k2]? = some (TT.leaf 0 q [b]).nd ∧ A4.T[k2]? = some true ∧ A4.live = A.live + 1 ∧ A4.M = A.M) := ⟨l4, x4, t4, lv4, m4⟩
  clear hP h4 s4 l4 x4 n4 kp4 t4 lv4 m4 fz4
  go_wp2_with fail
  go_ret
  obtain ⟨l4, x4, t4, lv4, m4⟩ := HR.out
  have h5 := (H4.out.set2 k2).set3 1
  have c5 : Chg C4 w4 ((w4.setCell ⟨p, 2, none⟩ (.int .i64 k2)).setCell ⟨p, 3, none⟩ (.int .i64 1)) := (Chg.refl.setCell _ (Or.inl H4.out.self) _).setCell _ (Or.inl H4.out.self) _
  refine ⟨rfl, k2, q, C4, A4, xs4, h5, ⟨x4, HQ4.out.chg c5 (H4.out.notBlk HQ4.out.type)⟩, l4, t4, lv4, m4, HQW.out, HStep.trans ⟨G3.out, fun j hj => Or.inl hj⟩ (S4.out.trans ⟨c5, fun j hj => Or.inl hj⟩)⟩

set_option maxHeartbeats 3200000 in
theorem tInsert_some {w : World} {p : Nat} {C : Nat → Prop} {A : Ar} {xs : List Nd} {vis : Int} {T : TT} (h : Head w p C A xs T.num vis) (hS : Sub w xs T) (hlen : xs.length = A.T.length) (hO : Own A T) (hlive : A.live + 2 ≤ A.M) (hb1 : T.st.bits.length ≤ 2147483648) (hh : T.st.high < 1000000000) (k : Nat) (hk : k ≤ T.st.bits.length) (b : Bool) :
    Calls Tryd.prog 25 #[.pointer (some ⟨p, 0, none⟩), .int .i64 k, .bool b] w fun e w' => e = .returned (.int .i64 0) ∧ ∃ T' C' A' xs' v', SubPost w w' p C A xs T'.num 0 T T' C' A' xs' v' ∧ T'.st = insT T.st k b := by
  have f3 := h.cells.2.2.2 3
  have f2 := h.cells.2.2.2 2
  have c3 := h.cells.2.2.1
  have c2 := h.cells.2.1
  have hkn := (List.getElem?_eq_some_iff.1 hS.root).1
  have HL := Lib.hid (tLen_some h hS)
  have H0 : Hid (∀ n, Head ((w.drewN n).setCell ⟨p, 3, none⟩ (.int .i64 0)) p C A xs T.num 0) := fun n => ((h.drewN n).set3 0)
  have HC : Hid (∀ n, Chg C w ((w.drewN n).setCell ⟨p, 3, none⟩ (.int .i64 0))) := fun n => ((Chg.refl.drewN n).setCell _ (Or.inl h.self) _)
  have HS : Hid (∀ w', Chg C w w' → Sub w' xs T) := fun w' hc => hS.chgC h hc (fun _ _ => rfl)
  have HI : Hid (∀ n, Calls Tryd.prog 69 #[.pointer (some ⟨p, 0, none⟩), .int .i64 T.num, .int .i64 k, .bool b] ((w.drewN n).setCell ⟨p, 3, none⟩ (.int .i64 0)) fun e w' => InsPost ((w.drewN n).setCell ⟨p, 3, none⟩ (.int .i64 0)) w' p C A xs T.num 0 T k b e) :=
    fun n => tIns_any T _ p C A xs T.num 0 k b (H0.out n) hlen (by omega) (by omega) (HS.out _ (HC.out n)) hO hlive hk (by omega) (by omega)
  have hp := h.lt p h.self
  have d1 : decide (T.st.bits.length < k) = false := decide_eq_false (by omega)
  have dr : ((T.num : Int) == -1) = false := by rw [beq_eq_false_iff_ne]; omega
  clear h hS hO hlive
  obtain ⟨nt, hnt⟩ : ∃ n, T.num = n := ⟨_, rfl⟩
  obtain ⟨n, hn⟩ : ∃ n, T.st.bits.length = n := ⟨_, rfl⟩
  rw [hnt] at c2 dr H0 HI
  rw [hn] at d1 HL hb1 hk
  have HNT := Lib.hid hnt
  clear hn hnt
  go_enter Tryd.func25, Tryd.ntmps25
  go_wp2_with fail
  refine HL.out.mono ?_
  rintro e w' ⟨rfl, m, rfl⟩
  go_wp2_with fail
  refine (HI.out m).mono ?_
  rintro e w3 ⟨T', C3, A3, xs3, v3, rfl, hP, hst⟩
  have h3 := hP.head
  obtain ⟨_, d2, d3, fz3⟩ := h3.cells
  have z2 := fz3 2
  have H3 := Lib.hid h3
  have HP := Lib.hid hP
  have HST := Lib.hid hst
  clear hP h3 hst fz3
  go_wp2_with fail
  go_ret
  have h4 := H3.out.set2 T'.num
  have c4 : Chg C3 w3 (w3.setCell ⟨p, 2, none⟩ (.int .i64 T'.num)) := Chg.refl.setCell _ (Or.inl H3.out.self) _
  refine ⟨rfl, T', C3, A3, xs3, v3, SubPost.of h4 (HP.out.sub.chgC H3.out c4 (fun _ _ => rfl)) (SubPre.first (HC.out m) (HP.out.pre.next c4 (fun _ _ => rfl) rfl (List.Perm.refl _) rfl rfl)) HP.out.vis, HST.out⟩

/-- A tree behind a bit more. -/
def insO (o : Option ST) (k : Nat) (b : Bool) : Option ST := some (match o with | none => .leaf [b] | some t => insT t k b)
theorem insO_bits {o : Option ST} {k : Nat} {b : Bool} (hk : k ≤ (sbits o).length) : sbits (insO o k b) = inL (sbits o) k b := by
  cases o with
  | none =>
    obtain rfl : k = 0 := by simpa [sbits] using hk
    rfl
  | some t => exact insT_bits hk
theorem insO_good {o : Option ST} {k : Nat} {b : Bool} (hg : Good o) (hk : k ≤ (sbits o).length) : Good (insO o k b) := by
  cases o with
  | none => exact ⟨trivial, by simp [ST.Root]⟩
  | some t => exact ⟨(insT_avl hg.1 k b).1, insT_root hg.2 b hk⟩
theorem insO_high {o : Option ST} {k : Nat} {b : Bool} (hg : Good o) : shigh o ≤ shigh (insO o k b) ∧ shigh (insO o k b) ≤ shigh o + 1 := by
  cases o with
  | none => simp [shigh, insO, ST.high]
  | some t => exact (insT_avl hg.1 k b).2

/-- Insert, where the place may be. -/
theorem tInsert_is {S : Nat → Prop} {w : World} {p made : Nat} {o : Option ST} {vis : Int} (h : TreeIs S w p o made vis) (hl : (sbits o).length < 2147483648) (k : Nat) (hk : k ≤ (sbits o).length) (b : Bool) :
    Calls Tryd.prog 25 #[.pointer (some ⟨p, 0, none⟩), .int .i64 k, .bool b] w fun e w' => e = .returned (.int .i64 0) ∧ ∃ made' v', TreeStep S w w' p (insO o k b) made' v' ∧ 0 ≤ v' ∧ v' ≤ 7 * shigh o + 2 := by
  have hgood := insO_good (b := b) h.good hk
  have hbits := insO_bits (b := b) hk
  have hlen' : (sbits (insO o k b)).length ≤ 2147483648 := by rw [hbits, inL_len hk]; omega
  have hlt := h.lt
  obtain ⟨C, A, xs, O, h1, h2, h3, h4, h5, h6, h7, h8, h9⟩ := h.ex
  have hCS : ∀ j, C j → S j := fun j hj => (h9 j).2 (Or.inl hj)
  cases O with
  | none =>
    obtain rfl : o = none := h7.symm
    obtain rfl : k = 0 := by simpa [sbits] using hk
    refine (tInsert_none h1 h4 (by rw [h5, h6]; simp [osz]) b).mono ?_
    rintro e w' ⟨rfl, kn, q, C', A', xs', g1, g2, g3, g4, g5, g6, g7, g8⟩
    refine ⟨rfl, A'.T.length, 1, ⟨⟨fun j => C' j ∨ j ∈ obl (some (.leaf kn q [b])), ⟨⟨C', A', xs', some (.leaf kn q [b]), g1, g2, ⟨by simp [TT.nums], by simp [TT.bl], fun j hj => by simp [TT.nums] at hj; subst hj; exact g4⟩, g3, by rw [g5, h5]; rfl, by rw [g6, h6], rfl, rfl, fun j => Iff.rfl⟩, hgood, hlen'⟩, fun j hj => ?_⟩, g8.chg.mono hCS⟩, by omega, by simp [shigh]⟩
    rcases hj with hj | hj
    · exact (g8.new j hj).imp (hCS j) id
    · simp [obl, TT.bl] at hj; subst hj; exact Or.inr g7
  | some T =>
    obtain rfl : o = some T.st := h7.symm
    have hsm := good_small h.good.2 h.len
    refine (tInsert_some h1 h2 h4 h3 (by rw [h5, h6]; show T.st.size + 2 ≤ _; omega) h.len (by omega) k hk b).mono ?_
    rintro e w' ⟨rfl, T', C', A', xs', v', hP, hst⟩
    have hv := hP.vis
    refine ⟨rfl, A'.T.length, v', ⟨⟨fun j => C' j ∨ j ∈ obl (some T'), ⟨⟨C', A', xs', some T', hP.head, hP.sub, hP.own, hP.len, ?_, by rw [hP.max, h6], ?_, rfl, fun j => Iff.rfl⟩, hgood, hlen'⟩, fun j hj => ?_⟩, hP.chg.mono (fun j hj => (h9 j).2 hj)⟩, by omega, by simp only [shigh]; omega⟩
    · have := hP.live; have h5' : A.live = T.st.size := h5; show A'.live = T'.st.size; omega
    · show some T'.st = _; rw [hst]; rfl
    · rcases hj with hj | hj
      · exact (hP.newC j hj).imp (hCS j) id
      · exact (hP.newB j hj).imp (fun h => (h9 j).2 (Or.inr h)) id

end Go.Proofs.YtcppgpjodfeigaaDoor

namespace Go.Proofs.YtcppgpjodfeigaaDoor
set_option linter.unusedVariables false
set_option linter.unusedSimpArgs false

/-- The bits of the leaves from one on, below another one, of so many. -/
def segL (L : List Bool) (m f t : Nat) : List Bool := (L.take (L.length * t / m)).drop (L.length * f / m)

theorem seg_le {n m f t : Nat} (h : f ≤ t) : n * f / m ≤ n * t / m := Nat.div_le_div_right (Nat.mul_le_mul_left n h)
theorem seg_top {n m t : Nat} (h : t ≤ m) (hm : 0 < m) : n * t / m ≤ n :=
  Nat.div_le_of_le_mul (by rw [Nat.mul_comm m n]; exact Nat.mul_le_mul_left n h)
theorem segL_len {L : List Bool} {m f t : Nat} (h1 : f ≤ t) (h2 : t ≤ m) (hm : 0 < m) : (segL L m f t).length = L.length * t / m - L.length * f / m := by
  have := seg_top (n := L.length) h2 hm
  simp only [segL, List.length_drop, List.length_take]; omega
theorem segL_cat {L : List Bool} {m f k t : Nat} (h1 : f ≤ k) (h2 : k ≤ t) (h3 : t ≤ m) (hm : 0 < m) : segL L m f k ++ segL L m k t = segL L m f t := by
  have a1 := seg_le (n := L.length) (m := m) h1
  have a2 := seg_le (n := L.length) (m := m) h2
  have a3 := seg_top (n := L.length) h3 hm
  unfold segL
  generalize L.length * f / m = x at *
  generalize L.length * k / m = y at *
  generalize L.length * t / m = z at *
  have e1 : L.take z = L.take y ++ (L.take z).drop y := by
    have := (List.take_append_drop y (L.take z)).symm
    rwa [List.take_take, Nat.min_eq_left a2] at this
  conv => rhs; rw [e1]
  rw [List.drop_append_of_le_length (by rw [List.length_take]; omega)]
theorem segL_all {L : List Bool} {m : Nat} (hm : 0 < m) : segL L m 0 m = L := by
  simp only [segL, Nat.mul_zero, Nat.zero_div, List.drop_zero, Nat.mul_div_cancel _ hm, List.take_length]

/-- How many a leaf has. -/
theorem seg_step_le {n m f : Nat} (hn : n ≤ 128 * m) (hm : 0 < m) : n * (f + 1) / m ≤ n * f / m + 128 := by
  have h : n * (f + 1) ≤ n * f + 128 * m := by rw [Nat.mul_add, Nat.mul_one]; omega
  calc n * (f + 1) / m ≤ (n * f + 128 * m) / m := Nat.div_le_div_right h
    _ = n * f / m + 128 := Nat.add_mul_div_right _ _ hm
theorem seg_step_ge {n m f : Nat} (hn : 64 * m ≤ n) (hm : 0 < m) : n * f / m + 64 ≤ n * (f + 1) / m := by
  have h : n * f + 64 * m ≤ n * (f + 1) := by rw [Nat.mul_add, Nat.mul_one]; omega
  calc n * f / m + 64 = (n * f + 64 * m) / m := (Nat.add_mul_div_right _ _ hm).symm
    _ ≤ n * (f + 1) / m := Nat.div_le_div_right h

/-- What build makes. -/
structure Bld (L : List Bool) (m f t : Nat) (T : ST) : Prop where
  bits : T.bits = segL L m f t
  avl : T.Avl
  leaves : T.leaves = t - f
  up : t - f ≤ 2 ^ T.high
  low : (T.high = 0 ∧ t - f = 1) ∨ (∃ h, T.high = h + 1 ∧ 2 ^ h < t - f)
  le : T.Le
  fill : 2 ≤ m → T.Fill

theorem bld_leaf {L : List Bool} {m f t : Nat} (hm : m = (L.length + 127) / 128) (h : t - f = 1) (ht : t ≤ m) : Bld L m f t (.leaf (segL L m f t)) := by
  have e : t = f + 1 := by omega
  subst e
  have hp : 0 < m := by omega
  have hl := segL_len (L := L) (m := m) (f := f) (t := f + 1) (by omega) ht hp
  have h1 := seg_step_le (n := L.length) (m := m) (f := f) (by omega) hp
  refine ⟨rfl, trivial, by simp [ST.leaves], by simp [ST.high], Or.inl ⟨rfl, h⟩, ?_, ?_⟩
  · change _ ≤ 128
    rw [hl]; omega
  · intro h2
    have h3 := seg_step_ge (n := L.length) (m := m) (f := f) (by omega) hp
    change 32 ≤ _ ∧ _ ≤ 128
    rw [hl]; omega

theorem bld_pair {L : List Bool} {m f t : Nat} {a b : ST} (hp : 0 < m) (h : 2 ≤ t - f) (ht : t ≤ m) (ha : Bld L m f ((f + t) / 2) a) (hb : Bld L m ((f + t) / 2) t b) : Bld L m f t (.pair a b) := by
  obtain ⟨k, hk⟩ : ∃ k, k = (f + t) / 2 := ⟨_, rfl⟩
  rw [← hk] at ha hb
  have hka : k - f = (t - f) / 2 := by omega
  have hkb : t - k = (t - f + 1) / 2 := by omega
  have k1 : f ≤ k := by omega
  have k2 : k ≤ t := by omega
  have k3 : k - f + (t - k) = t - f := by omega
  obtain ⟨d, hd⟩ : ∃ d, d = t - f := ⟨_, rfl⟩
  rw [← hd] at hka hkb h
  have ua := ha.up; have ub := hb.up; have la := ha.low; have lb := hb.low
  rw [hka] at ua la
  rw [hkb] at ub lb
  -- the sides' heights
  have low_lt : ∀ {x h : Nat}, ((h = 0 ∧ x = 1) ∨ ∃ g, h = g + 1 ∧ 2 ^ g < x) → ∀ g, x ≤ 2 ^ g → h ≤ g := by
    rintro x h (⟨rfl, _⟩ | ⟨q, rfl, hq⟩) g hg
    · omega
    · have : 2 ^ q < 2 ^ g := Nat.lt_of_lt_of_le hq hg
      have := (Nat.pow_lt_pow_iff_right (a := 2) (by omega)).1 this
      omega
  have hab : a.high ≤ b.high := low_lt la _ (by omega)
  have hba : b.high ≤ a.high + 1 := low_lt lb _ (by rw [Nat.pow_succ]; omega)
  have hh : (ST.pair a b).high = b.high + 1 := by simp only [ST.high]; omega
  refine ⟨?_, ⟨ha.avl, hb.avl, by omega, hba⟩, ?_, ?_, Or.inr ⟨b.high, hh, ?_⟩, ⟨ha.le, hb.le⟩, fun h2 => ⟨ha.fill h2, hb.fill h2⟩⟩
  · change a.bits ++ b.bits = _
    rw [ha.bits, hb.bits]
    exact segL_cat k1 k2 ht hp
  · change a.leaves + b.leaves = _
    rw [ha.leaves, hb.leaves]; exact k3
  · rw [hh, Nat.pow_succ]; omega
  · rcases lb with ⟨h0, h1⟩ | ⟨g, hg, h1⟩
    · rw [h0]; simp; omega
    · rw [hg, Nat.pow_succ]; omega

/-- The whole tree. -/
theorem bld_root {L : List Bool} {m : Nat} {T : ST} (hm : m = (L.length + 127) / 128) (h0 : 0 < m) (h : Bld L m 0 m T) : T.bits = L ∧ T.Avl ∧ T.Root := by
  have hb : T.bits = L := by rw [h.bits, segL_all h0]
  refine ⟨hb, h.avl, ?_⟩
  rcases Nat.lt_or_ge m 2 with h1 | h1
  · cases T with
    | leaf l =>
      have hl := h.le
      refine ⟨?_, hl⟩
      have : l.length = L.length := congrArg List.length hb
      omega
    | pair a b =>
      exfalso
      have h2 := h.leaves
      have := a.leaves_pos; have := b.leaves_pos
      simp only [ST.leaves] at h2; omega
  · exact (h.fill h1).root

end Go.Proofs.YtcppgpjodfeigaaDoor

namespace Go.Proofs.YtcppgpjodfeigaaDoor
set_option linter.unusedVariables false
set_option linter.unusedSimpArgs false
open Go.RowKit

theorem run_sliceMid {P : Program} {w : World} {t e : TypeId} {a : Option Addr} {len cap j k : Nat} (ht : P.underlying t = some (.slice e)) (hinfo : (P.info? e).map (fun i => i.size) = some 1) (hj : j ≤ k) (hk : k ≤ cap) :
    (Instr.slice t (.slice a len cap) (some (.int .i64 (j : Int))) (some (.int .i64 (k : Int))) none).run P w = .ok (.slice (offA a j cap) (k - j) (cap - j)) w := by
  obtain ⟨i, hi, hs⟩ := Option.map_eq_some_iff.1 hinfo
  have hk' : (k : Int) ≤ (cap : Int) := by omega
  have hj' : (j : Int) ≤ (k : Int) := by omega
  simp [Instr.slice, run_underlying ht, Instr.sliceBounds, Instr.sliceBound, asIntOf, hk', hj', sizeOf, typeInfo, hi, hs, go_sem, offA, hj, hk]

/-- What build leaves: a new tree; all taken before is as it was. -/
structure BldStep (w w' : World) (p : Nat) (C : Nat → Prop) (A : Ar) (xs : List Nd) (root vis : Int) (T' : TT) (C' : Nat → Prop) (A' : Ar) (xs' : List Nd) : Prop where
  head : Head w' p C' A' xs' root vis
  sub : Sub w' xs' T'
  own : Own A' T'
  len : xs'.length = A'.T.length
  newC : ∀ j, C' j → C j ∨ w.heap.size ≤ j
  newB : ∀ q ∈ T'.bl, w.heap.size ≤ q
  keep : ∀ j : Nat, A.T[j]? = some true → xs'[j]? = xs[j]? ∧ A'.T[j]? = some true ∧ j ∉ T'.nums
  live : A'.live = A.live + T'.st.size
  max : A'.M = A.M
  fr : A.F = [] → A'.F = []
  chg : Chg C w w'
def BldPost (w w' : World) (p : Nat) (C : Nat → Prop) (A : Ar) (xs : List Nd) (root vis : Int) (L : List Bool) (m f t : Nat) (e : Ending) : Prop :=
  ∃ T' C' A' xs', e = .returned (.int .i64 T'.num) ∧ BldStep w w' p C A xs root vis T' C' A' xs' ∧ Bld L m f t T'.st

set_option maxHeartbeats 3200000 in
set_option maxRecDepth 100000 in
theorem tBuild_leaf {w : World} {p : Nat} {C : Nat → Prop} {A : Ar} {xs : List Nd} {root vis : Int} (h : Head w p C A xs root vis) (hlen : xs.length = A.T.length) {a : Option Addr} {c : Nat} {L : List Bool} (hr : ReadsV w a (L.map Value.bool))
    (hc : L.length ≤ c) (hL : L.length ≤ 2147483648) {m f t : Nat} (hm : m = (L.length + 127) / 128) (hft : t - f = 1) (ht : t ≤ m) (hlive : A.live < A.M) :
    Calls Tryd.prog 61 #[.pointer (some ⟨p, 0, none⟩), .slice a L.length c, .int .i64 f, .int .i64 t, .int .i64 m] w fun e w' => BldPost w w' p C A xs root vis L m f t e := by
  have hp0 : 0 < m := by omega
  have hB := bld_leaf (L := L) hm hft ht
  have hsl := segL_len (L := L) (m := m) (f := f) (t := t) (by omega) ht hp0
  have hx2 := seg_le (n := L.length) (m := m) (f := f) (t := t) (by omega)
  have hx3 := seg_top (n := L.length) ht hp0
  obtain ⟨x, hx⟩ : ∃ x, x = L.length * f / m := ⟨_, rfl⟩
  obtain ⟨y, hy⟩ : ∃ y, y = L.length * t / m := ⟨_, rfl⟩
  obtain ⟨sg, hsg⟩ : ∃ sg, sg = segL L m f t := ⟨_, rfl⟩
  have hb1 : L.length * f ≤ 2147483648 * 16777217 := Nat.mul_le_mul hL (by omega)
  have hb2 : L.length * t ≤ 2147483648 * 16777217 := Nat.mul_le_mul hL (by omega)
  have hsr : ReadsV w (offA a x c) (sg.map Value.bool) := by
    rw [hsg]; unfold segL; rw [← hx, ← hy, List.map_drop, List.map_take]
    exact (hr.take y).drop (by rw [List.length_take, List.length_map]; omega)
  rw [← hx, ← hy] at hx2 hsl
  rw [← hy] at hx3
  rw [← hsg] at hsl hB
  have hsl128 : sg.length ≤ 128 := hB.le
  have d0 : ((t : Int) - (f : Int) == 1) = true := by rw [beq_iff_eq]; omega
  have d1 : IntKind.i64.wrap ((t : Int) - (f : Int)) = (t : Int) - (f : Int) := IntWalk.i64_in _ (by omega)
  obtain ⟨zf, hzf⟩ : ∃ zf, zf = L.length * f := ⟨_, rfl⟩
  obtain ⟨zt, hzt⟩ : ∃ zt, zt = L.length * t := ⟨_, rfl⟩
  have d2 : IntKind.i64.wrap ((L.length : Int) * (f : Int)) = (zf : Int) := by rw [← Int.natCast_mul, ← hzf]; exact IntWalk.i64_in _ (by omega)
  have d3 : IntKind.i64.wrap ((L.length : Int) * (t : Int)) = (zt : Int) := by rw [← Int.natCast_mul, ← hzt]; exact IntWalk.i64_in _ (by omega)
  have d4 : IntKind.i64.wrap ((zf : Int) / (m : Int)) = (x : Int) := by
    rw [← Int.natCast_ediv, hzf, ← hx]; exact IntWalk.i64_in _ (by omega)
  have d5 : IntKind.i64.wrap ((zt : Int) / (m : Int)) = (y : Int) := by
    rw [← Int.natCast_ediv, hzt, ← hy]; exact IntWalk.i64_in _ (by omega)
  have d6 : ¬ m = 0 := by omega
  have hS2 : ∀ (w : World), (Instr.slice 23 (.slice a L.length c) (some (.int .i64 (x : Int))) (some (.int .i64 (y : Int))) none).run Tryd.prog w = .ok (.slice (offA a x c) (y - x) (c - x)) w := fun w =>
    run_sliceMid (e := 4) (by kernel_rfl) (by kernel_rfl) hx2 (by omega)
  have HN : Hid (∀ n, Calls Tryd.prog 67 #[.slice (offA a x c) (y - x) (c - x)] (w.drewN n) fun e w' => e = .returned (.tuple #[.pointer (some ⟨w.heap.size, 0, none⟩), .int .i64 0]) ∧ IsBlock w' w.heap.size sg ∧ Below w.heap.size w w') := fun n => by
    have := blkNew (w.drewN n) (offA a x c) (c - x) sg hsr hsl128
    rw [hsl] at this
    refine this.mono ?_
    rintro e w' ⟨rfl, h1, h2⟩
    exact ⟨rfl, h1, ⟨h2.os, h2.tape, h2.output, h2.size, h2.block⟩⟩
  have HH := Lib.hid h
  have HL := Lib.hid hlen
  have HLV := Lib.hid hlive
  have HB := Lib.hid hB
  clear h hlen hlive hB hr hsr hsl hsl128 hb1 hb2 hx hy hzf hzt hsg hm
  generalize L.length = n0 at *
  go_enter Tryd.func61, Tryd.ntmps61
  go_wp2_with fail
  -- REGION leaf
  refine reg_start (fun _ => True) (by kernel_rfl) (trivial) (fun hHeld => ?_)
  refine reg_take (i := 0) (v := ?vlf0) rfl (by kernel_rfl) rfl hHeld ?ylf0 ?rlf0
  case ylf0 => (intro w hSw; (try dsimp only at hSw); go_simp; all_goals with_reducible rfl)
  try simp only [Act.put, List.setIfInBounds_toArray, List.set_cons_zero, List.set_cons_succ]
  refine reg_take (i := 1) (v := ?vlf1) rfl (by kernel_rfl) rfl hHeld ?ylf1 ?rlf1
  case ylf1 => (intro w hSw; (try dsimp only at hSw); go_simp; all_goals with_reducible rfl)
  try simp only [Act.put, List.setIfInBounds_toArray, List.set_cons_zero, List.set_cons_succ]
  refine reg_take (i := 2) (v := ?vlf2) rfl (by kernel_rfl) rfl hHeld ?ylf2 ?rlf2
  case ylf2 => (intro w hSw; (try dsimp only at hSw); go_simp; all_goals with_reducible rfl)
  try simp only [Act.put, List.setIfInBounds_toArray, List.set_cons_zero, List.set_cons_succ]
  refine reg_take (i := 3) (v := ?vlf3) rfl (by kernel_rfl) rfl hHeld ?ylf3 ?rlf3
  case ylf3 => (intro w hSw; (try dsimp only at hSw); go_simp; all_goals with_reducible rfl)
  try simp only [Act.put, List.setIfInBounds_toArray, List.set_cons_zero, List.set_cons_succ]
  refine reg_take (i := 4) (v := ?vlf4) rfl (by kernel_rfl) rfl hHeld ?ylf4 ?rlf4
  case ylf4 => (intro w hSw; (try dsimp only at hSw); go_simp; all_goals with_reducible rfl)
  try simp only [Act.put, List.setIfInBounds_toArray, List.set_cons_zero, List.set_cons_succ]
  refine reg_take (i := 5) (v := ?vlf5) rfl (by kernel_rfl) rfl hHeld ?ylf5 ?rlf5
  case ylf5 => (intro w hSw; (try dsimp only at hSw); go_simp; all_goals with_reducible rfl)
  try simp only [Act.put, List.setIfInBounds_toArray, List.set_cons_zero, List.set_cons_succ]
  refine reg_take (i := 6) (v := ?vlf6) rfl (by kernel_rfl) rfl hHeld ?ylf6 ?rlf6
  case ylf6 => (intro w hSw; (try dsimp only at hSw); go_simp; all_goals with_reducible rfl)
  try simp only [Act.put, List.setIfInBounds_toArray, List.set_cons_zero, List.set_cons_succ]
  refine reg_take (i := 7) (v := ?vlf7) rfl (by kernel_rfl) rfl hHeld ?ylf7 ?rlf7
  case ylf7 => (intro w hSw; (try dsimp only at hSw); go_simp; all_goals with_reducible rfl)
  try simp only [Act.put, List.setIfInBounds_toArray, List.set_cons_zero, List.set_cons_succ]
  refine reg_take (i := 8) (v := ?vlf8) rfl (by kernel_rfl) rfl hHeld ?ylf8 ?rlf8
  case ylf8 => (intro w hSw; (try dsimp only at hSw); go_simp; all_goals with_reducible rfl)
  try simp only [Act.put, List.setIfInBounds_toArray, List.set_cons_zero, List.set_cons_succ]
  refine reg_take (i := 9) (v := ?vlf9) rfl (by kernel_rfl) rfl hHeld ?ylf9 ?rlf9
  case ylf9 => (intro w hSw; (try dsimp only at hSw); go_simp; all_goals with_reducible rfl)
  try simp only [Act.put, List.setIfInBounds_toArray, List.set_cons_zero, List.set_cons_succ]
  refine reg_take (i := 10) (v := ?vlf10) rfl (by kernel_rfl) rfl hHeld ?ylf10 ?rlf10
  case ylf10 => (intro w hSw; (try dsimp only at hSw); go_simp; all_goals with_reducible rfl)
  try simp only [Act.put, List.setIfInBounds_toArray, List.set_cons_zero, List.set_cons_succ]
  refine reg_take (i := 11) (v := ?vlf11) rfl (by kernel_rfl) rfl hHeld ?ylf11 ?rlf11
  case ylf11 => (intro w hSw; (try dsimp only at hSw); go_simp; all_goals with_reducible rfl)
  try simp only [Act.put, List.setIfInBounds_toArray, List.set_cons_zero, List.set_cons_succ]
  refine reg_take (i := 12) (v := ?vlf12) rfl (by kernel_rfl) rfl hHeld ?ylf12 ?rlf12
  case ylf12 => (intro w hSw; (try dsimp only at hSw); go_simp; all_goals with_reducible rfl)
  try simp only [Act.put, List.setIfInBounds_toArray, List.set_cons_zero, List.set_cons_succ]
  refine reg_take (i := 13) (v := ?vlf13) rfl (by kernel_rfl) rfl hHeld ?ylf13 ?rlf13
  case ylf13 => (intro w hSw; (try dsimp only at hSw); go_simp; all_goals with_reducible rfl)
  try simp only [Act.put, List.setIfInBounds_toArray, List.set_cons_zero, List.set_cons_succ]
  refine reg_loud (i := 14) rfl (by kernel_rfl) rfl (fun K hK => ?_)
  go_simp
  ((refine (HN.out _).mono ?_))
  rintro e w2 ⟨rfl, hq, hb2⟩
  refine hK.out _ _ (trivial) (fun hNew => ?_)
  clear hK K hHeld
  have hHeld := hNew
  clear hNew
  try simp only [Act.put, List.setIfInBounds_toArray, List.set_cons_zero, List.set_cons_succ]
  refine reg_take (i := 15) (v := ?vlf15) rfl (by kernel_rfl) rfl hHeld ?ylf15 ?rlf15
  case ylf15 => (intro w hSw; (try dsimp only at hSw); go_simp; all_goals with_reducible rfl)
  try simp only [Act.put, List.setIfInBounds_toArray, List.set_cons_zero, List.set_cons_succ]
  refine reg_take (i := 16) (v := ?vlf16) rfl (by kernel_rfl) rfl hHeld ?ylf16 ?rlf16
  case ylf16 => (intro w hSw; (try dsimp only at hSw); go_simp; all_goals with_reducible rfl)
  try simp only [Act.put, List.setIfInBounds_toArray, List.set_cons_zero, List.set_cons_succ]
  refine reg_take (i := 17) (v := ?vlf17) rfl (by kernel_rfl) rfl hHeld ?ylf17 ?rlf17
  case ylf17 => (intro w hSw; (try dsimp only at hSw); go_simp; all_goals with_reducible rfl)
  try simp only [Act.put, List.setIfInBounds_toArray, List.set_cons_zero, List.set_cons_succ]
  refine reg_take (i := 18) (v := ?vlf18) rfl (by kernel_rfl) rfl hHeld ?ylf18 ?rlf18
  case ylf18 => (intro w hSw; (try dsimp only at hSw); go_simp; all_goals with_reducible rfl)
  try simp only [Act.put, List.setIfInBounds_toArray, List.set_cons_zero, List.set_cons_succ]
  refine reg_take (i := 19) (v := ?vlf19) rfl (by kernel_rfl) rfl hHeld ?ylf19 ?rlf19
  case ylf19 => (intro w hSw; (try dsimp only at hSw); go_simp; all_goals with_reducible rfl)
  try simp only [Act.put, List.setIfInBounds_toArray, List.set_cons_zero, List.set_cons_succ]
  refine reg_done (by kernel_rfl) ?_ _
  -- END OF REGION leaf
  clear hHeld
  have HQ := Lib.hid hq
  have h2 := HH.out.below hb2
  have HC2 := Lib.hid (Chg.of_below (S := C) hb2)
  have HLF := Lib.hid (tLeaf_any h2 HL.out HLV.out hq)
  have HHK := Lib.hid h2
  clear hq hb2 h2
  go_wp2_with fail
  refine HLF.out.mono ?_
  rintro e w3 ⟨k, C', A', xs', rfl, h3, s3, l3, hk3, t3, keep3, t3', live3, max3, fr3⟩
  have hq3 : IsBlock w3 w.heap.size sg := HQ.out.chg s3.chg (HHK.out.notBlk HQ.out.type)
  have HP : Hid (BldPost w w3 p C A xs root vis L m f t (.returned (.int .i64 (k : Int)))) := by
    refine ⟨.leaf k w.heap.size sg, C', A', xs', rfl, ⟨h3, ⟨hk3, hq3⟩, ⟨by simp [TT.nums], by simp [TT.bl], fun j hj => ?_⟩, l3, fun j hj => ?_, fun q hq => ?_, fun j hj => ?_, ?_, max3, fr3, ?_⟩, HB.out⟩
    · simp [TT.nums] at hj; subst hj; exact t3'
    · rcases s3.new j hj with h | h
      · exact Or.inl h
      · right; have := HC2.out.size; omega
    · simp [TT.bl] at hq; omega
    · refine ⟨(keep3 j hj).1, (keep3 j hj).2, ?_⟩
      simp only [TT.nums, List.mem_cons, List.not_mem_nil, or_false]
      rintro rfl; exact t3 hj
    · rw [live3]; simp [TT.st, ST.size]
    · exact HC2.out.trans s3.chg (fun j hj => Or.inl hj)
  clear h3 s3 l3 hk3 t3 keep3 t3' live3 max3 fr3 hq3 HB HLF HHK HC2 HQ
  go_wp2_with fail
  go_ret
  exact HP.out

end Go.Proofs.YtcppgpjodfeigaaDoor

namespace Go.Proofs.YtcppgpjodfeigaaDoor
set_option linter.unusedVariables false
set_option linter.unusedSimpArgs false
open Go.RowKit

section
variable {w w2 w3 w4 : World} {p : Nat} {C C2 C3 : Nat → Prop} {A A2 A3 : Ar} {xs x2 x3 : List Nd} {root vis : Int} {Ta Tb : TT}
theorem BldStep.subA (Sa : BldStep w w2 p C A xs root vis Ta C2 A2 x2) (Sb : BldStep w2 w3 p C2 A2 x2 root vis Tb C3 A3 x3) : Sub w3 x3 Ta :=
  Sa.sub.chgC Sa.head Sb.chg (fun j hj => (Sb.keep j (Sa.own.tk j hj)).1)
theorem BldStep.joined (Sa : BldStep w w2 p C A xs root vis Ta C2 A2 x2) (Sb : BldStep w2 w3 p C2 A2 x2 root vis Tb C3 A3 x3) {e : Ending} (hn : NodePost w3 w4 p C3 A3 x3 root vis (TT.pair 0 Ta Tb).nd e)
    {L : List Bool} {m f t : Nat} (hB : Bld L m f t (.pair Ta.st Tb.st)) : BldPost w w4 p C A xs root vis L m f t e := by
  obtain ⟨k, C', A', xs', rfl, h4, s4, l4, hk4, t4, keep4, t4', live4, max4, fr4⟩ := hn.ex
  have s1 := Sa.chg.size
  have s2 := Sb.chg.size
  have kA : ∀ j ∈ Ta.nums, A3.T[j]? = some true := fun j hj => (Sb.keep j (Sa.own.tk j hj)).2.1
  have kB : ∀ j ∈ Tb.nums, A3.T[j]? = some true := Sb.own.tk
  have dAB : ∀ j ∈ Ta.nums, j ∉ Tb.nums := fun j hj => (Sb.keep j (Sa.own.tk j hj)).2.2
  have subA := (Sa.subA Sb).chgC Sb.head s4.chg (fun j hj => (keep4 j (kA j hj)).1)
  have subB := Sb.sub.chgC Sb.head s4.chg (fun j hj => (keep4 j (kB j hj)).1)
  refine ⟨.pair k Ta Tb, C', A', xs', rfl, ⟨h4, ⟨hk4, subA, subB⟩, ⟨?_, ?_, ?_⟩, l4, ?_, ?_, ?_, ?_, ?_, fun h => fr4 (Sb.fr (Sa.fr h)), ?_⟩, hB⟩
  · simp only [TT.nums, List.nodup_cons, List.mem_append, not_or, List.nodup_append]
    exact ⟨⟨fun h => t4 (kA k h), fun h => t4 (kB k h)⟩, Sa.own.nn, Sb.own.nn, fun j hj i hi e => dAB j hj (e ▸ hi)⟩
  · simp only [TT.bl, List.nodup_append]
    refine ⟨Sa.own.bn, Sb.own.bn, fun j hj i hi e => ?_⟩
    have h1 := (Sa.sub.type hj).lt
    have h2 := Sb.newB i hi
    omega
  · intro j hj
    simp only [TT.nums, List.mem_cons, List.mem_append] at hj
    rcases hj with rfl | hj | hj
    · exact t4'
    · exact (keep4 j (kA j hj)).2
    · exact (keep4 j (kB j hj)).2
  · intro j hj
    rcases s4.new j hj with h | h
    · rcases Sb.newC j h with h | h
      · exact Sa.newC j h
      · right; omega
    · right; omega
  · intro q hq
    simp only [TT.bl, List.mem_append] at hq
    rcases hq with hq | hq
    · exact Sa.newB q hq
    · have := Sb.newB q hq; omega
  · intro j hj
    have k1 := Sa.keep j hj
    have k2 := Sb.keep j k1.2.1
    have k3 := keep4 j k2.2.1
    refine ⟨k3.1.trans (k2.1.trans k1.1), k3.2, ?_⟩
    simp only [TT.nums, List.mem_cons, List.mem_append]
    rintro (rfl | hj | hj)
    · exact t4 k2.2.1
    · exact k1.2.2 hj
    · exact k2.2.2 hj
  · have := Sa.live; have := Sb.live; simp only [TT.st, ST.size]; omega
  · rw [max4, Sb.max, Sa.max]
  · refine (Sa.chg.trans Sb.chg (fun j hj => Sa.newC j hj)).trans s4.chg (fun j hj => ?_)
    rcases Sb.newC j hj with h | h
    · exact Sa.newC j h
    · right; omega
end

set_option maxHeartbeats 3200000 in
set_option maxRecDepth 100000 in
theorem tBuild_any {p : Nat} {root vis : Int} {a : Option Addr} {c : Nat} {L : List Bool} {m : Nat} (hc : L.length ≤ c) (hL : L.length ≤ 2147483648) (hm : m = (L.length + 127) / 128) (n : Nat) :
    ∀ (w : World) (C : Nat → Prop) (A : Ar) (xs : List Nd) (f t : Nat), Head w p C A xs root vis → xs.length = A.T.length → ReadsV w a (L.map Value.bool) → (∀ ad, a = some ad → ¬ C ad.block ∧ ad.block < w.heap.size) →
      t - f = n → 1 ≤ n → t ≤ m → A.live + 2 * n ≤ A.M + 1 →
      Calls Tryd.prog 61 #[.pointer (some ⟨p, 0, none⟩), .slice a L.length c, .int .i64 f, .int .i64 t, .int .i64 m] w fun e w' => BldPost w w' p C A xs root vis L m f t e := by
  induction n using Nat.strongRecOn with
  | ind n ih =>
    intro w C A xs f t h hlen hr had hn hn1 ht hlive
    by_cases h1 : n = 1
    · exact tBuild_leaf h hlen hr hc hL hm (by omega) ht (by omega)
    · obtain ⟨k, hk⟩ : ∃ k, k = (f + t) / 2 := ⟨_, rfl⟩
      have hp0 : 0 < m := by omega
      have IHA := Lib.hid (ih (k - f) (by omega) w C A xs f k h hlen hr had rfl (by omega) (by omega) (by omega))
      have HIB : Hid (∀ w2 Ta C2 A2 x2, BldStep w w2 p C A xs root vis Ta C2 A2 x2 → Bld L m f k Ta.st → Calls Tryd.prog 61 #[.pointer (some ⟨p, 0, none⟩), .slice a L.length c, .int .i64 k, .int .i64 t, .int .i64 m] w2 fun e w' => BldPost w2 w' p C2 A2 x2 root vis L m k t e) := by
        intro w2 Ta C2 A2 x2 Sa Ba
        have hs := Sa.chg.size
        refine ih (t - k) (by omega) w2 C2 A2 x2 k t Sa.head Sa.len (hr.chg Sa.chg (fun ad h => (had ad h).1)) (fun ad h => ⟨fun hc2 => ?_, ?_⟩) rfl (by omega) ht ?_
        · rcases Sa.newC _ hc2 with h2 | h2
          · exact (had ad h).1 h2
          · have := (had ad h).2; omega
        · have := (had ad h).2; omega
        · have e1 := Ba.leaves; have e2 := Ta.st.size_leaves; have e3 := Sa.live; have e4 := Sa.max; omega
      have small : ∀ {f' t' : Nat} {T : ST}, Bld L m f' t' T → f' ≤ t' → t' ≤ m → Small T := by
        intro f' t' T hB h1 h2
        have e0 := segL_len (L := L) h1 h2 hp0
        have e1 := seg_top (n := L.length) h2 hp0
        have e2 := T.high_size; have e3 := T.size_leaves; have e4 := hB.leaves
        refine ⟨?_, by omega⟩
        rw [hB.bits, e0]; exact Nat.le_trans (Nat.sub_le _ _) (Nat.le_trans e1 (by omega))
      have HP : Hid (∀ w2 Ta C2 A2 x2 w3 Tb C3 A3 x3, BldStep w w2 p C A xs root vis Ta C2 A2 x2 → Bld L m f k Ta.st → BldStep w2 w3 p C2 A2 x2 root vis Tb C3 A3 x3 → Bld L m k t Tb.st →
          Calls Tryd.prog 93 #[.pointer (some ⟨p, 0, none⟩), .int .i64 Ta.num, .int .i64 Tb.num] w3 fun e w' => BldPost w w' p C A xs root vis L m f t e) := by
        intro w2 Ta C2 A2 x2 w3 Tb C3 A3 x3 Sa Ba Sb Bb
        have e1 := Ba.leaves; have e2 := Ta.st.size_leaves; have e3 := Sa.live; have e4 := Sa.max
        have g1 := Bb.leaves; have g2 := Tb.st.size_leaves; have g3 := Sb.live; have g4 := Sb.max
        refine (tPair_any Sb.head Sb.len (by omega) (Sa.subA Sb) Sb.sub (fun j hj => (Sb.keep j (Sa.own.tk j hj)).2.1) Sb.own.tk (small Ba (by omega) (by omega)) (small Bb (by omega) (by omega))).mono ?_
        intro e w' hN
        exact Sa.joined Sb hN (bld_pair hp0 (by omega) ht (hk ▸ Ba) (hk ▸ Bb))
      have hbt : t ≤ 16777217 := by omega
      have hft : f ≤ t := by omega
      have d0 : ((t : Int) - (f : Int) == 1) = false := by rw [beq_eq_false_iff_ne]; omega
      have d1 : IntKind.i64.wrap ((t : Int) - (f : Int)) = (t : Int) - (f : Int) := IntWalk.i64_in _ (by omega)
      obtain ⟨ft, hfteq⟩ : ∃ ft, ft = f + t := ⟨_, rfl⟩
      have hw0 : (f : Int) + (t : Int) = (ft : Int) := by omega
      have hw1 : IntKind.i64.wrap (ft : Int) = (ft : Int) := IntWalk.i64_in _ (by omega)
      have hw3 : (ft : Int) / 2 = (k : Int) := by omega
      have hw4 : IntKind.i64.wrap (k : Int) = (k : Int) := IntWalk.i64_in _ (by omega)
      have hw5 : IntKind.i64.wrap ((ft : Int).tdiv 2) = (k : Int) := by rw [Int.tdiv_eq_ediv_of_nonneg (by omega), hw3, hw4]
      have hw6 : IntKind.i64.wrap ((ft : Int) / 2) = (k : Int) := by rw [hw3, hw4]
      clear h hlen hr had hlive ih small hm hL hc hk hfteq
      generalize L.length = n0 at *
      go_enter Tryd.func61, Tryd.ntmps61
      go_wp2_with fail
      refine IHA.out.mono ?_
      rintro e w2 ⟨Ta, C2, A2, x2, rfl, Sa, Ba⟩
      have HSa := Lib.hid Sa
      have HBa := Lib.hid Ba
      have IHB := Lib.hid (HIB.out w2 Ta C2 A2 x2 Sa Ba)
      clear Sa Ba HIB IHA
      go_wp2_with fail
      refine IHB.out.mono ?_
      rintro e w3 ⟨Tb, C3, A3, x3, rfl, Sb, Bb⟩
      have HPP := Lib.hid (HP.out w2 Ta C2 A2 x2 w3 Tb C3 A3 x3 HSa.out HBa.out Sb Bb)
      clear Sb Bb HP IHB HSa HBa
      go_wp2_with fail
      refine HPP.out.mono ?_
      rintro e w4 hh
      have HF := Lib.hid hh
      obtain ⟨T', C', A', xs', rfl, _, _⟩ := hh
      go_wp2_with fail
      go_ret
      exact HF.out

end Go.Proofs.YtcppgpjodfeigaaDoor

namespace Go.Proofs.YtcppgpjodfeigaaDoor
set_option linter.unusedVariables false
set_option linter.unusedSimpArgs false
open Go.RowKit

def boxT (ap : Nat) : Obj := .cells #[.pointer (some ⟨ap, 0, none⟩), .slice none 0 0, .int .i64 (-1), .int .i64 0] 83
theorem head_new {w w1 : World} (hA : IsArena w1 w.heap.size (fun k => k = w.heap.size) (Ar.new 268435456)) (hc : Chg (fun _ => False) w w1) :
    Head (w1.alloc (boxT w.heap.size)) w1.heap.size (fun k => k = w1.heap.size ∨ k = w.heap.size) (Ar.new 268435456) [] (-1) 0 := by
  refine ⟨w.heap.size, fun k => k = w.heap.size, none, 0, ?_, hA.chg (Chg.refl.alloc (S := fun _ => False) (boxT w.heap.size)) (fun _ _ h => h), World.ownsRow_nil _ _ _ _, fun k => ?_⟩
  · change (w1.heap.push (boxT w.heap.size))[w1.heap.size]? = _
    rw [Array.getElem?_push_size]; rfl
  · simp

theorem tNew_nil (w : World) (a : Option Addr) (c : Nat) : Calls Tryd.prog 18 #[.slice a 0 c] w fun e w' => ∃ p q, e = .returned (.pointer (some ⟨p, 0, none⟩)) ∧ w.heap.size ≤ p ∧ w.heap.size ≤ q ∧ Head w' p (fun k => k = p ∨ k = q) (Ar.new 268435456) [] (-1) 0 ∧ Chg (fun _ => False) w w' := by
  have HA : Hid (Calls Tryd.prog 60 #[.int .i64 268435456] w fun e w' => e = .returned (.pointer (some ⟨w.heap.size, 0, none⟩)) ∧ IsArena w' w.heap.size (fun k => k = w.heap.size) (Ar.new 268435456) ∧ Chg (fun _ => False) w w') := arNew_good 268435456 w (by omega)
  go_enter Tryd.func18, Tryd.ntmps18
  go_wp2_with fail
  refine HA.out.mono ?_
  rintro e w1 ⟨rfl, hA, hc⟩
  have HP := Lib.hid (head_new hA hc)
  have HC := Lib.hid hc
  have hs := Lib.hid hc.size
  clear hA hc
  go_wp2_with fail
  go_ret
  exact ⟨w1.heap.size, w.heap.size, rfl, hs.out, Nat.le_refl _, HP.out, HC.out.alloc _⟩

end Go.Proofs.YtcppgpjodfeigaaDoor

namespace Go.Proofs.YtcppgpjodfeigaaDoor
set_option linter.unusedVariables false
set_option linter.unusedSimpArgs false
open Go.RowKit

set_option maxHeartbeats 3200000 in
set_option maxRecDepth 100000 in
theorem tNew_some (w : World) {a : Option Addr} {c : Nat} {L : List Bool} (hr : ReadsV w a (L.map Value.bool)) (hc : L.length ≤ c) (hL : L.length ≤ 2147483648) (h0 : 0 < L.length) (had : ∀ ad, a = some ad → ad.block < w.heap.size) :
    Calls Tryd.prog 18 #[.slice a L.length c] w fun e w' => ∃ p st S, e = .returned (.pointer (some ⟨p, 0, none⟩)) ∧ TreeIs S w' p (some st) st.size 0 ∧ (∀ k, S k → w.heap.size ≤ k) ∧ st.bits = L ∧ Chg (fun _ => False) w w' := by
  have HA : Hid (Calls Tryd.prog 60 #[.int .i64 268435456] w fun e w' => e = .returned (.pointer (some ⟨w.heap.size, 0, none⟩)) ∧ IsArena w' w.heap.size (fun k => k = w.heap.size) (Ar.new 268435456) ∧ Chg (fun _ => False) w w') := arNew_good 268435456 w (by omega)
  obtain ⟨m, hm⟩ : ∃ m, m = (L.length + 127) / 128 := ⟨_, rfl⟩
  have hm1 : 0 < m := by omega
  obtain ⟨z, hz⟩ : ∃ z, z = L.length + 127 := ⟨_, rfl⟩
  have q1 : (L.length : Int) + 128 - 1 = (z : Int) := by omega
  have q3 : (z : Int) / 128 = (m : Int) := by omega
  have q4 : IntKind.i64.wrap (m : Int) = (m : Int) := IntWalk.i64_in _ (by omega)
  have q5 : IntKind.i64.wrap ((z : Int) / 128) = (m : Int) := by rw [q3, q4]
  have q6 : decide ((0 : Int) < (m : Int)) = true := by simp; omega
  have HR := Lib.hid hr
  have HAD := Lib.hid had
  have HT : Hid (∀ w1, IsArena w1 w.heap.size (fun k => k = w.heap.size) (Ar.new 268435456) → Chg (fun _ => False) w w1 → Calls Tryd.prog 61 #[.pointer (some ⟨w1.heap.size, 0, none⟩), .slice a L.length c, .int .i64 0, .int .i64 m, .int .i64 m] (w1.alloc (boxT w.heap.size)) fun e w' =>
      ∃ (T' : TT) (w0 : World), e = .returned (.int .i64 T'.num) ∧ w' = w0 ∧ w0.cell? ⟨w1.heap.size, 2, none⟩ = some (.int .i64 (-1)) ∧ w0.frozen? ⟨w1.heap.size, 2, none⟩ = false ∧ Hid (∃ st S, TreeIs S (w0.setCell ⟨w1.heap.size, 2, none⟩ (.int .i64 T'.num)) w1.heap.size (some st) st.size 0 ∧ (∀ k, S k → w.heap.size ≤ k) ∧ st.bits = L ∧ Chg (fun _ => False) w (w0.setCell ⟨w1.heap.size, 2, none⟩ (.int .i64 T'.num)))) := by
    intro w1 hA hc1
    have hH := head_new hA hc1
    have hs1 := hc1.size
    have g1 : Chg (fun _ => False) w (w1.alloc (boxT w.heap.size)) := hc1.alloc _
    have hs2 := g1.size
    refine (tBuild_any hc hL hm m _ _ _ _ 0 m hH rfl (hr.chg g1 (fun _ _ h => h)) (fun ad h => ⟨?_, ?_⟩) (by omega) hm1 (Nat.le_refl _) (by simp [Ar.new, Ar.live]; omega)).mono ?_
    · have := had ad h; rintro (e | e) <;> omega
    · have := had ad h; omega
    rintro e w' ⟨T', C', A', xs', rfl, S, B⟩
    obtain ⟨b1, b2, b3⟩ := bld_root hm hm1 B
    have hC' : ∀ j, C' j → w.heap.size ≤ j := fun j hj => by
      rcases S.newC j hj with (h | h) | h <;> omega
    obtain ⟨_, y2, _, yf⟩ := S.head.cells
    refine ⟨T', w', rfl, rfl, y2, yf 2, T'.st, fun k => C' k ∨ k ∈ T'.bl, ⟨⟨C', A', xs', some T', S.head.set2 _, ?_, S.own, S.len, ?_, ?_, rfl, ?_, fun k => Iff.rfl⟩, ⟨b2, b3⟩, ?_⟩, ?_, b1, ?_⟩
    · exact S.sub.chgC S.head (S.head.chg3 _ 2) (fun _ _ => rfl)
    · have := S.live; simp [Ar.new, Ar.live] at this; simpa [osz, Ar.live] using this
    · exact S.max
    · have h1 := S.live; have h2 := S.fr rfl; simp [Ar.new, Ar.live, h2] at h1; exact h1.symm
    · change T'.st.bits.length ≤ _; rw [b1]; exact hL
    · rintro k (hk | hk)
      · exact hC' k hk
      · have := S.newB k hk; omega
    · exact ((g1.trans S.chg (fun j hj => Or.inr (by rcases hj with h | h <;> omega))).trans (S.head.chg3 _ 2) (fun j hj => Or.inr (hC' j hj)))
  have q7 : IntKind.i64.wrap ((L.length : Int) + 128) = (L.length : Int) + 128 := IntWalk.i64_in _ (by omega)
  have q8 : IntKind.i64.wrap (z : Int) = (z : Int) := IntWalk.i64_in _ (by omega)
  have q9 : (L.length : Int) + 127 = (z : Int) := by omega
  clear hr had hz hm hc
  generalize L.length = n0 at *
  go_enter Tryd.func18, Tryd.ntmps18
  go_wp2_with fail
  refine HA.out.mono ?_
  rintro e w1 ⟨rfl, hA, hc⟩
  have HB := Lib.hid (HT.out w1 hA hc)
  have hs := Lib.hid hc.size
  clear hA hc HT HA
  go_wp2_with fail
  refine HB.out.mono ?_
  rintro e w2 ⟨T', w0, rfl, rfl, y2, yf, HP⟩
  go_wp2_with fail
  go_ret
  obtain ⟨st, S, h1, h2, h3, h4⟩ := HP.out
  exact ⟨w1.heap.size, st, S, rfl, h1, h2, h3, h4⟩

end Go.Proofs.YtcppgpjodfeigaaDoor

namespace Go.Proofs.YtcppgpjodfeigaaDoor
set_option linter.unusedVariables false
set_option linter.unusedSimpArgs false
open Go.RowKit

theorem tFew_any {w : World} {p : Nat} {C : Nat → Prop} {A : Ar} {xs : List Nd} {root vis : Int} {T : TT} (h : Head w p C A xs root vis) (hS : Sub w xs T) :
    Calls Tryd.prog 120 #[.pointer (some ⟨p, 0, none⟩), .int .i64 T.num] w fun e w' => e = .returned (.bool T.st.few) ∧ w = w' := by
  have hr := hS.root
  obtain ⟨g, rc, cur, c1, _⟩ := h.row (by have := (List.getElem?_eq_some_iff.1 hr).1; omega)
  obtain ⟨_, _, hk, _⟩ := h.node c1 hr
  obtain ⟨_, _, _, a3, _, _, _, a7⟩ := h.eight c1 hr
  cases T with
  | leaf kn q l =>
    change Calls Tryd.prog _ #[.pointer (some ⟨p, 0, none⟩), .int .i64 (kn : Int)] w _
    change w.cell? ⟨g, kn * 8 + 7, none⟩ = some (.pointer (some ⟨q, 0, none⟩)) at a7
    change w.cell? ⟨g, kn * 8 + 3, none⟩ = some (.int .i64 (l.length : Int)) at a3
    change kn < xs.length at hk
    clear h hS hr
    have HR : Hid ((TT.leaf kn q l).st.few = decide (l.length < 32)) := rfl
    by_cases hl : l.length < 32
    · have d1 : decide ((l.length : Int) < 32) = true := decide_eq_true (by omega)
      go_enter Tryd.func120, Tryd.ntmps120
      go_wp2_with fail
      go_ret
      exact ⟨ret_bool (by rw [HR.out]; exact (decide_eq_true hl).symm), rfl⟩
    · have d1 : decide ((l.length : Int) < 32) = false := decide_eq_false (by omega)
      go_enter Tryd.func120, Tryd.ntmps120
      go_wp2_with fail
      go_ret
      exact ⟨ret_bool (by rw [HR.out]; exact (decide_eq_false hl).symm), rfl⟩
  | pair kn a b =>
    change Calls Tryd.prog _ #[.pointer (some ⟨p, 0, none⟩), .int .i64 (kn : Int)] w _
    change w.cell? ⟨g, kn * 8 + 7, none⟩ = some (.pointer none) at a7
    change kn < xs.length at hk
    clear h hS hr a3
    have HR : Hid ((TT.pair kn a b).st.few = false) := rfl
    go_enter Tryd.func120, Tryd.ntmps120
    go_wp2_with fail
    go_ret
    exact ⟨ret_bool HR.out.symm, rfl⟩

set_option maxHeartbeats 1600000 in
/-- level, where both leaves' bits go into the first one. -/
theorem tLev_join {w : World} {p : Nat} {C : Nat → Prop} {A : Ar} {xs : List Nd} {root vis : Int} (h : Head w p C A xs root vis) {i j qa qb : Nat} {la lb : List Bool} (hi : Sub w xs (.leaf i qa la)) (hj : Sub w xs (.leaf j qb lb)) (hq : qa ≠ qb) (hl : la.length + lb.length ≤ 128) :
    Calls Tryd.prog 121 #[.pointer (some ⟨p, 0, none⟩), .int .i64 i, .int .i64 j] w fun e w' => e = .returned (.bool false) ∧ Head w' p C A (xs.set i (TT.leaf i qa (la ++ lb)).nd) root vis ∧ IsBlock w' qa (la ++ lb) ∧ Chg (fun b => C b ∨ b = qa ∨ b = qb) w w' := by
  have hx := hi.root
  have hy := hj.root
  obtain ⟨g, rc, cur, c1, _⟩ := h.row (by have := (List.getElem?_eq_some_iff.1 hx).1; omega)
  obtain ⟨_, _, hix, _⟩ := h.node c1 hx
  obtain ⟨_, _, hjx, _⟩ := h.node c1 hy
  obtain ⟨_, _, _, _, _, _, _, a7⟩ := h.eight c1 hx
  obtain ⟨_, _, _, _, _, _, _, b7⟩ := h.eight c1 hy
  change w.cell? ⟨g, i * 8 + 7, none⟩ = some (.pointer (some ⟨qa, 0, none⟩)) at a7
  change w.cell? ⟨g, j * 8 + 7, none⟩ = some (.pointer (some ⟨qb, 0, none⟩)) at b7
  change i < xs.length at hix
  change j < xs.length at hjx
  have HJ : Hid (∀ n, Calls Tryd.prog 122 #[.pointer (some ⟨qa, 0, none⟩), .pointer (some ⟨qb, 0, none⟩)] (w.drewN n) (JoinPost (w.drewN n) qa qb la lb)) := fun n => blkJoin (w := w.drewN n) hi.2 hj.2 hq hl
  have H := Lib.hid h
  have HX : Hid (xs[i]? = some (TT.leaf i qa la).nd) := hx
  have HN : Hid (¬ C qa ∧ ¬ C qb) := ⟨h.notBlk hi.2.type, h.notBlk hj.2.type⟩
  clear h hi hj hx hy hq
  go_enter Tryd.func121, Tryd.ntmps121
  go_wp2_with fail
  go_quiet (fail)
  obtain ⟨n1, rfl⟩ : ∃ n1, n1 = nq := ⟨_, rfl⟩
  go_wp2_with fail
  refine (HJ.out n1).mono ?_
  rintro e w2 ⟨rfl, hb2, hb3, c2⟩
  have h2 := (H.out.drewN n1).chg c2 (fun b hb e => e.elim (fun e => HN.out.1 (e ▸ hb)) (fun e => HN.out.2 (e ▸ hb)))
  have HF := Lib.hid (tFix_leaf h2 HX.out rfl hb2)
  have H2 := Lib.hid h2
  have HB2 := Lib.hid hb2
  have C2 : Hid (Chg (fun b => C b ∨ b = qa ∨ b = qb) w w2) := ((Chg.refl (S := fun b => C b ∨ b = qa ∨ b = qb)).drewN n1).trans c2 (fun b e => Or.inl (Or.inr e))
  clear h2 hb2 hb3 c2
  go_wp2_with fail
  refine HF.out.mono ?_
  rintro e w3 ⟨rfl, h3, c3⟩
  have H3 := Lib.hid h3
  have C3 := Lib.hid (H2.out.chgRow c3)
  clear h3 c3
  go_wp2_with fail
  go_ret
  exact ⟨rfl, H3.out, HB2.out.chg C3.out (H2.out.notBlk HB2.out.type), C2.out.trans C3.out (fun b hb => Or.inl (Or.inl hb))⟩

end Go.Proofs.YtcppgpjodfeigaaDoor

namespace Go.Proofs.YtcppgpjodfeigaaDoor
set_option linter.unusedVariables false
set_option linter.unusedSimpArgs false
open Go.RowKit

set_option maxHeartbeats 6400000 in
set_option maxRecDepth 100000 in
/-- level, where the bits are too many for one leaf. -/
theorem tLev_split {w : World} {p : Nat} {C : Nat → Prop} {A : Ar} {xs : List Nd} {root vis : Int} (h : Head w p C A xs root vis) {i j qa qb : Nat} {la lb : List Bool} (hi : Sub w xs (.leaf i qa la)) (hj : Sub w xs (.leaf j qb lb)) (hij : i ≠ j) (hq : qa ≠ qb) (hl : 128 < la.length + lb.length) :
    Calls Tryd.prog 121 #[.pointer (some ⟨p, 0, none⟩), .int .i64 i, .int .i64 j] w fun e w' => e = .returned (.bool true) ∧ ∃ q1 q2, w.heap.size ≤ q1 ∧ w.heap.size ≤ q2 ∧ q1 ≠ q2 ∧
      Head w' p C A ((xs.set i (TT.leaf i q1 ((la ++ lb).take ((la.length + lb.length) / 2))).nd).set j (TT.leaf j q2 ((la ++ lb).drop ((la.length + lb.length) / 2))).nd) root vis ∧
      IsBlock w' q1 ((la ++ lb).take ((la.length + lb.length) / 2)) ∧ IsBlock w' q2 ((la ++ lb).drop ((la.length + lb.length) / 2)) ∧ Chg C w w' := by
  have hx := hi.root
  have hy := hj.root
  have ka := hi.2.1
  have kb := hj.2.1
  obtain ⟨g, rc, cur, c1, hgp, hCg, _⟩ := h.row (by have := (List.getElem?_eq_some_iff.1 hx).1; omega)
  obtain ⟨_, _, hix, _⟩ := h.node c1 hx
  obtain ⟨_, _, hjx, _⟩ := h.node c1 hy
  obtain ⟨_, _, _, _, _, _, _, a7⟩ := h.eight c1 hx
  obtain ⟨_, _, _, _, _, _, _, b7⟩ := h.eight c1 hy
  change w.cell? ⟨g, i * 8 + 7, none⟩ = some (.pointer (some ⟨qa, 0, none⟩)) at a7
  change w.cell? ⟨g, j * 8 + 7, none⟩ = some (.pointer (some ⟨qb, 0, none⟩)) at b7
  change i < xs.length at hix
  change j < xs.length at hjx
  have HJ : Hid (∀ n, Calls Tryd.prog 122 #[.pointer (some ⟨qa, 0, none⟩), .pointer (some ⟨qb, 0, none⟩)] (w.drewN n) fun e w' => e = .returned (.int .i64 3) ∧ ∃ m, w' = (w.drewN n).drewN m) := fun n => blkJoin_full (w := w.drewN n) hi.2 hj.2 hq hl
  have HA : Hid (∀ n, IsBlock (w.drewN n) qa la) := fun n => hi.2
  have HB : Hid (∀ n, IsBlock (w.drewN n) qb lb) := fun n => hj.2
  have H := Lib.hid h
  have HC1 := Lib.hid c1
  have HX : Hid (xs[i]? = some (TT.leaf i qa la).nd) := hx
  have HY : Hid (xs[j]? = some (TT.leaf j qb lb).nd) := hy
  have HIJ := Lib.hid hij
  have hgw := h.lt g hCg
  have hpw := h.lt p h.self
  clear h hi hj hx hy hq hij hCg
  go_enter Tryd.func121, Tryd.ntmps121
  go_wp2_with fail
  go_quiet (fail)
  obtain ⟨n1, rfl⟩ : ∃ n1, n1 = nq := ⟨_, rfl⟩
  go_wp2_with fail
  refine (HJ.out n1).mono ?_
  rintro e w' ⟨rfl, m, rfl⟩
  have HW0 : Hid (∀ n, Below w.heap.size w (w.drewN n)) := fun n => ⟨rfl, rfl, rfl, Nat.le_refl _, fun _ _ => rfl⟩
  go_wp2_with fail
  refine (blkAll (HA.out _)).mono ?_
  rintro e w2 ⟨v, rfl, hown, hb1⟩
  have HB2 := Lib.hid ((HB.out _).below' hb1)
  have hbw2 : Below w.heap.size w w2 := (HW0.out _).trans hb1
  have hown : w2.ownsRow w.heap.size 4 1 v la.length (la.map Value.bool) := hown
  have HO2 := Lib.hid hown
  have hs2 := hbw2.size
  have HW2 := Lib.hid hbw2
  clear hown hb1 hbw2
  go_wp2_with fail
  refine (blkAll HB2.out).mono ?_
  rintro e w3 ⟨v3, rfl, hown3, hb3⟩
  have hown := own_below HO2.out hb3 (fun k hk => (own_lt HO2.out hk).2)
  obtain ⟨a3, c3, rfl, hnil3, _⟩ := own_slice hown3
  have hrd3 := readsV_own hown3
  have hbw3 : Below w.heap.size w w3 := HW2.out.trans (hb3.mono hs2)
  have hs3 := hbw3.size
  have HO3 := Lib.hid hown
  have HR3 := Lib.hid hrd3
  have HN3 := Lib.hid hnil3
  have HW3 := Lib.hid hbw3
  clear hown3 hown hb3 hrd3 hnil3 hbw3
  go_wp2_with (at_builtin; refine wpList_appendL rfl _ _ 23 rfl w.heap.size 4 Tryd.infoBoolR Tryd.underlying23 rfl _ la.length _ rfl HO3.out a3 lb.length c3 (lb.map Value.bool) rfl (by simp) HN3.out HR3.out.hnews (oneB _) (by unfold maxLen; omega) (by omega) (by omega) ?_)
  intro a4 c4 w4 hown4 hgrow _
  have hbw4 : Below w.heap.size w w4 := HW3.out.trans ((Below.refl _ _).grown hgrow hs3 (fun k hk => (own_lt HO3.out hk).1))
  obtain ⟨_, hcap, _⟩ : ∃ x, la.length + lb.length ≤ c4 ∧ x = 0 := by
    obtain ⟨gg, cap, hv, _, _, h5, _⟩ := own_some hown4 (by omega)
    injection hv with _ _ e3
    exact ⟨0, by rw [e3]; exact h5, rfl⟩
  obtain ⟨a4', c4', hv4, _, hab4⟩ := own_slice hown4
  injection hv4 with e1 e2 e3
  subst e1
  clear e2 e3
  have hrd4 := readsV_own hown4
  rw [← List.map_append] at hrd4
  have hall : (la ++ lb).length = la.length + lb.length := List.length_append
  have hN : la.length + lb.length ≤ 256 := by omega
  generalize hae : la ++ lb = all at *
  generalize hne : la.length + lb.length = N at *
  have HAE := Lib.hid hae
  have HNE := Lib.hid hne
  clear hae hne
  obtain ⟨M, hM⟩ : ∃ M, M = N / 2 := ⟨_, rfl⟩
  have hM2 : M ≤ N ∧ M ≤ 128 ∧ N - M ≤ 128 ∧ N ≤ 256 := by omega
  obtain ⟨hm1, hm2, hm3, hm4⟩ := hM2
  have hwr : IntKind.i64.wrap (M : Int) = (M : Int) := IntWalk.i64_in _ (by omega)
  have hwr2 : ((N : Int) / 2) = (M : Int) := by omega
  have hs1 := fun (w : World) => run_sliceTo (P := Tryd.prog) (w := w) (t := 23) (a := a4) (len := N) (cap := c4) (k := M) Tryd.underlying23 (by kernel_rfl) (by omega)
  have hs5 := fun (w : World) => run_sliceFrom (P := Tryd.prog) (w := w) (t := 23) (a := a4) (len := N) (cap := c4) (k := M) Tryd.underlying23 (by kernel_rfl) (by omega)
  have HT4 : Hid (ReadsV w4 a4 ((all.take M).map Value.bool)) := by rw [List.map_take]; exact hrd4.take M
  have HD4 : Hid (ReadsV w4 (offA a4 M c4) ((all.drop M).map Value.bool)) := by rw [List.map_drop]; exact hrd4.drop (by simpa [hall] using hcap)
  have hoff : ∀ ad, offA a4 M c4 = some ad → w.heap.size ≤ ad.block := by
    intro ad had
    unfold offA at had
    split at had
    · obtain ⟨gg, rfl, hg, _⟩ := hab4 _ had; exact hg
    · cases a4 with
      | none => cases had
      | some x =>
        obtain ⟨gg, rfl, hg, _⟩ := hab4 _ rfl
        simp [Addr.add_lit] at had
        subst had; exact hg
  have hl1 : (all.take M).length = M := by rw [List.length_take]; omega
  have hl2 : (all.drop M).length = N - M := by rw [List.length_drop]; omega
  have r4 := (hbw4.cell (p := ⟨p, 1, none⟩) hpw).trans c1
  have s7 := (hbw4.cell (p := ⟨g, i * 8 + 7, none⟩) hgw).trans a7
  have t7 := (hbw4.cell (p := ⟨g, j * 8 + 7, none⟩) hgw).trans b7
  have h4 := H.out.below hbw4
  have z4 := (h4.node r4 HX.out).2.1
  have z1 := z4 (i * 8 + 7)
  have z2 := z4 (j * 8 + 7)
  have hne7 : ¬ (j * 8 + 7 = i * 8 + 7) := by have := HIJ.out; omega
  have hs4 := hbw4.size
  have HOFF := Lib.hid hoff
  have HW4 := Lib.hid hbw4
  have H4 := Lib.hid h4
  have HL1 := Lib.hid hl1
  have HL2 := Lib.hid hl2
  have HALL := Lib.hid hall
  have HM := Lib.hid hM
  have hnew := blkNew w4.drew a4 c4 (all.take M) HT4.out (by rw [hl1]; omega)
  rw [hl1] at hnew
  have HNEW := Lib.hid hnew
  clear hown4 hgrow hrd4 hab4 hoff hbw4 h4 z4 hl1 hl2 hall hM hnew a7 b7 c1 HJ HA HB HB2 HO2 HO3 HR3 HN3 HW2 HW3 hcap HW0
  go_wp2_with fail
  -- REGION six
  refine reg_start (fun w' => w'.cell? ⟨p, 1, none⟩ = some (.slice (some ⟨g, 0, none⟩) xs.length rc)) (by kernel_rfl) (r4) (fun hHeld => ?_)
  refine reg_take (i := 0) (v := ?vsix0) rfl (by kernel_rfl) rfl hHeld ?ysix0 ?rsix0
  case ysix0 => (intro w hSw; (try dsimp only at hSw); go_simp; all_goals with_reducible rfl)
  try simp only [Act.put, List.setIfInBounds_toArray, List.set_cons_zero, List.set_cons_succ]
  refine reg_take (i := 1) (v := ?vsix1) rfl (by kernel_rfl) rfl hHeld ?ysix1 ?rsix1
  case ysix1 => (intro w hSw; (try dsimp only at hSw); go_simp; all_goals with_reducible rfl)
  try simp only [Act.put, List.setIfInBounds_toArray, List.set_cons_zero, List.set_cons_succ]
  refine reg_take (i := 2) (v := ?vsix2) rfl (by kernel_rfl) rfl hHeld ?ysix2 ?rsix2
  case ysix2 => (intro w hSw; (try dsimp only at hSw); go_simp; all_goals with_reducible rfl)
  try simp only [Act.put, List.setIfInBounds_toArray, List.set_cons_zero, List.set_cons_succ]
  refine reg_take (i := 3) (v := ?vsix3) rfl (by kernel_rfl) rfl hHeld ?ysix3 ?rsix3
  case ysix3 => (intro w hSw; (try dsimp only at hSw); go_simp; all_goals with_reducible rfl)
  try simp only [Act.put, List.setIfInBounds_toArray, List.set_cons_zero, List.set_cons_succ]
  refine reg_take (i := 4) (v := ?vsix4) rfl (by kernel_rfl) rfl hHeld ?ysix4 ?rsix4
  case ysix4 => (intro w hSw; (try dsimp only at hSw); go_simp; all_goals with_reducible rfl)
  try simp only [Act.put, List.setIfInBounds_toArray, List.set_cons_zero, List.set_cons_succ]
  refine reg_take (i := 5) (v := ?vsix5) rfl (by kernel_rfl) rfl hHeld ?ysix5 ?rsix5
  case ysix5 => (intro w hSw; (try dsimp only at hSw); go_simp; all_goals with_reducible rfl)
  try simp only [Act.put, List.setIfInBounds_toArray, List.set_cons_zero, List.set_cons_succ]
  refine reg_take (i := 6) (v := ?vsix6) rfl (by kernel_rfl) rfl hHeld ?ysix6 ?rsix6
  case ysix6 => (intro w hSw; (try dsimp only at hSw); go_simp; all_goals with_reducible rfl)
  try simp only [Act.put, List.setIfInBounds_toArray, List.set_cons_zero, List.set_cons_succ]
  refine reg_take (i := 7) (v := ?vsix7) rfl (by kernel_rfl) rfl hHeld ?ysix7 ?rsix7
  case ysix7 => (intro w hSw; (try dsimp only at hSw); go_simp; all_goals with_reducible rfl)
  try simp only [Act.put, List.setIfInBounds_toArray, List.set_cons_zero, List.set_cons_succ]
  refine reg_take (i := 8) (v := ?vsix8) rfl (by kernel_rfl) rfl hHeld ?ysix8 ?rsix8
  case ysix8 => (intro w hSw; (try dsimp only at hSw); go_simp; all_goals with_reducible rfl)
  try simp only [Act.put, List.setIfInBounds_toArray, List.set_cons_zero, List.set_cons_succ]
  refine reg_take (i := 9) (v := ?vsix9) rfl (by kernel_rfl) rfl hHeld ?ysix9 ?rsix9
  case ysix9 => (intro w hSw; (try dsimp only at hSw); go_simp; all_goals with_reducible rfl)
  try simp only [Act.put, List.setIfInBounds_toArray, List.set_cons_zero, List.set_cons_succ]
  refine reg_loud (i := 10) rfl (by kernel_rfl) rfl (fun K hK => ?_)
  go_simp
  ((with_reducible refine HNEW.out.mono ?_))
  rintro e w5 ⟨rfl, hq5, hb5⟩
  have r5 : w5.cell? ⟨p, 1, none⟩ = some (.slice (some ⟨g, 0, none⟩) xs.length rc) := (hb5.cell (p := ⟨p, 1, none⟩) (by show p < w4.heap.size; omega)).trans r4
  have s5 : w5.cell? ⟨g, i * 8 + 7, none⟩ = some (.pointer (some ⟨qa, 0, none⟩)) := (hb5.cell (p := ⟨g, i * 8 + 7, none⟩) (by show g < w4.heap.size; omega)).trans s7
  have t5 : w5.cell? ⟨g, j * 8 + 7, none⟩ = some (.pointer (some ⟨qb, 0, none⟩)) := (hb5.cell (p := ⟨g, j * 8 + 7, none⟩) (by show g < w4.heap.size; omega)).trans t7
  have z5 : w5.frozen? ⟨g, i * 8 + 7, none⟩ = false := (hb5.frozen (p := ⟨g, i * 8 + 7, none⟩) (by show g < w4.heap.size; omega)).trans z1
  have y5 : w5.frozen? ⟨g, j * 8 + 7, none⟩ = false := (hb5.frozen (p := ⟨g, j * 8 + 7, none⟩) (by show g < w4.heap.size; omega)).trans z2
  have HQ5 := Lib.hid hq5
  have HB5 := Lib.hid hb5
  clear hq5 hb5
  refine hK.out _ _ (r5) (fun hNew => ?_)
  clear hK K hHeld
  have hHeld := hNew
  clear hNew
  try simp only [Act.put, List.setIfInBounds_toArray, List.set_cons_zero, List.set_cons_succ]
  refine reg_take (i := 11) (v := ?vsix11) rfl (by kernel_rfl) rfl hHeld ?ysix11 ?rsix11
  case ysix11 => (intro w hSw; (try dsimp only at hSw); go_simp; all_goals with_reducible rfl)
  try simp only [Act.put, List.setIfInBounds_toArray, List.set_cons_zero, List.set_cons_succ]
  refine reg_take (i := 12) (v := ?vsix12) rfl (by kernel_rfl) rfl hHeld ?ysix12 ?rsix12
  case ysix12 => (intro w hSw; (try dsimp only at hSw); go_simp; all_goals with_reducible rfl)
  try simp only [Act.put, List.setIfInBounds_toArray, List.set_cons_zero, List.set_cons_succ]
  refine reg_take (i := 13) (v := ?vsix13) rfl (by kernel_rfl) rfl hHeld ?ysix13 ?rsix13
  case ysix13 => (intro w hSw; (try dsimp only at hSw); go_simp; all_goals with_reducible rfl)
  try simp only [Act.put, List.setIfInBounds_toArray, List.set_cons_zero, List.set_cons_succ]
  refine reg_take (i := 14) (v := ?vsix14) rfl (by kernel_rfl) rfl hHeld ?ysix14 ?rsix14
  case ysix14 => (intro w hSw; (try dsimp only at hSw); go_simp; all_goals with_reducible rfl)
  try simp only [Act.put, List.setIfInBounds_toArray, List.set_cons_zero, List.set_cons_succ]
  refine reg_take (i := 15) (v := ?vsix15) rfl (by kernel_rfl) rfl hHeld ?ysix15 ?rsix15
  case ysix15 => (intro w hSw; (try dsimp only at hSw); go_simp; all_goals with_reducible rfl)
  try simp only [Act.put, List.setIfInBounds_toArray, List.set_cons_zero, List.set_cons_succ]
  refine reg_loud (i := 16) rfl (by kernel_rfl) rfl (fun K hK => ?_)
  go_simp
  refine hK.out _ _ ?kpsix16 (fun hNew => ?_)
  case kpsix16 => (go_simp)
  clear hK K hHeld
  have hHeld := hNew
  clear hNew
  try simp only [Act.put, List.setIfInBounds_toArray, List.set_cons_zero, List.set_cons_succ]
  refine reg_done (by kernel_rfl) ?_ _
  -- END OF REGION six
  clear hHeld
  have h5 := H4.out.drew.below HB5.out
  obtain ⟨h6, g6, r6⟩ := h5.put r5 HX.out (i := 7) (v := .pointer (some ⟨w4.heap.size, 0, none⟩)) (x' := ⟨-1, -1, 0, la.length, la.count true, 0, 0, some w4.heap.size⟩) (by omega) rfl
  have hy6 : (xs.set i ⟨-1, -1, 0, la.length, la.count true, 0, 0, some w4.heap.size⟩)[j]? = some (TT.leaf j qb lb).nd := by rw [set_ne HIJ.out.symm]; exact HY.out
  have hx6 : (xs.set i ⟨-1, -1, 0, la.length, la.count true, 0, 0, some w4.heap.size⟩)[i]? = some ⟨-1, -1, 0, la.length, la.count true, 0, 0, some w4.heap.size⟩ := set_get HX.out
  have t6 : (w5.setCell ⟨g, i * 8 + 7, none⟩ (.pointer (some ⟨w4.heap.size, 0, none⟩))).cell? ⟨g, j * 8 + 7, none⟩ = some (.pointer (some ⟨qb, 0, none⟩)) := (h6.eight r6 hy6).2.2.2.2.2.2.2
  have y6 := (h6.node r6 hy6).2.1 (j * 8 + 7)
  have d6 := ((show ReadsV w4.drew (offA a4 M c4) ((all.drop M).map Value.bool) from HD4.out).below' HB5.out).chg g6 (fun ad had e => by have := HOFF.out ad had; rw [e] at this; omega)
  have q6 := HQ5.out.chg g6 (by show ¬ w4.heap.size = g; omega)
  have hc5 : Chg C w w5 := (Chg.of_below HW4.out).trans (Chg.of_below (S := C) (show Below w4.heap.size w4 w5 from ⟨HB5.out.os, HB5.out.tape, HB5.out.output, HB5.out.size, HB5.out.block⟩)) (fun b hb => Or.inl hb)
  have c6 : Chg C w _ := hc5.trans g6 (fun b e => Or.inl (by subst e; exact H.out.rowC ⟨_, _, HC1.out⟩))
  have hs6 := c6.size
  generalize w5.setCell ⟨g, i * 8 + 7, none⟩ (.pointer (some ⟨w4.heap.size, 0, none⟩)) = w6 at *
  have hq1w : w.heap.size ≤ w4.heap.size := hs4
  have q6 : IsBlock w6 w4.heap.size (all.take M) := q6
  obtain ⟨q1, hq1⟩ : ∃ q1, q1 = w4.heap.size := ⟨_, rfl⟩
  rw [← hq1] at h6 hy6 hx6 q6 hq1w
  have len6 : (xs.set i ⟨-1, -1, 0, la.length, la.count true, 0, 0, some q1⟩).length = xs.length := by simp
  have s6 : xs.set i ⟨-1, -1, 0, la.length, la.count true, 0, 0, some q1⟩ = xs.set i ⟨-1, -1, 0, la.length, la.count true, 0, 0, some q1⟩ := rfl
  generalize hx6e : xs.set i ⟨-1, -1, 0, la.length, la.count true, 0, 0, some q1⟩ = xs6 at h6 hy6 hx6 len6
  have HX6E := Lib.hid hx6e
  have hq1s := q6.lt
  have hnew := blkNew w6.drew (offA a4 M c4) (c4 - M) (all.drop M) d6 (by rw [HL2.out]; omega)
  rw [HL2.out] at hnew
  have HNEW2 := Lib.hid hnew
  have H6 := Lib.hid h6
  have HY6 := Lib.hid hy6
  have HX6 := Lib.hid hx6
  have Q6 := Lib.hid q6
  have HC6 := Lib.hid c6
  have L6 := Lib.hid len6
  have hgw6 : g < w6.heap.size := by omega
  have hpw6 : p < w6.heap.size := by omega
  clear h5 h6 g6 hy6 hx6 d6 q6 hc5 c6 hx6e hnew len6 s6 r5 s5 t5 z5 y5 r4 s7 t7 z1 z2 HQ5 HB5 HNEW HT4 HD4 hq1 hown
  go_wp2_with fail
  -- REGION seven
  refine reg_start (fun w' => w'.cell? ⟨p, 1, none⟩ = some (.slice (some ⟨g, 0, none⟩) xs.length rc)) (by kernel_rfl) (r6) (fun hHeld => ?_)
  refine reg_take (i := 0) (v := ?vsev0) rfl (by kernel_rfl) rfl hHeld ?ysev0 ?rsev0
  case ysev0 => (intro w hSw; (try dsimp only at hSw); go_simp; all_goals with_reducible rfl)
  try simp only [Act.put, List.setIfInBounds_toArray, List.set_cons_zero, List.set_cons_succ]
  refine reg_take (i := 1) (v := ?vsev1) rfl (by kernel_rfl) rfl hHeld ?ysev1 ?rsev1
  case ysev1 => (intro w hSw; (try dsimp only at hSw); go_simp; all_goals with_reducible rfl)
  try simp only [Act.put, List.setIfInBounds_toArray, List.set_cons_zero, List.set_cons_succ]
  refine reg_take (i := 2) (v := ?vsev2) rfl (by kernel_rfl) rfl hHeld ?ysev2 ?rsev2
  case ysev2 => (intro w hSw; (try dsimp only at hSw); go_simp; all_goals with_reducible rfl)
  try simp only [Act.put, List.setIfInBounds_toArray, List.set_cons_zero, List.set_cons_succ]
  refine reg_take (i := 3) (v := ?vsev3) rfl (by kernel_rfl) rfl hHeld ?ysev3 ?rsev3
  case ysev3 => (intro w hSw; (try dsimp only at hSw); go_simp; all_goals with_reducible rfl)
  try simp only [Act.put, List.setIfInBounds_toArray, List.set_cons_zero, List.set_cons_succ]
  refine reg_take (i := 4) (v := ?vsev4) rfl (by kernel_rfl) rfl hHeld ?ysev4 ?rsev4
  case ysev4 => (intro w hSw; (try dsimp only at hSw); go_simp; all_goals with_reducible rfl)
  try simp only [Act.put, List.setIfInBounds_toArray, List.set_cons_zero, List.set_cons_succ]
  refine reg_take (i := 5) (v := ?vsev5) rfl (by kernel_rfl) rfl hHeld ?ysev5 ?rsev5
  case ysev5 => (intro w hSw; (try dsimp only at hSw); go_simp; all_goals with_reducible rfl)
  try simp only [Act.put, List.setIfInBounds_toArray, List.set_cons_zero, List.set_cons_succ]
  refine reg_take (i := 6) (v := ?vsev6) rfl (by kernel_rfl) rfl hHeld ?ysev6 ?rsev6
  case ysev6 => (intro w hSw; (try dsimp only at hSw); go_simp; all_goals with_reducible rfl)
  try simp only [Act.put, List.setIfInBounds_toArray, List.set_cons_zero, List.set_cons_succ]
  refine reg_take (i := 7) (v := ?vsev7) rfl (by kernel_rfl) rfl hHeld ?ysev7 ?rsev7
  case ysev7 => (intro w hSw; (try dsimp only at hSw); go_simp; all_goals with_reducible rfl)
  try simp only [Act.put, List.setIfInBounds_toArray, List.set_cons_zero, List.set_cons_succ]
  refine reg_take (i := 8) (v := ?vsev8) rfl (by kernel_rfl) rfl hHeld ?ysev8 ?rsev8
  case ysev8 => (intro w hSw; (try dsimp only at hSw); go_simp; all_goals with_reducible rfl)
  try simp only [Act.put, List.setIfInBounds_toArray, List.set_cons_zero, List.set_cons_succ]
  refine reg_take (i := 9) (v := ?vsev9) rfl (by kernel_rfl) rfl hHeld ?ysev9 ?rsev9
  case ysev9 => (intro w hSw; (try dsimp only at hSw); go_simp; all_goals with_reducible rfl)
  try simp only [Act.put, List.setIfInBounds_toArray, List.set_cons_zero, List.set_cons_succ]
  refine reg_loud (i := 10) rfl (by kernel_rfl) rfl (fun K hK => ?_)
  go_simp
  ((with_reducible refine HNEW2.out.mono ?_))
  rintro e w7 ⟨rfl, hq7, hb7⟩
  have r7 : w7.cell? ⟨p, 1, none⟩ = some (.slice (some ⟨g, 0, none⟩) xs.length rc) := (hb7.cell (p := ⟨p, 1, none⟩) hpw6).trans r6
  have t7 : w7.cell? ⟨g, j * 8 + 7, none⟩ = some (.pointer (some ⟨qb, 0, none⟩)) := (hb7.cell (p := ⟨g, j * 8 + 7, none⟩) hgw6).trans t6
  have y7 : w7.frozen? ⟨g, j * 8 + 7, none⟩ = false := (hb7.frozen (p := ⟨g, j * 8 + 7, none⟩) hgw6).trans y6
  have HQ7 := Lib.hid hq7
  have HB7 := Lib.hid hb7
  clear hq7 hb7
  refine hK.out _ _ (r7) (fun hNew => ?_)
  clear hK K hHeld
  have hHeld := hNew
  clear hNew
  try simp only [Act.put, List.setIfInBounds_toArray, List.set_cons_zero, List.set_cons_succ]
  refine reg_take (i := 11) (v := ?vsev11) rfl (by kernel_rfl) rfl hHeld ?ysev11 ?rsev11
  case ysev11 => (intro w hSw; (try dsimp only at hSw); go_simp; all_goals with_reducible rfl)
  try simp only [Act.put, List.setIfInBounds_toArray, List.set_cons_zero, List.set_cons_succ]
  refine reg_take (i := 12) (v := ?vsev12) rfl (by kernel_rfl) rfl hHeld ?ysev12 ?rsev12
  case ysev12 => (intro w hSw; (try dsimp only at hSw); go_simp; all_goals with_reducible rfl)
  try simp only [Act.put, List.setIfInBounds_toArray, List.set_cons_zero, List.set_cons_succ]
  refine reg_take (i := 13) (v := ?vsev13) rfl (by kernel_rfl) rfl hHeld ?ysev13 ?rsev13
  case ysev13 => (intro w hSw; (try dsimp only at hSw); go_simp; all_goals with_reducible rfl)
  try simp only [Act.put, List.setIfInBounds_toArray, List.set_cons_zero, List.set_cons_succ]
  refine reg_take (i := 14) (v := ?vsev14) rfl (by kernel_rfl) rfl hHeld ?ysev14 ?rsev14
  case ysev14 => (intro w hSw; (try dsimp only at hSw); go_simp; all_goals with_reducible rfl)
  try simp only [Act.put, List.setIfInBounds_toArray, List.set_cons_zero, List.set_cons_succ]
  refine reg_take (i := 15) (v := ?vsev15) rfl (by kernel_rfl) rfl hHeld ?ysev15 ?rsev15
  case ysev15 => (intro w hSw; (try dsimp only at hSw); go_simp; all_goals with_reducible rfl)
  try simp only [Act.put, List.setIfInBounds_toArray, List.set_cons_zero, List.set_cons_succ]
  refine reg_loud (i := 16) rfl (by kernel_rfl) rfl (fun K hK => ?_)
  go_simp
  refine hK.out _ _ ?kpsev16 (fun hNew => ?_)
  case kpsev16 => (go_simp)
  clear hK K hHeld
  have hHeld := hNew
  clear hNew
  try simp only [Act.put, List.setIfInBounds_toArray, List.set_cons_zero, List.set_cons_succ]
  refine reg_done (by kernel_rfl) ?_ _
  -- END OF REGION seven
  clear hHeld
  have h7 := H6.out.drew.below HB7.out
  obtain ⟨h8, g8, r8⟩ := h7.put r7 HY6.out (i := 7) (v := .pointer (some ⟨w6.heap.size, 0, none⟩)) (x' := ⟨-1, -1, 0, lb.length, lb.count true, 0, 0, some w6.heap.size⟩) (by omega) rfl
  have hx8 : (xs6.set j ⟨-1, -1, 0, lb.length, lb.count true, 0, 0, some w6.heap.size⟩)[i]? = some ⟨-1, -1, 0, la.length, la.count true, 0, 0, some q1⟩ := by rw [set_ne HIJ.out]; exact HX6.out
  have hy8 : (xs6.set j ⟨-1, -1, 0, lb.length, lb.count true, 0, 0, some w6.heap.size⟩)[j]? = some ⟨-1, -1, 0, lb.length, lb.count true, 0, 0, some w6.heap.size⟩ := set_get HY6.out
  have hc7 : Chg C w w7 := HC6.out.trans (Chg.of_below (S := C) (show Below w6.heap.size w6 w7 from ⟨HB7.out.os, HB7.out.tape, HB7.out.output, HB7.out.size, HB7.out.block⟩)) (fun b hb => Or.inl hb)
  have q17 := (show IsBlock w6.drew q1 (all.take M) from Q6.out).below' HB7.out
  have q18 := q17.chg g8 (by omega)
  have q28 := HQ7.out.chg g8 (by show ¬ w6.heap.size = g; omega)
  have c8 : Chg C w _ := hc7.trans g8 (fun b e => Or.inl (by subst e; exact H.out.rowC ⟨_, _, HC1.out⟩))
  generalize w7.setCell ⟨g, j * 8 + 7, none⟩ (.pointer (some ⟨w6.heap.size, 0, none⟩)) = w8 at *
  have q28 : IsBlock w8 w6.heap.size (all.drop M) := q28
  have hq12 : q1 ≠ w6.heap.size := by omega
  have hq2w : w.heap.size ≤ w6.heap.size := hs6
  generalize w6.heap.size = q2 at *
  generalize hx8e : xs6.set j ⟨-1, -1, 0, lb.length, lb.count true, 0, 0, some q2⟩ = xs8 at h8 hx8 hy8
  have HX8E := Lib.hid hx8e
  have HF := Lib.hid (tFix_leaf h8 hx8 rfl q18)
  have H8 := Lib.hid h8
  have HX8 := Lib.hid hx8
  have HY8 := Lib.hid hy8
  have Q18 := Lib.hid q18
  have Q28 := Lib.hid q28
  have HC8 := Lib.hid c8
  have HQ12 := Lib.hid hq12
  clear h7 h8 g8 r8 hx8 hy8 hc7 q17 q18 q28 c8 hx8e hq12 r7 t7 y7 HQ7 HB7 HNEW2 r6 t6 y6
  go_wp2_with fail
  refine HF.out.mono ?_
  rintro e w9 ⟨rfl, h9, c9⟩
  have c9C := H8.out.chgRow c9
  have q29 := Q28.out.chg c9C (H8.out.notBlk Q28.out.type)
  have q19 := Q18.out.chg c9C (H8.out.notBlk Q18.out.type)
  have HF2 := Lib.hid (tFix_leaf h9 (k := j) (x := ⟨-1, -1, 0, lb.length, lb.count true, 0, 0, some q2⟩) (by rw [set_ne HIJ.out.symm]; exact HY8.out) rfl q29)
  have H9 := Lib.hid h9
  have Q29 := Lib.hid q29
  have Q19 := Lib.hid q19
  have HC9 := Lib.hid (HC8.out.trans c9C (fun b hb => Or.inl hb))
  clear h9 c9 c9C q29 q19
  go_wp2_with fail
  refine HF2.out.mono ?_
  rintro e w10 ⟨rfl, h10, c10⟩
  have H10 := Lib.hid h10
  have C10 := Lib.hid (H9.out.chgRow c10)
  clear h10 c10
  go_wp2_with fail
  go_ret
  rw [HAE.out, HNE.out, ← HM.out]
  refine ⟨rfl, q1, q2, hq1w, hq2w, HQ12.out, ?_, Q19.out.chg C10.out (H9.out.notBlk Q19.out.type), Q29.out.chg C10.out (H9.out.notBlk Q29.out.type), HC9.out.trans C10.out (fun b hb => Or.inl hb)⟩
  have hfin := H10.out
  rw [← HX8E.out, ← HX6E.out, List.set_comm _ _ HIJ.out.symm, List.set_set, List.set_set] at hfin
  exact hfin

end Go.Proofs.YtcppgpjodfeigaaDoor

namespace Go.Proofs.YtcppgpjodfeigaaDoor
set_option linter.unusedVariables false
set_option linter.unusedSimpArgs false
open Go.RowKit

/-- An arena behind two nodes less. -/
def Ar.fr (a : Ar) (x y : Nat) : Ar := ⟨(a.T.set x false).set y false, a.F ++ [x, y], a.M⟩
def Ar.fr1 (a : Ar) (x : Nat) : Ar := ⟨a.T.set x false, a.F ++ [x], a.M⟩
theorem arIs_nat {T : List Bool} {x : Nat} (h : T[x]? = some true) : arIs T (x : Int) = true := by
  rw [arIs_iff]; exact ⟨by omega, by simpa using h⟩
theorem Ar.free2 {a : Ar} {x y : Nat} (hx : a.T[x]? = some true) (hy : a.T[y]? = some true) (hxy : x ≠ y) : a.free [(x : Int), (y : Int)] = (0, a.fr x y) := by
  have h1 := arIs_nat hx
  have h2 : arIs (a.T.set x false) (y : Int) = true := arIs_nat (by rw [List.getElem?_set, if_neg hxy]; exact hy)
  unfold Ar.free
  simp only [clr, h1, if_true, Int.toNat_natCast, h2]
  rfl
theorem Ar.free1 {a : Ar} {x : Nat} (hx : a.T[x]? = some true) : a.free [(x : Int)] = (0, a.fr1 x) := by
  have h1 := arIs_nat hx
  unfold Ar.free
  simp only [clr, h1, if_true, Int.toNat_natCast]
  rfl
theorem Ar.fr_live {a : Ar} (h : a.Ok) {x y : Nat} (hx : a.T[x]? = some true) (hy : a.T[y]? = some true) (hxy : x ≠ y) : (a.fr x y).live + 2 = a.live := by
  have hk : (a.fr x y).Ok := by
    have := Ar.free_ok h [(x : Int), (y : Int)]
    rw [Ar.free2 hx hy hxy] at this; exact this
  have h1 := hk.fle
  simp only [Ar.fr, Ar.live, List.length_append, List.length_set, List.length_cons, List.length_nil] at *
  omega
theorem Ar.fr1_live {a : Ar} (h : a.Ok) {x : Nat} (hx : a.T[x]? = some true) : (a.fr1 x).live + 1 = a.live := by
  have hk : (a.fr1 x).Ok := by
    have := Ar.free_ok h [(x : Int)]
    rw [Ar.free1 hx] at this; exact this
  have h1 := hk.fle
  simp only [Ar.fr1, Ar.live, List.length_append, List.length_set, List.length_cons, List.length_nil] at *
  omega
theorem Ar.fr_T {a : Ar} {x y j : Nat} (h1 : j ≠ x) (h2 : j ≠ y) : (a.fr x y).T[j]? = a.T[j]? := by
  simp only [Ar.fr]
  rw [set_ne h2, set_ne h1]

section
variable {w : World} {p : Nat} {C : Nat → Prop} {A : Ar} {xs : List Nd} {root vis : Int}
theorem reads_two {w : World} {B : Nat} {x y : Int} {T : TypeId} (h : w.heap[B]? = some (.cells #[.int .i64 x, .int .i64 y] T (0, 0))) : Reads w .i64 (some ⟨B, 0, none⟩) [x, y] := by
  intro i hi
  refine ⟨B, 0, rfl, (Array.getElem?_eq_some_iff.1 h).1, fun j hj => ?_⟩
  match j, hj with
  | 0, _ => rw [cell_of_row w B _ _ _ _ h]; rfl
  | 1, _ => rw [cell_of_row w B _ _ _ _ h]; rfl
theorem reads_lone {w : World} {B : Nat} {x : Int} {T : TypeId} (h : w.heap[B]? = some (.cells #[.int .i64 x] T (0, 0))) : Reads w .i64 (some ⟨B, 0, none⟩) [x] := by
  intro i hi
  refine ⟨B, 0, rfl, (Array.getElem?_eq_some_iff.1 h).1, fun j hj => ?_⟩
  match j, hj with
  | 0, _ => rw [cell_of_row w B _ _ _ _ h]; rfl
/-- Two nodes are given back. -/
theorem tFree2 (h : Head w p C A xs root vis) {x y : Nat} (hx : A.T[x]? = some true) (hy : A.T[y]? = some true) (hxy : x ≠ y) :
    ∃ ap, w.cell? ⟨p, 0, none⟩ = some (.pointer (some ⟨ap, 0, none⟩)) ∧ Calls Tryd.prog 75 #[.pointer (some ⟨ap, 0, none⟩), .slice (some ⟨w.heap.size, 0, none⟩) 2 2] (w.alloc (.cells #[.int .i64 x, .int .i64 y] 3)) fun e w' =>
      e = .returned (.int .i64 0) ∧ ∃ C', Head w' p C' (A.fr x y) xs root vis ∧ HStep w w' C C' := by
  have hb := below_alloc w (.cells #[.int .i64 x, .int .i64 y] 3)
  obtain ⟨ap, SA, p0, hA, hsub, hstep⟩ := (h.below hb).arena
  refine ⟨ap, (hb.cell (p := ⟨p, 0, none⟩) (h.lt p h.self)).symm.trans p0, ?_⟩
  have hf := arFree_any hA [(x : Int), (y : Int)] (some ⟨w.heap.size, 0, none⟩) 2 (reads_two (heap_alloc_new w _)) (fun h => by cases h) (fun ad had hs => by cases had; have := h.lt _ (hsub _ hs); simp at this) (by simp) (by simp)
  refine hf.mono ?_
  rintro e w' ⟨rfl, hst⟩
  rw [Ar.free2 hx hy hxy] at hst ⊢
  obtain ⟨C', g1, g2⟩ := hstep _ _ hst
  exact ⟨rfl, C', g1, (HStep.of_below hb).trans g2⟩
theorem tFree1 (h : Head w p C A xs root vis) {x : Nat} (hx : A.T[x]? = some true) :
    ∃ ap, w.cell? ⟨p, 0, none⟩ = some (.pointer (some ⟨ap, 0, none⟩)) ∧ Calls Tryd.prog 75 #[.pointer (some ⟨ap, 0, none⟩), .slice (some ⟨w.heap.size, 0, none⟩) 1 1] (w.alloc (.cells #[.int .i64 x] 3)) fun e w' =>
      e = .returned (.int .i64 0) ∧ ∃ C', Head w' p C' (A.fr1 x) xs root vis ∧ HStep w w' C C' := by
  have hb := below_alloc w (.cells #[.int .i64 x] 3)
  obtain ⟨ap, SA, p0, hA, hsub, hstep⟩ := (h.below hb).arena
  refine ⟨ap, (hb.cell (p := ⟨p, 0, none⟩) (h.lt p h.self)).symm.trans p0, ?_⟩
  have hf := arFree_any hA [(x : Int)] (some ⟨w.heap.size, 0, none⟩) 1 (reads_lone (heap_alloc_new w _)) (fun h => by cases h) (fun ad had hs => by cases had; have := h.lt _ (hsub _ hs); simp at this) (by simp) (by simp)
  refine hf.mono ?_
  rintro e w' ⟨rfl, hst⟩
  rw [Ar.free1 hx] at hst ⊢
  obtain ⟨C', g1, g2⟩ := hstep _ _ hst
  exact ⟨rfl, C', g1, (HStep.of_below hb).trans g2⟩
end

/-- A subtree whose first node may not be counted. -/
def SubW (w : World) (xs : List Nd) : TT → Prop
  | .leaf k q l => Sub w xs (.leaf k q l)
  | .pair k a c => ∃ x, xs[k]? = some x ∧ x.left = a.num ∧ x.right = c.num ∧ x.b = none ∧ Sub w xs a ∧ Sub w xs c
/-- What mend leaves. -/
def MendPost (w w' : World) (p : Nat) (C : Nat → Prop) (A : Ar) (xs : List Nd) (root vis : Int) (T : TT) (e : Ending) : Prop :=
  ∃ T' C' A' xs' v', e = .returned (.int .i64 T'.num) ∧ Head w' p C' A' xs' root v' ∧ SubPre w w' C A xs T T' C' A' xs' ∧ T'.st = mendT T.st ∧ vis ≤ v' ∧ v' ≤ vis + 2 ∧ SubW w' xs' T' ∧ A'.T.length = A.T.length

theorem SubPre.refl {w w' : World} {C : Nat → Prop} {A : Ar} {xs : List Nd} {T : TT} (hO : Own A T) (hl : xs.length = A.T.length) (hc : Chg C w w') : SubPre w w' C A xs T T C A xs :=
  ⟨hO, hl, fun j hj => Or.inl hj, fun j hj => Or.inl hj, fun j h1 h2 => ⟨rfl, h1, h2⟩, rfl, rfl, hc.mono (fun j hj => Or.inl hj)⟩

set_option maxHeartbeats 1600000 in
set_option maxRecDepth 100000 in
theorem tMend_no {w : World} {p : Nat} {C : Nat → Prop} {A : Ar} {xs : List Nd} {root vis : Int} (h : Head w p C A xs root vis) (hlen : xs.length = A.T.length) {k : Nat} {l r : TT} (hS : SubW w xs (.pair k l r)) (hO : Own A (.pair k l r)) (hf : l.st.few = false ∧ r.st.few = false) :
    Calls Tryd.prog 106 #[.pointer (some ⟨p, 0, none⟩), .int .i64 k] w fun e w' => MendPost w w' p C A xs root vis (.pair k l r) e := by
  obtain ⟨x, hx, hxl, hxr, hxb, hl, hr⟩ := hS
  obtain ⟨g, rc, cur, c1, _⟩ := h.row (by have := (List.getElem?_eq_some_iff.1 hx).1; omega)
  obtain ⟨_, _, hkx, _⟩ := h.node c1 hx
  obtain ⟨a0, a1, _⟩ := h.eight c1 hx
  rw [hxl] at a0
  rw [hxr] at a1
  have HF1 : Hid (∀ n, Calls Tryd.prog 120 #[.pointer (some ⟨p, 0, none⟩), .int .i64 l.num] (w.drewN n) fun e w' => e = .returned (.bool false) ∧ w.drewN n = w') := fun n => by
    have := tFew_any (h.drewN n) (hl.keep (w' := w.drewN n) (fun _ _ => rfl) (fun _ _ => rfl)); rw [hf.1] at this; exact this
  have HF2 : Hid (∀ n, Calls Tryd.prog 120 #[.pointer (some ⟨p, 0, none⟩), .int .i64 r.num] (w.drewN n) fun e w' => e = .returned (.bool false) ∧ w.drewN n = w') := fun n => by
    have := tFew_any (h.drewN n) (hr.keep (w' := w.drewN n) (fun _ _ => rfl) (fun _ _ => rfl)); rw [hf.2] at this; exact this
  have hm : (TT.pair k l r).st = mendT (TT.pair k l r).st := by simp only [TT.st, mendT]; rw [if_pos hf]
  have HM := Lib.hid hm
  have HFIN : Hid (∀ n, Head (w.drewN n) p C A xs root vis ∧ SubPre w (w.drewN n) C A xs (.pair k l r) (.pair k l r) C A xs ∧ SubW (w.drewN n) xs (.pair k l r)) := fun n =>
    ⟨h.drewN n, SubPre.refl hO hlen (Chg.refl.drewN n), x, hx, hxl, hxr, hxb, hl.keep (fun _ _ => rfl) (fun _ _ => rfl), hr.keep (fun _ _ => rfl) (fun _ _ => rfl)⟩
  obtain ⟨nl, hnl⟩ : ∃ n, l.num = n := ⟨_, rfl⟩
  obtain ⟨nr, hnr⟩ : ∃ n, r.num = n := ⟨_, rfl⟩
  rw [hnl] at a0 HF1
  rw [hnr] at a1 HF2
  clear h hlen hO hf hx hxl hxr hxb hl hr hm hnl hnr
  go_enter Tryd.func106, Tryd.ntmps106
  go_wp2_with fail
  go_quiet (fail)
  obtain ⟨n1, rfl⟩ : ∃ n1, n1 = nq := ⟨_, rfl⟩
  go_wp2_with fail
  refine (HF1.out n1).mono ?_
  rintro e w' ⟨rfl, rfl⟩
  go_wp2_with fail
  refine (HF2.out n1).mono ?_
  rintro e w' ⟨rfl, rfl⟩
  go_wp2_with fail
  go_ret
  obtain ⟨f1, f2, f3⟩ := HFIN.out n1
  exact ⟨.pair k l r, C, A, xs, vis, rfl, f1, f2, HM.out, by omega, by omega, f3, rfl⟩

end Go.Proofs.YtcppgpjodfeigaaDoor

namespace Go.Proofs.YtcppgpjodfeigaaDoor
set_option linter.unusedVariables false
set_option linter.unusedSimpArgs false
open Go.RowKit

set_option maxHeartbeats 6400000 in
set_option maxRecDepth 100000 in
theorem tMend_join {w : World} {p : Nat} {C : Nat → Prop} {A : Ar} {xs : List Nd} {root vis : Int} (h : Head w p C A xs root vis) (hlen : xs.length = A.T.length) (hv0 : 0 ≤ vis) (hv : vis ≤ 100000000000) {k i qa j qb : Nat} {la lb : List Bool} (hS : SubW w xs (.pair k (.leaf i qa la) (.leaf j qb lb))) (hO : Own A (.pair k (.leaf i qa la) (.leaf j qb lb)))
    (hf : (TT.leaf i qa la).st.few = true ∨ ((TT.leaf i qa la).st.few = false ∧ (TT.leaf j qb lb).st.few = true)) (hle : la.length + lb.length ≤ 128) :
    Calls Tryd.prog 106 #[.pointer (some ⟨p, 0, none⟩), .int .i64 k] w fun e w' => MendPost w w' p C A xs root vis (.pair k (.leaf i qa la) (.leaf j qb lb)) e := by
  obtain ⟨x, hx, hxl, hxr, hxb, hl, hr⟩ := hS
  obtain ⟨g, rc, cur, c1, hgp, hCg, _⟩ := h.row (by have := (List.getElem?_eq_some_iff.1 hx).1; omega)
  obtain ⟨_, _, hkx, _⟩ := h.node c1 hx
  obtain ⟨a0, a1, _⟩ := h.eight c1 hx
  rw [hxl] at a0
  rw [hxr] at a1
  change w.cell? ⟨g, k * 8, none⟩ = some (.int .i64 (i : Int)) at a0
  change w.cell? ⟨g, k * 8 + 1, none⟩ = some (.int .i64 (j : Int)) at a1
  obtain ⟨_, _, cv, fz⟩ := h.cells
  have f3 := fz 3
  have HF1 : Hid (∀ n, Calls Tryd.prog 120 #[.pointer (some ⟨p, 0, none⟩), .int .i64 i] (w.drewN n) fun e w' => e = .returned (.bool (TT.leaf i qa la).st.few) ∧ w.drewN n = w') := fun n =>
    tFew_any (T := TT.leaf i qa la) (h.drewN n) (hl.keep (w' := w.drewN n) (fun _ _ => rfl) (fun _ _ => rfl))
  have HF2 : Hid (∀ n, Calls Tryd.prog 120 #[.pointer (some ⟨p, 0, none⟩), .int .i64 j] (w.drewN n) fun e w' => e = .returned (.bool (TT.leaf j qb lb).st.few) ∧ w.drewN n = w') := fun n =>
    tFew_any (T := TT.leaf j qb lb) (h.drewN n) (hr.keep (w' := w.drewN n) (fun _ _ => rfl) (fun _ _ => rfl))
  have h1 : ∀ n, Head ((w.drewN n).setCell ⟨p, 3, none⟩ (.int .i64 (vis + 2))) p C A xs root (vis + 2) := fun n => (h.drewN n).set3 _
  have g1 : ∀ n, Chg C w ((w.drewN n).setCell ⟨p, 3, none⟩ (.int .i64 (vis + 2))) := fun n => (Chg.refl.drewN n).setCell _ (Or.inl h.self) _
  have HL1 : Hid (∀ n, Sub ((w.drewN n).setCell ⟨p, 3, none⟩ (.int .i64 (vis + 2))) xs (TT.leaf i qa la)) := fun n => hl.chgC h (g1 n) (fun _ _ => rfl)
  have HR1 : Hid (∀ n, Sub ((w.drewN n).setCell ⟨p, 3, none⟩ (.int .i64 (vis + 2))) xs (TT.leaf j qb lb)) := fun n => hr.chgC h (g1 n) (fun _ _ => rfl)
  have HC1 : Hid (∀ n, ((w.drewN n).setCell ⟨p, 3, none⟩ (.int .i64 (vis + 2))).cell? ⟨p, 1, none⟩ = some (.slice (some ⟨g, 0, none⟩) xs.length rc)) := fun n => by
    have := c1
    go_simp
  have H1 := Lib.hid h1
  have G1 := Lib.hid g1
  have HO := Lib.hid hO
  have HLN := Lib.hid hlen
  have HX : Hid (xs[k]? = some x ∧ x.left = i ∧ x.right = j ∧ x.b = none) := ⟨hx, hxl, hxr, hxb⟩
  obtain ⟨_, _, hix, _⟩ := h.node c1 hl.root
  obtain ⟨_, _, hjx, _⟩ := h.node c1 hr.root
  obtain ⟨_, _, _, _, _, _, _, b7⟩ := h.eight c1 hl.root
  obtain ⟨_, _, _, _, _, _, _, d7⟩ := h.eight c1 hr.root
  change w.cell? ⟨g, i * 8 + 7, none⟩ = some (.pointer (some ⟨qa, 0, none⟩)) at b7
  change w.cell? ⟨g, j * 8 + 7, none⟩ = some (.pointer (some ⟨qb, 0, none⟩)) at d7
  change i < xs.length at hix
  change j < xs.length at hjx
  have hqq : qa ≠ qb := by have := hO.bn; simp [TT.bl] at this; exact this
  have hnn : k ≠ i ∧ k ≠ j ∧ i ≠ j := by have := hO.nn; simp [TT.nums] at this; exact ⟨this.1.1, this.1.2, this.2⟩
  have HNN := Lib.hid hnn
  have hmd : mendT (TT.pair k (.leaf i qa la) (.leaf j qb lb)).st = lev la lb := by
    simp only [TT.st, mendT]
    rw [if_neg (by rintro ⟨e1, e2⟩; rcases hf with hf | ⟨_, hf⟩ <;> simp only [TT.st] at hf <;> simp_all)]
  have HMD := Lib.hid hmd
  have hpw := h.lt p h.self
  have hgw := h.lt g hCg
  have HXI : Hid (xs[i]? = some (TT.leaf i qa la).nd) := hl.root
  have HXJ : Hid (xs[j]? = some (TT.leaf j qb lb).nd) := hr.root
  have HLV : Hid (∀ n, Calls Tryd.prog 121 #[.pointer (some ⟨p, 0, none⟩), .int .i64 i, .int .i64 j] ((w.drewN n).setCell ⟨p, 3, none⟩ (.int .i64 (vis + 2))) fun e w' => e = .returned (.bool false) ∧ Head w' p C A (xs.set i (TT.leaf i qa (la ++ lb)).nd) root (vis + 2) ∧ IsBlock w' qa (la ++ lb) ∧ Chg (fun b => C b ∨ b = qa ∨ b = qb) ((w.drewN n).setCell ⟨p, 3, none⟩ (.int .i64 (vis + 2))) w') :=
    fun n => tLev_join (h1 n) (HL1.out n) (HR1.out n) hqq hle
  clear h hlen hO hx hxl hxr hxb hl hr fz h1 g1 hnn hmd hCg hqq
  rcases hf with hlf | ⟨hlf, hrf⟩
  case' inl =>
    have HLF := Lib.hid hlf
    clear hlf
    go_enter Tryd.func106, Tryd.ntmps106
    go_wp2_with fail
    go_quiet (fail)
    obtain ⟨n1, rfl⟩ : ∃ n1, n1 = nq := ⟨_, rfl⟩
    go_wp2_with fail
    refine (HF1.out n1).mono ?_
    rintro e w' ⟨rfl, rfl⟩
    rw [HLF.out]
    go_wp2_with fail
  case' inr =>
    have HLF := Lib.hid hlf
    have HRF := Lib.hid hrf
    clear hlf hrf
    go_enter Tryd.func106, Tryd.ntmps106
    go_wp2_with fail
    go_quiet (fail)
    obtain ⟨n1, rfl⟩ : ∃ n1, n1 = nq := ⟨_, rfl⟩
    go_wp2_with fail
    refine (HF1.out n1).mono ?_
    rintro e w' ⟨rfl, rfl⟩
    rw [HLF.out]
    go_wp2_with fail
    refine (HF2.out n1).mono ?_
    rintro e w' ⟨rfl, rfl⟩
    rw [HRF.out]
    go_wp2_with fail
  all_goals
    refine (HLV.out n1).mono ?_
    rintro e w2 ⟨rfl, h2, q2, g2⟩
    have tk := HO.out.tk
    obtain ⟨m1, m2, m3⟩ := HNN.out
    obtain ⟨ap, p0, hfr⟩ := tFree2 h2 (tk j (by simp [TT.nums])) (tk k TT.mem_k) m2.symm
    have HFR := Lib.hid hfr
    have H2 := Lib.hid h2
    have Q2 := Lib.hid q2
    have G2 := Lib.hid g2
    clear h2 q2 g2 tk m1 m2 m3 hfr
    go_wp2_with fail
    refine HFR.out.mono ?_
    rintro e w3 ⟨rfl, C3, h3, s3⟩
    have H3 := Lib.hid h3
    have S3 := Lib.hid s3
    clear h3 s3
    go_wp2_with fail
    go_ret
    obtain ⟨m1, m2, m3⟩ := HNN.out
    have tk := HO.out.tk
    have g12 : Chg (fun b => C b ∨ b ∈ (TT.pair k (.leaf i qa la) (.leaf j qb lb)).bl) w w2 := ((G1.out n1).mono (fun b hb => Or.inl hb)).trans G2.out (fun b hb => Or.inl (by simpa [TT.bl] using hb))
    have hsz := g12.size
    refine ⟨.leaf i qa (la ++ lb), C3, A.fr j k, _, _, rfl, H3.out, ⟨⟨by simp [TT.nums], by simp [TT.bl], fun b hb => ?_⟩, ?_, fun b hb => (S3.out.new b hb).imp id (fun h => by omega), fun b hb => ?_, fun b e1 e2 => ?_, ?_, rfl, g12.trans S3.out.chg (fun b hb => Or.inl (Or.inl hb))⟩, ?_, by omega, by omega, ⟨?_, ?_⟩, by simp [Ar.fr]⟩
    · simp [TT.nums] at hb; subst hb
      rw [Ar.fr_T m3 m1.symm]; exact tk _ (by simp [TT.nums])
    · rw [List.length_set, HLN.out]; simp [Ar.fr]
    · simp [TT.bl] at hb; subst hb; exact Or.inl (by simp [TT.bl])
    · simp only [TT.nums, List.mem_cons, List.mem_append, List.not_mem_nil, or_false, not_or] at e2
      refine ⟨set_ne e2.2.1, by rw [Ar.fr_T e2.2.2 e2.1]; exact e1, by simp [TT.nums, e2.2.1]⟩
    · have hk := (H2.out.arOk)
      have := Ar.fr_live hk (tk j (by simp [TT.nums])) (tk k TT.mem_k) m2.symm
      simp only [TT.st, ST.size]; omega
    · rw [HMD.out]; simp only [TT.st, lev]; rw [if_pos hle]
    · exact set_get HXI.out
    · exact Q2.out.chg S3.out.chg (H2.out.notBlk Q2.out.type)

set_option maxHeartbeats 6400000 in
set_option maxRecDepth 100000 in
theorem tMend_split {w : World} {p : Nat} {C : Nat → Prop} {A : Ar} {xs : List Nd} {root vis : Int} (h : Head w p C A xs root vis) (hlen : xs.length = A.T.length) (hv0 : 0 ≤ vis) (hv : vis ≤ 100000000000) {k i qa j qb : Nat} {la lb : List Bool} (hS : SubW w xs (.pair k (.leaf i qa la) (.leaf j qb lb))) (hO : Own A (.pair k (.leaf i qa la) (.leaf j qb lb)))
    (hf : (TT.leaf i qa la).st.few = true ∨ ((TT.leaf i qa la).st.few = false ∧ (TT.leaf j qb lb).st.few = true)) (hle : ¬ la.length + lb.length ≤ 128) :
    Calls Tryd.prog 106 #[.pointer (some ⟨p, 0, none⟩), .int .i64 k] w fun e w' => MendPost w w' p C A xs root vis (.pair k (.leaf i qa la) (.leaf j qb lb)) e := by
  obtain ⟨x, hx, hxl, hxr, hxb, hl, hr⟩ := hS
  obtain ⟨g, rc, cur, c1, hgp, hCg, _⟩ := h.row (by have := (List.getElem?_eq_some_iff.1 hx).1; omega)
  obtain ⟨_, _, hkx, _⟩ := h.node c1 hx
  obtain ⟨a0, a1, _⟩ := h.eight c1 hx
  rw [hxl] at a0
  rw [hxr] at a1
  change w.cell? ⟨g, k * 8, none⟩ = some (.int .i64 (i : Int)) at a0
  change w.cell? ⟨g, k * 8 + 1, none⟩ = some (.int .i64 (j : Int)) at a1
  obtain ⟨_, _, cv, fz⟩ := h.cells
  have f3 := fz 3
  have HF1 : Hid (∀ n, Calls Tryd.prog 120 #[.pointer (some ⟨p, 0, none⟩), .int .i64 i] (w.drewN n) fun e w' => e = .returned (.bool (TT.leaf i qa la).st.few) ∧ w.drewN n = w') := fun n =>
    tFew_any (T := TT.leaf i qa la) (h.drewN n) (hl.keep (w' := w.drewN n) (fun _ _ => rfl) (fun _ _ => rfl))
  have HF2 : Hid (∀ n, Calls Tryd.prog 120 #[.pointer (some ⟨p, 0, none⟩), .int .i64 j] (w.drewN n) fun e w' => e = .returned (.bool (TT.leaf j qb lb).st.few) ∧ w.drewN n = w') := fun n =>
    tFew_any (T := TT.leaf j qb lb) (h.drewN n) (hr.keep (w' := w.drewN n) (fun _ _ => rfl) (fun _ _ => rfl))
  have h1 : ∀ n, Head ((w.drewN n).setCell ⟨p, 3, none⟩ (.int .i64 (vis + 2))) p C A xs root (vis + 2) := fun n => (h.drewN n).set3 _
  have g1 : ∀ n, Chg C w ((w.drewN n).setCell ⟨p, 3, none⟩ (.int .i64 (vis + 2))) := fun n => (Chg.refl.drewN n).setCell _ (Or.inl h.self) _
  have HL1 : Hid (∀ n, Sub ((w.drewN n).setCell ⟨p, 3, none⟩ (.int .i64 (vis + 2))) xs (TT.leaf i qa la)) := fun n => hl.chgC h (g1 n) (fun _ _ => rfl)
  have HR1 : Hid (∀ n, Sub ((w.drewN n).setCell ⟨p, 3, none⟩ (.int .i64 (vis + 2))) xs (TT.leaf j qb lb)) := fun n => hr.chgC h (g1 n) (fun _ _ => rfl)
  have HC1 : Hid (∀ n, ((w.drewN n).setCell ⟨p, 3, none⟩ (.int .i64 (vis + 2))).cell? ⟨p, 1, none⟩ = some (.slice (some ⟨g, 0, none⟩) xs.length rc)) := fun n => by
    have := c1
    go_simp
  have H1 := Lib.hid h1
  have G1 := Lib.hid g1
  have HO := Lib.hid hO
  have HLN := Lib.hid hlen
  have HX : Hid (xs[k]? = some x ∧ x.left = i ∧ x.right = j ∧ x.b = none) := ⟨hx, hxl, hxr, hxb⟩
  obtain ⟨_, _, hix, _⟩ := h.node c1 hl.root
  obtain ⟨_, _, hjx, _⟩ := h.node c1 hr.root
  obtain ⟨_, _, _, _, _, _, _, b7⟩ := h.eight c1 hl.root
  obtain ⟨_, _, _, _, _, _, _, d7⟩ := h.eight c1 hr.root
  change w.cell? ⟨g, i * 8 + 7, none⟩ = some (.pointer (some ⟨qa, 0, none⟩)) at b7
  change w.cell? ⟨g, j * 8 + 7, none⟩ = some (.pointer (some ⟨qb, 0, none⟩)) at d7
  change i < xs.length at hix
  change j < xs.length at hjx
  have hqq : qa ≠ qb := by have := hO.bn; simp [TT.bl] at this; exact this
  have hnn : k ≠ i ∧ k ≠ j ∧ i ≠ j := by have := hO.nn; simp [TT.nums] at this; exact ⟨this.1.1, this.1.2, this.2⟩
  have HNN := Lib.hid hnn
  have hmd : mendT (TT.pair k (.leaf i qa la) (.leaf j qb lb)).st = lev la lb := by
    simp only [TT.st, mendT]
    rw [if_neg (by rintro ⟨e1, e2⟩; rcases hf with hf | ⟨_, hf⟩ <;> simp only [TT.st] at hf <;> simp_all)]
  have HMD := Lib.hid hmd
  have hpw := h.lt p h.self
  have hgw := h.lt g hCg
  have HXI : Hid (xs[i]? = some (TT.leaf i qa la).nd) := hl.root
  have HXJ : Hid (xs[j]? = some (TT.leaf j qb lb).nd) := hr.root
  have HLV : Hid (∀ n, Calls Tryd.prog 121 #[.pointer (some ⟨p, 0, none⟩), .int .i64 i, .int .i64 j] ((w.drewN n).setCell ⟨p, 3, none⟩ (.int .i64 (vis + 2))) _) :=
    fun n => tLev_split (h1 n) (HL1.out n) (HR1.out n) hnn.2.2 hqq (by omega)
  clear h hlen hO hx hxl hxr hxb hl hr fz h1 g1 hnn hmd hCg hqq
  rcases hf with hlf | ⟨hlf, hrf⟩
  case' inl =>
    have HLF := Lib.hid hlf
    clear hlf
    go_enter Tryd.func106, Tryd.ntmps106
    go_wp2_with fail
    go_quiet (fail)
    obtain ⟨n1, rfl⟩ : ∃ n1, n1 = nq := ⟨_, rfl⟩
    go_wp2_with fail
    refine (HF1.out n1).mono ?_
    rintro e w' ⟨rfl, rfl⟩
    rw [HLF.out]
    go_wp2_with fail
  case' inr =>
    have HLF := Lib.hid hlf
    have HRF := Lib.hid hrf
    clear hlf hrf
    go_enter Tryd.func106, Tryd.ntmps106
    go_wp2_with fail
    go_quiet (fail)
    obtain ⟨n1, rfl⟩ : ∃ n1, n1 = nq := ⟨_, rfl⟩
    go_wp2_with fail
    refine (HF1.out n1).mono ?_
    rintro e w' ⟨rfl, rfl⟩
    rw [HLF.out]
    go_wp2_with fail
    refine (HF2.out n1).mono ?_
    rintro e w' ⟨rfl, rfl⟩
    rw [HRF.out]
    go_wp2_with fail
  all_goals
    refine (HLV.out n1).mono ?_
    rintro e w2 ⟨rfl, q1, q2, u1, u2, u3, h2, b1, b2, g2⟩
    have H2 := Lib.hid h2
    have B1 := Lib.hid b1
    have B2 := Lib.hid b2
    have G2 := Lib.hid g2
    have U : Hid (w.heap.size ≤ q1 ∧ w.heap.size ≤ q2 ∧ q1 ≠ q2) := ⟨Nat.le_trans (G1.out n1).size u1, Nat.le_trans (G1.out n1).size u2, u3⟩
    clear h2 b1 b2 g2 u1 u2 u3
    go_wp2_with fail
    go_ret
    obtain ⟨m1, m2, m3⟩ := HNN.out
    obtain ⟨u1, u2, u3⟩ := U.out
    have tk := HO.out.tk
    have g12 : Chg (fun b => C b ∨ b ∈ (TT.pair k (.leaf i qa la) (.leaf j qb lb)).bl) w w2 := ((G1.out n1).trans G2.out (fun b hb => Or.inl hb)).mono (fun b hb => Or.inl hb)
    have hg0 := H2.out
    refine ⟨.pair k (.leaf i q1 ((la ++ lb).take ((la.length + lb.length) / 2))) (.leaf j q2 ((la ++ lb).drop ((la.length + lb.length) / 2))), C, A, _, _, rfl, H2.out, ⟨⟨by simp [TT.nums, m1, m2, m3], by simp [TT.bl, u3], fun b hb => tk b (by simpa [TT.nums] using hb)⟩, ?_, fun b hb => Or.inl hb, fun b hb => ?_, fun b e1 e2 => ?_, ?_, rfl, g12⟩, ?_, by omega, by omega, ⟨x, ?_, HX.out.2.1, HX.out.2.2.1, HX.out.2.2.2, ⟨?_, B1.out⟩, ⟨?_, B2.out⟩⟩, rfl⟩
    · rw [List.length_set, List.length_set]; exact HLN.out
    · simp [TT.bl] at hb; rcases hb with rfl | rfl
      · exact Or.inr u1
      · exact Or.inr u2
    · simp only [TT.nums, List.mem_cons, List.mem_append, List.not_mem_nil, or_false, not_or] at e2
      refine ⟨by rw [set_ne e2.2.2, set_ne e2.2.1], e1, by simp [TT.nums, e2.1, e2.2.1, e2.2.2]⟩
    · simp only [TT.st, ST.size]
    · rw [HMD.out]; simp only [TT.st, lev]; rw [if_neg hle]
    · rw [set_ne m2, set_ne m1]; exact HX.out.1
    · rw [set_ne m3]; exact set_get HXI.out
    · exact set_get (x := (TT.leaf j qb lb).nd) (by rw [set_ne m3.symm]; exact HXJ.out)

end Go.Proofs.YtcppgpjodfeigaaDoor

namespace Go.Proofs.YtcppgpjodfeigaaDoor
set_option linter.unusedVariables false
set_option linter.unusedSimpArgs false
open Go.RowKit

set_option maxHeartbeats 6400000 in
set_option maxRecDepth 100000 in
theorem tMend_ljoin {w : World} {p : Nat} {C : Nat → Prop} {A : Ar} {xs : List Nd} {root vis : Int} (h : Head w p C A xs root vis) (hlen : xs.length = A.T.length) (hv0 : 0 ≤ vis) (hv : vis ≤ 100000000000) {k i qa r m qm : Nat} {la lm : List Bool} {c : TT} (hS : SubW w xs (.pair k (.leaf i qa la) (.pair r (.leaf m qm lm) c))) (hO : Own A (.pair k (.leaf i qa la) (.pair r (.leaf m qm lm) c)))
    (hf : (TT.leaf i qa la).st.few = true) (hsm : Small (TT.pair r (.leaf m qm lm) c).st) (hle : la.length + lm.length ≤ 128) :
    Calls Tryd.prog 106 #[.pointer (some ⟨p, 0, none⟩), .int .i64 k] w fun e w' => MendPost w w' p C A xs root vis (.pair k (.leaf i qa la) (.pair r (.leaf m qm lm) c)) e := by
  obtain ⟨x, hx, hxl, hxr, hxb, hl, hr⟩ := hS
  obtain ⟨g, rc, cur, c1, hgp, hCg, _⟩ := h.row (by have := (List.getElem?_eq_some_iff.1 hx).1; omega)
  obtain ⟨_, _, hkx, _⟩ := h.node c1 hx
  obtain ⟨a0, a1, _⟩ := h.eight c1 hx
  rw [hxl] at a0
  rw [hxr] at a1
  change w.cell? ⟨g, k * 8, none⟩ = some (.int .i64 (i : Int)) at a0
  change w.cell? ⟨g, k * 8 + 1, none⟩ = some (.int .i64 (r : Int)) at a1
  obtain ⟨_, _, cv, fz⟩ := h.cells
  have f3 := fz 3
  have HF1 : Hid (∀ n, Calls Tryd.prog 120 #[.pointer (some ⟨p, 0, none⟩), .int .i64 i] (w.drewN n) fun e w' => e = .returned (.bool (TT.leaf i qa la).st.few) ∧ w.drewN n = w') := fun n =>
    tFew_any (T := TT.leaf i qa la) (h.drewN n) (hl.keep (w' := w.drewN n) (fun _ _ => rfl) (fun _ _ => rfl))
  have HF2 : Hid (∀ n, Calls Tryd.prog 120 #[.pointer (some ⟨p, 0, none⟩), .int .i64 r] (w.drewN n) fun e w' => e = .returned (.bool (TT.pair r (TT.leaf m qm lm) c).st.few) ∧ w.drewN n = w') := fun n =>
    tFew_any (T := TT.pair r (TT.leaf m qm lm) c) (h.drewN n) (hr.keep (w' := w.drewN n) (fun _ _ => rfl) (fun _ _ => rfl))
  have h1 : ∀ n, Head ((w.drewN n).setCell ⟨p, 3, none⟩ (.int .i64 (vis + 2))) p C A xs root (vis + 2) := fun n => (h.drewN n).set3 _
  have g1 : ∀ n, Chg C w ((w.drewN n).setCell ⟨p, 3, none⟩ (.int .i64 (vis + 2))) := fun n => (Chg.refl.drewN n).setCell _ (Or.inl h.self) _
  have HL1 : Hid (∀ n, Sub ((w.drewN n).setCell ⟨p, 3, none⟩ (.int .i64 (vis + 2))) xs (TT.leaf i qa la)) := fun n => hl.chgC h (g1 n) (fun _ _ => rfl)
  have HR1 : Hid (∀ n, Sub ((w.drewN n).setCell ⟨p, 3, none⟩ (.int .i64 (vis + 2))) xs (TT.pair r (TT.leaf m qm lm) c)) := fun n => hr.chgC h (g1 n) (fun _ _ => rfl)
  have HC1 : Hid (∀ n, ((w.drewN n).setCell ⟨p, 3, none⟩ (.int .i64 (vis + 2))).cell? ⟨p, 1, none⟩ = some (.slice (some ⟨g, 0, none⟩) xs.length rc)) := fun n => by
    have := c1
    go_simp
  have H1 := Lib.hid h1
  have G1 := Lib.hid g1
  have HO := Lib.hid hO
  have HLN := Lib.hid hlen
  have HX : Hid (xs[k]? = some x ∧ x.left = i ∧ x.right = r ∧ x.b = none) := ⟨hx, hxl, hxr, hxb⟩
  obtain ⟨_, _, hix, _⟩ := h.node c1 hl.root
  obtain ⟨_, _, hrx, _⟩ := h.node c1 hr.root
  obtain ⟨_, _, _, _, _, _, _, b7⟩ := h.eight c1 hl.root
  obtain ⟨d0, d1, _, _, _, _, _, d7⟩ := h.eight c1 hr.root
  change w.cell? ⟨g, i * 8 + 7, none⟩ = some (.pointer (some ⟨qa, 0, none⟩)) at b7
  change w.cell? ⟨g, r * 8, none⟩ = some (.int .i64 (m : Int)) at d0
  change w.cell? ⟨g, r * 8 + 1, none⟩ = some (.int .i64 (c.num : Int)) at d1
  change w.cell? ⟨g, r * 8 + 7, none⟩ = some (.pointer none) at d7
  change i < xs.length at hix
  change r < xs.length at hrx
  have hD : k ≠ i ∧ k ≠ r ∧ k ≠ m ∧ k ∉ c.nums ∧ i ≠ r ∧ i ≠ m ∧ i ∉ c.nums ∧ r ≠ m ∧ r ∉ c.nums ∧ m ∉ c.nums ∧ c.nums.Nodup := by
    obtain ⟨e1, e2, _, e4, e5⟩ := TT.dis hO.nn
    obtain ⟨f1, f2, _, f4, f5⟩ := TT.dis e4
    have e5' := e5 i (by simp [TT.nums])
    have f5' := f5 m (by simp [TT.nums])
    simp only [TT.nums, List.mem_cons, List.mem_append, List.not_mem_nil, or_false, not_or] at e1 e2 e5' f1
    exact ⟨e1, e2.1, e2.2.1, e2.2.2, e5'.1, e5'.2.1, e5'.2.2, f1, f2, f5', f4⟩
  have hB : qa ≠ qm ∧ qa ∉ c.bl ∧ qm ∉ c.bl ∧ c.bl.Nodup := by
    have := hO.bn
    simp only [TT.bl, List.nodup_append, List.nodup_cons, List.not_mem_nil, not_false_eq_true, List.nodup_nil, and_self, true_and, List.mem_cons, or_false, List.mem_append, forall_eq] at this
    refine ⟨fun e => this.2 qm (Or.inl rfl) e, fun e => this.2 qa (Or.inr e) rfl, fun e => this.1.2 qm e rfl, this.1.1⟩
  have HD := Lib.hid hD
  have HBB := Lib.hid hB
  have hmd : mendT (TT.pair k (.leaf i qa la) (.pair r (.leaf m qm lm) c)).st = (if la.length + lm.length ≤ 128 then .pair (.leaf (la ++ lm)) c.st else .pair (.leaf ((la ++ lm).take ((la.length + lm.length) / 2))) (.pair (.leaf ((la ++ lm).drop ((la.length + lm.length) / 2))) c.st)) := by
    simp only [TT.st, mendT]
    rw [if_neg (by rintro ⟨e1, e2⟩; simp only [TT.st] at hf; rw [hf] at e1; cases e1)]
  have HMD := Lib.hid hmd
  have hpw := h.lt p h.self
  have hgw := h.lt g hCg
  have HXI : Hid (xs[i]? = some (TT.leaf i qa la).nd) := hl.root
  have HXR : Hid (xs[r]? = some (TT.pair r (.leaf m qm lm) c).nd) := hr.1
  have HXM : Hid (xs[m]? = some (TT.leaf m qm lm).nd) := hr.2.1.1
  have HFA : Hid (∀ n, Calls Tryd.prog 120 #[.pointer (some ⟨p, 0, none⟩), .int .i64 i] ((w.drewN n).setCell ⟨p, 3, none⟩ (.int .i64 (vis + 2))) fun e w' => e = .returned (.bool true) ∧ (w.drewN n).setCell ⟨p, 3, none⟩ (.int .i64 (vis + 2)) = w') := fun n => by
    have := tFew_any (T := TT.leaf i qa la) (h1 n) (HL1.out n); rw [hf] at this; exact this
  have HSM := Lib.hid hsm
  have HLF := Lib.hid hf
  have HLV : Hid (∀ n, Calls Tryd.prog 121 #[.pointer (some ⟨p, 0, none⟩), .int .i64 i, .int .i64 m] ((w.drewN n).setCell ⟨p, 3, none⟩ (.int .i64 (vis + 2))) fun e w' => e = .returned (.bool false) ∧ Head w' p C A (xs.set i (TT.leaf i qa (la ++ lm)).nd) root (vis + 2) ∧ IsBlock w' qa (la ++ lm) ∧ Chg (fun b => C b ∨ b = qa ∨ b = qm) ((w.drewN n).setCell ⟨p, 3, none⟩ (.int .i64 (vis + 2))) w') :=
    fun n => tLev_join (h1 n) (HL1.out n) (HR1.out n).2.1 hB.1 hle
  clear h hlen hO hx hxl hxr hxb hl hr fz h1 g1 hD hmd hCg hB hf hsm
  go_enter Tryd.func106, Tryd.ntmps106
  go_wp2_with fail
  go_quiet (fail)
  obtain ⟨n1, rfl⟩ : ∃ n1, n1 = nq := ⟨_, rfl⟩
  go_wp2_with fail
  refine (HF1.out n1).mono ?_
  rintro e w' ⟨rfl, rfl⟩
  rw [HLF.out]
  go_wp2_with fail
  refine (HFA.out n1).mono ?_
  rintro e w' ⟨rfl, rfl⟩
  go_wp2_with fail
  refine (HLV.out n1).mono ?_
  rintro e w2 ⟨rfl, h2, q2, g2⟩
  obtain ⟨t1, t2, t3, t4, t5, t6, t7, t8, t9, t10, t11⟩ := HD.out
  have g12 : Chg (fun b => C b ∨ b ∈ (TT.pair k (.leaf i qa la) (.pair r (.leaf m qm lm) c)).bl) w w2 := ((G1.out n1).mono (fun b hb => Or.inl hb)).trans g2 (fun b hb => Or.inl (hb.imp id (fun h => by rcases h with rfl | rfl <;> simp [TT.bl])))
  have xr2 : (xs.set i (TT.leaf i qa (la ++ lm)).nd)[r]? = some (TT.pair r (.leaf m qm lm) c).nd := by rw [set_ne t5.symm]; exact HXR.out
  have xk2 : (xs.set i (TT.leaf i qa (la ++ lm)).nd)[k]? = some x := by rw [set_ne t1]; exact HX.out.1
  have xi2 : (xs.set i (TT.leaf i qa (la ++ lm)).nd)[i]? = some (TT.leaf i qa (la ++ lm)).nd := set_get HXI.out
  have kp2 : ∀ b : Nat, b ≠ i → (xs.set i (TT.leaf i qa (la ++ lm)).nd)[b]? = xs[b]? := fun b hb => set_ne hb
  have ln2 : (xs.set i (TT.leaf i qa (la ++ lm)).nd).length = A.T.length := by rw [List.length_set]; exact HLN.out
  have sc2 : Sub w2 (xs.set i (TT.leaf i qa (la ++ lm)).nd) c := (HR1.out n1).2.2.chg g2 (fun b hb e => by
    rcases e with e | rfl | rfl
    · exact (H1.out n1).notBlk ((HR1.out n1).2.2.type hb) e
    · exact HBB.out.2.1 hb
    · exact HBB.out.2.2.1 hb) (set_out t7)
  generalize xs.set i (TT.leaf i qa (la ++ lm)).nd = xs2 at *
  obtain ⟨g3, rc3, cur3, r3, hgp3, _⟩ := h2.row (by have := (List.getElem?_eq_some_iff.1 xk2).1; omega)
  obtain ⟨_, fz3, hkx3, _⟩ := h2.node r3 xk2
  obtain ⟨_, _, hrx3, _⟩ := h2.node r3 xr2
  obtain ⟨_, e1, _⟩ := h2.eight r3 xk2
  obtain ⟨_, l1, _⟩ := h2.eight r3 xr2
  change w2.cell? ⟨g3, r * 8 + 1, none⟩ = some (.int .i64 (c.num : Int)) at l1
  have z1 := fz3 (k * 8 + 1)
  obtain ⟨nc, hnc⟩ : ∃ n, c.num = n := ⟨_, rfl⟩
  rw [hnc] at l1
  have hne : ¬ (r * 8 + 1 = k * 8 + 1) := by omega
  obtain ⟨h3, c3, r4⟩ := h2.put r3 xk2 (i := 1) (v := .int .i64 nc) (x' := ⟨x.left, nc, x.height, x.n, x.ones, x.ln, x.lones, x.b⟩) (by omega) rfl
  have c3C : Chg C w2 _ := (c3.mono (fun b e => by subst e; exact h2.rowC ⟨_, _, r3⟩)).drew
  have tk := HO.out.tk
  obtain ⟨W3, hW3⟩ : ∃ W3, W3 = (w2.setCell ⟨g3, k * 8 + 1, none⟩ (.int .i64 nc)).drew := ⟨_, rfl⟩
  rw [← hW3] at c3C
  have h3' : Head W3 p C A (xs2.set k ⟨x.left, nc, x.height, x.n, x.ones, x.ln, x.lones, x.b⟩) root (vis + 2) := by rw [hW3]; exact h3.drew
  obtain ⟨ap, p0, hfr⟩ := tFree2 h3' (tk m (by simp [TT.nums])) (tk r (by simp [TT.nums])) t8.symm
  have HFR := Lib.hid hfr
  have H2 := Lib.hid h2
  have H3 := Lib.hid h3'
  have Q2 := Lib.hid q2
  have G12 := Lib.hid g12
  have C3 := Lib.hid c3C
  have HW3 := Lib.hid hW3
  have XX : Hid (xs2[k]? = some x ∧ xs2[i]? = some (TT.leaf i qa (la ++ lm)).nd ∧ (∀ b : Nat, b ≠ i → xs2[b]? = xs[b]?) ∧ xs2.length = A.T.length ∧ Sub w2 xs2 c) := ⟨xk2, xi2, kp2, ln2, sc2⟩
  have HNC := Lib.hid hnc
  clear h2 h3 h3' q2 g12 g2 c3 c3C tk t1 t2 t3 t4 t5 t6 t7 t8 t9 t10 t11 hfr xr2 xk2 xi2 kp2 ln2 sc2 fz3 r4 hnc hW3 c1 a0 a1 d0 d1 d7 b7 cv
  go_wp2_with fail
  -- REGION lj
  refine reg_start (fun w' => w'.cell? ⟨p, 1, none⟩ = some (.slice (some ⟨g3, 0, none⟩) xs2.length rc3) ∧ w'.cell? ⟨g3, r * 8 + 1, none⟩ = some (.int .i64 nc)) (by kernel_rfl) ?hilj (fun hHeld => ?_)
  case hilj => (refine ⟨?_, ?_⟩ <;> go_simp)
  refine reg_take (i := 0) (v := ?vlj0) rfl (by kernel_rfl) rfl hHeld ?ylj0 ?rlj0
  case ylj0 => (intro w hSw; (try dsimp only at hSw); go_simp; all_goals with_reducible rfl)
  try simp only [Act.put, List.setIfInBounds_toArray, List.set_cons_zero, List.set_cons_succ]
  refine reg_take (i := 1) (v := ?vlj1) rfl (by kernel_rfl) rfl hHeld ?ylj1 ?rlj1
  case ylj1 => (intro w hSw; (try dsimp only at hSw); go_simp; all_goals with_reducible rfl)
  try simp only [Act.put, List.setIfInBounds_toArray, List.set_cons_zero, List.set_cons_succ]
  refine reg_take (i := 2) (v := ?vlj2) rfl (by kernel_rfl) rfl hHeld ?ylj2 ?rlj2
  case ylj2 => (intro w hSw; (try dsimp only at hSw); go_simp; all_goals with_reducible rfl)
  try simp only [Act.put, List.setIfInBounds_toArray, List.set_cons_zero, List.set_cons_succ]
  refine reg_take (i := 3) (v := ?vlj3) rfl (by kernel_rfl) rfl hHeld ?ylj3 ?rlj3
  case ylj3 => (intro w hSw; (try dsimp only at hSw); go_simp; all_goals with_reducible rfl)
  try simp only [Act.put, List.setIfInBounds_toArray, List.set_cons_zero, List.set_cons_succ]
  refine reg_take (i := 4) (v := ?vlj4) rfl (by kernel_rfl) rfl hHeld ?ylj4 ?rlj4
  case ylj4 => (intro w hSw; (try dsimp only at hSw); go_simp; all_goals with_reducible rfl)
  try simp only [Act.put, List.setIfInBounds_toArray, List.set_cons_zero, List.set_cons_succ]
  refine reg_take (i := 5) (v := ?vlj5) rfl (by kernel_rfl) rfl hHeld ?ylj5 ?rlj5
  case ylj5 => (intro w hSw; (try dsimp only at hSw); go_simp; all_goals with_reducible rfl)
  try simp only [Act.put, List.setIfInBounds_toArray, List.set_cons_zero, List.set_cons_succ]
  refine reg_take (i := 6) (v := ?vlj6) rfl (by kernel_rfl) rfl hHeld ?ylj6 ?rlj6
  case ylj6 => (intro w hSw; (try dsimp only at hSw); go_simp; all_goals with_reducible rfl)
  try simp only [Act.put, List.setIfInBounds_toArray, List.set_cons_zero, List.set_cons_succ]
  refine reg_take (i := 7) (v := ?vlj7) rfl (by kernel_rfl) rfl hHeld ?ylj7 ?rlj7
  case ylj7 => (intro w hSw; (try dsimp only at hSw); go_simp; all_goals with_reducible rfl)
  try simp only [Act.put, List.setIfInBounds_toArray, List.set_cons_zero, List.set_cons_succ]
  refine reg_take (i := 8) (v := ?vlj8) rfl (by kernel_rfl) rfl hHeld ?ylj8 ?rlj8
  case ylj8 => (intro w hSw; (try dsimp only at hSw); go_simp; all_goals with_reducible rfl)
  try simp only [Act.put, List.setIfInBounds_toArray, List.set_cons_zero, List.set_cons_succ]
  refine reg_take (i := 9) (v := ?vlj9) rfl (by kernel_rfl) rfl hHeld ?ylj9 ?rlj9
  case ylj9 => (intro w hSw; (try dsimp only at hSw); go_simp; all_goals with_reducible rfl)
  try simp only [Act.put, List.setIfInBounds_toArray, List.set_cons_zero, List.set_cons_succ]
  refine reg_take (i := 10) (v := ?vlj10) rfl (by kernel_rfl) rfl hHeld ?ylj10 ?rlj10
  case ylj10 => (intro w hSw; (try dsimp only at hSw); go_simp; all_goals with_reducible rfl)
  try simp only [Act.put, List.setIfInBounds_toArray, List.set_cons_zero, List.set_cons_succ]
  refine reg_take (i := 11) (v := ?vlj11) rfl (by kernel_rfl) rfl hHeld ?ylj11 ?rlj11
  case ylj11 => (intro w hSw; (try dsimp only at hSw); go_simp; all_goals with_reducible rfl)
  try simp only [Act.put, List.setIfInBounds_toArray, List.set_cons_zero, List.set_cons_succ]
  refine reg_take (i := 12) (v := ?vlj12) rfl (by kernel_rfl) rfl hHeld ?ylj12 ?rlj12
  case ylj12 => (intro w hSw; (try dsimp only at hSw); go_simp; all_goals with_reducible rfl)
  try simp only [Act.put, List.setIfInBounds_toArray, List.set_cons_zero, List.set_cons_succ]
  refine reg_take (i := 13) (v := ?vlj13) rfl (by kernel_rfl) rfl hHeld ?ylj13 ?rlj13
  case ylj13 => (intro w hSw; (try dsimp only at hSw); go_simp; all_goals with_reducible rfl)
  try simp only [Act.put, List.setIfInBounds_toArray, List.set_cons_zero, List.set_cons_succ]
  refine reg_take (i := 14) (v := ?vlj14) rfl (by kernel_rfl) rfl hHeld ?ylj14 ?rlj14
  case ylj14 => (intro w hSw; (try dsimp only at hSw); go_simp; all_goals with_reducible rfl)
  try simp only [Act.put, List.setIfInBounds_toArray, List.set_cons_zero, List.set_cons_succ]
  refine reg_loud (i := 15) rfl (by kernel_rfl) rfl (fun K hK => ?_)
  go_simp
  refine hK.out _ _ ?kplj15 (fun hNew => ?_)
  case kplj15 => (refine ⟨?_, ?_⟩ <;> go_simp)
  clear hK K hHeld
  have hHeld := hNew
  clear hNew
  try simp only [Act.put, List.setIfInBounds_toArray, List.set_cons_zero, List.set_cons_succ]
  refine reg_done (by kernel_rfl) ?_ _
  -- END OF REGION lj
  clear hHeld
  rw [← HW3.out]
  go_wp2_with fail
  refine HFR.out.mono ?_
  rintro e w4 ⟨rfl, C4, h4, s4⟩
  have H4 := Lib.hid h4
  have S4 := Lib.hid s4
  clear h4 s4
  go_wp2_with fail
  go_ret
  obtain ⟨t1, t2, t3, t4, t5, t6, t7, t8, t9, t10, t11⟩ := HD.out
  obtain ⟨y1, y2, y3, y4, y5⟩ := XX.out
  have tk := HO.out.tk
  have g13 := G12.out.trans C3.out (fun b hb => Or.inl (Or.inl hb))
  have hsz := g13.size
  refine ⟨.pair k (.leaf i qa (la ++ lm)) c, C4, A.fr m r, _, _, rfl, H4.out, ⟨⟨?_, ?_, fun b hb => ?_⟩, ?_, fun b hb => (S4.out.new b hb).imp id (fun h => by omega), fun b hb => ?_, fun b e1 e2 => ?_, ?_, rfl, g13.trans S4.out.chg (fun b hb => Or.inl (Or.inl hb))⟩, ?_, by omega, by omega, ⟨_, set_get y1, HX.out.2.1, by rw [HNC.out], HX.out.2.2.2, ⟨?_, ?_⟩, ?_⟩, by simp [Ar.fr]⟩
  · simp [TT.nums, t1, t4, t7, t11]
  · simp [TT.bl, HBB.out.2.1, HBB.out.2.2.2]
  · have hb' : b ≠ m ∧ b ≠ r ∧ b ∈ (TT.pair k (.leaf i qa la) (.pair r (.leaf m qm lm) c)).nums := by
      simp only [TT.nums, List.mem_cons, List.mem_append, List.not_mem_nil, or_false] at hb ⊢
      rcases hb with rfl | rfl | hb
      · exact ⟨t3, t2, Or.inl rfl⟩
      · exact ⟨t6, t5, Or.inr (Or.inl rfl)⟩
      · exact ⟨fun e => t10 (e ▸ hb), fun e => t9 (e ▸ hb), Or.inr (Or.inr (Or.inr (Or.inr hb)))⟩
    rw [Ar.fr_T hb'.1 hb'.2.1]; exact tk _ hb'.2.2
  · rw [List.length_set, y4]; simp [Ar.fr]
  · simp only [TT.bl, List.mem_append, List.mem_cons, List.not_mem_nil, or_false] at hb ⊢
    rcases hb with hb | hb
    · exact Or.inl (Or.inl hb)
    · exact Or.inl (Or.inr (Or.inr hb))
  · simp only [TT.nums, List.mem_cons, List.mem_append, List.not_mem_nil, or_false, not_or] at e2
    refine ⟨by rw [set_ne e2.1, y3 b e2.2.1], by rw [Ar.fr_T e2.2.2.2.1 e2.2.2.1]; exact e1, by simp only [TT.nums, List.mem_cons, List.mem_append, List.not_mem_nil, or_false, not_or]; exact ⟨e2.1, e2.2.1, e2.2.2.2.2⟩⟩
  · have := Ar.fr_live (H3.out.arOk) (tk m (by simp [TT.nums])) (tk r (by simp [TT.nums])) t8.symm
    simp only [TT.st, ST.size]; omega
  · rw [HMD.out, if_pos hle]; rfl
  · rw [set_ne t1.symm]; exact y2
  · exact (Q2.out.chg C3.out (H2.out.notBlk Q2.out.type)).chg S4.out.chg (H3.out.notBlk (Q2.out.chg C3.out (H2.out.notBlk Q2.out.type)).type)
  · exact (y5.chgC H2.out C3.out (set_out t4)).chgC H3.out S4.out.chg (fun _ _ => rfl)

set_option maxHeartbeats 6400000 in
set_option maxRecDepth 100000 in
theorem tMend_lsplit {w : World} {p : Nat} {C : Nat → Prop} {A : Ar} {xs : List Nd} {root vis : Int} (h : Head w p C A xs root vis) (hlen : xs.length = A.T.length) (hv0 : 0 ≤ vis) (hv : vis ≤ 100000000000) {k i qa r m qm : Nat} {la lm : List Bool} {c : TT} (hS : SubW w xs (.pair k (.leaf i qa la) (.pair r (.leaf m qm lm) c))) (hO : Own A (.pair k (.leaf i qa la) (.pair r (.leaf m qm lm) c)))
    (hf : (TT.leaf i qa la).st.few = true) (hsm : Small (TT.pair r (.leaf m qm lm) c).st) (hle : ¬ la.length + lm.length ≤ 128) :
    Calls Tryd.prog 106 #[.pointer (some ⟨p, 0, none⟩), .int .i64 k] w fun e w' => MendPost w w' p C A xs root vis (.pair k (.leaf i qa la) (.pair r (.leaf m qm lm) c)) e := by
  obtain ⟨x, hx, hxl, hxr, hxb, hl, hr⟩ := hS
  obtain ⟨g, rc, cur, c1, hgp, hCg, _⟩ := h.row (by have := (List.getElem?_eq_some_iff.1 hx).1; omega)
  obtain ⟨_, _, hkx, _⟩ := h.node c1 hx
  obtain ⟨a0, a1, _⟩ := h.eight c1 hx
  rw [hxl] at a0
  rw [hxr] at a1
  change w.cell? ⟨g, k * 8, none⟩ = some (.int .i64 (i : Int)) at a0
  change w.cell? ⟨g, k * 8 + 1, none⟩ = some (.int .i64 (r : Int)) at a1
  obtain ⟨_, _, cv, fz⟩ := h.cells
  have f3 := fz 3
  have HF1 : Hid (∀ n, Calls Tryd.prog 120 #[.pointer (some ⟨p, 0, none⟩), .int .i64 i] (w.drewN n) fun e w' => e = .returned (.bool (TT.leaf i qa la).st.few) ∧ w.drewN n = w') := fun n =>
    tFew_any (T := TT.leaf i qa la) (h.drewN n) (hl.keep (w' := w.drewN n) (fun _ _ => rfl) (fun _ _ => rfl))
  have HF2 : Hid (∀ n, Calls Tryd.prog 120 #[.pointer (some ⟨p, 0, none⟩), .int .i64 r] (w.drewN n) fun e w' => e = .returned (.bool (TT.pair r (TT.leaf m qm lm) c).st.few) ∧ w.drewN n = w') := fun n =>
    tFew_any (T := TT.pair r (TT.leaf m qm lm) c) (h.drewN n) (hr.keep (w' := w.drewN n) (fun _ _ => rfl) (fun _ _ => rfl))
  have h1 : ∀ n, Head ((w.drewN n).setCell ⟨p, 3, none⟩ (.int .i64 (vis + 2))) p C A xs root (vis + 2) := fun n => (h.drewN n).set3 _
  have g1 : ∀ n, Chg C w ((w.drewN n).setCell ⟨p, 3, none⟩ (.int .i64 (vis + 2))) := fun n => (Chg.refl.drewN n).setCell _ (Or.inl h.self) _
  have HL1 : Hid (∀ n, Sub ((w.drewN n).setCell ⟨p, 3, none⟩ (.int .i64 (vis + 2))) xs (TT.leaf i qa la)) := fun n => hl.chgC h (g1 n) (fun _ _ => rfl)
  have HR1 : Hid (∀ n, Sub ((w.drewN n).setCell ⟨p, 3, none⟩ (.int .i64 (vis + 2))) xs (TT.pair r (TT.leaf m qm lm) c)) := fun n => hr.chgC h (g1 n) (fun _ _ => rfl)
  have HC1 : Hid (∀ n, ((w.drewN n).setCell ⟨p, 3, none⟩ (.int .i64 (vis + 2))).cell? ⟨p, 1, none⟩ = some (.slice (some ⟨g, 0, none⟩) xs.length rc)) := fun n => by
    have := c1
    go_simp
  have H1 := Lib.hid h1
  have G1 := Lib.hid g1
  have HO := Lib.hid hO
  have HLN := Lib.hid hlen
  have HX : Hid (xs[k]? = some x ∧ x.left = i ∧ x.right = r ∧ x.b = none) := ⟨hx, hxl, hxr, hxb⟩
  obtain ⟨_, _, hix, _⟩ := h.node c1 hl.root
  obtain ⟨_, _, hrx, _⟩ := h.node c1 hr.root
  obtain ⟨_, _, _, _, _, _, _, b7⟩ := h.eight c1 hl.root
  obtain ⟨d0, d1, _, _, _, _, _, d7⟩ := h.eight c1 hr.root
  change w.cell? ⟨g, i * 8 + 7, none⟩ = some (.pointer (some ⟨qa, 0, none⟩)) at b7
  change w.cell? ⟨g, r * 8, none⟩ = some (.int .i64 (m : Int)) at d0
  change w.cell? ⟨g, r * 8 + 1, none⟩ = some (.int .i64 (c.num : Int)) at d1
  change w.cell? ⟨g, r * 8 + 7, none⟩ = some (.pointer none) at d7
  change i < xs.length at hix
  change r < xs.length at hrx
  have hD : k ≠ i ∧ k ≠ r ∧ k ≠ m ∧ k ∉ c.nums ∧ i ≠ r ∧ i ≠ m ∧ i ∉ c.nums ∧ r ≠ m ∧ r ∉ c.nums ∧ m ∉ c.nums ∧ c.nums.Nodup := by
    obtain ⟨e1, e2, _, e4, e5⟩ := TT.dis hO.nn
    obtain ⟨f1, f2, _, f4, f5⟩ := TT.dis e4
    have e5' := e5 i (by simp [TT.nums])
    have f5' := f5 m (by simp [TT.nums])
    simp only [TT.nums, List.mem_cons, List.mem_append, List.not_mem_nil, or_false, not_or] at e1 e2 e5' f1
    exact ⟨e1, e2.1, e2.2.1, e2.2.2, e5'.1, e5'.2.1, e5'.2.2, f1, f2, f5', f4⟩
  have hB : qa ≠ qm ∧ qa ∉ c.bl ∧ qm ∉ c.bl ∧ c.bl.Nodup := by
    have := hO.bn
    simp only [TT.bl, List.nodup_append, List.nodup_cons, List.not_mem_nil, not_false_eq_true, List.nodup_nil, and_self, true_and, List.mem_cons, or_false, List.mem_append, forall_eq] at this
    refine ⟨fun e => this.2 qm (Or.inl rfl) e, fun e => this.2 qa (Or.inr e) rfl, fun e => this.1.2 qm e rfl, this.1.1⟩
  have HD := Lib.hid hD
  have HBB := Lib.hid hB
  have hmd : mendT (TT.pair k (.leaf i qa la) (.pair r (.leaf m qm lm) c)).st = (if la.length + lm.length ≤ 128 then .pair (.leaf (la ++ lm)) c.st else .pair (.leaf ((la ++ lm).take ((la.length + lm.length) / 2))) (.pair (.leaf ((la ++ lm).drop ((la.length + lm.length) / 2))) c.st)) := by
    simp only [TT.st, mendT]
    rw [if_neg (by rintro ⟨e1, e2⟩; simp only [TT.st] at hf; rw [hf] at e1; cases e1)]
  have HMD := Lib.hid hmd
  have hpw := h.lt p h.self
  have hgw := h.lt g hCg
  have HXI : Hid (xs[i]? = some (TT.leaf i qa la).nd) := hl.root
  have HXR : Hid (xs[r]? = some (TT.pair r (.leaf m qm lm) c).nd) := hr.1
  have HXM : Hid (xs[m]? = some (TT.leaf m qm lm).nd) := hr.2.1.1
  have HFA : Hid (∀ n, Calls Tryd.prog 120 #[.pointer (some ⟨p, 0, none⟩), .int .i64 i] ((w.drewN n).setCell ⟨p, 3, none⟩ (.int .i64 (vis + 2))) fun e w' => e = .returned (.bool true) ∧ (w.drewN n).setCell ⟨p, 3, none⟩ (.int .i64 (vis + 2)) = w') := fun n => by
    have := tFew_any (T := TT.leaf i qa la) (h1 n) (HL1.out n); rw [hf] at this; exact this
  have HSM := Lib.hid hsm
  have HLF := Lib.hid hf
  have HLV : Hid (∀ n, Calls Tryd.prog 121 #[.pointer (some ⟨p, 0, none⟩), .int .i64 i, .int .i64 m] ((w.drewN n).setCell ⟨p, 3, none⟩ (.int .i64 (vis + 2))) _) :=
    fun n => tLev_split (h1 n) (HL1.out n) (HR1.out n).2.1 hD.2.2.2.2.2.1 hB.1 (by omega)
  clear h hlen hO hx hxl hxr hxb hl hr fz h1 g1 hD hmd hCg hB hf hsm
  go_enter Tryd.func106, Tryd.ntmps106
  go_wp2_with fail
  go_quiet (fail)
  obtain ⟨n1, rfl⟩ : ∃ n1, n1 = nq := ⟨_, rfl⟩
  go_wp2_with fail
  refine (HF1.out n1).mono ?_
  rintro e w' ⟨rfl, rfl⟩
  rw [HLF.out]
  go_wp2_with fail
  refine (HFA.out n1).mono ?_
  rintro e w' ⟨rfl, rfl⟩
  go_wp2_with fail
  refine (HLV.out n1).mono ?_
  rintro e w2 ⟨rfl, q1, q2, u1, u2, u3, h2, b1, b2, g2⟩
  obtain ⟨t1, t2, t3, t4, t5, t6, t7, t8, t9, t10, t11⟩ := HD.out
  have hll : ((la ++ lm).take ((la.length + lm.length) / 2)).length + ((la ++ lm).drop ((la.length + lm.length) / 2)).length = la.length + lm.length := by simp; omega
  have hsl : la.length ≤ 128 ∧ lm.length ≤ 128 := ⟨(HL1.out n1).2.1, (HR1.out n1).2.1.2.1⟩
  have hmd := HMD.out
  rw [if_neg hle] at hmd
  have HMD2 := Lib.hid hmd
  generalize (la ++ lm).take ((la.length + lm.length) / 2) = lo at *
  generalize (la ++ lm).drop ((la.length + lm.length) / 2) = hi at *
  have U : Hid (w.heap.size ≤ q1 ∧ w.heap.size ≤ q2 ∧ q1 ≠ q2) := ⟨Nat.le_trans (G1.out n1).size u1, Nat.le_trans (G1.out n1).size u2, u3⟩
  have g12 : Chg C w w2 := (G1.out n1).trans g2 (fun b hb => Or.inl hb)
  have xr2 : ((xs.set i (TT.leaf i q1 lo).nd).set m (TT.leaf m q2 hi).nd)[r]? = some (TT.pair r (.leaf m qm lm) c).nd := by rw [set_ne t8, set_ne t5.symm]; exact HXR.out
  have xk2 : ((xs.set i (TT.leaf i q1 lo).nd).set m (TT.leaf m q2 hi).nd)[k]? = some x := by rw [set_ne t3, set_ne t1]; exact HX.out.1
  have xi2 : ((xs.set i (TT.leaf i q1 lo).nd).set m (TT.leaf m q2 hi).nd)[i]? = some (TT.leaf i q1 lo).nd := by rw [set_ne t6]; exact set_get HXI.out
  have xm2 : ((xs.set i (TT.leaf i q1 lo).nd).set m (TT.leaf m q2 hi).nd)[m]? = some (TT.leaf m q2 hi).nd := set_get (x := (TT.leaf m qm lm).nd) (by rw [set_ne t6.symm]; exact HXM.out)
  have kp2 : ∀ b : Nat, b ≠ i → b ≠ m → ((xs.set i (TT.leaf i q1 lo).nd).set m (TT.leaf m q2 hi).nd)[b]? = xs[b]? := fun b hb hc => by rw [set_ne hc, set_ne hb]
  have ln2 : ((xs.set i (TT.leaf i q1 lo).nd).set m (TT.leaf m q2 hi).nd).length = A.T.length := by rw [List.length_set, List.length_set]; exact HLN.out
  have sc2 : Sub w2 ((xs.set i (TT.leaf i q1 lo).nd).set m (TT.leaf m q2 hi).nd) c := (HR1.out n1).2.2.chgC (H1.out n1) g2 (fun b hb => kp2 b (by rintro rfl; exact t7 hb) (by rintro rfl; exact t10 hb))
  generalize (xs.set i (TT.leaf i q1 lo).nd).set m (TT.leaf m q2 hi).nd = xs2 at *
  have hs2 := HSM.out.r
  have HF := Lib.hid (tFix_tt (a := .leaf m q2 hi) (b := c) h2 xr2 rfl rfl rfl ⟨xm2, b2⟩ sc2 ⟨by simp only [TT.st, ST.bits]; omega, by simp [TT.st, ST.high]⟩ hs2)
  have H2 := Lib.hid h2
  have B1 := Lib.hid b1
  have B2 := Lib.hid b2
  have G12 := Lib.hid g12
  have XX : Hid (xs2[k]? = some x ∧ xs2[i]? = some (TT.leaf i q1 lo).nd ∧ xs2[m]? = some (TT.leaf m q2 hi).nd ∧ xs2[r]? = some (TT.pair r (.leaf m qm lm) c).nd ∧ (∀ b : Nat, b ≠ i → b ≠ m → xs2[b]? = xs[b]?) ∧ xs2.length = A.T.length ∧ Sub w2 xs2 c) := ⟨xk2, xi2, xm2, xr2, kp2, ln2, sc2⟩
  clear h2 b1 b2 g2 g12 u1 u2 u3 t1 t2 t3 t4 t5 t6 t7 t8 t9 t10 t11 xr2 xk2 xi2 xm2 kp2 ln2 sc2 hmd hll hs2 hsl
  go_wp2_with fail
  refine HF.out.mono ?_
  rintro e w3 ⟨rfl, h3, g3⟩
  have H3 := Lib.hid h3
  have G3 := Lib.hid (H2.out.chgRow g3)
  clear h3 g3
  go_wp2_with fail
  go_ret
  obtain ⟨t1, t2, t3, t4, t5, t6, t7, t8, t9, t10, t11⟩ := HD.out
  obtain ⟨u1, u2, u3⟩ := U.out
  obtain ⟨y1, y2, y2', y2'', y3, y4, y5⟩ := XX.out
  have tk := HO.out.tk
  have cb : ∀ b ∈ c.bl, b < w.heap.size := fun b hb => by
    have := ((HR1.out n1).2.2.type hb).lt
    simpa [World.setCell] using this
  refine ⟨.pair k (.leaf i q1 lo) (.pair r (.leaf m q2 hi) c), C, A, _, _, rfl, H3.out, ⟨⟨?_, ?_, fun b hb => tk b (by simpa [TT.nums] using hb)⟩, ?_, fun b hb => Or.inl hb, fun b hb => ?_, fun b e1 e2 => ?_, ?_, rfl, (G12.out.trans G3.out (fun b hb => Or.inl hb)).mono (fun b hb => Or.inl hb)⟩, ?_, by omega, by omega, ⟨x, ?_, HX.out.2.1, HX.out.2.2.1, HX.out.2.2.2, ⟨?_, ?_⟩, ?_, ⟨?_, ?_⟩, ?_⟩, rfl⟩
  · simp [TT.nums, t1, t2, t3, t4, t5, t6, t7, t8, t9, t10, t11]
  · simp [TT.bl, HBB.out.2.2.2, u3]
    exact ⟨fun h => by have := cb _ h; omega, fun h => by have := cb _ h; omega⟩
  · rw [List.length_set, y4]
  · simp only [TT.bl, List.mem_append, List.mem_cons, List.not_mem_nil, or_false] at hb ⊢
    rcases hb with rfl | rfl | hb
    · exact Or.inr u1
    · exact Or.inr u2
    · exact Or.inl (Or.inr (Or.inr hb))
  · have e2' := e2
    simp only [TT.nums, List.mem_cons, List.mem_append, List.not_mem_nil, or_false, not_or] at e2
    refine ⟨by rw [set_ne e2.2.2.1, y3 b e2.2.1 e2.2.2.2.1], e1, by simpa [TT.nums] using e2'⟩
  · simp only [TT.st, ST.size]
  · exact HMD2.out.symm
  · rw [set_ne t2]; exact y1
  · rw [set_ne t5]; exact y2
  · exact B1.out.chg G3.out (H2.out.notBlk B1.out.type)
  · exact set_get y2''
  · rw [set_ne t8.symm]; exact y2'
  · exact B2.out.chg G3.out (H2.out.notBlk B2.out.type)
  · exact y5.chgC H2.out G3.out (set_out t9)

end Go.Proofs.YtcppgpjodfeigaaDoor
