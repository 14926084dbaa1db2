/- The laws' helpers of layer 9: Text, told; contracts for rows of the call's own. -/
import Derived.Test.YtpbmhdkhkbhgnaaSortedB
import Derived.Test.YtpbmhdkhkbhgnaaSymAsksL
import Derived.Lib.SlBytesConst
namespace Go.Proofs.Ytpbmhdkhkbhgnaa
set_option linter.unusedVariables false
set_option linter.unusedSimpArgs false
open Go.RowKit

def RowsAt (B : Nat) (w : World) (t : List Int) (e : Ending) (w' : World) : Prop := ∃ a c r, e = .returned (.slice a (t.length + 1) c) ∧ IsRows (symsT t) r ∧ w'.ownsRow B 3 1 (.slice a (t.length + 1) c) (t.length + 1) (r.map natV) ∧ Below B w w'
theorem rows_at {n : Nat} {w : World} (a : Option Addr) (c : Nat) (t : List Int) (hn : n = t.length) (hr : Reads w .u8 a t) (hb : Bytes t) (hl : t.length ≤ 1000000) :
    Calls Try.prog 17 #[.slice a n c] w (RowsAt w.heap.size w t) := by
  subst hn
  refine (rows_any a c t w hr hb hl).mono ?_
  rintro e w' ⟨r, hrw, v, rfl, hown, hb'⟩
  have hlen : r.length = t.length + 1 := by rw [hrw.len, symsT_len]
  rw [hlen] at hown
  obtain ⟨a', c', rfl, _, _⟩ := own_slice hown
  exact ⟨a', c', r, rfl, hrw, hown, hb'⟩
def LastAt (B : Nat) (w : World) (t : List Int) (e : Ending) (w' : World) : Prop := ∃ a c m, e = .returned (.slice a (t.length + 1) c) ∧ IsLast t m ∧ w'.ownsRow B 3 1 (.slice a (t.length + 1) c) (t.length + 1) (m.map (Value.int .i64)) ∧ Below B w w'
theorem last_at {n : Nat} {w : World} (a : Option Addr) (c : Nat) (t : List Int) (hn : n = t.length) (hr : Reads w .u8 a t) (hb : Bytes t) (hl : t.length ≤ 1000000) :
    Calls Try.prog 24 #[.slice a n c] w (LastAt w.heap.size w t) := by
  subst hn
  refine (last_any a c t w hr hb hl).mono ?_
  rintro e w' ⟨m, hm, v, rfl, hown, hb'⟩
  rw [hm.len] at hown
  obtain ⟨a', c', rfl, _, _⟩ := own_slice hown
  exact ⟨a', c', m, rfl, hm, hown, hb'⟩
/-- Back, where there is a text; where there is none. -/
def BackYes (B : Nat) (w : World) (t : List Int) (e : Ending) (w' : World) : Prop := ∃ a c, e = .returned (.tuple #[.slice a t.length c, .bool true]) ∧ w'.ownsRow B 5 1 (.slice a t.length c) t.length (t.map (Value.int .u8)) ∧ Below B w w'
theorem back_yes {n : Nat} {w : World} {t m : List Int} (h : IsLast t m) (a : Option Addr) (c : Nat) (hn : n = m.length) (hr : Reads w .i64 a m) (hl : m.length ≤ 1000000) :
    Calls Try.prog 20 #[.slice a n c] w (BackYes w.heap.size w t) := by
  subst hn
  refine (back_any a c m w hr hl).mono ?_
  rintro e w' ⟨v, ok, rfl, hb', hy, hno⟩
  cases ok with
  | false => exact absurd h ((hno rfl).2 t)
  | true =>
    obtain ⟨_, hown⟩ := hy rfl
    rw [← h.text] at hown
    obtain ⟨a', c', rfl, _, _⟩ := own_slice hown
    exact ⟨a', c', rfl, hown, hb'⟩
theorem back_none {n : Nat} {w : World} {m : List Int} (h : ∀ t, ¬ IsLast t m) (a : Option Addr) (c : Nat) (hn : n = m.length) (hr : Reads w .i64 a m) (hl : m.length ≤ 1000000) :
    Calls Try.prog 20 #[.slice a n c] w fun e w' => e = .returned (.tuple #[.slice none 0 0, .bool false]) ∧ Below w.heap.size w w' := by
  subst hn
  refine (back_any a c m w hr hl).mono ?_
  rintro e w' ⟨v, ok, rfl, hb', hy, hno⟩
  cases ok with
  | true => exact absurd (hy rfl).1 (h _)
  | false =>
    obtain ⟨rfl, _⟩ := hno rfl
    exact ⟨rfl, hb'⟩

/-- What is returned is some row of bytes of the call's own. -/
def SomeT (B : Nat) (w : World) (most : Nat) (e : Ending) (w' : World) : Prop := ∃ a c t, e = .returned (.slice a t.length c) ∧ Bytes t ∧ t.length ≤ most ∧ w'.ownsRow B 5 1 (.slice a t.length c) t.length (t.map (Value.int .u8)) ∧ Below B w w'
theorem bytes_snoc {t : List Int} {x : Int} (h : Bytes t) (h0 : 0 ≤ x) (h1 : x < 256) : Bytes (t ++ [x]) := by
  intro i hi
  rw [List.getElem?_append]
  split
  · exact h i (by assumption)
  · rw [List.length_append] at hi
    have : i - t.length = 0 := by simp at hi; omega
    rw [this]; exact ⟨h0, h1⟩
theorem wrap_u8 (x : Int) : ∃ y : Int, IntKind.u8.wrap x = y ∧ 0 ≤ y ∧ y < 256 := by
  refine ⟨_, rfl, ?_, ?_⟩ <;> · simp [IntKind.wrap, IntKind.bits, IntKind.signed]; omega

set_option maxHeartbeats 1600000 in
theorem lawText_any (a : Option Addr) (c : Nat) (z : List Int) (most : Nat) (few : Bool) (w : World) (hr : Reads w .i64 a z) (hm : most ≤ 1000) (hz : z.length ≤ maxLen) :
    Calls Try.prog 16 #[.slice a z.length c, .int .i64 most, .bool few] w (SomeT w.heap.size w most) := by
  unfold maxLen at hz
  go_enter Try.func16, Try.ntmps16
  go_wp2_with fail
  go_loopw [7, 8] (fun v i wr => ∃ (k : Nat) (t : List Int), k ≤ z.length ∧ t.length = k ∧ k ≤ most ∧ i = .int .i64 k ∧ Bytes t ∧ wr.ownsRow w.heap.size 5 1 v k (t.map (Value.int .u8)) ∧ Below w.heap.size w wr) (fun _ i _ => z.length - (intOf i).toNat)
  case atStart => exact ⟨0, [], Nat.zero_le _, rfl, Nat.zero_le _, rfl, bytes_nil, World.ownsRow_nil _ _ _ _, Below.refl _ _⟩
  case round =>
    obtain ⟨k, t, hk, ht, hkm, rfl, hbt, hown, hb⟩ := hrel
    have hs := hb.size
    obtain ⟨a4, c4, rfl, _, _⟩ := own_slice hown
    by_cases hlt : k < z.length ∧ k < most
    · obtain ⟨hlt, hlm⟩ := hlt
      obtain ⟨b, off, rfl, hbl, hcells⟩ := hr.some (by omega)
      have hc0 := (hb.cell (p := ⟨b, off + k, none⟩) hbl).trans (hcells k hlt)
      generalize z[k]?.getD 0 = x at *
      have HBT := Lib.hid hbt
      have HT := Lib.hid ht
      clear hcells hbt ht
      have d1 : decide ((k : Int) < (most : Int)) = true := by simp; omega
      obtain ⟨u, hu0, hu1, hu⟩ : ∃ u : Int, 0 ≤ u ∧ u < 18446744073709551616 ∧ IntKind.u64.wrap x = u := ⟨IntKind.u64.wrap x, by rw [IntKind.wrap_u64]; omega, by rw [IntKind.wrap_u64]; omega, rfl⟩
      obtain ⟨y, hy, hy0, hy1⟩ := wrap_u8 x
      have u30 : 0 ≤ u % 3 := by omega
      have u31 : u % 3 < 3 := by omega
      obtain ⟨V, hV, hV0, hV1⟩ : ∃ V : Int, V = (if few then 97 + u % 3 else y) ∧ 0 ≤ V ∧ V < 256 := ⟨_, rfl, by split <;> omega, by split <;> omega⟩
      cases few
      all_goals
        simp only [if_true, if_false, Bool.false_eq_true] at hV
        have HV := Lib.hid hV
        clear hV
        go_wp2_with (at_builtin; refine wpList_push rfl _ _ 23 rfl w.heap.size 5 Try.infoU8 Try.underlying23 rfl _ _ _ rfl hown rfl rfl ?c1 ?c2 ?c3 ?_)
        case c1 => unfold maxLen; omega
        case c2 => omega
        case c3 => omega
        intro v' w5 hown' hgrow
        have hch : Below w.heap.size w w5 := hb.grown hgrow hs (fun j hj => (hown.lt j hj).1)
        rw [← HV.out] at hown'
        have HO : Hid (w5.ownsRow w.heap.size 5 1 v' (k + 1) ((t ++ [V]).map (Value.int .u8))) := by
          show w5.ownsRow _ _ _ _ _ _
          rw [List.map_append]; exact hown'
        have HCH := Lib.hid hch
        have HB1 := Lib.hid (bytes_snoc HBT.out hV0 hV1)
        have HLN : Hid ((t ++ [V]).length = k + 1) := by show _ = _; rw [List.length_append, HT.out]; rfl
        generalize t ++ [V] = t' at *
        clear hown hown' hgrow hch hu hy
        go_wp2_with fail
        go_roundw
        case rel => exact ⟨k + 1, t', by omega, HLN.out, by omega, by go_num, HB1.out, HO.out, HCH.out⟩
        case measure => simp [intOf]; omega
    · have hlt' : ¬ k < z.length ∨ ¬ k < most := by omega
      have hres : SomeT w.heap.size w most (.returned (.slice a4 k c4)) wr := ⟨a4, c4, t, by rw [ht], hbt, by omega, by rw [ht]; exact hown, hb⟩
      have HRES := Lib.hid hres
      clear hres
      by_cases h1 : k < z.length
      · have d1 : decide (k < most) = false := by simp; omega
        go_wp2_with fail
        go_ret
        exact HRES.out
      · go_wp2_with fail
        go_ret
        exact HRES.out

theorem bytes_byteL {t : List Int} (h : ByteL t) : Bytes t := fun i hi => by rw [getD_eq hi]; exact h _ (List.getElem_mem hi)
theorem lit_reads (xs : List Int) (W : World) : Reads (W.alloc (.cells (xs.map (Value.int .i64)).toArray 3)) .i64 (some ⟨W.heap.size, 0, none⟩) xs := fun i hi => ⟨_, _, rfl, by simp, fun j hj => by
  rw [Nat.zero_add, cell_of_row _ W.heap.size j _ _ _ (heap_alloc_new W _)]
  simp [hj]⟩
theorem rows_aba : IsRows (symsT [97, 98, 97]) [3, 2, 0, 1] := by
  have e : symsT [97, 98, 97] = [98, 99, 98, 0] := rfl
  rw [e]
  have l1 : ∀ a b, sy [98, 99, 98, 0] a < sy [98, 99, 98, 0] b → sufLt [98, 99, 98, 0] a b := fun a b h => suf_cons.2 (Or.inl h)
  refine ⟨by decide, ?_⟩
  simp only [List.pairwise_cons, List.mem_cons, List.not_mem_nil, or_false, forall_eq_or_imp, forall_eq, List.Pairwise.nil, and_true, false_implies, implies_true]
  refine ⟨⟨l1 _ _ (by decide), l1 _ _ (by decide), l1 _ _ (by decide)⟩, ⟨suf_cons.2 (Or.inr ⟨by decide, l1 _ _ (by decide)⟩), l1 _ _ (by decide)⟩, l1 _ _ (by decide)⟩
theorem last_aba : IsLast [97, 98, 97] [98, 99, 0, 98] := ⟨by intro x hx; simp at hx; omega, _, rows_aba, rfl⟩

set_option maxHeartbeats 3200000 in
set_option maxRecDepth 100000 in
theorem told9_any (w : World) : Calls Try.prog 18 #[] w fun e w' => e = .returned (.bool true) ∧ Below w.heap.size w w' := by
  have hby : Bytes [97, 98, 97] := bytes_byteL last_aba.1
  have kc := fun (w : World) (C : Array Value) (n c : Nat) => Lib.run_convert_bytes_const (P := Try.prog) w 23 5 C n c Try.underlying23 Try.underlying5
  have hrd : ∀ (W : World) fr, Reads (W.alloc (.cells #[.int .u8 97, .int .u8 98, .int .u8 97] 5 fr)) .u8 (some ⟨W.heap.size, 0, none⟩) [97, 98, 97] := fun W fr i hi => ⟨_, _, rfl, by simp, fun j hj => by
    rw [Nat.zero_add, cell_of_row _ W.heap.size j _ _ _ (heap_alloc_new W _)]
    match j, hj with
    | 0, _ => rfl
    | 1, _ => rfl
    | 2, _ => rfl⟩
  have HRD := Lib.hid hrd
  clear hrd
  have hsm1 : sameI [3, 2, 0, 1] [3, 2, 0, 1] = true := by decide
  have hsm2 : sameI [98, 99, 0, 98] [98, 99, 0, 98] = true := by decide
  have HS1 := Lib.hid hsm1
  have HS2 := Lib.hid hsm2
  have hstr : strOfNums [97, 98, 97] = { data := #[97, 98, 97] } := by decide
  have HSTR := Lib.hid hstr
  clear hsm1 hsm2 hstr
  go_enter Try.func18, Try.ntmps18
  go_wp2_with fail
  have hb0 := below_al w (.cells #[.int .u8 97, .int .u8 98, .int .u8 97] 5 (3, 4))
  refine (rows_at _ _ [97, 98, 97] rfl (HRD.out w _) hby (by simp)).mono ?_
  rintro e w1 ⟨a1, c1, r, rfl, hr, ho1, hb1⟩
  obtain rfl := rows_unique hr rows_aba
  have HB1 := Lib.hid (hb0.trans (hb1.mono hb0.size))
  have HR1 := Lib.hid (own_reads (xs := [3, 2, 0, 1]) ho1)
  clear hr ho1 hb0 hb1
  go_wp2_with fail
  have HB2 := Lib.hid (HB1.out.alloc HB1.out.size (.cells #[.int .u8 97, .int .u8 98, .int .u8 97] 5 (3, 4)))
  have HR2 := Lib.hid (HR1.out.below (below_al w1 (.cells #[.int .u8 97, .int .u8 98, .int .u8 97] 5 (3, 4))))
  refine (last_at _ _ [97, 98, 97] rfl (HRD.out w1 _) hby (by simp)).mono ?_
  rintro e w2 ⟨a2, c2, m, rfl, hm, ho2, hb2⟩
  obtain rfl := hm.same last_aba
  have HB3 := Lib.hid (HB2.out.trans (hb2.mono HB2.out.size))
  have HR3 := Lib.hid (HR2.out.below hb2)
  have HM3 := Lib.hid (own_reads (xs := [98, 99, 0, 98]) ho2)
  clear hm ho2 hb2 HR1 HR2 HB1 HB2
  go_wp2_with fail
  refine (back_yes last_aba a2 c2 rfl HM3.out (by simp)).mono ?_
  rintro e w3 ⟨a3, c3, rfl, ho3, hb3⟩
  have HB4 := Lib.hid (HB3.out.trans (hb3.mono HB3.out.size))
  have HR4 := Lib.hid (HR3.out.below hb3)
  have HM4 := Lib.hid (HM3.out.below hb3)
  have HT4 := Lib.hid (own_reads (xs := [97, 98, 97]) ho3)
  clear ho3 hb3 HB3 HR3 HM3
  go_wp2_with fail
  have hb5 := below_al w3 (.cells #[.int .i64 98, .int .i64 98] 3)
  have HB5 := Lib.hid (HB4.out.trans (hb5.mono HB4.out.size))
  have HR5 := Lib.hid (HR4.out.below hb5)
  have HM5 := Lib.hid (HM4.out.below hb5)
  have HT5 := Lib.hid (HT4.out.below hb5)
  have hno : ∀ t, ¬ IsLast t [98, 98] := fun t h => by
    have := h.zero
    cases this
  refine (back_none hno _ _ rfl (by exact own_reads (xs := [98, 98]) (own_vecG (f := fun _ => .int .i64 98) (n := 2) (base := 0) (e := 3) (heap_alloc_new w3 _) (Nat.zero_le _) (by unfold maxLen; omega))) (by simp)).mono ?_
  rintro e w6 ⟨rfl, hb6⟩
  have HB6 := Lib.hid (HB5.out.trans (hb6.mono HB5.out.size))
  have HR6 := Lib.hid (HR5.out.below hb6)
  have HM6 := Lib.hid (HM5.out.below hb6)
  have HT6 := Lib.hid (HT5.out.below hb6)
  clear hb5 hb6 hno HB4 HR4 HM4 HT4 HB5 HR5 HM5 HT5
  go_wp2_with fail
  have hb7 := below_al w6 (.cells #[.int .i64 3, .int .i64 2, .int .i64 0, .int .i64 1] 3)
  have HB7 := Lib.hid (HB6.out.trans (hb7.mono HB6.out.size))
  have HR7 := Lib.hid (HR6.out.below hb7)
  have HM7 := Lib.hid (HM6.out.below hb7)
  have HT7 := Lib.hid (HT6.out.below hb7)
  refine (refSame_len a1 _ 4 4 c1 4 [3, 2, 0, 1] [3, 2, 0, 1] _ HR7.out (lit_reads [3, 2, 0, 1] w6) rfl rfl (by simp)).mono ?_
  rintro e w' ⟨rfl, n7, rfl⟩
  rw [HS1.out]
  have HB8 : Hid (Below w.heap.size w ((w6.alloc (.cells #[.int .i64 3, .int .i64 2, .int .i64 0, .int .i64 1] 3)).drewN n7)) := below_dN HB7.out n7
  have HR8 : Hid (Reads ((w6.alloc (.cells #[.int .i64 3, .int .i64 2, .int .i64 0, .int .i64 1] 3)).drewN n7) _ _ _) := HR7.out
  have HM8 : Hid (Reads ((w6.alloc (.cells #[.int .i64 3, .int .i64 2, .int .i64 0, .int .i64 1] 3)).drewN n7) _ _ _) := HM7.out
  have HT8 : Hid (Reads ((w6.alloc (.cells #[.int .i64 3, .int .i64 2, .int .i64 0, .int .i64 1] 3)).drewN n7) _ _ _) := HT7.out
  generalize (w6.alloc (.cells #[.int .i64 3, .int .i64 2, .int .i64 0, .int .i64 1] 3)).drewN n7 = w8 at *
  clear hb7 HB6 HR6 HM6 HT6 HB7 HR7 HM7 HT7 HS1
  go_wp2_with fail
  have hb7 := below_al w8 (.cells #[.int .i64 98, .int .i64 99, .int .i64 0, .int .i64 98] 3)
  have HB7 := Lib.hid (HB8.out.trans (hb7.mono HB8.out.size))
  have HR7 := Lib.hid (HR8.out.below hb7)
  have HM7 := Lib.hid (HM8.out.below hb7)
  have HT7 := Lib.hid (HT8.out.below hb7)
  refine (refSame_len a2 _ 4 4 c2 4 [98, 99, 0, 98] [98, 99, 0, 98] _ HM7.out (lit_reads [98, 99, 0, 98] w8) rfl rfl (by simp)).mono ?_
  rintro e w' ⟨rfl, n9, rfl⟩
  rw [HS2.out]
  have HB9 : Hid (Below w.heap.size w ((w8.alloc (.cells #[.int .i64 98, .int .i64 99, .int .i64 0, .int .i64 98] 3)).drewN n9)) := below_dN HB7.out n9
  have HR9 : Hid (Reads ((w8.alloc (.cells #[.int .i64 98, .int .i64 99, .int .i64 0, .int .i64 98] 3)).drewN n9) _ _ _) := HR7.out
  have HM9 : Hid (Reads ((w8.alloc (.cells #[.int .i64 98, .int .i64 99, .int .i64 0, .int .i64 98] 3)).drewN n9) _ _ _) := HM7.out
  have HT9 : Hid (Reads ((w8.alloc (.cells #[.int .i64 98, .int .i64 99, .int .i64 0, .int .i64 98] 3)).drewN n9) _ _ _) := HT7.out
  generalize (w8.alloc (.cells #[.int .i64 98, .int .i64 99, .int .i64 0, .int .i64 98] 3)).drewN n9 = w9 at *
  clear hb7 HB8 HR8 HM8 HT8 HB7 HR7 HM7 HT7 HS2
  have hcv : (convert 23 9 (.slice a3 3 c3)).run Try.prog w9 = .ok (.string { data := #[97, 98, 97] }) w9 := by
    have := conv_str (xs := [97, 98, 97]) (c := c3) Try.underlying23 Try.underlying5 Try.underlying9 HT9.out
    rw [HSTR.out] at this; exact this
  go_wp2_with fail
  refine (last_at none 0 [] rfl Reads.nil bytes_nil (by simp)).mono ?_
  rintro e w10 ⟨a10, c10, m10, rfl, hm10, ho10, hb10⟩
  have HB10 := Lib.hid (HB9.out.trans (hb10.mono HB9.out.size))
  have HR10 := Lib.hid (HR9.out.below hb10)
  have HM10 := Lib.hid (HM9.out.below hb10)
  clear hm10 ho10 hb10 hcv HB9 HR9 HM9 HT9
  go_wp2_with fail
  refine (same_ints a1 a1 4 4 c1 c1 [3, 2, 0, 1] [3, 2, 0, 1] w10 HR10.out HR10.out rfl rfl (by simp) (by simp)).mono ?_
  rintro e w' ⟨rfl, n11, rfl⟩
  rw [show decide (([3, 2, 0, 1] : List Int) = [3, 2, 0, 1]) = true from rfl]
  have HB11 := Lib.hid (below_dN HB10.out n11)
  have HR11 : Hid (Reads (w10.drewN n11) _ _ _) := HR10.out
  have HM11 : Hid (Reads (w10.drewN n11) _ _ _) := HM10.out
  generalize w10.drewN n11 = w11 at *
  clear HB10 HR10 HM10
  go_wp2_with fail
  refine (same_ints a1 a2 4 4 c1 c2 [3, 2, 0, 1] [98, 99, 0, 98] w11 HR11.out HM11.out rfl rfl (by simp) (by simp)).mono ?_
  rintro e w' ⟨rfl, n12, rfl⟩
  rw [show decide (([3, 2, 0, 1] : List Int) = [98, 99, 0, 98]) = false from rfl]
  have HB12 := Lib.hid (below_dN HB11.out n12)
  go_wp2_with fail
  go_ret
  exact ⟨rfl, HB12.out⟩


end Go.Proofs.Ytpbmhdkhkbhgnaa
