/- Lemmas and contracts under the claims of this seat: Contract of package wave: New. Package wave's New of what is no symbol; waves beside other rows, as laws see them. Contract of package wave: Shapes. Contract of package wave: Insert. Contract of package wave: Insert, in full. Contract of package wave: Delete. A wave of symbols as a law sees it. told of law 7. A wave and the row of its symbols, as laws see them. The contract of sym.All: the symbols of all parts, and the end, in memory of the call's own. sym.All of one, two and three parts. Contracts of the document's answer for symbols: Is, Bit, Path, Syms, Same. Rows of symbols compared; a letting in and out again; waves beside one another. Contracts of package tally. Contracts of package tally: Add. Tallies of the call's own: contracts for the laws; scrimshawlaw8.told. A walk in memory: a wave and a tally; what laws and contracts are told of it. Contracts of package walk: of, Len, All, Below, is, Back, First, On, Narrow. -/
import Derived.Test.YtacoeohmdngnkaaGreatDoorZl4
import Derived.Test.YtacoeohmdngnkaaGreatDoorZl5
import Derived.Deep.DeepCutAuto
import Derived.Deep.CutBlock
import Derived.Deep.CutRange
import Derived.Test.YtacoeohmdngnkaaGreatDoorZl1
import Derived.Laws.BytesArg
import Derived.Deep.QuietTactic
import Derived.BigQuiet
import Derived.Test.YtacoeohmdngnkaaGreatDoorZl2
import Derived.Deep.MidRow

namespace Go.Proofs.YtacoeohmdngnkaaGreatDoor
set_option linter.unusedVariables false
set_option linter.unusedSimpArgs false
open Go.RowKit

def wsV (s : Nat) : Value := .int .i64 s
/-- A cell of the row that is read. -/
theorem sym_cell {w : World} {a : Option Addr} {L : List Nat} (hr : ReadsV w a (L.map wsV)) {k s : Nat} (hk : L[k]? = some s) : ∃ b off, a = some ⟨b, off, none⟩ ∧ b < w.heap.size ∧ ∀ w', Below w.heap.size w w' → w'.cell? ⟨b, off + k, none⟩ = some (.int .i64 s) := by
  have hlt := (List.getElem?_eq_some_iff.1 hk).1
  obtain ⟨b, off, rfl, hb, hc⟩ := hr k (by rw [List.length_map]; exact hlt)
  exact ⟨b, off, rfl, hb, fun w' hbl => (hbl.cell (p := ⟨b, off + k, none⟩) hb).trans (hc k _ (by rw [List.getElem?_map, hk]; rfl))⟩

/-- How many shelves are there, at a level's shelf k. -/
def cntL (l k : Nat) : Nat → Nat := fun l' => if l' < l then pw l' else if l' = l then k else 0
theorem cntL_self (l k : Nat) : cntL l k l = k := by simp [cntL]
theorem cntL_zero : cntL 0 0 = fun _ => 0 := by funext l'; simp [cntL]
theorem cntL_inc (l k : Nat) : incC (cntL l k) l = cntL l (k + 1) := by
  funext l'
  unfold incC cntL
  by_cases h : l' = l
  · subst h; simp
  · simp [h]
theorem cntL_next (l : Nat) : cntL l (pw l) = cntL (l + 1) 0 := by
  funext l'
  unfold cntL
  by_cases h1 : l' < l
  · simp [h1, (by omega : l' < l + 1)]
  · by_cases h2 : l' = l
    · subst h2; simp
    · have h3 : ¬ l' < l + 1 := by omega
      simp [h1, h2, h3]
theorem cntL_done : ∀ l, l < 9 → cntL 9 0 l = pw l := fun l h => by simp [cntL, h]
def BitsOK (O : Nat → Nat → Option ST) (L : List Nat) (l k : Nat) : Prop := ∀ l' k', (l' < l ∧ k' < pw l') ∨ (l' = l ∧ k' < k) → sbits (O l' k') = lvl L l' k'
theorem BitsOK.zero (O : Nat → Nat → Option ST) (L : List Nat) : BitsOK O L 0 0 := fun l' k' h => by omega
theorem BitsOK.next {O : Nat → Nat → Option ST} {L : List Nat} {l : Nat} (h : BitsOK O L l (pw l)) : BitsOK O L (l + 1) 0 := fun l' k' hh => h l' k' (by
  rcases hh with ⟨h1, h2⟩ | ⟨_, h2⟩
  · by_cases e : l' = l
    · subst e; exact Or.inr ⟨rfl, h2⟩
    · exact Or.inl ⟨by omega, h2⟩
  · omega)
theorem BitsOK.push {O : Nat → Nat → Option ST} {L : List Nat} {l k : Nat} (h : BitsOK O L l k) {o : Option ST} (ho : sbits o = lvl L l k) : BitsOK (updO O l k o) L l (k + 1) := fun l' k' hh => by
  by_cases e : l' = l ∧ k' = k
  · obtain ⟨rfl, rfl⟩ := e
    rw [updO_same]; exact ho
  · rw [updO_ne _ _ (by omega)]
    exact h l' k' (by omega)
theorem BitsOK.done {O : Nat → Nat → Option ST} {L : List Nat} (h : BitsOK O L 9 0) : LvlO O L := fun l k hl hk => h l k (Or.inl ⟨hl, hk⟩)

theorem own_capLe {w : World} {base : Nat} {e : TypeId} {size n c : Nat} {a : Option Addr} {xs : List Value} (h : w.ownsRow base e size (.slice a n c) n xs) : n ≤ c := by
  rcases h.2 with ⟨h, _⟩ | ⟨g, cap, cur, hv, _, _, hc, _⟩
  · injection h with _ h1 h2; omega
  · injection hv with _ h1 h2; omega

set_option maxHeartbeats 6400000 in
set_option maxRecDepth 100000 in
theorem wNew_good {w : World} {a : Option Addr} {c : Nat} (L : List Nat) (hr : ReadsV w a (L.map wsV)) (hL : Syms L) (hn : L.length ≤ 1000000) :
    Calls Tryz.prog 49 #[.slice a L.length c] w fun e w' => ∃ p D O, e = .returned (.tuple #[.pointer (some ⟨p, 0, none⟩), .int .i64 0]) ∧ WaveE w.heap.size (fun _ => False) w' p D O L.length 0 anyV ∧ LvlO O L ∧ Below w.heap.size w w' := by
  have HR := Lib.hid hr
  have HLS := Lib.hid hL
  have hb0 := below_al w (.cells (headG (fun _ => .slice none 0 0) L.length) 75)
  have hP0 := WavePt.start (base := w.heap.size) w L.length (Nat.le_refl _) (fun _ _ => 0) (fun _ _ => none) (fun _ _ _ => False)
  have HS0 : Hid (WavePt (w.alloc (.cells (headG (fun _ => .slice none 0 0) L.length) 75)) w.heap.size w.heap.size (fun _ => .slice none 0 0) (fun _ => 0) (fun _ _ => 0) (fun _ _ => none) (fun _ _ _ => False) L.length ∧ Below w.heap.size w (w.alloc (.cells (headG (fun _ => .slice none 0 0) L.length) 75))) := ⟨hP0, hb0⟩
  unfold headG at HS0
  clear hb0 hP0 hr hL
  go_enter Tryz.func49, Tryz.ntmps49
  go_wp2_with fail
  generalize w.alloc (.cells #[.slice none 0 0, .slice none 0 0, .slice none 0 0, .slice none 0 0, .slice none 0 0, .slice none 0 0, .slice none 0 0, .slice none 0 0, .slice none 0 0, .int .i64 L.length, .int .i64 0] 75) = w0 at *
  go_loopw [20] (fun x wr => ∃ k : Nat, k ≤ L.length ∧ x = .int .i64 k ∧ wr = w0) (fun x _ => L.length - (intOf x).toNat)
  case atStart => exact ⟨0, Nat.zero_le _, rfl, rfl⟩
  case round => as_aux_lemma =>
    obtain ⟨k, hk, rfl, rfl⟩ := hrel
    by_cases hlt : k < L.length
    · obtain ⟨s, hs⟩ : ∃ s, L[k]? = some s := ⟨_, List.getElem?_eq_getElem hlt⟩
      obtain ⟨b, off, rfl, hbl, hcl⟩ := sym_cell HR.out hs
      have hc := hcl _ HS0.out.2
      have hs257 := HLS.out s (List.mem_of_getElem? hs)
      have his : symIs (s : Int) = true := symIs_true (by omega) (by omega)
      have HIS : Hid (∀ w, Calls Tryz.prog 30 #[.int .i64 s] w fun e w' => e = .returned (.bool true) ∧ w = w') := fun w => by rw [← his]; exact symIs_any s w
      have i0 : (0 : Int) ≤ (k : Int) := by omega
      have i1 : (k : Int) < (L.length : Int) := by omega
      clear hcl his hs
      go_wp2_with fail
      refine (HIS.out _).mono ?_
      rintro e w' ⟨rfl, rfl⟩
      go_wp2_with fail
      go_roundw
      case rel => exact ⟨k + 1, by omega, by go_num, trivial⟩
      case measure => simp [intOf]; omega
    · obtain rfl : k = L.length := by omega
      go_wp2_with fail
      clear hk hlt
      go_loopw [28] (fun x wr => ∃ l : Nat, l ≤ 9 ∧ x = .int .i64 l ∧ ∃ V Q O S, WavePt wr w.heap.size w.heap.size V (cntL l 0) Q O S L.length ∧ BitsOK O L l 0 ∧ (∀ l', l ≤ l' → V l' = .slice none 0 0) ∧ Below w.heap.size w wr) (fun x _ => 9 - (intOf x).toNat)
      case atStart => exact ⟨0, by omega, rfl, _, _, _, _, by rw [cntL_zero]; exact HS0.out.1, BitsOK.zero _ _, fun _ _ => rfl, HS0.out.2⟩
      case round => as_aux_lemma =>
        clear HS0
        obtain ⟨l, hl, rfl, V, Q, O, S, hP, hO, hVn, hb⟩ := hrel
        by_cases hlt : l < 9
        · have hpl := pw_le hlt
          have hmk : ∀ w : World, _ := make_rows (pw l) (by omega)
          have d9 : decide ((l : Int) < 9) = true := decide_eq_true (by omega)
          have hsh : wrap64 ((2 : Int) ^ l) = ((pw l : Nat) : Int) := by
            have : l = 0 ∨ l = 1 ∨ l = 2 ∨ l = 3 ∨ l = 4 ∨ l = 5 ∨ l = 6 ∨ l = 7 ∨ l = 8 := by omega
            rcases this with rfl | rfl | rfl | rfl | rfl | rfl | rfl | rfl | rfl <;> simp [wrap64, pw]
          have HP := Lib.hid hP
          have HO := Lib.hid hO
          have HB := Lib.hid hb
          have HVN := Lib.hid hVn
          have HB0 : Hid (BitsR (wr.alloc (.cells (vecL (fun _ => .slice none 0 0) (pw l)).toArray 91)) wr.heap.size wr.heap.size (pw l) (fun _ => .slice none 0 0) (firstL L l 0) ∧ Below wr.heap.size wr (wr.alloc (.cells (vecL (fun _ => .slice none 0 0) (pw l)).toArray 91))) := Lib.hid ⟨by rw [firstL_zero]; exact BitsR.start wr (pw l) (Nat.le_refl _), below_al wr _⟩
          clear hP hO hb hVn
          go_wp2_with fail
          clear hsh hmk d9
          generalize wr.alloc (.cells (vecL (fun _ => .slice none 0 0) (pw l)).toArray 91) = wm at *
          obtain ⟨wl, hwl⟩ : ∃ wl, wl = wr := ⟨_, rfl⟩
          rw [← hwl] at HP HB HB0 ⊢
          clear hwl
          go_loopw [37] (fun x wr => ∃ j : Nat, j ≤ L.length ∧ x = .int .i64 j ∧ ∃ vs, BitsR wr wl.heap.size wl.heap.size (pw l) vs (firstL L l j) ∧ Below wl.heap.size wl wr) (fun x _ => L.length - (intOf x).toNat)
          case atStart => exact ⟨0, by omega, rfl, _, HB0.out.1, HB0.out.2⟩
          case round => as_aux_lemma =>
            clear HB0
            obtain ⟨j, hj, rfl, vs, hR, hbl⟩ := hrel
            by_cases hjl : j < L.length
            · obtain ⟨s, hs⟩ : ∃ s, L[j]? = some s := ⟨_, List.getElem?_eq_getElem hjl⟩
              obtain ⟨b, off, rfl, hbk, hcl⟩ := sym_cell HR.out hs
              have hc := hcl wr (HB.out.trans (hbl.mono HB.out.size))
              have hs257 := HLS.out s (List.mem_of_getElem? hs)
              have hpp := pth_pw hs257 hlt
              have i0 : (0 : Int) ≤ (j : Int) := by omega
              have i1 : (j : Int) < (L.length : Int) := by omega
              have HFS := Lib.hid (firstL_succ (l := l) hs)
              have HPA := Lib.hid (fun w => path_nat hs257 (by omega : l ≤ 9) w)
              have HBI := Lib.hid (fun w => bit_nat hs257 hlt w)
              have HLL := Lib.hid (lvl_lenLe L l (pth s l) j)
              clear hcl hs
              generalize pth s l = π at *
              generalize bitS s l = bt at *
              have j0 : (0 : Int) ≤ (π : Int) := by omega
              have j1 : (π : Int) < ((pw l : Nat) : Int) := by omega
              have kc := hR.cell hpp
              have kf := hR.frz π
              have HRR := Lib.hid hR
              have HBL := Lib.hid hbl
              have HPP := Lib.hid hpp
              have HJL := Lib.hid hjl
              clear hR hbl hpp
              have hlw : wl.heap.size < wr.heap.size := HRR.out.lt
              have HLW := Lib.hid hlw
              go_wp2_with fail
              refine (HPA.out _).mono ?_
              rintro e w' ⟨rfl, rfl⟩
              go_wp2_with fail
              -- REGION bits
              refine reg_start (fun _ => True) (by kernel_rfl) (trivial) (fun hHeld => ?_)
              refine rt 0 hHeld ?_
              refine rt 1 hHeld ?_
              refine rt 2 hHeld ?_
              refine rt 3 hHeld ?_
              refine rt 4 hHeld ?_
              refine rt 6 hHeld ?_
              refine rt 7 hHeld ?_
              refine reg_loud2 (i := 5) (j := 8) rfl rfl (by kernel_rfl) rfl rfl (fun K hK => ?bbt5) (fun K hK => ?bbt8)
              case bbt5 => 
                go_simp
                refine hK.out _ _ (trivial) (fun hNew => ?_)
                clear hK K hHeld
                have hHeld := hNew
                clear hNew
                try simp only [Act.put, List.setIfInBounds_toArray, List.set_cons_zero, List.set_cons_succ]
                refine reg_loud (i := 8) rfl (by kernel_rfl) rfl (fun K hK => ?_)
                go_simp
                ((refine (HBI.out _).mono ?_))
                rintro e w2 ⟨rfl, rfl⟩
                refine hK.out _ _ (trivial) (fun hNew => ?_)
                clear hK K hHeld
                have hHeld := hNew
                clear hNew
                try simp only [Act.put, List.setIfInBounds_toArray, List.set_cons_zero, List.set_cons_succ]
                refine reg_loud (i := 9) rfl (by kernel_rfl) rfl (fun K hK => ?_)
                go_simp
                refine hK.out _ _ (trivial) (fun hNew => ?_)
                clear hK K hHeld
                have hHeld := hNew
                clear hNew
                try simp only [Act.put, List.setIfInBounds_toArray, List.set_cons_zero, List.set_cons_succ]
                refine reg_loud (i := 10) rfl (by kernel_rfl) rfl (fun K hK => ?_)
                refine wp_pushK _ _ 91 rfl wl.heap.size 4 Tryz.infoBoolR Tryz.underlying91 rfl (by decide) _ _ _ rfl (World.ownsRow.alloc (HRR.out.rows π HPP.out) _) wr.heap.size 1 [.bool bt] rfl rfl ?hus ?h1 ?c1 ?c2 ?c3 ?_
                case hus =>
                  intro j u hj
                  have hx := cell_of_row _ wr.heap.size j _ _ _ (heap_alloc_new wr (.cells #[.bool bt] 4))
                  refine Eq.trans hx ?_
                  simpa using hj
                case h1 => intro u hu; simp at hu; subst hu; rfl
                case c1 => have := HLL.out; unfold maxLen; omega
                case c2 => have := HLL.out; omega
                case c3 => have := HLW.out; simp; omega
                intro g cap w3 hown hgrow hor hlt3
                have HM3 := Lib.hid (HRR.out.mid HPP.out (w2 := (wr.alloc (.cells #[.bool bt] 4)).drew) (below_al wr _).drew hgrow)
                have HPU := Lib.hid (HRR.out.push HPP.out (x := bt) (w2 := (wr.alloc (.cells #[.bool bt] 4)).drew) (below_al wr _).drew rfl hown hgrow hor)
                have HBN := Lib.hid (HBL.out.trans (HPU.out.2.below (B := wl.heap.size) (fun j hj => hj.elim (fun e => by omega) (fun e => ((HRR.out.rows π HPP.out).lt j e).1)) (by have := HLW.out; omega)))
                have kc3 := HM3.out.1
                have kf3 := HM3.out.2
                clear hown hgrow hor hlt3
                refine hK.out _ _ (trivial) (fun hNew => ?_)
                clear hK K hHeld
                have hHeld := hNew
                clear hNew
                try simp only [Act.put, List.setIfInBounds_toArray, List.set_cons_zero, List.set_cons_succ]
                refine rt 11 hHeld ?_
                refine reg_loud (i := 12) rfl (by kernel_rfl) rfl (fun K hK => ?_)
                go_simp
                refine hK.out _ _ (trivial) (fun hNew => ?_)
                clear hK K hHeld
                have hHeld := hNew
                clear hNew
                try simp only [Act.put, List.setIfInBounds_toArray, List.set_cons_zero, List.set_cons_succ]
                refine reg_done (by kernel_rfl) ?_ _
                clear hHeld
                go_wp2_with fail
                go_roundw
                case rel => exact ⟨j + 1, by have := HJL.out; omega, by go_num, _, by rw [HFS.out]; exact HPU.out.1, HBN.out⟩
                case measure => have := HJL.out; simp [intOf]; omega
              case bbt8 => 
                go_simp
                ((refine (HBI.out _).mono ?_))
                rintro e w2 ⟨rfl, rfl⟩
                refine hK.out _ _ (trivial) (fun hNew => ?_)
                clear hK K hHeld
                have hHeld := hNew
                clear hNew
                try simp only [Act.put, List.setIfInBounds_toArray, List.set_cons_zero, List.set_cons_succ]
                refine reg_loud2 (i := 5) (j := 9) rfl rfl (by kernel_rfl) rfl rfl (fun K hK => ?bbtb5) (fun K hK => ?bbtb9)
                case bbtb5 => 
                  go_simp
                  refine hK.out _ _ (trivial) (fun hNew => ?_)
                  clear hK K hHeld
                  have hHeld := hNew
                  clear hNew
                  try simp only [Act.put, List.setIfInBounds_toArray, List.set_cons_zero, List.set_cons_succ]
                  refine reg_loud (i := 9) rfl (by kernel_rfl) rfl (fun K hK => ?_)
                  go_simp
                  refine hK.out _ _ (trivial) (fun hNew => ?_)
                  clear hK K hHeld
                  have hHeld := hNew
                  clear hNew
                  try simp only [Act.put, List.setIfInBounds_toArray, List.set_cons_zero, List.set_cons_succ]
                  refine reg_loud (i := 10) rfl (by kernel_rfl) rfl (fun K hK => ?_)
                  refine wp_pushK _ _ 91 rfl wl.heap.size 4 Tryz.infoBoolR Tryz.underlying91 rfl (by decide) _ _ _ rfl (World.ownsRow.alloc (HRR.out.rows π HPP.out) _) wr.heap.size 1 [.bool bt] rfl rfl ?hus ?h1 ?c1 ?c2 ?c3 ?_
                  case hus =>
                    intro j u hj
                    have hx := cell_of_row _ wr.heap.size j _ _ _ (heap_alloc_new wr (.cells #[.bool bt] 4))
                    refine Eq.trans hx ?_
                    simpa using hj
                  case h1 => intro u hu; simp at hu; subst hu; rfl
                  case c1 => have := HLL.out; unfold maxLen; omega
                  case c2 => have := HLL.out; omega
                  case c3 => have := HLW.out; simp; omega
                  intro g cap w3 hown hgrow hor hlt3
                  have HM3 := Lib.hid (HRR.out.mid HPP.out (w2 := (wr.alloc (.cells #[.bool bt] 4)).drew) (below_al wr _).drew hgrow)
                  have HPU := Lib.hid (HRR.out.push HPP.out (x := bt) (w2 := (wr.alloc (.cells #[.bool bt] 4)).drew) (below_al wr _).drew rfl hown hgrow hor)
                  have HBN := Lib.hid (HBL.out.trans (HPU.out.2.below (B := wl.heap.size) (fun j hj => hj.elim (fun e => by omega) (fun e => ((HRR.out.rows π HPP.out).lt j e).1)) (by have := HLW.out; omega)))
                  have kc3 := HM3.out.1
                  have kf3 := HM3.out.2
                  clear hown hgrow hor hlt3
                  refine hK.out _ _ (trivial) (fun hNew => ?_)
                  clear hK K hHeld
                  have hHeld := hNew
                  clear hNew
                  try simp only [Act.put, List.setIfInBounds_toArray, List.set_cons_zero, List.set_cons_succ]
                  refine rt 11 hHeld ?_
                  refine reg_loud (i := 12) rfl (by kernel_rfl) rfl (fun K hK => ?_)
                  go_simp
                  refine hK.out _ _ (trivial) (fun hNew => ?_)
                  clear hK K hHeld
                  have hHeld := hNew
                  clear hNew
                  try simp only [Act.put, List.setIfInBounds_toArray, List.set_cons_zero, List.set_cons_succ]
                  refine reg_done (by kernel_rfl) ?_ _
                  clear hHeld
                  go_wp2_with fail
                  go_roundw
                  case rel => exact ⟨j + 1, by have := HJL.out; omega, by go_num, _, by rw [HFS.out]; exact HPU.out.1, HBN.out⟩
                  case measure => have := HJL.out; simp [intOf]; omega
                case bbtb9 => 
                  go_simp
                  refine hK.out _ _ (trivial) (fun hNew => ?_)
                  clear hK K hHeld
                  have hHeld := hNew
                  clear hNew
                  try simp only [Act.put, List.setIfInBounds_toArray, List.set_cons_zero, List.set_cons_succ]
                  refine reg_loud (i := 5) rfl (by kernel_rfl) rfl (fun K hK => ?_)
                  go_simp
                  refine hK.out _ _ (trivial) (fun hNew => ?_)
                  clear hK K hHeld
                  have hHeld := hNew
                  clear hNew
                  try simp only [Act.put, List.setIfInBounds_toArray, List.set_cons_zero, List.set_cons_succ]
                  refine reg_loud (i := 10) rfl (by kernel_rfl) rfl (fun K hK => ?_)
                  refine wp_pushK _ _ 91 rfl wl.heap.size 4 Tryz.infoBoolR Tryz.underlying91 rfl (by decide) _ _ _ rfl (World.ownsRow.alloc (HRR.out.rows π HPP.out) _) wr.heap.size 1 [.bool bt] rfl rfl ?hus ?h1 ?c1 ?c2 ?c3 ?_
                  case hus =>
                    intro j u hj
                    have hx := cell_of_row _ wr.heap.size j _ _ _ (heap_alloc_new wr (.cells #[.bool bt] 4))
                    refine Eq.trans hx ?_
                    simpa using hj
                  case h1 => intro u hu; simp at hu; subst hu; rfl
                  case c1 => have := HLL.out; unfold maxLen; omega
                  case c2 => have := HLL.out; omega
                  case c3 => have := HLW.out; simp; omega
                  intro g cap w3 hown hgrow hor hlt3
                  have HM3 := Lib.hid (HRR.out.mid HPP.out (w2 := (wr.alloc (.cells #[.bool bt] 4)).drew) (below_al wr _).drew hgrow)
                  have HPU := Lib.hid (HRR.out.push HPP.out (x := bt) (w2 := (wr.alloc (.cells #[.bool bt] 4)).drew) (below_al wr _).drew rfl hown hgrow hor)
                  have HBN := Lib.hid (HBL.out.trans (HPU.out.2.below (B := wl.heap.size) (fun j hj => hj.elim (fun e => by omega) (fun e => ((HRR.out.rows π HPP.out).lt j e).1)) (by have := HLW.out; omega)))
                  have kc3 := HM3.out.1
                  have kf3 := HM3.out.2
                  clear hown hgrow hor hlt3
                  refine hK.out _ _ (trivial) (fun hNew => ?_)
                  clear hK K hHeld
                  have hHeld := hNew
                  clear hNew
                  try simp only [Act.put, List.setIfInBounds_toArray, List.set_cons_zero, List.set_cons_succ]
                  refine rt 11 hHeld ?_
                  refine reg_loud (i := 12) rfl (by kernel_rfl) rfl (fun K hK => ?_)
                  go_simp
                  refine hK.out _ _ (trivial) (fun hNew => ?_)
                  clear hK K hHeld
                  have hHeld := hNew
                  clear hNew
                  try simp only [Act.put, List.setIfInBounds_toArray, List.set_cons_zero, List.set_cons_succ]
                  refine reg_done (by kernel_rfl) ?_ _
                  clear hHeld
                  go_wp2_with fail
                  go_roundw
                  case rel => exact ⟨j + 1, by have := HJL.out; omega, by go_num, _, by rw [HFS.out]; exact HPU.out.1, HBN.out⟩
                  case measure => have := HJL.out; simp [intOf]; omega
              -- END OF REGION bits
            · obtain rfl : j = L.length := by omega
              have hpl2 : w.heap.size < wl.heap.size := HP.out.tyP.lt
              have HPL := Lib.hid hpl2
              have HP1 : Hid (WavePt wr w.heap.size w.heap.size V (cntL l 0) Q O S L.length) := Lib.hid (HP.out.below hbl)
              have HBE : Hid (Below w.heap.size w wr) := Lib.hid (HB.out.trans (hbl.mono HB.out.size))
              have HRR := Lib.hid hR
              clear hR hbl hpl2 HB HP hj hjl
              go_wp2_with fail
              obtain ⟨we, hwe⟩ : ∃ we, we = wr := ⟨_, rfl⟩
              rw [← hwe] at HP1 HBE HRR ⊢
              clear hwe
              go_loopw [59] (fun x wr => ∃ k : Nat, k ≤ pw l ∧ x = .int .i64 k ∧ ∃ V Q O S, WavePt wr w.heap.size w.heap.size V (cntL l k) Q O S L.length ∧ BitsOK O L l k ∧ Chg (fun j => j = w.heap.size) we wr ∧ (∀ g, (V l).ownBlock = some g → we.heap.size ≤ g) ∧ (∀ l', l < l' → V l' = .slice none 0 0)) (fun x _ => pw l - (intOf x).toNat)
              case atStart => exact ⟨0, by omega, rfl, V, Q, O, S, HP1.out, HO.out, Chg.refl, fun g hg => by rw [HVN.out l (Nat.le_refl _)] at hg; simp [Value.ownBlock] at hg, fun l' hl' => HVN.out l' (by omega)⟩
              case round => as_aux_lemma =>
                clear HP1 HO HVN
                clear V Q O S
                obtain ⟨k, hk, rfl, V, Q, O, S, hP, hO, hC, hG, hVn⟩ := hrel
                have HC := Lib.hid hC
                by_cases hkp : k < pw l
                · have hBR : BitsR wr wl.heap.size wl.heap.size (pw l) vs (firstL L l L.length) := HRR.out.chg hC (fun j hj e => by have := HPL.out; omega)
                  have hown := hBR.rows k hkp
                  rw [firstL_all] at hown
                  obtain ⟨a', c', hv, _, _⟩ := own_slice hown
                  have hkc := hBR.cell hkp
                  rw [hv] at hown hkc
                  have hlv : (lvl L l k).length ≤ L.length := by have := lvl_lenLe L l k L.length; rwa [firstL_all] at this
                  have hcap := own_capLe hown
                  have HNEW : Hid (∀ m, Calls Tryz.prog 65 #[.slice a' (lvl L l k).length c'] (wr.drewN m) fun e w' => ∃ q S' o, e = .returned (.pointer (some ⟨q, 0, none⟩)) ∧ (∃ mm, TreeIs S' w' q o mm 0) ∧ (∀ j, S' j → wr.heap.size ≤ j) ∧ sbits o = lvl L l k ∧ Chg (fun _ => False) wr w') := Lib.hid (fun m => by
                    refine (tNew_is (wr.drewN m) (lvl L l k) (readsV_own (w := wr.drewN m) hown) hcap (by omega)).mono ?_
                    rintro e w' ⟨q, S', o, rfl, h1, h2, h3, h4⟩
                    exact ⟨q, S', o, rfl, ⟨_, h1⟩, h2, h3, ((Chg.refl (S := fun _ => False) (w := wr)).drewN m).trans h4 (fun b hb => hb.elim)⟩)
                  have i0 : (0 : Int) ≤ (k : Int) := by omega
                  have i1 : (k : Int) < ((pw l : Nat) : Int) := by omega
                  have l0 : (0 : Int) ≤ (l : Int) := by omega
                  have l9 : (l : Int) < 9 := by omega
                  have pc : wr.cell? ⟨w.heap.size, l, none⟩ = some (V l) := by rw [cell_of_row wr w.heap.size l _ _ _ hP.head, headG_get V _ hlt]
                  have hpw : w.heap.size < wr.heap.size := hP.tyP.lt
                  have HPP := Lib.hid hP
                  have HO := Lib.hid hO
                  have HG := Lib.hid hG
                  have HVN := Lib.hid hVn
                  have HKP := Lib.hid hkp
                  have HPW := Lib.hid hpw
                  have HLT := Lib.hid hlt
                  clear hP hO hC hG hVn hBR hown hv hcap hlv
                  go_wp2_with fail
                  -- REGION tree
                  refine reg_start (fun _ => True) (by kernel_rfl) (trivial) (fun hHeld => ?_)
                  refine rt 0 hHeld ?_
                  refine rt 1 hHeld ?_
                  refine rt 2 hHeld ?_
                  refine rt 3 hHeld ?_
                  refine rt 4 hHeld ?_
                  refine rt 5 hHeld ?_
                  refine rt 6 hHeld ?_
                  refine rt 8 hHeld ?_
                  refine rt 10 hHeld ?_
                  refine rt 11 hHeld ?_
                  refine rt 15 hHeld ?_
                  refine rt 16 hHeld ?_
                  refine reg_loud2 (i := 7) (j := 9) rfl rfl (by kernel_rfl) rfl rfl (fun K hK => ?btr7) (fun K hK => ?btr9)
                  case btr7 => 
                    go_simp
                    refine hK.out _ _ (trivial) (fun hNew => ?_)
                    clear hK K hHeld
                    have hHeld := hNew
                    clear hNew
                    try simp only [Act.put, List.setIfInBounds_toArray, List.set_cons_zero, List.set_cons_succ]
                    refine reg_loud (i := 9) rfl (by kernel_rfl) rfl (fun K hK => ?_)
                    go_simp
                    ((refine (HNEW.out 1).mono ?_))
                    rintro e w2 ⟨q, S', o, rfl, ⟨mm, hT⟩, hS', hbits, hC2⟩
                    have pc2 : w2.cell? ⟨w.heap.size, l, none⟩ = some (V l) := hC2.cell (p := ⟨w.heap.size, l, none⟩) pc id
                    have hpw2 : w.heap.size < w2.heap.size := by have := hC2.size; have := HPW.out; omega
                    have HPW2 := Lib.hid hpw2
                    have HTR := Lib.hid hT
                    have HSS := Lib.hid hS'
                    have HBT := Lib.hid hbits
                    have HC2 := Lib.hid hC2
                    clear hT hS' hbits hC2 HNEW
                    refine hK.out _ _ (trivial) (fun hNew => ?_)
                    clear hK K hHeld
                    have hHeld := hNew
                    clear hNew
                    try simp only [Act.put, List.setIfInBounds_toArray, List.set_cons_zero, List.set_cons_succ]
                    refine rt 12 hHeld ?_
                    refine reg_loud (i := 13) rfl (by kernel_rfl) rfl (fun K hK => ?_)
                    go_simp
                    refine hK.out _ _ (trivial) (fun hNew => ?_)
                    clear hK K hHeld
                    have hHeld := hNew
                    clear hNew
                    try simp only [Act.put, List.setIfInBounds_toArray, List.set_cons_zero, List.set_cons_succ]
                    refine reg_loud (i := 14) rfl (by kernel_rfl) rfl (fun K hK => ?_)
                    have HROW := Lib.hid (HC2.out.own (by have := HPP.out.rows l HLT.out; rw [cntL_self] at this; exact this : wr.ownsRow w.heap.size 79 3 (V l) k (shC Q l k)) (fun _ _ => id))
                    refine wp_pushK _ _ 72 rfl w.heap.size 79 Tryz.infoShelf Tryz.underlying72 rfl (by decide) _ _ _ rfl (World.ownsRow.alloc HROW.out _) w2.heap.size 1 [.pointer (some ⟨q, 0, none⟩), .int .i64 l, .int .i64 k] rfl rfl ?hus ?h1 ?c1 ?c2 ?c3 ?_
                    case hus =>
                      intro j u hj
                      have hx := cell_of_row _ w2.heap.size j _ _ _ (heap_alloc_new w2 (.cells #[.pointer (some ⟨q, 0, none⟩), .int .i64 l, .int .i64 k] 79))
                      refine Eq.trans hx ?_
                      simpa using hj
                    case h1 => intro u hu; simp at hu; rcases hu with rfl | rfl | rfl <;> rfl
                    case c1 => have := HKP.out; unfold maxLen; omega
                    case c2 => have := HKP.out; omega
                    case c3 => have := HPW2.out; simp; omega
                    intro g cap w3 hown hgrow hor hlt3
                    have hgrow : (w2.alloc (.cells #[.pointer (some ⟨q, 0, none⟩), .int .i64 l, .int .i64 k] 79)).grownBy w3 (V l).ownBlock := hgrow
                    have hor : (V l).ownBlock = some g ∨ (w2.alloc (.cells #[.pointer (some ⟨q, 0, none⟩), .int .i64 l, .int .i64 k] 79)).heap.size ≤ g := hor
                    have HM3 := Lib.hid (HPP.out.mid HLT.out HC2.out (w2 := (w2.alloc (.cells #[.pointer (some ⟨q, 0, none⟩), .int .i64 l, .int .i64 k] 79))) (below_al w2 _) hgrow)
                    have hpu := HPP.out.push HLT.out (m := mm) (o := o) HTR.out HSS.out HC2.out (w2 := (w2.alloc (.cells #[.pointer (some ⟨q, 0, none⟩), .int .i64 l, .int .i64 k] 79))) (below_al w2 _) (v := .slice (some ⟨g, 0, none⟩) (k + 1) cap) (g := g) rfl (by rw [cntL_self]; exact hown) hgrow hor
                    rw [cntL_inc, cntL_self] at hpu
                    have HPU := Lib.hid hpu
                    have hor2 : (V l).ownBlock = some g ∨ we.heap.size ≤ g := hor.elim Or.inl (fun h => Or.inr (by simp at h; have := HC2.out.size; have := HC.out.size; omega))
                    have HOR := Lib.hid hor2
                    have HOK := Lib.hid (HO.out.push HBT.out)
                    have pc3 := HM3.out.1
                    have pf3 := HM3.out.2
                    clear hown hgrow hor hor2 hlt3 hpu pc2
                    refine hK.out _ _ (trivial) (fun hNew => ?_)
                    clear hK K hHeld
                    have hHeld := hNew
                    clear hNew
                    try simp only [Act.put, List.setIfInBounds_toArray, List.set_cons_zero, List.set_cons_succ]
                    refine rt 17 hHeld ?_
                    refine reg_loud (i := 18) rfl (by kernel_rfl) rfl (fun K hK => ?_)
                    go_simp
                    refine hK.out _ _ (trivial) (fun hNew => ?_)
                    clear hK K hHeld
                    have hHeld := hNew
                    clear hNew
                    try simp only [Act.put, List.setIfInBounds_toArray, List.set_cons_zero, List.set_cons_succ]
                    refine reg_done (by kernel_rfl) ?_ _
                    clear hHeld
                    go_wp2_with fail
                    go_roundw
                    case rel => exact ⟨k + 1, by have := HKP.out; omega, by go_num, _, _, _, _, HPU.out.1, HOK.out, HC.out.trans HPU.out.2 (fun j hj => hj.elim Or.inl (fun e => Or.inr (HG.out j e))), fun g' hg' => by
                      have e1 : putV V l (.slice (some ⟨g, 0, none⟩) (k + 1) cap) l = .slice (some ⟨g, 0, none⟩) (k + 1) cap := by simp [putV]
                      rw [e1] at hg'
                      simp only [Value.ownBlock, Option.some.injEq] at hg'
                      subst hg'
                      exact HOR.out.elim (fun e => HG.out _ e) id, fun l' hl' => by
                      have e1 : putV V l (.slice (some ⟨g, 0, none⟩) (k + 1) cap) l' = V l' := by unfold putV; rw [if_neg (by omega)]
                      rw [e1]; exact HVN.out l' hl'⟩
                    case measure => have := HKP.out; simp [intOf]; omega
                  case btr9 => 
                    go_simp
                    ((refine (HNEW.out 1).mono ?_))
                    rintro e w2 ⟨q, S', o, rfl, ⟨mm, hT⟩, hS', hbits, hC2⟩
                    have pc2 : w2.cell? ⟨w.heap.size, l, none⟩ = some (V l) := hC2.cell (p := ⟨w.heap.size, l, none⟩) pc id
                    have hpw2 : w.heap.size < w2.heap.size := by have := hC2.size; have := HPW.out; omega
                    have HPW2 := Lib.hid hpw2
                    have HTR := Lib.hid hT
                    have HSS := Lib.hid hS'
                    have HBT := Lib.hid hbits
                    have HC2 := Lib.hid hC2
                    clear hT hS' hbits hC2 HNEW
                    refine hK.out _ _ (trivial) (fun hNew => ?_)
                    clear hK K hHeld
                    have hHeld := hNew
                    clear hNew
                    try simp only [Act.put, List.setIfInBounds_toArray, List.set_cons_zero, List.set_cons_succ]
                    refine rt 12 hHeld ?_
                    refine reg_loud2 (i := 7) (j := 13) rfl rfl (by kernel_rfl) rfl rfl (fun K hK => ?btrb7) (fun K hK => ?btrb13)
                    case btrb7 => 
                      go_simp
                      refine hK.out _ _ (trivial) (fun hNew => ?_)
                      clear hK K hHeld
                      have hHeld := hNew
                      clear hNew
                      try simp only [Act.put, List.setIfInBounds_toArray, List.set_cons_zero, List.set_cons_succ]
                      refine reg_loud (i := 13) rfl (by kernel_rfl) rfl (fun K hK => ?_)
                      go_simp
                      refine hK.out _ _ (trivial) (fun hNew => ?_)
                      clear hK K hHeld
                      have hHeld := hNew
                      clear hNew
                      try simp only [Act.put, List.setIfInBounds_toArray, List.set_cons_zero, List.set_cons_succ]
                      refine reg_loud (i := 14) rfl (by kernel_rfl) rfl (fun K hK => ?_)
                      have HROW := Lib.hid (HC2.out.own (by have := HPP.out.rows l HLT.out; rw [cntL_self] at this; exact this : wr.ownsRow w.heap.size 79 3 (V l) k (shC Q l k)) (fun _ _ => id))
                      refine wp_pushK _ _ 72 rfl w.heap.size 79 Tryz.infoShelf Tryz.underlying72 rfl (by decide) _ _ _ rfl (World.ownsRow.alloc HROW.out _) w2.heap.size 1 [.pointer (some ⟨q, 0, none⟩), .int .i64 l, .int .i64 k] rfl rfl ?hus ?h1 ?c1 ?c2 ?c3 ?_
                      case hus =>
                        intro j u hj
                        have hx := cell_of_row _ w2.heap.size j _ _ _ (heap_alloc_new w2 (.cells #[.pointer (some ⟨q, 0, none⟩), .int .i64 l, .int .i64 k] 79))
                        refine Eq.trans hx ?_
                        simpa using hj
                      case h1 => intro u hu; simp at hu; rcases hu with rfl | rfl | rfl <;> rfl
                      case c1 => have := HKP.out; unfold maxLen; omega
                      case c2 => have := HKP.out; omega
                      case c3 => have := HPW2.out; simp; omega
                      intro g cap w3 hown hgrow hor hlt3
                      have hgrow : (w2.alloc (.cells #[.pointer (some ⟨q, 0, none⟩), .int .i64 l, .int .i64 k] 79)).grownBy w3 (V l).ownBlock := hgrow
                      have hor : (V l).ownBlock = some g ∨ (w2.alloc (.cells #[.pointer (some ⟨q, 0, none⟩), .int .i64 l, .int .i64 k] 79)).heap.size ≤ g := hor
                      have HM3 := Lib.hid (HPP.out.mid HLT.out HC2.out (w2 := (w2.alloc (.cells #[.pointer (some ⟨q, 0, none⟩), .int .i64 l, .int .i64 k] 79))) (below_al w2 _) hgrow)
                      have hpu := HPP.out.push HLT.out (m := mm) (o := o) HTR.out HSS.out HC2.out (w2 := (w2.alloc (.cells #[.pointer (some ⟨q, 0, none⟩), .int .i64 l, .int .i64 k] 79))) (below_al w2 _) (v := .slice (some ⟨g, 0, none⟩) (k + 1) cap) (g := g) rfl (by rw [cntL_self]; exact hown) hgrow hor
                      rw [cntL_inc, cntL_self] at hpu
                      have HPU := Lib.hid hpu
                      have hor2 : (V l).ownBlock = some g ∨ we.heap.size ≤ g := hor.elim Or.inl (fun h => Or.inr (by simp at h; have := HC2.out.size; have := HC.out.size; omega))
                      have HOR := Lib.hid hor2
                      have HOK := Lib.hid (HO.out.push HBT.out)
                      have pc3 := HM3.out.1
                      have pf3 := HM3.out.2
                      clear hown hgrow hor hor2 hlt3 hpu pc2
                      refine hK.out _ _ (trivial) (fun hNew => ?_)
                      clear hK K hHeld
                      have hHeld := hNew
                      clear hNew
                      try simp only [Act.put, List.setIfInBounds_toArray, List.set_cons_zero, List.set_cons_succ]
                      refine rt 17 hHeld ?_
                      refine reg_loud (i := 18) rfl (by kernel_rfl) rfl (fun K hK => ?_)
                      go_simp
                      refine hK.out _ _ (trivial) (fun hNew => ?_)
                      clear hK K hHeld
                      have hHeld := hNew
                      clear hNew
                      try simp only [Act.put, List.setIfInBounds_toArray, List.set_cons_zero, List.set_cons_succ]
                      refine reg_done (by kernel_rfl) ?_ _
                      clear hHeld
                      go_wp2_with fail
                      go_roundw
                      case rel => exact ⟨k + 1, by have := HKP.out; omega, by go_num, _, _, _, _, HPU.out.1, HOK.out, HC.out.trans HPU.out.2 (fun j hj => hj.elim Or.inl (fun e => Or.inr (HG.out j e))), fun g' hg' => by
                        have e1 : putV V l (.slice (some ⟨g, 0, none⟩) (k + 1) cap) l = .slice (some ⟨g, 0, none⟩) (k + 1) cap := by simp [putV]
                        rw [e1] at hg'
                        simp only [Value.ownBlock, Option.some.injEq] at hg'
                        subst hg'
                        exact HOR.out.elim (fun e => HG.out _ e) id, fun l' hl' => by
                        have e1 : putV V l (.slice (some ⟨g, 0, none⟩) (k + 1) cap) l' = V l' := by unfold putV; rw [if_neg (by omega)]
                        rw [e1]; exact HVN.out l' hl'⟩
                      case measure => have := HKP.out; simp [intOf]; omega
                    case btrb13 => 
                      go_simp
                      refine hK.out _ _ (trivial) (fun hNew => ?_)
                      clear hK K hHeld
                      have hHeld := hNew
                      clear hNew
                      try simp only [Act.put, List.setIfInBounds_toArray, List.set_cons_zero, List.set_cons_succ]
                      refine reg_loud (i := 7) rfl (by kernel_rfl) rfl (fun K hK => ?_)
                      go_simp
                      refine hK.out _ _ (trivial) (fun hNew => ?_)
                      clear hK K hHeld
                      have hHeld := hNew
                      clear hNew
                      try simp only [Act.put, List.setIfInBounds_toArray, List.set_cons_zero, List.set_cons_succ]
                      refine reg_loud (i := 14) rfl (by kernel_rfl) rfl (fun K hK => ?_)
                      have HROW := Lib.hid (HC2.out.own (by have := HPP.out.rows l HLT.out; rw [cntL_self] at this; exact this : wr.ownsRow w.heap.size 79 3 (V l) k (shC Q l k)) (fun _ _ => id))
                      refine wp_pushK _ _ 72 rfl w.heap.size 79 Tryz.infoShelf Tryz.underlying72 rfl (by decide) _ _ _ rfl (World.ownsRow.alloc HROW.out _) w2.heap.size 1 [.pointer (some ⟨q, 0, none⟩), .int .i64 l, .int .i64 k] rfl rfl ?hus ?h1 ?c1 ?c2 ?c3 ?_
                      case hus =>
                        intro j u hj
                        have hx := cell_of_row _ w2.heap.size j _ _ _ (heap_alloc_new w2 (.cells #[.pointer (some ⟨q, 0, none⟩), .int .i64 l, .int .i64 k] 79))
                        refine Eq.trans hx ?_
                        simpa using hj
                      case h1 => intro u hu; simp at hu; rcases hu with rfl | rfl | rfl <;> rfl
                      case c1 => have := HKP.out; unfold maxLen; omega
                      case c2 => have := HKP.out; omega
                      case c3 => have := HPW2.out; simp; omega
                      intro g cap w3 hown hgrow hor hlt3
                      have hgrow : (w2.alloc (.cells #[.pointer (some ⟨q, 0, none⟩), .int .i64 l, .int .i64 k] 79)).grownBy w3 (V l).ownBlock := hgrow
                      have hor : (V l).ownBlock = some g ∨ (w2.alloc (.cells #[.pointer (some ⟨q, 0, none⟩), .int .i64 l, .int .i64 k] 79)).heap.size ≤ g := hor
                      have HM3 := Lib.hid (HPP.out.mid HLT.out HC2.out (w2 := (w2.alloc (.cells #[.pointer (some ⟨q, 0, none⟩), .int .i64 l, .int .i64 k] 79))) (below_al w2 _) hgrow)
                      have hpu := HPP.out.push HLT.out (m := mm) (o := o) HTR.out HSS.out HC2.out (w2 := (w2.alloc (.cells #[.pointer (some ⟨q, 0, none⟩), .int .i64 l, .int .i64 k] 79))) (below_al w2 _) (v := .slice (some ⟨g, 0, none⟩) (k + 1) cap) (g := g) rfl (by rw [cntL_self]; exact hown) hgrow hor
                      rw [cntL_inc, cntL_self] at hpu
                      have HPU := Lib.hid hpu
                      have hor2 : (V l).ownBlock = some g ∨ we.heap.size ≤ g := hor.elim Or.inl (fun h => Or.inr (by simp at h; have := HC2.out.size; have := HC.out.size; omega))
                      have HOR := Lib.hid hor2
                      have HOK := Lib.hid (HO.out.push HBT.out)
                      have pc3 := HM3.out.1
                      have pf3 := HM3.out.2
                      clear hown hgrow hor hor2 hlt3 hpu pc2
                      refine hK.out _ _ (trivial) (fun hNew => ?_)
                      clear hK K hHeld
                      have hHeld := hNew
                      clear hNew
                      try simp only [Act.put, List.setIfInBounds_toArray, List.set_cons_zero, List.set_cons_succ]
                      refine rt 17 hHeld ?_
                      refine reg_loud (i := 18) rfl (by kernel_rfl) rfl (fun K hK => ?_)
                      go_simp
                      refine hK.out _ _ (trivial) (fun hNew => ?_)
                      clear hK K hHeld
                      have hHeld := hNew
                      clear hNew
                      try simp only [Act.put, List.setIfInBounds_toArray, List.set_cons_zero, List.set_cons_succ]
                      refine reg_done (by kernel_rfl) ?_ _
                      clear hHeld
                      go_wp2_with fail
                      go_roundw
                      case rel => exact ⟨k + 1, by have := HKP.out; omega, by go_num, _, _, _, _, HPU.out.1, HOK.out, HC.out.trans HPU.out.2 (fun j hj => hj.elim Or.inl (fun e => Or.inr (HG.out j e))), fun g' hg' => by
                        have e1 : putV V l (.slice (some ⟨g, 0, none⟩) (k + 1) cap) l = .slice (some ⟨g, 0, none⟩) (k + 1) cap := by simp [putV]
                        rw [e1] at hg'
                        simp only [Value.ownBlock, Option.some.injEq] at hg'
                        subst hg'
                        exact HOR.out.elim (fun e => HG.out _ e) id, fun l' hl' => by
                        have e1 : putV V l (.slice (some ⟨g, 0, none⟩) (k + 1) cap) l' = V l' := by unfold putV; rw [if_neg (by omega)]
                        rw [e1]; exact HVN.out l' hl'⟩
                      case measure => have := HKP.out; simp [intOf]; omega
                  -- END OF REGION tree
                · obtain rfl : k = pw l := by omega
                  have HN := Lib.hid hO.next
                  have HP2 := Lib.hid hP
                  have HVN := Lib.hid hVn
                  have hbn : Below w.heap.size we wr := hC.below (fun j e => by omega) HBE.out.size
                  have HB2 := Lib.hid (HBE.out.trans hbn)
                  clear hP hO hC hG hVn hbn
                  go_wp2_with fail
                  go_roundw
                  case rel => exact ⟨l + 1, by omega, by go_num, V, Q, O, S, by rw [← cntL_next]; exact HP2.out, HN.out, fun l' hl' => HVN.out l' (by omega), HB2.out⟩
                  case measure => simp [intOf]; omega
        · obtain rfl : l = 9 := by omega
          have HD := Lib.hid (hP.done cntL_done hb.size)
          have HL := Lib.hid hO.done
          have HB := Lib.hid hb
          clear hP hO hb hVn
          go_wp2_with fail
          go_ret2
          obtain ⟨D, hD⟩ := HD.out
          exact ⟨_, D, O, rfl, hD, HL.out, HB.out⟩

end Go.Proofs.YtacoeohmdngnkaaGreatDoor

namespace Go.Proofs.YtacoeohmdngnkaaGreatDoor
set_option linter.unusedVariables false
set_option linter.unusedSimpArgs false
open Go.RowKit

end Go.Proofs.YtacoeohmdngnkaaGreatDoor

namespace Go.Proofs.YtacoeohmdngnkaaGreatDoor
set_option linter.unusedVariables false
set_option linter.unusedSimpArgs false
open Go.RowKit

end Go.Proofs.YtacoeohmdngnkaaGreatDoor

namespace Go.Proofs.YtacoeohmdngnkaaGreatDoor
set_option linter.unusedVariables false
set_option linter.unusedSimpArgs false
open Go.RowKit

/-- The levels above l hold L', the others L. -/
def LvlM (O : Nat → Nat → Option ST) (L L' : List Nat) (l : Nat) : Prop := ∀ l' k, l' < 9 → k < pw l' → sbits (O l' k) = if l' < l then lvl L' l' k else lvl L l' k
theorem LvlM.start {O : Nat → Nat → Option ST} {L L' : List Nat} (h : LvlO O L) : LvlM O L L' 0 := fun l' k h1 h2 => by rw [if_neg (by omega)]; exact h l' k h1 h2
end Go.Proofs.YtacoeohmdngnkaaGreatDoor

namespace Go.Proofs.YtacoeohmdngnkaaGreatDoor
set_option linter.unusedVariables false
set_option linter.unusedSimpArgs false
open Go.RowKit

end Go.Proofs.YtacoeohmdngnkaaGreatDoor

namespace Go.Proofs.YtacoeohmdngnkaaGreatDoor
set_option linter.unusedVariables false
set_option linter.unusedSimpArgs false
open Go.RowKit

end Go.Proofs.YtacoeohmdngnkaaGreatDoor

namespace Go.Proofs.YtacoeohmdngnkaaGreatDoor
set_option linter.unusedVariables false
set_option linter.unusedSimpArgs false
open Go.RowKit

/-- Block p holds a wave of the symbols L; its blocks are from B on and none of X. -/
def Wv (B : Nat) (X : Nat → Prop) (w : World) (p : Nat) (L : List Nat) : Prop := ∃ D O vis, WaveE B X w p D O L.length vis anyV ∧ LvlO O L

section
variable {B : Nat} {X Y : Nat → Prop} {w w' : World} {p : Nat} {L : List Nat}
theorem waveE_high {D : WD} {O : Nat → Nat → Option ST} {n : Nat} {vis : Int} {Vb : Nat → Nat → Int → Prop} (h : WaveE B X w p D O n vis Vb) : HiO O 1000000000 := fun l k hl hk => by
  have hg := h.tGood hl hk
  cases ho : O l k with
  | none => simp [shigh]
  | some t => rw [ho] at hg; have := good_small hg.1.2 hg.2; simp only [shigh]; omega
theorem Wv.below (h : Wv B X w p L) (hb : Below w.heap.size w w') : Wv B X w' p L := by
  obtain ⟨D, O, v, h1, h2⟩ := h; exact ⟨D, O, v, h1.below hb, h2⟩
theorem Wv.drewN (h : Wv B X w p L) (m : Nat) : Wv B X (w.drewN m) p L := by
  obtain ⟨D, O, v, h1, h2⟩ := h; exact ⟨D, O, v, h1.drewN m, h2⟩
theorem Wv.less (h : Wv B X w p L) (hb : Below w.heap.size w w') (hy : ∀ k, Y k → X k ∨ w.heap.size ≤ k) (hl : ∀ k, Y k → k < w'.heap.size) : Wv B Y w' p L := by
  obtain ⟨D, O, v, h1, h2⟩ := h; exact ⟨D, O, v, h1.less hb hy hl, h2⟩
theorem Wv.mono (h : Wv B X w p L) (hy : ∀ k, Y k → X k) : Wv B Y w p L := by
  obtain ⟨D, O, v, h1, h2⟩ := h; exact ⟨D, O, v, h1.mono hy, h2⟩
theorem Wv.chg {Z : Nat → Prop} (h : Wv B X w p L) (hc : Chg Z w w') (hd : ∀ k, exT B X k → k < w.heap.size → ¬ Z k) : Wv B X w' p L := by
  obtain ⟨D, O, v, h1, h2⟩ := h; exact ⟨D, O, v, h1.chg hc hd, h2⟩
theorem Wv.le (h : Wv B X w p L) : B ≤ w.heap.size := by obtain ⟨D, O, v, h1, h2⟩ := h; exact h1.le
theorem Wv.lt (h : Wv B X w p L) : p < w.heap.size := by obtain ⟨D, O, v, h1, h2⟩ := h; exact h1.cells.2.2.2.2

theorem wvGet (h : Wv B X w p L) (hL : Syms L) (hn : L.length ≤ 1000000000) (k s : Nat) (hk : L[k]? = some s) :
    Calls Tryz.prog 38 #[.pointer (some ⟨p, 0, none⟩), .int .i64 k] w fun e w' => e = .returned (.tuple #[.int .i64 s, .int .i64 0]) ∧ Wv B X w' p L ∧ Chg (exT B X) w w' := by
  obtain ⟨D, O, v, h1, h2⟩ := h
  refine (wGet_any h1 h2 hL hn (waveE_high h1) (Nat.le_refl _) k s hk).mono ?_
  rintro e w' ⟨rfl, v', _, _, h3, h4⟩
  exact ⟨rfl, ⟨D, O, v', h3, h2⟩, h4⟩
theorem wvRank (h : Wv B X w p L) (hL : Syms L) (hn : L.length ≤ 1000000000) (k : Int) (s : Nat) (hs : s < 257) :
    Calls Tryz.prog 32 #[.pointer (some ⟨p, 0, none⟩), .int .i64 k, .int .i64 s] w fun e w' => e = .returned (.int .i64 (rankS L k.toNat s)) ∧ Wv B X w' p L ∧ Chg (exT B X) w w' := by
  obtain ⟨D, O, v, h1, h2⟩ := h
  refine (wRank_any h1 h2 hL hn (waveE_high h1) (Nat.le_refl _) k s hs).mono ?_
  rintro e w' ⟨rfl, v', _, _, h3, h4⟩
  exact ⟨rfl, ⟨D, O, v', h3, h2⟩, h4⟩
theorem wvSelect (h : Wv B X w p L) (hTab : BitTab w) (hNT : 0 < B) (hL : Syms L) (hn : L.length ≤ 1000000000) (j : Int) (s : Nat) (hs : s < 257) :
    Calls Tryz.prog 43 #[.pointer (some ⟨p, 0, none⟩), .int .i64 j, .int .i64 s] w fun e w' => e = .returned (.int .i64 (selS L j s)) ∧ Wv B X w' p L ∧ Chg (exT B X) w w' := by
  obtain ⟨D, O, v, h1, h2⟩ := h
  refine (wSelect_any h1 hTab hNT h2 hL hn (waveE_high h1) (Nat.le_refl _) j s hs).mono ?_
  rintro e w' ⟨rfl, v', h3, h4⟩
  exact ⟨rfl, ⟨D, O, v', h3, h2⟩, h4⟩
theorem wvLen (h : Wv B X w p L) : Calls Tryz.prog 47 #[.pointer (some ⟨p, 0, none⟩)] w fun e w' => e = .returned (.int .i64 L.length) ∧ w = w' := by
  obtain ⟨D, O, v, h1, h2⟩ := h
  exact wLen_any h1
theorem wvAll (h : Wv B X w p L) (hL : Syms L) (hn : L.length ≤ 1000000000) :
    Calls Tryz.prog 46 #[.pointer (some ⟨p, 0, none⟩)] w fun e w' =>
      ∃ g, e = .returned (.slice (some ⟨g, 0, none⟩) L.length L.length) ∧ w.heap.size ≤ g ∧ RowC w' g (L.map wsV) 3 ∧ Wv B (fun i => X i ∨ i = g) w' p L ∧ Chg (exT B X) w w' := by
  obtain ⟨D, O, v, h1, h2⟩ := h
  refine (wAll_any h1 h2 hL hn (waveE_high h1) (Nat.le_refl _)).mono ?_
  rintro e w' ⟨g, rfl, h3, h4, h5, h6⟩
  exact ⟨g, rfl, h3, h4, ⟨D, O, v, h5, h2⟩, h6⟩
theorem wvNew {a : Option Addr} {c : Nat} (L : List Nat) (hr : ReadsV w a (L.map wsV)) (hL : Syms L) (hn : L.length ≤ 1000000) :
    Calls Tryz.prog 49 #[.slice a L.length c] w fun e w' => ∃ p, e = .returned (.tuple #[.pointer (some ⟨p, 0, none⟩), .int .i64 0]) ∧ Wv w.heap.size (fun _ => False) w' p L ∧ Below w.heap.size w w' := by
  refine (wNew_good L hr hL hn).mono ?_
  rintro e w' ⟨p, D, O, rfl, h1, h2, h3⟩
  exact ⟨p, rfl, ⟨D, O, 0, h1, h2⟩, h3⟩
/-- A lower bound for its blocks. -/
theorem Wv.base {B' : Nat} (h : Wv B X w p L) (hB : B' ≤ B) : Wv B' (fun j => X j ∨ (B' ≤ j ∧ j < B)) w p L := by
  obtain ⟨D, O, v, ⟨⟨S, hS, hE⟩, hle, hx⟩, h2⟩ := h
  refine ⟨D, O, v, ⟨⟨S, hS, fun j hj => ?_⟩, by omega, fun k hk => ?_⟩, h2⟩
  · have := hE j hj
    exact ⟨by have := this.1; omega, fun hk => hk.elim this.2 (fun e => by have := this.1; omega)⟩
  · rcases hk with hk | hk
    · exact hx k hk
    · omega
end

end Go.Proofs.YtacoeohmdngnkaaGreatDoor

namespace Go.Proofs.YtacoeohmdngnkaaGreatDoor
set_option linter.unusedVariables false
set_option linter.unusedSimpArgs false
open Go.RowKit

theorem Wv.tab {B : Nat} {X : Nat → Prop} {w w' : World} {p : Nat} {L : List Nat} (h : Wv B X w p L) (hT : BitTab w) (hc : Chg (exT B X) w w') (hN : 0 < B) : BitTab w' := hT.below (exT_below hc h.le) hN
end Go.Proofs.YtacoeohmdngnkaaGreatDoor

namespace Go.Proofs.YtacoeohmdngnkaaGreatDoor
set_option linter.unusedVariables false
set_option linter.unusedSimpArgs false
open Go.RowKit

/-- A wave of the symbols L beside a row (from a) of the symbols M. -/
structure WR (B : Nat) (X : Nat → Prop) (w0 w : World) (p : Nat) (L : List Nat) (a : Option Addr) (M : List Nat) : Prop where
  v : Wv B X w p L
  r : ReadsV w a (M.map wsV)
  ra : ∀ ad, a = some ad → X ad.block
  tab : BitTab w
  tl : 0 < B
  chg : Chg (exT B X) w0 w
section
variable {B : Nat} {X : Nat → Prop} {w0 w w' : World} {p : Nat} {L L' : List Nat} {a : Option Addr} {M : List Nat}
theorem WR.step (h : WR B X w0 w p L a M) (hv : Wv B X w' p L') (hc : Chg (exT B X) w w') : WR B X w0 w' p L' a M :=
  ⟨hv, h.r.chg hc (fun ad ha hk => hk.2 (h.ra ad ha)), h.ra, h.tab.below (exT_below hc h.v.le) h.tl, h.tl, h.chg.trans hc (fun b hb => Or.inl hb)⟩
theorem WR.cell (h : WR B X w0 w p L a M) {k s : Nat} (hk : M[k]? = some s) : ∃ b off, a = some ⟨b, off, none⟩ ∧ w.cell? ⟨b, off + k, none⟩ = some (.int .i64 s) := by
  obtain ⟨b, off, ha, _, hc⟩ := sym_cell h.r hk
  exact ⟨b, off, ha, hc w (Below.refl _ _)⟩
end

end Go.Proofs.YtacoeohmdngnkaaGreatDoor

namespace Go.Proofs.YtacoeohmdngnkaaGreatDoor
open Go.RowKit

/-- The first j parts, one behind the other. -/
def cat (px : Nat → List Int) : Nat → List Int
  | 0 => []
  | j + 1 => cat px j ++ px j
theorem cat_le (px : Nat → List Int) {j m : Nat} (h : j ≤ m) : (cat px j).length ≤ (cat px m).length := by
  induction m with
  | zero => have : j = 0 := by omega
            subst this; exact Nat.le_refl _
  | succ m ih =>
    by_cases e : j = m + 1
    · subst e; exact Nat.le_refl _
    · have := ih (by omega)
      simp only [cat, List.length_append]; omega

/-- A byte's symbol, as a value. -/
def symV (x : Int) : Value := .int .i64 (x + 1)

theorem Tryz.infoInt : (Tryz.prog.info? 3).map (fun i => (i.zero, i.size, i.bytes)) = some (some (.int .i64 0), 1, 8) := by kernel_rfl

set_option maxHeartbeats 1600000 in
set_option maxRecDepth 100000 in
theorem symAll_any (pb m c : Nat) (pa : Nat → Option Addr) (pc : Nat → Nat) (px : Nat → List Int) (w : World)
    (hm : m ≤ 9223372036854775807)
    (hcell : ∀ j, j < m → w.cell? ⟨pb, j, none⟩ = some (.slice (pa j) (px j).length (pc j))) (hpb : pb < w.heap.size)
    (hread : ∀ j, j < m → Reads w .u8 (pa j) (px j)) (hbyte : ∀ j, j < m → ∀ i, i < (px j).length → 0 ≤ (px j)[i]?.getD 0 ∧ (px j)[i]?.getD 0 < 256)
    (htot : (cat px m).length ≤ 1000000000) :
    Calls Tryz.prog 51 #[.slice (some ⟨pb, 0, none⟩) m c] w fun e w' =>
      ∃ v, e = .returned v ∧ w'.ownsRow w.heap.size 3 1 v ((cat px m).length + 1) ((cat px m).map symV ++ [.int .i64 0]) ∧ Below w.heap.size w w' := by
  go_enter Tryz.func51, Tryz.ntmps51
  go_wp2
  go_loopw [3, 10] (fun v i wr => ∃ k : Nat, k ≤ m ∧ i = .int .i64 k ∧ wr.ownsRow w.heap.size 3 1 v (cat px k).length ((cat px k).map symV) ∧ Below w.heap.size w wr)
    (fun _ i _ => m - (intOf i).toNat)
  case atStart => exact ⟨0, Nat.zero_le _, rfl, World.ownsRow_nil _ _ _ _, Below.refl _ _⟩
  case round =>
    obtain ⟨k, hk, rfl, hown, hnx⟩ := hrel
    obtain ⟨wo, rfl⟩ : ∃ wo : World, wo = wr := ⟨_, rfl⟩
    have hs0 := hnx.size
    by_cases hlt : k < m
    · have hc := (hnx.cell (p := ⟨pb, k, none⟩) hpb).trans (hcell k hlt)
      have hr := hread k hlt
      have hb := hbyte k hlt
      have hcl : (cat px (k + 1)).length ≤ 1000000000 := Nat.le_trans (cat_le px (by omega)) htot
      have hcl2 : (cat px k).length + (px k).length ≤ 1000000000 := by simpa [cat] using hcl
      have HC : Hid (cat px (k + 1) = cat px k ++ px k) := rfl
      clear hcell hread hbyte
      generalize hX : px k = xs at *
      generalize pa k = pk at *
      have HX := Lib.hid hX; clear hX
      go_wp2_with fail
      go_loopw [3, 16] (fun v i wr => ∃ n : Nat, n ≤ xs.length ∧ i = .int .i64 n ∧ wr.ownsRow w.heap.size 3 1 v ((cat px k).length + n) ((cat px k ++ xs.take n).map symV) ∧ Below w.heap.size w wr)
        (fun _ i _ => xs.length - (intOf i).toNat)
      case atStart => exact ⟨0, Nat.zero_le _, rfl, by simpa using hown, hnx⟩
      case round =>
        obtain ⟨n, hn, rfl, hown, hnx⟩ := hrel
        have hs1 := hnx.size
        by_cases hln : n < xs.length
        · obtain ⟨b, off, rfl, hlt2, hcells⟩ := hr.some (by omega)
          have hcx := (hnx.cell (p := ⟨b, off + n, none⟩) hlt2).trans (hcells n hln)
          obtain ⟨hb0, hb1⟩ := hb n hln
          have htake : (cat px k ++ xs.take (n + 1)).map symV = (cat px k ++ xs.take n).map symV ++ [symV (xs[n]?.getD 0)] := by
            rw [List.take_add_one, List.getElem?_eq_getElem hln]; simp only [List.map_append, List.append_assoc, Option.toList_some, Option.getD_some, List.map_cons, List.map_nil]
          clear hcells hr hb
          generalize xs[n]?.getD 0 = x at *
          have HT := Lib.hid htake; clear htake
          go_wp2_with (first
            | (go_at_call 67; refine (symOf_any _ _ hb0 hb1).mono ?_; rintro e w' ⟨rfl, rfl⟩)
            | (at_builtin; refine wpList_push rfl _ _ 22 rfl w.heap.size 3 Tryz.infoInt Tryz.underlying22 rfl _ _ _ rfl hown rfl rfl ?c1 ?c2 ?c3 ?_))
          case c1 => unfold maxLen; omega
          case c2 => omega
          case c3 => omega
          intro v' w1 hown' hgrow
          have hnx' : Below w.heap.size w w1 := hnx.grown hgrow hs1 (fun j hj => (hown.lt j hj).1)
          go_wp2
          go_roundw
          case rel => exact ⟨n + 1, by omega, by simp, by rw [HT.out]; simpa only [List.map_append, List.map_take, List.append_assoc, Nat.add_assoc, symV] using hown', hnx'⟩
          case measure => simp [intOf]; omega
        · have he : n = xs.length := by omega
          subst he
          rw [List.take_length] at hown
          go_wp2
          go_roundw
          case rel => exact ⟨k + 1, by omega, by simp, by rw [HC.out, List.length_append]; exact hown, hnx⟩
          case measure => simp [intOf]; omega
    · have he : k = m := by omega
      subst he
      go_wp2_with (at_builtin; refine wpList_push rfl _ _ 22 rfl w.heap.size 3 Tryz.infoInt Tryz.underlying22 rfl _ _ _ rfl hown rfl rfl ?c1 ?c2 ?c3 ?_)
      case c1 => unfold maxLen; omega
      case c2 => omega
      case c3 => omega
      intro v' w1 hown' hgrow
      have hnx' : Below w.heap.size w w1 := hnx.grown hgrow hs0 (fun j hj => (hown.lt j hj).1)
      go_wp2
      go_ret
      exact ⟨_, rfl, hown', hnx'⟩

end Go.Proofs.YtacoeohmdngnkaaGreatDoor

namespace Go.Proofs.YtacoeohmdngnkaaGreatDoor
open Go.RowKit

theorem symAll1 (pb c : Nat) (a0 : Option Addr) (c0 : Nat) (x0 : List Int) (w : World) (hpb : pb < w.heap.size)
    (h0 : w.cell? ⟨pb, 0, none⟩ = some (.slice a0 x0.length c0)) (r0 : Reads w .u8 a0 x0) (b0 : Bytes x0) (ht : x0.length ≤ 1000000000) :
    Calls Tryz.prog 51 #[.slice (some ⟨pb, 0, none⟩) 1 c] w fun e w' =>
      ∃ v, e = .returned v ∧ w'.ownsRow w.heap.size 3 1 v (x0.length + 1) (x0.map symV ++ [.int .i64 0]) ∧ Below w.heap.size w w' := by
  have h := symAll_any pb 1 c (fun _ => a0) (fun _ => c0) (fun _ => x0) w (by omega) (fun j hj => by obtain rfl : j = 0 := by omega
                                                                                                     exact h0) hpb (fun _ _ => r0) (fun _ _ => b0) (by simpa [cat] using ht)
  simpa [cat] using h

end Go.Proofs.YtacoeohmdngnkaaGreatDoor

namespace Go.Proofs.YtacoeohmdngnkaaGreatDoor
open Go.RowKit

theorem take_snoc (s : ByteArray) (k : Nat) (h : k < s.size) : s.data.toList.take (k + 1) = s.data.toList.take k ++ [s[k]] := by
  rw [List.take_succ_eq_append_getElem (by simpa using h)]; rfl

/-- A string's byte as a symbol's value. -/
def symB (b : UInt8) : Value := .int .i64 ((b.toNat : Int) + 1)

set_option maxHeartbeats 1600000 in
set_option maxRecDepth 100000 in
theorem refSyms_any (s : ByteArray) (w : World) (hs : s.size ≤ 1000000000) :
    Calls Tryz.prog 45 #[.string s] w fun e w' =>
      ∃ v, e = .returned v ∧ w'.ownsRow w.heap.size 3 1 v (s.size + 1) (s.data.toList.map symB ++ [.int .i64 0]) ∧ Below w.heap.size w w' := by
  go_enter Tryz.func45, Tryz.ntmps45
  go_wp2
  go_loopw [3, 4] (fun v i wr => ∃ k : Nat, k ≤ s.size ∧ i = .int .i64 k ∧ wr.ownsRow w.heap.size 3 1 v k ((s.data.toList.take k).map symB) ∧ Below w.heap.size w wr)
    (fun _ i _ => s.size - (intOf i).toNat)
  case atStart => exact ⟨0, Nat.zero_le _, rfl, World.ownsRow_nil _ _ _ _, Below.refl _ _⟩
  case round =>
    obtain ⟨k, hk, rfl, hown, hnx⟩ := hrel
    have hs0 := hnx.size
    by_cases hlt : k < s.size
    · have htake : (s.data.toList.take (k + 1)).map symB = (s.data.toList.take k).map symB ++ [symB s[k]] := by
        rw [take_snoc s k hlt]; simp only [List.map_append, List.map_cons, List.map_nil]
      have hb : s[k].toNat < 256 := s[k].toNat_lt
      generalize hrow : (s.data.toList.take k).map symB = row at *
      have HT := Lib.hid htake; clear htake
      clear hrow
      go_wp2_with (at_builtin; refine wpList_push rfl _ _ 22 rfl w.heap.size 3 Tryz.infoInt Tryz.underlying22 rfl _ _ _ rfl hown rfl rfl ?c1 ?c2 ?c3 ?_)
      case c1 => unfold maxLen; omega
      case c2 => omega
      case c3 => omega
      intro v' w1 hown' hgrow
      have hnx' : Below w.heap.size w w1 := hnx.grown hgrow hs0 (fun j hj => (hown.lt j hj).1)
      go_wp2
      go_roundw
      case rel => exact ⟨k + 1, by omega, by simp, by rw [HT.out]; exact hown', hnx'⟩
      case measure => simp [intOf]; omega
    · obtain rfl : k = s.size := by omega
      rw [List.take_of_length_le (by simp)] at hown
      go_wp2_with (at_builtin; refine wpList_push rfl _ _ 22 rfl w.heap.size 3 Tryz.infoInt Tryz.underlying22 rfl _ _ _ rfl hown rfl rfl ?c1 ?c2 ?c3 ?_)
      case c1 => unfold maxLen; omega
      case c2 => omega
      case c3 => omega
      intro v' w1 hown' hgrow
      have hnx' : Below w.heap.size w w1 := hnx.grown hgrow hs0 (fun j hj => (hown.lt j hj).1)
      go_wp2
      go_ret
      exact ⟨_, rfl, hown', hnx'⟩

/-- Are two lists of numbers one? -/
def sameI (xs ys : List Int) : Bool := decide (xs = ys)

theorem take_eq_step {xs ys : List Int} {k : Nat} (hx : k < xs.length) (hy : k < ys.length) (h : xs.take k = ys.take k) (he : xs[k]?.getD 0 = ys[k]?.getD 0) : xs.take (k + 1) = ys.take (k + 1) := by
  rw [List.take_add_one, List.take_add_one, h, List.getElem?_eq_getElem hx, List.getElem?_eq_getElem hy]
  rw [List.getElem?_eq_getElem hx, List.getElem?_eq_getElem hy] at he
  simp only [Option.getD_some] at he
  rw [he]

set_option maxHeartbeats 1600000 in
set_option maxRecDepth 100000 in
theorem refSameI_any (a b : Option Addr) (c d : Nat) (xs ys : List Int) (w : World) (hx : Reads w .i64 a xs) (hy : Reads w .i64 b ys) (hm : xs.length ≤ 9223372036854775806) :
    Calls Tryz.prog 22 #[.slice a xs.length c, .slice b ys.length d] w fun e w' => e = .returned (.bool (sameI xs ys)) ∧ ∃ n, w' = w.drewN n := by
  by_cases hl : xs.length = ys.length
  · have hlb : ((xs.length : Int) != (ys.length : Int)) = false := by simp [hl]
    have HL := Lib.hid hl
    rw [← hl] at hlb ⊢
    clear hl
    go_enter Tryz.func22, Tryz.ntmps22
    go_wp2
    go_loopw [5] (fun i wr => ∃ k : Nat, k ≤ xs.length ∧ i = .int .i64 k ∧ xs.take k = ys.take k ∧ ∃ n, wr = w.drewN n) (fun i _ => xs.length - (intOf i).toNat)
    case atStart => exact ⟨0, Nat.zero_le _, rfl, rfl, 0, rfl⟩
    case round =>
      obtain ⟨k, hk, rfl, ht, nd, rfl⟩ := hrel
      have HT := Lib.hid ht; clear ht
      by_cases hlt : k < xs.length
      · obtain ⟨b0, o0, rfl, _, hc0⟩ := hx.some (by omega)
        obtain ⟨b1, o1, rfl, _, hc1⟩ := hy.some (by have := HL.out; omega)
        have h0 := hc0 k hlt
        have h1 := hc1 k (by have := HL.out; omega)
        clear hc0 hc1 hx hy
        have HD : Hid ((xs[k]?.getD 0 = ys[k]?.getD 0 → xs.take (k + 1) = ys.take (k + 1)) ∧ (xs[k]?.getD 0 ≠ ys[k]?.getD 0 → sameI xs ys = false)) :=
          ⟨fun he => take_eq_step hlt (by have := HL.out; omega) HT.out he, fun hne => decide_eq_false fun he => hne (by rw [he])⟩
        generalize xs[k]?.getD 0 = x at *
        generalize ys[k]?.getD 0 = y at *
        have hi0 : (0 : Int) ≤ (k : Int) := by omega
        have hi1 : (k : Int) < (xs.length : Int) := by omega
        by_cases hxy : x = y
        · subst hxy
          go_wp2_with fail
          go_quiet (fail)
          go_wp2
          go_roundw
          case rel => exact ⟨k + 1, by omega, by simp, HD.out.1 (by trivial), _, rfl⟩
          case measure => simp [intOf]; omega
        · have hne : (x != y) = true := by simp [hxy]
          have HS : Hid (sameI xs ys = false) := HD.out.2 hxy
          clear hxy
          go_wp2_with fail
          go_quiet (fail)
          go_wp2
          go_ret
          exact ⟨ret_bool HS.out.symm, _, World.drewN_drewN _ _ _⟩
      · obtain rfl : k = xs.length := by omega
        have HS : Hid (sameI xs ys = true) := decide_eq_true (by
          have := HT.out
          rwa [List.take_length, HL.out, List.take_length] at this)
        go_wp2
        go_ret
        exact ⟨ret_bool HS.out.symm, _, rfl⟩
  · have hlb : ((xs.length : Int) != (ys.length : Int)) = true := by rw [bne_iff_ne]; omega
    have hsm : sameI xs ys = false := decide_eq_false fun h => hl (by rw [h])
    rw [hsm]
    clear hsm hl
    go_enter Tryz.func22, Tryz.ntmps22
    go_wp2
    go_ret
    exact ⟨rfl, 0, rfl⟩

theorem refSame_len (a b : Option Addr) (n m c d : Nat) (xs ys : List Int) (w : World) (hx : Reads w .i64 a xs) (hy : Reads w .i64 b ys) (hn : n = xs.length) (hm : m = ys.length) (hmx : xs.length ≤ 9223372036854775806) :
    Calls Tryz.prog 22 #[.slice a n c, .slice b m d] w fun e w' => e = .returned (.bool (sameI xs ys)) ∧ ∃ k, w' = w.drewN k := by
  subst hn; subst hm
  exact refSameI_any a b c d xs ys w hx hy hmx

theorem refIs_any (s : Int) (w : World) : Calls Tryz.prog 33 #[.int .i64 s] w fun e w' => e = .returned (.bool (symIs s)) ∧ w = w' := by
  by_cases h0 : 0 ≤ s
  · have d0 : decide (0 ≤ s) = true := decide_eq_true h0
    by_cases h1 : s < 257
    · rw [symIs_true h0 h1]
      have d1 : decide (s < 257) = true := decide_eq_true h1
      go_enter Tryz.func33, Tryz.ntmps33
      go_wp2
      go_ret
      exact ⟨rfl, rfl⟩
    · rw [symIs_false (by omega)]
      have d1 : decide (s < 257) = false := decide_eq_false h1
      go_enter Tryz.func33, Tryz.ntmps33
      go_wp2
      go_ret
      exact ⟨rfl, rfl⟩
  · have d0 : decide (0 ≤ s) = false := decide_eq_false h0
    rw [symIs_false (by omega)]
    go_enter Tryz.func33, Tryz.ntmps33
    go_wp2
    go_ret
    exact ⟨rfl, rfl⟩

end Go.Proofs.YtacoeohmdngnkaaGreatDoor

namespace Go.Proofs.YtacoeohmdngnkaaGreatDoor
set_option linter.unusedVariables false
set_option linter.unusedSimpArgs false
open Go.RowKit

theorem readsN {w : World} {a : Option Addr} {L : List Nat} (h : ReadsV w a (L.map wsV)) : Reads w .i64 a (L.map Int.ofNat) := by
  intro i hi
  rw [List.length_map] at hi
  obtain ⟨b, off, ha, hlt, hc⟩ := h i (by rw [List.length_map]; exact hi)
  refine ⟨b, off, ha, hlt, fun j hj => hc j _ ?_⟩
  rw [List.length_map] at hj
  rw [List.getElem?_map, List.getElem?_map, List.getElem?_eq_getElem hj]
  rfl
section
variable {B : Nat} {X Y : Nat → Prop} {w w' : World} {p : Nat} {L : List Nat}
/-- A wave beside something else that changes. -/
theorem Wv.aside {Z : Nat → Prop} (h : Wv B X w p L) (hc : Chg Z w w') (hd : ∀ k, exT B X k → k < w.heap.size → ¬ Z k) : Wv B (fun k => X k ∨ (w.heap.size ≤ k ∧ k < w'.heap.size)) w' p L := by
  obtain ⟨D, O, v, h, h2⟩ := h
  obtain ⟨S, h1, h3⟩ := h.i
  refine ⟨D, O, v, ⟨⟨S, h1.chg hc (fun k hk => hd k (h3 k hk) (h1.lt k hk)), fun j hj => ⟨(h3 j hj).1, fun hY => hY.elim (h3 j hj).2 (fun g => by have := h1.lt j hj; omega)⟩⟩, Nat.le_trans h.le hc.size, ?_⟩, h2⟩
  rintro k (hk | hk)
  · exact Nat.lt_of_lt_of_le (h.x k hk) hc.size
  · exact hk.2
theorem Wv.xlt (h : Wv B X w p L) {k : Nat} (hk : X k) : k < w.heap.size := by
  obtain ⟨D, O, v, h, h2⟩ := h; exact h.x k hk
end

/-- Three waves beside one another, and beside K. -/
structure W3 (B : Nat) (K : Nat → Prop) (w : World) (pa : Nat) (La : List Nat) (pb : Nat) (Lb : List Nat) (pc : Nat) (Lc : List Nat) : Prop where
  ex : ∃ Xa Xb Xc : Nat → Prop, Wv B Xa w pa La ∧ Wv B Xb w pb Lb ∧ Wv B Xc w pc Lc ∧ (∀ k, B ≤ k → k < w.heap.size → (Xa k ∨ Xb k) ∧ (Xa k ∨ Xc k) ∧ (Xb k ∨ Xc k)) ∧ ∀ k, K k → Xa k ∧ Xb k ∧ Xc k

section
variable {B : Nat} {K : Nat → Prop} {w w' : World} {pa pb pc : Nat} {La Lb Lc : List Nat}
theorem W3.rot (h : W3 B K w pa La pb Lb pc Lc) : W3 B K w pb Lb pc Lc pa La := by
  obtain ⟨Xa, Xb, Xc, ha, hb, hc, hs, hk⟩ := h.ex
  exact ⟨Xb, Xc, Xa, hb, hc, ha, fun k h1 h2 => ⟨(hs k h1 h2).2.2, (hs k h1 h2).1.symm, (hs k h1 h2).2.1.symm⟩, fun k h => ⟨(hk k h).2.1, (hk k h).2.2, (hk k h).1⟩⟩
theorem W3.below (h : W3 B K w pa La pb Lb pc Lc) (hb : Below w.heap.size w w') : W3 B K w' pa La pb Lb pc Lc := by
  obtain ⟨Xa, Xb, Xc, h1, h2, h3, hs, hk⟩ := h.ex
  have hc : Chg (fun _ => False) w w' := Chg.of_below hb
  refine ⟨_, _, _, h1.aside hc (fun _ _ _ h => h), h2.aside hc (fun _ _ _ h => h), h3.aside hc (fun _ _ _ h => h), fun k g1 g2 => ?_, fun k g => ⟨Or.inl (hk k g).1, Or.inl (hk k g).2.1, Or.inl (hk k g).2.2⟩⟩
  by_cases hlt : k < w.heap.size
  · obtain ⟨q1, q2, q3⟩ := hs k g1 hlt
    exact ⟨q1.elim (fun h => Or.inl (Or.inl h)) (fun h => Or.inr (Or.inl h)), q2.elim (fun h => Or.inl (Or.inl h)) (fun h => Or.inr (Or.inl h)), q3.elim (fun h => Or.inl (Or.inl h)) (fun h => Or.inr (Or.inl h))⟩
  · have hge : w.heap.size ≤ k := by omega
    exact ⟨Or.inl (Or.inr ⟨hge, g2⟩), Or.inl (Or.inr ⟨hge, g2⟩), Or.inl (Or.inr ⟨hge, g2⟩)⟩
theorem W3.drewN (h : W3 B K w pa La pb Lb pc Lc) (m : Nat) : W3 B K (w.drewN m) pa La pb Lb pc Lc := h.below ⟨rfl, rfl, rfl, Nat.le_refl _, fun _ _ => rfl⟩
theorem W3.le (h : W3 B K w pa La pb Lb pc Lc) : B ≤ w.heap.size := by
  obtain ⟨Xa, Xb, Xc, h1, _⟩ := h.ex; exact h1.le
/-- What is done with the first one. -/
theorem W3.first {f : FuncId} {args : Array Value} {R : Ending → List Nat → Prop} (h : W3 B K w pa La pb Lb pc Lc)
    (hf : ∀ X, Wv B X w pa La → Calls Tryz.prog f args w fun e w' => ∃ L', R e L' ∧ Wv B X w' pa L' ∧ Chg (exT B X) w w') :
    Calls Tryz.prog f args w fun e w' => ∃ L', R e L' ∧ W3 B K w' pa L' pb Lb pc Lc ∧ Chg (exT B K) w w' := by
  obtain ⟨Xa, Xb, Xc, h1, h2, h3, hs, hk⟩ := h.ex
  refine (hf Xa h1).mono ?_
  rintro e w' ⟨L', hr, hv, hc⟩
  refine ⟨L', hr, ⟨_, _, _, hv, h2.aside hc (fun k g1 g2 g3 => ?_), h3.aside hc (fun k g1 g2 g3 => ?_), fun k g1 g2 => ?_, fun k g => ⟨(hk k g).1, Or.inl (hk k g).2.1, Or.inl (hk k g).2.2⟩⟩, hc.mono (fun k g => ⟨g.1, fun g2 => g.2 (hk k g2).1⟩)⟩
  · exact (hs k g1.1 g2).1.elim g3.2 g1.2
  · exact (hs k g1.1 g2).2.1.elim g3.2 g1.2
  · by_cases hlt : k < w.heap.size
    · obtain ⟨q1, q2, q3⟩ := hs k g1 hlt
      exact ⟨q1.elim Or.inl (fun h => Or.inr (Or.inl h)), q2.elim Or.inl (fun h => Or.inr (Or.inl h)), q3.elim (fun h => Or.inl (Or.inl h)) (fun h => Or.inr (Or.inl h))⟩
    · have hge : w.heap.size ≤ k := by omega
      exact ⟨Or.inr (Or.inr ⟨hge, g2⟩), Or.inr (Or.inr ⟨hge, g2⟩), Or.inl (Or.inr ⟨hge, g2⟩)⟩
/-- All of the first one. -/
theorem W3.all (h : W3 B K w pa La pb Lb pc Lc) (hL : Syms La) (hn : La.length ≤ 1000000000) :
    Calls Tryz.prog 46 #[.pointer (some ⟨pa, 0, none⟩)] w fun e w' =>
      ∃ g, e = .returned (.slice (some ⟨g, 0, none⟩) La.length La.length) ∧ ReadsV w' (some ⟨g, 0, none⟩) (La.map wsV) ∧ W3 B (fun k => K k ∨ k = g) w' pa La pb Lb pc Lc ∧ Chg (exT B K) w w' := by
  obtain ⟨Xa, Xb, Xc, h1, h2, h3, hs, hk⟩ := h.ex
  refine (wvAll h1 hL hn).mono ?_
  rintro e w' ⟨g, rfl, hge, hrow, hv, hc⟩
  refine ⟨g, rfl, readsV_block hrow, ⟨_, _, _, hv, h2.aside hc (fun k g1 g2 g3 => ?_), h3.aside hc (fun k g1 g2 g3 => ?_), fun k g1 g2 => ?_, ?_⟩, hc.mono (fun k g => ⟨g.1, fun g2 => g.2 (hk k g2).1⟩)⟩
  · exact (hs k g1.1 g2).1.elim g3.2 g1.2
  · exact (hs k g1.1 g2).2.1.elim g3.2 g1.2
  · by_cases hlt : k < w.heap.size
    · obtain ⟨q1, q2, q3⟩ := hs k g1 hlt
      exact ⟨q1.elim (fun h => Or.inl (Or.inl h)) (fun h => Or.inr (Or.inl h)), q2.elim (fun h => Or.inl (Or.inl h)) (fun h => Or.inr (Or.inl h)), q3.elim (fun h => Or.inl (Or.inl h)) (fun h => Or.inr (Or.inl h))⟩
    · have hge : w.heap.size ≤ k := by omega
      exact ⟨Or.inr (Or.inr ⟨hge, g2⟩), Or.inr (Or.inr ⟨hge, g2⟩), Or.inl (Or.inr ⟨hge, g2⟩)⟩
  · rintro k (hk2 | rfl)
    · exact ⟨Or.inl (hk k hk2).1, Or.inl (hk k hk2).2.1, Or.inl (hk k hk2).2.2⟩
    · exact ⟨Or.inr rfl, Or.inr ⟨hge, hrow.lt⟩, Or.inr ⟨hge, hrow.lt⟩⟩
end

end Go.Proofs.YtacoeohmdngnkaaGreatDoor

namespace Go.Proofs.YtacoeohmdngnkaaGreatDoor
set_option linter.unusedVariables false
set_option linter.unusedSimpArgs false
open Go.RowKit

/-- A tally's counts, as cells. -/
def ofV (N : Nat → Int) : List Value := (List.range 257).map fun s => Value.int .i64 (N s)
/-- A tally's cells. -/
def tlV (t : Tl) : Array Value := (ofV t.N ++ [Value.int .i64 t.all]).toArray

theorem ofV_len (N : Nat → Int) : (ofV N).length = 257 := by simp [ofV]
theorem ofV_get (N : Nat → Int) {s : Nat} (h : s < 257) : (ofV N)[s]? = some (.int .i64 (N s)) := by simp [ofV, h]
theorem tlV_get (t : Tl) {s : Nat} (h : s < 257) : (tlV t)[s]? = some (.int .i64 (t.N s)) := by
  unfold tlV
  rw [List.getElem?_toArray, List.getElem?_append_left (by rw [ofV_len]; exact h), ofV_get _ h]
theorem tlV_all (t : Tl) : (tlV t)[257]? = some (.int .i64 t.all) := by
  unfold tlV
  rw [List.getElem?_toArray, List.getElem?_append_right (by rw [ofV_len]; omega), ofV_len]; rfl
theorem ofV_set (N : Nat → Int) {s : Nat} (h : s < 257) (v : Int) : (ofV N).set s (.int .i64 v) = ofV (upd N s v) := by
  apply List.ext_getElem?
  intro j
  rw [List.getElem?_set, ofV_len]
  by_cases e : s = j
  · subst e; rw [if_pos rfl, if_pos h, ofV_get _ h]; simp [upd]
  · rw [if_neg e]
    by_cases hj : j < 257
    · have e2 : ¬ j = s := fun h => e h.symm
      rw [ofV_get _ hj, ofV_get _ hj]; simp [upd, e2]
    · rw [List.getElem?_eq_none (by rw [ofV_len]; omega), List.getElem?_eq_none (by rw [ofV_len]; omega)]
theorem tlV_add (t : Tl) {s : Nat} (h : s < 257) (n : Int) : ((tlV t).setIfInBounds s (.int .i64 (t.N s + n))).setIfInBounds 257 (.int .i64 (t.all + n)) = tlV (t.add s n) := by
  unfold tlV
  rw [List.setIfInBounds_toArray, List.setIfInBounds_toArray, List.set_append, if_pos (by rw [ofV_len]; exact h), ofV_set _ h, List.set_append, if_neg (by rw [ofV_len]; omega), ofV_len, Nat.sub_self, List.set_cons_zero]
  unfold Tl.add
  rfl

theorem tzero (w : World) : (zeroValue 89).run Tryz.prog w = .ok (.agg (tlV Tl.zero)) w := by kernel_rfl

/-- Block p holds a tally. -/
structure IsTally (w : World) (p : Nat) (t : Tl) : Prop where
  ok : t.Ok
  at_ : w.heap[p]? = some (.cells (tlV t) 89 (0, 0))

theorem IsTally.chg {w w' : World} {p : Nat} {S : Nat → Prop} {t : Tl} (h : IsTally w p t) (hc : Chg S w w') (hS : ¬ S p) : IsTally w' p t := ⟨h.ok, hc.heap h.at_ hS⟩
theorem IsTally.lt {w : World} {p : Nat} {t : Tl} (h : IsTally w p t) : p < w.heap.size := (Array.getElem?_eq_some_iff.1 h.at_).1

/-- How many there are of a symbol. -/
def tOf (t : Tl) (s : Int) : Int := if 0 ≤ s ∧ s < 257 then t.N s.toNat else 0

theorem tOf_any {w : World} {p : Nat} {t : Tl} (h : IsTally w p t) (s : Int) : Calls Tryz.prog 57 #[.pointer (some ⟨p, 0, none⟩), .int .i64 s] w fun e w' => e = .returned (.int .i64 (tOf t s)) ∧ w = w' := by
  by_cases hs : 0 ≤ s ∧ s < 257
  · have HR : Hid (t.N s.toNat = tOf t s) := (if_pos hs).symm
    have e : symIs s = true := symIs_true hs.1 hs.2
    obtain ⟨hs0, hs1⟩ := hs
    have hc : w.cell? ⟨p, s.toNat, none⟩ = some (.int .i64 (t.N s.toNat)) := by rw [cell_of_row w p s.toNat _ _ _ h.at_, tlV_get t (by omega)]
    go_enter Tryz.func57, Tryz.ntmps57
    go_wp2_with (go_at_call 30; refine (symIs_any _ _).mono ?_; rintro e w' ⟨rfl, rfl⟩)
    go_ret
    exact ⟨ret_int HR.out, rfl⟩
  · have HR : Hid (0 = tOf t s) := (if_neg hs).symm
    have e : symIs s = false := symIs_false hs
    go_enter Tryz.func57, Tryz.ntmps57
    go_wp2_with (go_at_call 30; refine (symIs_any _ _).mono ?_; rintro e w' ⟨rfl, rfl⟩)
    go_ret
    exact ⟨ret_int HR.out, rfl⟩

end Go.Proofs.YtacoeohmdngnkaaGreatDoor

namespace Go.Proofs.YtacoeohmdngnkaaGreatDoor
set_option linter.unusedVariables false
set_option linter.unusedSimpArgs false
open Go.RowKit

theorem tAdd_bad {w : World} {p : Nat} {s n : Int} (hs : ¬ (0 ≤ s ∧ s < 257)) : Calls Tryz.prog 66 #[.pointer (some ⟨p, 0, none⟩), .int .i64 s, .int .i64 n] w fun e w' => e = .returned (.int .i64 1) ∧ w = w' := by
  have e : symIs s = false := symIs_false hs
  go_enter Tryz.func66, Tryz.ntmps66
  go_wp2_with (go_at_call 30; refine (symIs_any _ _).mono ?_; rintro e w' ⟨rfl, rfl⟩)
  go_ret
  exact ⟨rfl, rfl⟩

set_option maxHeartbeats 1600000 in
theorem tAdd_good {w : World} {p : Nat} {t : Tl} (h : IsTally w p t) {s n : Int} (hs0 : 0 ≤ s) (hs1 : s < 257) (hn1 : -t.N s.toNat ≤ n) (hn2 : n ≤ 2147483648 - t.all) :
    Calls Tryz.prog 66 #[.pointer (some ⟨p, 0, none⟩), .int .i64 s, .int .i64 n] w fun e w' => e = .returned (.int .i64 0) ∧ IsTally w' p (t.add s.toNat n) ∧ Chg (fun k => k = p) w w' := by
  have e : symIs s = true := symIs_true hs0 hs1
  have hc : w.cell? ⟨p, s.toNat, none⟩ = some (.int .i64 (t.N s.toNat)) := by rw [cell_of_row w p s.toNat _ _ _ h.at_, tlV_get t (by omega)]
  have hc2 : w.cell? ⟨p, 257, none⟩ = some (.int .i64 t.all) := by rw [cell_of_row w p 257 _ _ _ h.at_, tlV_all]
  have hf : w.frozen? ⟨p, s.toNat, none⟩ = false := frozen_of_row w p _ _ _ h.at_
  have hf2 : w.frozen? ⟨p, 257, none⟩ = false := frozen_of_row w p _ _ _ h.at_
  have b1 := h.ok.pos s.toNat (by omega)
  have b2 := h.ok.le (s := s.toNat) (by omega)
  have b3 := h.ok.max
  have b4 := h.ok.all_pos
  have hok := Tl.add_ok h.ok (s := s.toNat) (by omega) hn1 hn2
  have HOK := Lib.hid hok
  have HAT := Lib.hid h.at_
  have HV := Lib.hid (tlV_add t (s := s.toNat) (by omega) n)
  generalize t.N s.toNat = N at *
  generalize hall : t.all = all at *
  have d1 : decide (n < -N) = false := by simp; omega
  have d2 : decide (2147483648 - all < n) = false := by simp; omega
  have hne : s.toNat ≠ 257 := by omega
  have HALL := Lib.hid hall
  clear h hok hall
  go_enter Tryz.func66, Tryz.ntmps66
  go_wp2_with (go_at_call 30; refine (symIs_any _ _).mono ?_; rintro e w' ⟨rfl, rfl⟩)
  go_region
  go_wp2
  go_ret
  refine ⟨rfl, ⟨HOK.out, ?_⟩, ?_⟩
  · have h1 := heap_setCell_same _ p 257 _ _ (.int .i64 (all + n)) (heap_setCell_same w p s.toNat _ _ (.int .i64 (N + n)) HAT.out)
    rw [HV.out] at h1
    exact h1
  · exact (((Chg.refl (S := fun k => k = p)).setCell ⟨p, s.toNat, none⟩ (Or.inl rfl) _).setCell ⟨p, 257, none⟩ (Or.inl rfl) _).drew

/-- What Add does, all in all. -/
def Tl.step (t : Tl) (s n : Int) : Int × Tl := if 0 ≤ s ∧ s < 257 then (if n < -t.N s.toNat ∨ 2147483648 - t.all < n then (2, t) else (0, t.add s.toNat n)) else (1, t)

/-- New of symbols. -/
theorem tNew_good {w : World} {a : Option Addr} {c : Nat} {l : List Int} (hl : Reads w .i64 a l) (hs : ∀ x ∈ l, 0 ≤ x ∧ x < 257) (hlen : l.length ≤ 2147483648) :
    Calls Tryz.prog 50 #[.slice a l.length c] w fun e w' => e = .returned (.tuple #[.pointer (some ⟨w.heap.size, 0, none⟩), .int .i64 0]) ∧ IsTally w' w.heap.size (Tl.of l) ∧ Below w.heap.size w w' := by
  have hz := tzero
  have h0 : IsTally (w.alloc (.cells (tlV Tl.zero) 89)) w.heap.size Tl.zero := ⟨Tl.zero_ok, heap_alloc_new w _⟩
  generalize hV : tlV Tl.zero = V at *
  have H0 := Lib.hid h0
  clear h0 hV
  go_enter Tryz.func50, Tryz.ntmps50
  go_wp2_with fail
  go_loopw [12] (fun i wr => ∃ k : Nat, k ≤ l.length ∧ i = .int .i64 k ∧ IsTally wr w.heap.size (Tl.of (l.take k)) ∧ Below w.heap.size w wr) (fun i _ => l.length - (intOf i).toNat)
  case atStart => exact ⟨0, by omega, rfl, H0.out, (Below.refl _ _).alloc (Nat.le_refl _) _⟩
  case round =>
    obtain ⟨k, hk, rfl, hT, hb⟩ := hrel
    have hs1 := hb.size
    by_cases hlt : k < l.length
    · obtain ⟨b, off, rfl, hbl, hcells⟩ := hl.some (by omega)
      have hcx := (hb.cell (p := ⟨b, off + k, none⟩) hbl).trans (hcells k hlt)
      have hx := hs l[k] (List.getElem_mem _)
      have e : l.take (k + 1) = l.take k ++ [((l[k].toNat : Nat) : Int)] := by
        rw [List.take_succ_eq_append_getElem hlt, Int.toNat_of_nonneg hx.1]
      have e2 : Tl.of (l.take (k + 1)) = (Tl.of (l.take k)).add l[k].toNat 1 := by rw [e, Tl.of_snoc]
      have h1 := hT.ok.pos l[k].toNat (by omega)
      have h2 : (1 : Int) ≤ 2147483648 - (Tl.of (l.take k)).all := by
        show (1 : Int) ≤ 2147483648 - ((l.take k).length : Int)
        rw [List.length_take]; omega
      rw [List.getElem?_eq_getElem hlt, Option.getD_some] at hcx
      have hadd := tAdd_good hT hx.1 hx.2 (n := 1) (by omega) h2
      rw [← e2] at hadd
      have HADD := Lib.hid hadd
      generalize l[k] = x at *
      clear hcells e e2 h1 h2 hadd
      go_wp2_with fail
      refine HADD.out.mono ?_
      rintro e w2 ⟨rfl, hT2, hc2⟩
      have hb2 : Below w.heap.size w w2 := hb.trans (hc2.below (fun b hb => by subst hb; exact Nat.le_refl _) hs1)
      clear hT
      go_wp2_with fail
      go_roundw
      case rel => exact ⟨k + 1, by omega, by simp, hT2, hb2⟩
      case measure => simp [intOf]; omega
    · have hkl : k = l.length := by omega
      rw [hkl, List.take_length] at hT
      clear hkl
      go_wp2_with fail
      go_ret2
      exact ⟨rfl, hT, hb⟩

/-- How many lesser ones there are. -/
def tBelow (t : Tl) (s : Int) : Int := bl t.N (clamp s)

theorem tBelow_any {w : World} {p : Nat} {t : Tl} (h : IsTally w p t) (s : Int) : Calls Tryz.prog 53 #[.pointer (some ⟨p, 0, none⟩), .int .i64 s] w fun e w' => e = .returned (.int .i64 (tBelow t s)) ∧ w = w' := by
  go_enter Tryz.func53, Tryz.ntmps53
  go_wp2_with fail
  have hcl : min (max s 0) 257 = (clamp s : Int) := by unfold clamp; omega
  have hc7 := clamp_le s
  rw [hcl]
  clear hcl
  have HR : Hid (tBelow t s = bl t.N (clamp s)) := rfl
  generalize clamp s = c at *
  go_loop [5, 10] (fun n i => ∃ k : Nat, k ≤ c ∧ i = .int .i64 k ∧ n = .int .i64 (bl t.N k)) (fun _ i => c - (intOf i).toNat)
  case atStart => exact ⟨0, by omega, rfl, rfl⟩
  case round =>
    obtain ⟨k, hk, rfl, rfl⟩ := hrel
    by_cases hlt : k < c
    · have h0 := bl_pos h.ok.pos (show k ≤ 257 by omega)
      have h1 := bl_mono h.ok.pos (show k + 1 ≤ 257 by omega) (Nat.le_refl _)
      rw [h.ok.sum] at h1
      have h2 := h.ok.max
      have h3 : bl t.N (k + 1) = bl t.N k + t.N k := rfl
      have h4 := h.ok.pos k (by omega)
      have ho : tOf t (k : Int) = t.N k := by unfold tOf; rw [if_pos (by omega)]; simp
      have H3 := Lib.hid h3
      have h5 : bl t.N k + t.N k ≤ 2147483648 := by omega
      have HO := Lib.hid ho
      clear h1 h2 h3 ho
      go_wp2_with fail
      refine (tOf_any h _).mono ?_
      rintro e w' ⟨rfl, rfl⟩
      rw [HO.out]
      go_wp2_with fail
      go_round
      case rel => exact ⟨k + 1, by omega, by simp, by rw [H3.out]⟩
      case measure => simp [intOf]; omega
    · obtain rfl : k = c := by omega
      go_wp2_with fail
      go_ret
      exact ⟨ret_int HR.out.symm, rfl⟩

theorem Tryz.info257 : (Tryz.prog.info? 81).map (·.size) = some 257 := by kernel_rfl
theorem Tryz.infoI : (Tryz.prog.info? 3).map (·.size) = some 1 := by kernel_rfl

/-- One cell out of an array of integers. -/
theorem run_index_ofV (N : Nat → Int) (k : Nat) (hk : k < 257) (w : World) : (Instr.index 81 (.agg (ofV N).toArray) (.int .i64 k)).run Tryz.prog w = .ok (.int .i64 (N k)) w := by
  have hi := Tryz.infoI
  obtain ⟨i, hi1, hi2⟩ := Option.map_eq_some_iff.1 hi
  have h1 : (0 : Int) ≤ (k : Int) ∧ (k : Int) < 257 := by omega
  have hg := ofV_get N hk
  simp [Instr.index, asIntOf, run_underlying Tryz.underlying81, run_underlying Tryz.underlying3, h1, sizeOf, typeInfo, hi1, hi2, part, isAgg, hg, hk]

set_option maxRecDepth 100000 in
set_option maxHeartbeats 1600000 in
theorem tWhich_any {w : World} {p : Nat} {t : Tl} (h : IsTally w p t) (k : Int) (hk : -9223372036854775808 ≤ k) (hk2 : k ≤ 9223372036854775807) :
    Calls Tryz.prog 44 #[.pointer (some ⟨p, 0, none⟩), .int .i64 k] w fun e w' => (∃ r, e = .returned (.int .i64 r) ∧ IsWhich t k r) ∧ w = w' := by
  by_cases hk0 : 0 ≤ k
  · have d0 : decide (k < 0) = false := by simp; omega
    have hrg : w.rangeAt p 0 (ofV t.N) := by
      intro j v hj
      have hjl : j < 257 := by
        rcases Nat.lt_or_ge j 257 with h | h
        · exact h
        · rw [List.getElem?_eq_none (by rw [ofV_len]; exact h)] at hj; cases hj
      rw [Nat.zero_add, cell_of_row w p j _ _ _ h.at_, tlV_get t hjl, ← ofV_get _ hjl]; exact hj
    have hix := fun (k : Nat) (hk : k < 257) (w : World) => run_index_ofV t.N k hk w
    have HIX := Lib.hid hix
    have hlen : (Tryz.prog.info? 81).map (·.size) = some (ofV t.N).length := by rw [ofV_len]; exact Tryz.info257
    clear hix
    go_enter Tryz.func44, Tryz.ntmps44
    go_wp2_with (refine wpList_load_mid rfl 81 _ rfl p 0 rfl (ofV t.N) _ hrg Tryz.underlying81 rfl hlen ?_)
    clear hlen
    go_loop [1, 17] (fun kk i => ∃ s : Nat, s ≤ 257 ∧ i = .int .i64 s ∧ kk = .int .i64 (k - bl t.N s) ∧ 0 ≤ k - bl t.N s) (fun _ i => 257 - (intOf i).toNat)
    case atStart => exact ⟨0, by omega, rfl, by simp [bl], by simp [bl]; exact hk0⟩
    case round =>
      obtain ⟨s, hs, rfl, rfl, hk1⟩ := hrel
      have hb0 := bl_pos h.ok.pos (show s ≤ 257 by omega)
      by_cases hlt : s < 257
      · have hixs := HIX.out s hlt
        have hst : bl t.N (s + 1) = bl t.N s + t.N s := rfl
        have HST := Lib.hid hst
        have hpos := h.ok.pos s hlt
        have hle := h.ok.le hlt
        have hmx := h.ok.max
        by_cases hin : k - bl t.N s < t.N s
        · have HW : Hid (IsWhich t k s) := ⟨fun h2 => by
              exfalso
              have h3 := bl_mono h.ok.pos (show s + 1 ≤ 257 by omega) (Nat.le_refl _)
              rw [h.ok.sum] at h3
              rcases h2 with h2 | h2 <;> omega, fun _ => ⟨s, hlt, rfl, by omega, by omega⟩⟩
          clear hst
          go_wp2_with fail
          go_ret
          exact ⟨⟨s, rfl, HW.out⟩, rfl⟩
        · have hk3 : 0 ≤ k - bl t.N (s + 1) := by omega
          have hk4 : 0 ≤ k - bl t.N s - t.N s := by omega
          have HK3 := Lib.hid hk3
          clear hst hk3
          go_wp2_with fail
          go_round
          case rel => exact ⟨s + 1, by omega, by simp, by rw [HST.out]; congr 1; omega, HK3.out⟩
          case measure => simp [intOf]; omega
      · obtain rfl : s = 257 := by omega
        have hsum := h.ok.sum
        have HW : Hid (IsWhich t k (-1)) := ⟨fun _ => rfl, fun h2 => by exfalso; omega⟩
        clear hsum
        go_wp2_with fail
        go_ret
        exact ⟨⟨-1, rfl, HW.out⟩, rfl⟩
  · have d0 : decide (k < 0) = true := by simp; omega
    go_enter Tryz.func44, Tryz.ntmps44
    go_wp2
    go_ret
    exact ⟨⟨-1, rfl, fun _ => rfl, fun h => by omega⟩, rfl⟩

end Go.Proofs.YtacoeohmdngnkaaGreatDoor

namespace Go.Proofs.YtacoeohmdngnkaaGreatDoor
set_option linter.unusedVariables false
set_option linter.unusedSimpArgs false
open Go.RowKit

/-- Block p, from B on, holds a tally. -/
def TAt (B : Nat) (w : World) (p : Nat) (t : Tl) : Prop := IsTally w p t ∧ B ≤ p

theorem TAt.chg {B : Nat} {w w' : World} {p : Nat} {t : Tl} (h : TAt B w p t) (hb : Below w.heap.size w w') : TAt B w' p t :=
  ⟨h.1.chg (S := fun _ => False) (Chg.of_below hb) (fun hf => hf), h.2⟩

theorem tnew_at {w : World} (l : List Int) {a : Option Addr} {c n : Nat} (hl : Reads w .i64 a l) (hn : n = l.length) (hs : ∀ x ∈ l, 0 ≤ x ∧ x < 257) (hlen : l.length ≤ 2147483648) :
    Calls Tryz.prog 50 #[.slice a n c] w fun e w' => ∃ p, e = .returned (.tuple #[.pointer (some ⟨p, 0, none⟩), .int .i64 0]) ∧ TAt w.heap.size w' p (Tl.of l) ∧ Below w.heap.size w w' := by
  subst hn
  refine (tNew_good hl hs hlen).mono ?_
  rintro e w' ⟨rfl, h1, h2⟩
  exact ⟨_, rfl, ⟨h1, Nat.le_refl _⟩, h2⟩

end Go.Proofs.YtacoeohmdngnkaaGreatDoor

namespace Go.Proofs.YtacoeohmdngnkaaGreatDoor
set_option linter.unusedVariables false
set_option linter.unusedSimpArgs false
open Go.RowKit

/-- Block p is a walk: its wave at pw (the transform L), its tally at pt (T). -/
structure WkP (B : Nat) (X : Nat → Prop) (w : World) (p pw pt : Nat) (L : List Nat) (T : Tl) : Prop where
  hd : w.heap[p]? = some (.cells #[.pointer (some ⟨pw, 0, none⟩), .pointer (some ⟨pt, 0, none⟩)] 57 (0, 0))
  v : Wv B (fun k => X k ∨ k = p ∨ k = pt) w pw L
  t : IsTally w pt T
  ep : exT B X p
  et : exT B X pt
  ne : p ≠ pt
  sy : Syms L
/-- Block p is a walk: the transform L, the tally T. -/
def WkT (B : Nat) (X : Nat → Prop) (w : World) (p : Nat) (L : List Nat) (T : Tl) : Prop := ∃ pw pt, WkP B X w p pw pt L T

section
variable {B : Nat} {X Y : Nat → Prop} {w w' : World} {p pw pt : Nat} {L L' : List Nat} {T T' : Tl}
theorem WkT.le (h : WkT B X w p L T) : B ≤ w.heap.size := by obtain ⟨pw, pt, h⟩ := h; exact h.v.le
theorem WkT.ok (h : WkT B X w p L T) : T.Ok := by obtain ⟨pw, pt, h⟩ := h; exact h.t.ok
theorem WkT.sy (h : WkT B X w p L T) : Syms L := by obtain ⟨pw, pt, h⟩ := h; exact h.sy
theorem WkT.xlt (h : WkT B X w p L T) {k : Nat} (hk : X k) : k < w.heap.size := by obtain ⟨pw, pt, h⟩ := h; exact h.v.xlt (Or.inl hk)
theorem WkP.cells (h : WkP B X w p pw pt L T) : w.cell? ⟨p, 0, none⟩ = some (.pointer (some ⟨pw, 0, none⟩)) ∧ w.cell? ⟨p, 1, none⟩ = some (.pointer (some ⟨pt, 0, none⟩)) :=
  ⟨cell_of_row w p 0 _ _ _ h.hd, cell_of_row w p 1 _ _ _ h.hd⟩
/-- A step of its wave. -/
theorem WkP.step (h : WkP B X w p pw pt L T) (hv : Wv B (fun k => X k ∨ k = p ∨ k = pt) w' pw L') (hs : Syms L') (hc : Chg (exT B (fun k => X k ∨ k = p ∨ k = pt)) w w') : WkP B X w' p pw pt L' T ∧ Chg (exT B X) w w' :=
  ⟨⟨hc.heap h.hd (fun hk => hk.2 (Or.inr (Or.inl rfl))), hv, h.t.chg hc (fun hk => hk.2 (Or.inr (Or.inr rfl))), h.ep, h.et, h.ne, hs⟩, hc.mono (fun k hk => ⟨hk.1, fun hx => hk.2 (Or.inl hx)⟩)⟩
/-- Something else changes. -/
theorem WkP.aside {Z : Nat → Prop} (h : WkP B X w p pw pt L T) (hc : Chg Z w w') (hd : ∀ k, exT B X k → k < w.heap.size → ¬ Z k) : WkP B (fun k => X k ∨ (w.heap.size ≤ k ∧ k < w'.heap.size)) w' p pw pt L T := by
  have l1 := (Array.getElem?_eq_some_iff.1 h.hd).1
  have l2 := h.t.lt
  refine ⟨hc.heap h.hd (hd p h.ep l1), (h.v.aside hc (fun k hk hl => hd k ⟨hk.1, fun hx => hk.2 (Or.inl hx)⟩ hl)).mono (fun k hk => ?_), h.t.chg hc (hd pt h.et l2), ⟨h.ep.1, fun hx => hx.elim h.ep.2 (fun g => by omega)⟩, ⟨h.et.1, fun hx => hx.elim h.et.2 (fun g => by omega)⟩, h.ne, h.sy⟩
  rcases hk with (hk | hk) | hk | hk
  · exact Or.inl (Or.inl hk)
  · exact Or.inr hk
  · exact Or.inl (Or.inr (Or.inl hk))
  · exact Or.inl (Or.inr (Or.inr hk))
theorem WkP.mono (h : WkP B X w p pw pt L T) (hy : ∀ k, Y k → X k) : WkP B Y w p pw pt L T :=
  ⟨h.hd, h.v.mono (fun k hk => hk.elim (fun a => Or.inl (hy k a)) Or.inr), h.t, ⟨h.ep.1, fun hx => h.ep.2 (hy p hx)⟩, ⟨h.et.1, fun hx => h.et.2 (hy pt hx)⟩, h.ne, h.sy⟩
theorem WkP.below (h : WkP B X w p pw pt L T) (hb : Below w.heap.size w w') : WkP B X w' p pw pt L T :=
  (h.aside (Z := fun _ => False) (Chg.of_below hb) (fun _ _ _ hf => hf)).mono (fun k hk => Or.inl hk)
theorem WkT.aside {Z : Nat → Prop} (h : WkT B X w p L T) (hc : Chg Z w w') (hd : ∀ k, exT B X k → k < w.heap.size → ¬ Z k) : WkT B (fun k => X k ∨ (w.heap.size ≤ k ∧ k < w'.heap.size)) w' p L T := by
  obtain ⟨pw, pt, h⟩ := h; exact ⟨pw, pt, h.aside hc hd⟩
theorem WkT.mono (h : WkT B X w p L T) (hy : ∀ k, Y k → X k) : WkT B Y w p L T := by
  obtain ⟨pw, pt, h⟩ := h; exact ⟨pw, pt, h.mono hy⟩
theorem WkT.below (h : WkT B X w p L T) (hb : Below w.heap.size w w') : WkT B X w' p L T := by
  obtain ⟨pw, pt, h⟩ := h; exact ⟨pw, pt, h.below hb⟩
/-- Blocks that came later are none of the walk's. -/
theorem WkT.less (h : WkT B X w p L T) (hb : Below w.heap.size w w') (hy : ∀ k, Y k → X k ∨ (w.heap.size ≤ k ∧ k < w'.heap.size)) : WkT B Y w' p L T :=
  (h.aside (Z := fun _ => False) (Chg.of_below hb) (fun _ _ _ hf => hf)).mono hy
theorem WkT.drewN (h : WkT B X w p L T) (m : Nat) : WkT B X (w.drewN m) p L T := h.below ⟨rfl, rfl, rfl, Nat.le_refl _, fun _ _ => rfl⟩
/-- A walk is laid. -/
theorem WkT.new {B : Nat} {w1 w2 w3 : World} {pw pt : Nat} (h1 : Wv B X w1 pw L) (hS : Syms L) (hb : Below w1.heap.size w1 w2) (h2 : IsTally w2 pt T) (hp : w1.heap.size ≤ pt) (h3 : w3 = w2.alloc (.cells #[.pointer (some ⟨pw, 0, none⟩), .pointer (some ⟨pt, 0, none⟩)] 57)) :
    WkT B X w3 w2.heap.size L T := by
  subst h3
  have l2 := h2.lt
  have hs := hb.size
  have hle := h1.le
  have hnew := heap_alloc_new w2 (.cells #[.pointer (some ⟨pw, 0, none⟩), .pointer (some ⟨pt, 0, none⟩)] 57)
  have hb3 := hb.alloc hs (.cells #[.pointer (some ⟨pw, 0, none⟩), .pointer (some ⟨pt, 0, none⟩)] 57)
  refine ⟨pw, pt, hnew, h1.less hb3 (Y := fun k => X k ∨ k = w2.heap.size ∨ k = pt) (fun k hk => ?_) (fun k hk => ?_), h2.chg (Chg.refl.alloc (S := fun _ => False) _) id, ⟨by omega, fun hx => ?_⟩, ⟨by omega, fun hx => ?_⟩, by omega, hS⟩
  · rcases hk with hk | rfl | rfl
    · exact Or.inl hk
    · exact Or.inr hs
    · exact Or.inr hp
  · rcases hk with hk | rfl | rfl
    · have := h1.xlt hk; have := hb3.size; omega
    · simp
    · simp; omega
  · have := h1.xlt hx; omega
  · have := h1.xlt hx; omega

/-- A lower bound for its blocks. -/
theorem WkT.base {B' : Nat} (h : WkT B X w p L T) (hB : B' ≤ B) : WkT B' (fun j => X j ∨ (B' ≤ j ∧ j < B)) w p L T := by
  obtain ⟨pw, pt, h⟩ := h
  refine ⟨pw, pt, h.hd, (h.v.base hB).mono (fun k hk => ?_), h.t, ⟨Nat.le_trans hB h.ep.1, fun hx => hx.elim h.ep.2 (fun g => by have := h.ep.1; omega)⟩, ⟨Nat.le_trans hB h.et.1, fun hx => hx.elim h.et.2 (fun g => by have := h.et.1; omega)⟩, h.ne, h.sy⟩
  rcases hk with (hk | hk) | hk | hk
  · exact Or.inl (Or.inl hk)
  · exact Or.inr hk
  · exact Or.inl (Or.inr (Or.inl hk))
  · exact Or.inl (Or.inr (Or.inr hk))

/-- Rank beside the tally: the sum fits. -/
theorem tBelow_le {T : Tl} (h : T.Ok) (s : Int) : 0 ≤ tBelow T s ∧ tBelow T s ≤ 2147483648 := by
  unfold tBelow
  have h1 := bl_pos h.pos (clamp_le s)
  have h2 := bl_mono h.pos (clamp_le s) (Nat.le_refl _)
  rw [h.sum] at h2
  have := h.max
  omega
end
/-- The tally of a transform tells how many are less. -/
theorem tBelow_of (L : List Nat) {s : Nat} (hs : s ≤ 257) : tBelow (Tl.of (intL L)) (s : Int) = (belowL (intL L) (s : Int) : Int) := by
  unfold tBelow
  rw [show clamp (s : Int) = s by unfold clamp; omega]
  exact belowL_bl (fun x hx => by obtain ⟨y, _, rfl⟩ := List.mem_map.1 hx; exact Int.natCast_nonneg y) s

end Go.Proofs.YtacoeohmdngnkaaGreatDoor

namespace Go.Proofs.YtacoeohmdngnkaaGreatDoor
set_option linter.unusedVariables false
set_option linter.unusedSimpArgs false
open Go.RowKit

set_option maxHeartbeats 1600000 in
set_option maxRecDepth 100000 in
theorem wkOf_any {w : World} {a : Option Addr} {c : Nat} (L : List Nat) (hr : ReadsV w a (L.map wsV)) (hL : Syms L) (hn : L.length ≤ 1000000) :
    Calls Tryz.prog 26 #[.slice a L.length c] w fun e w' => ∃ p, e = .returned (.pointer (some ⟨p, 0, none⟩)) ∧ WkT w.heap.size (fun _ => False) w' p L (Tl.of (intL L)) ∧ Below w.heap.size w w' := by
  have HNEW := Lib.hid (wvNew (c := c) L hr hL hn)
  have HR := Lib.hid hr
  have HSY := Lib.hid hL
  clear hr hL
  go_enter Tryz.func26, Tryz.ntmps26
  go_wp2_with fail
  refine HNEW.out.mono ?_
  rintro e w1 ⟨pw, rfl, hV, hb1⟩
  have HV := Lib.hid hV
  have HB1 := Lib.hid hb1
  have HT := Lib.hid (tnew_at (w := w1) (a := a) (c := c) (n := L.length) (intL L) (readsN (HR.out.below' hb1)) (by rw [intL_len]) (fun x hx => by obtain ⟨y, hy, rfl⟩ := List.mem_map.1 hx; have := HSY.out y hy; show 0 ≤ (y : Int) ∧ (y : Int) < 257; omega) (by rw [intL_len]; omega))
  clear hV hb1 HNEW HR
  go_wp2_with fail
  refine HT.out.mono ?_
  rintro e w2 ⟨pt, rfl, ⟨ht, hp⟩, hb2⟩
  have HK : Hid (WkT w.heap.size (fun _ => False) (w2.alloc (.cells #[.pointer (some ⟨pw, 0, none⟩), .pointer (some ⟨pt, 0, none⟩)] 57)) w2.heap.size L (Tl.of (intL L))) := Lib.hid (WkT.new HV.out HSY.out hb2 ht hp rfl)
  have HB : Hid (Below w.heap.size w (w2.alloc (.cells #[.pointer (some ⟨pw, 0, none⟩), .pointer (some ⟨pt, 0, none⟩)] 57))) := Lib.hid ((HB1.out.trans (hb2.mono HB1.out.size)).alloc (HB1.out.trans (hb2.mono HB1.out.size)).size _)
  clear ht hp hb2 HT HV HB1
  go_wp2_with fail
  go_ret
  exact ⟨_, rfl, HK.out, HB.out⟩

section
variable {B : Nat} {X : Nat → Prop} {w : World} {p : Nat} {L : List Nat} {T : Tl}

theorem wkLen (h : WkT B X w p L T) : Calls Tryz.prog 24 #[.pointer (some ⟨p, 0, none⟩)] w fun e w' => e = .returned (.int .i64 L.length) ∧ w = w' := by
  obtain ⟨pw, pt, hp⟩ := h
  obtain ⟨c0, c1⟩ := hp.cells
  have HL := Lib.hid (wvLen hp.v)
  clear hp c1
  go_enter Tryz.func24, Tryz.ntmps24
  go_wp2_with fail
  refine HL.out.mono ?_
  rintro e w' ⟨rfl, rfl⟩
  go_wp2_with fail
  go_ret
  exact ⟨rfl, rfl⟩
theorem wkNil_len (w : World) : Calls Tryz.prog 24 #[.pointer none] w fun e w' => e = .returned (.int .i64 0) ∧ w = w' := by
  go_enter Tryz.func24, Tryz.ntmps24
  go_wp2_with fail
  go_ret
  exact ⟨rfl, rfl⟩

set_option maxHeartbeats 1600000 in
theorem wkAll (h : WkT B X w p L T) (hn : L.length ≤ 1000000) : Calls Tryz.prog 23 #[.pointer (some ⟨p, 0, none⟩)] w fun e w' =>
    ∃ g, e = .returned (.slice (some ⟨g, 0, none⟩) L.length L.length) ∧ RowC w' g (L.map wsV) 3 ∧ w.heap.size ≤ g ∧ WkT B (fun k => X k ∨ k = g) w' p L T ∧ Chg (exT B X) w w' := by
  obtain ⟨pw, pt, hp⟩ := h
  obtain ⟨c0, c1⟩ := hp.cells
  have HK := Lib.hid hp
  have HA := Lib.hid (wvAll hp.v hp.sy (by omega))
  clear hp c1
  go_enter Tryz.func23, Tryz.ntmps23
  go_wp2_with fail
  refine HA.out.mono ?_
  rintro e w' ⟨g, rfl, hge, hrow, hV, hc⟩
  have HF : Hid (WkT B (fun k => X k ∨ k = g) w' p L T ∧ Chg (exT B X) w w') := Lib.hid (by
    have l1 := (Array.getElem?_eq_some_iff.1 HK.out.hd).1
    have l2 := HK.out.t.lt
    exact ⟨⟨pw, pt, hc.heap HK.out.hd (fun hk => hk.2 (Or.inr (Or.inl rfl))), hV.mono (fun k hk => by
      rcases hk with (hk | hk) | hk | hk
      · exact Or.inl (Or.inl hk)
      · exact Or.inr hk
      · exact Or.inl (Or.inr (Or.inl hk))
      · exact Or.inl (Or.inr (Or.inr hk))), HK.out.t.chg hc (fun hk => hk.2 (Or.inr (Or.inr rfl))), ⟨HK.out.ep.1, fun hx => hx.elim HK.out.ep.2 (fun e => by omega)⟩, ⟨HK.out.et.1, fun hx => hx.elim HK.out.et.2 (fun e => by omega)⟩, HK.out.ne, HK.out.sy⟩, hc.mono (fun k hk => ⟨hk.1, fun hx => hk.2 (Or.inl hx)⟩)⟩)
  clear hV hc HA HK c0
  go_wp2_with fail
  go_ret
  exact ⟨g, rfl, hrow, hge, HF.out⟩

theorem wpBelow {pw pt : Nat} (h : WkP B X w p pw pt L T) (s : Int) : Calls Tryz.prog 31 #[.pointer (some ⟨p, 0, none⟩), .int .i64 s] w fun e w' => e = .returned (.int .i64 (tBelow T s)) ∧ w = w' := by
  obtain ⟨c0, c1⟩ := h.cells
  have HB := Lib.hid (tBelow_any h.t s)
  clear h c0
  go_enter Tryz.func31, Tryz.ntmps31
  go_wp2_with fail
  refine HB.out.mono ?_
  rintro e w' ⟨rfl, rfl⟩
  go_wp2_with fail
  go_ret
  exact ⟨rfl, rfl⟩
theorem wpRank {pw pt : Nat} (h : WkP B X w p pw pt L T) (hn : L.length ≤ 1000000) (k s : Nat) (hs : s < 257) :
    Calls Tryz.prog 32 #[.pointer (some ⟨pw, 0, none⟩), .int .i64 k, .int .i64 s] w fun e w' => e = .returned (.int .i64 (rankS L k s)) ∧ WkP B X w' p pw pt L T ∧ Chg (exT B X) w w' := by
  refine (wvRank h.v h.sy (by omega) (k : Int) s hs).mono ?_
  rintro e w' ⟨rfl, hv, hc⟩
  obtain ⟨h1, h2⟩ := h.step hv h.sy hc
  exact ⟨by rw [Int.toNat_natCast], h1, h2⟩
theorem wpGet {pw pt : Nat} (h : WkP B X w p pw pt L T) (hn : L.length ≤ 1000000) {k s : Nat} (hs : L[k]? = some s) :
    Calls Tryz.prog 38 #[.pointer (some ⟨pw, 0, none⟩), .int .i64 k] w fun e w' => e = .returned (.tuple #[.int .i64 s, .int .i64 0]) ∧ WkP B X w' p pw pt L T ∧ Chg (exT B X) w w' := by
  refine (wvGet h.v h.sy (by omega) k s hs).mono ?_
  rintro e w' ⟨rfl, hv, hc⟩
  obtain ⟨h1, h2⟩ := h.step hv h.sy hc
  exact ⟨rfl, h1, h2⟩
theorem wpSelect {pw pt : Nat} (h : WkP B X w p pw pt L T) (hTab : BitTab w) (htl : 0 < B) (hn : L.length ≤ 1000000) (j : Int) (s : Nat) (hs : s < 257) :
    Calls Tryz.prog 43 #[.pointer (some ⟨pw, 0, none⟩), .int .i64 j, .int .i64 s] w fun e w' => e = .returned (.int .i64 (selS L j s)) ∧ WkP B X w' p pw pt L T ∧ Chg (exT B X) w w' := by
  refine (wvSelect h.v hTab htl h.sy (by omega) j s hs).mono ?_
  rintro e w' ⟨rfl, hv, hc⟩
  obtain ⟨h1, h2⟩ := h.step hv h.sy hc
  exact ⟨rfl, h1, h2⟩
/-- What a drawn region of package walk keeps. -/
theorem wkS {pw pt : Nat} {w1 : World} (h : WkP B X w1 p pw pt L T) (hc : Chg (exT B X) w w1) : w1.drew.cell? ⟨p, 0, none⟩ = some (.pointer (some ⟨pw, 0, none⟩)) ∧ WkP B X w1.drew p pw pt L T ∧ Chg (exT B X) w w1.drew :=
  ⟨h.cells.1, h.below ⟨rfl, rfl, rfl, Nat.le_refl _, fun _ _ => rfl⟩, hc.drew⟩
theorem wkSt {pw pt : Nat} {w1 w2 : World} (h : WkP B X w2 p pw pt L T) (hc1 : Chg (exT B X) w w1) (hc : Chg (exT B X) w1 w2) : w2.cell? ⟨p, 0, none⟩ = some (.pointer (some ⟨pw, 0, none⟩)) ∧ WkP B X w2 p pw pt L T ∧ Chg (exT B X) w w2 :=
  ⟨h.cells.1, h, hc1.trans hc (fun b hb => Or.inl hb)⟩

theorem wkIs_yes (h : WkT B X w p L T) {i : Int} (h0 : 0 ≤ i) (h1 : i < L.length) : Calls Tryz.prog 41 #[.pointer (some ⟨p, 0, none⟩), .int .i64 i] w fun e w' => e = .returned (.bool true) ∧ w = w' := by
  have HL := Lib.hid (wkLen h)
  clear h
  go_enter Tryz.func41, Tryz.ntmps41
  go_wp2_with fail
  refine HL.out.mono ?_
  rintro e w' ⟨rfl, rfl⟩
  go_wp2_with fail
  go_ret
  exact ⟨rfl, rfl⟩
theorem wkIs_no (h : WkT B X w p L T) {i : Int} (hi : i < 0 ∨ (L.length : Int) ≤ i) : Calls Tryz.prog 41 #[.pointer (some ⟨p, 0, none⟩), .int .i64 i] w fun e w' => e = .returned (.bool false) ∧ w = w' := by
  have HL := Lib.hid (wkLen h)
  clear h
  by_cases h0 : i < 0
  · have d0 : decide (0 ≤ i) = false := decide_eq_false (by omega)
    clear hi
    go_enter Tryz.func41, Tryz.ntmps41
    go_wp2_with fail
    go_ret
    exact ⟨rfl, rfl⟩
  · have d0 : decide (0 ≤ i) = true := decide_eq_true (by omega)
    have d1 : decide (i < (L.length : Int)) = false := decide_eq_false (by omega)
    clear hi h0
    go_enter Tryz.func41, Tryz.ntmps41
    go_wp2_with fail
    refine HL.out.mono ?_
    rintro e w' ⟨rfl, rfl⟩
    go_wp2_with fail
    go_ret
    exact ⟨rfl, rfl⟩
theorem wkNil_is (w : World) (i : Int) : Calls Tryz.prog 41 #[.pointer none, .int .i64 i] w fun e w' => e = .returned (.bool false) ∧ w = w' := by
  go_enter Tryz.func41, Tryz.ntmps41
  go_wp2_with fail
  go_ret
  exact ⟨rfl, rfl⟩

theorem wkFirst_no (h : WkT B X w p L T) {i : Int} (hi : i < 0 ∨ (L.length : Int) ≤ i) : Calls Tryz.prog 20 #[.pointer (some ⟨p, 0, none⟩), .int .i64 i] w fun e w' => e = .returned (.int .i64 (-1)) ∧ w = w' := by
  have HI := Lib.hid (wkIs_no h hi)
  clear h hi
  go_enter Tryz.func20, Tryz.ntmps20
  go_wp2_with fail
  refine HI.out.mono ?_
  rintro e w' ⟨rfl, rfl⟩
  go_wp2_with fail
  go_ret
  exact ⟨rfl, rfl⟩
theorem wkFirst_yes (h : WkT B X w p L T) {i : Int} (h0 : 0 ≤ i) (h1 : i < L.length) (hm : L.length ≤ 2147483649) : Calls Tryz.prog 20 #[.pointer (some ⟨p, 0, none⟩), .int .i64 i] w fun e w' => (∃ r, e = .returned (.int .i64 r) ∧ IsWhich T i r) ∧ w = w' := by
  have HI := Lib.hid (wkIs_yes h h0 h1)
  obtain ⟨pw, pt, hp⟩ := h
  obtain ⟨c0, c1⟩ := hp.cells
  have HWH := Lib.hid (tWhich_any hp.t i (by omega) (by omega))
  clear hp c0 h0 h1
  go_enter Tryz.func20, Tryz.ntmps20
  go_wp2_with fail
  refine HI.out.mono ?_
  rintro e w' ⟨rfl, rfl⟩
  go_wp2_with fail
  refine HWH.out.mono ?_
  rintro e w' ⟨⟨r, rfl, hr⟩, rfl⟩
  go_wp2_with fail
  go_ret
  exact ⟨⟨r, rfl, hr⟩, rfl⟩

theorem wkBack_no (h : WkT B X w p L T) {i : Int} (hi : i < 0 ∨ (L.length : Int) ≤ i) : Calls Tryz.prog 16 #[.pointer (some ⟨p, 0, none⟩), .int .i64 i] w fun e w' => e = .returned (.int .i64 (-1)) ∧ w = w' := by
  have HI := Lib.hid (wkIs_no h hi)
  clear h hi
  go_enter Tryz.func16, Tryz.ntmps16
  go_wp2_with fail
  refine HI.out.mono ?_
  rintro e w' ⟨rfl, rfl⟩
  go_wp2_with fail
  go_ret
  exact ⟨rfl, rfl⟩
theorem wkNil_back (w : World) (i : Int) : Calls Tryz.prog 16 #[.pointer none, .int .i64 i] w fun e w' => e = .returned (.int .i64 (-1)) ∧ w = w' := by
  go_enter Tryz.func16, Tryz.ntmps16
  go_wp2_with fail
  refine (wkNil_is _ _).mono ?_
  rintro e w' ⟨rfl, rfl⟩
  go_wp2_with fail
  go_ret
  exact ⟨rfl, rfl⟩
set_option maxHeartbeats 3200000 in
set_option maxRecDepth 100000 in
theorem wkBack_yes (h : WkT B X w p L T) {i s : Nat} (hs : L[i]? = some s) (hn : L.length ≤ 1000000) : Calls Tryz.prog 16 #[.pointer (some ⟨p, 0, none⟩), .int .i64 i] w fun e w' => e = .returned (.int .i64 (tBelow T s + rankS L i s)) ∧ WkT B X w' p L T ∧ Chg (exT B X) w w' := by
  have hlt := (List.getElem?_eq_some_iff.1 hs).1
  have hs257 := h.sy s (List.mem_of_getElem? hs)
  have HI := Lib.hid (wkIs_yes (i := (i : Int)) h (by omega) (by omega))
  obtain ⟨tb0, tb1⟩ := tBelow_le h.ok (s : Int)
  have hrk := (rankS_le L i s).1
  obtain ⟨pw, pt, hp⟩ := h
  obtain ⟨c0, c1⟩ := hp.cells
  have HG := Lib.hid (wpGet hp hn hs)
  have HBW := Lib.hid (fun (w' : World) (h' : WkP B X w' p pw pt L T) => wpBelow h' (s : Int))
  have HRK := Lib.hid (fun (w' : World) (h' : WkP B X w' p pw pt L T) => wpRank h' hn i s hs257)
  obtain ⟨bq, hbq⟩ : ∃ bq, tBelow T (s : Int) = bq := ⟨_, rfl⟩
  rw [hbq] at HBW tb0 tb1 ⊢
  obtain ⟨rq, hrq⟩ : ∃ rq, rankS L i s = rq := ⟨_, rfl⟩
  rw [hrq] at HRK hrk ⊢
  have hw : IntKind.i64.wrap (bq + (rq : Int)) = bq + rq := IntWalk.i64_in _ (by omega)
  clear hp hs c1 hbq hrq
  go_enter Tryz.func16, Tryz.ntmps16
  go_wp2_with fail
  refine HI.out.mono ?_
  rintro e w' ⟨rfl, rfl⟩
  go_wp2_with fail
  refine HG.out.mono ?_
  rintro e w1 ⟨rfl, hk1, hc1⟩
  have HS := Lib.hid (wkS hk1 hc1)
  clear hk1 hc1 HG HI c0
  go_upto_region 4 with fail
  -- REGION back
  refine reg_start (fun w' => w'.cell? ⟨p, 0, none⟩ = some (.pointer (some ⟨pw, 0, none⟩)) ∧ WkP B X w' p pw pt L T ∧ Chg (exT B X) w w') (by kernel_rfl) (HS.out) (fun hHeld => ?_)
  refine rt 0 hHeld ?_
  refine rt 1 hHeld ?_
  refine rt 3 hHeld ?_
  refine rt 4 hHeld ?_
  refine rt 5 hHeld ?_
  refine rt 6 hHeld ?_
  refine rt 7 hHeld ?_
  refine rt 8 hHeld ?_
  refine reg_loud (i := 2) rfl (by kernel_rfl) rfl (fun K hK => ?_)
  go_simp
  ((refine (HBW.out _ hHeld.2.1).mono ?_))
  rintro e w' ⟨rfl, rfl⟩
  refine hK.out _ _ (hHeld) (fun hNew => ?_)
  clear hK K hHeld
  have hHeld := hNew
  clear hNew
  try simp only [Act.put, List.setIfInBounds_toArray, List.set_cons_zero, List.set_cons_succ]
  refine reg_loud (i := 9) rfl (by kernel_rfl) rfl (fun K hK => ?_)
  go_simp
  ((refine (HRK.out _ hHeld.2.1).mono ?_))
  rintro e w2 ⟨rfl, hk2, hc2⟩
  refine hK.out _ _ (wkSt hk2 hHeld.2.2 hc2) (fun hNew => ?_)
  clear hK K hHeld
  have hHeld := hNew
  clear hNew
  try simp only [Act.put, List.setIfInBounds_toArray, List.set_cons_zero, List.set_cons_succ]
  refine rt 10 hHeld ?_
  refine rt 11 hHeld ?_
  refine reg_done (by kernel_rfl) ?_ _
  obtain ⟨_, hkF, hcF⟩ := hHeld
  have HKF := Lib.hid hkF
  have HCF := Lib.hid hcF
  clear hkF hcF
  go_wp2_with fail
  go_ret
  exact ⟨rfl, ⟨pw, pt, HKF.out⟩, HCF.out⟩
  -- END OF REGION back

theorem wkOn_no (h : WkT B X w p L T) {i : Int} (hi : i < 0 ∨ (L.length : Int) ≤ i) : Calls Tryz.prog 18 #[.pointer (some ⟨p, 0, none⟩), .int .i64 i] w fun e w' => e = .returned (.int .i64 (-1)) ∧ w = w' := by
  have HI := Lib.hid (wkFirst_no h hi)
  clear h hi
  go_enter Tryz.func18, Tryz.ntmps18
  go_wp2_with fail
  refine HI.out.mono ?_
  rintro e w' ⟨rfl, rfl⟩
  go_wp2_with fail
  go_ret
  exact ⟨rfl, rfl⟩
set_option maxHeartbeats 3200000 in
set_option maxRecDepth 100000 in
theorem wkOn_yes (h : WkT B X w p L T) (hTab : BitTab w) (htl : 0 < B) {i s : Nat} (hi : i < L.length) (hs : s < 257) (hwh : IsWhich T i s) (hn : L.length ≤ 1000000) :
    Calls Tryz.prog 18 #[.pointer (some ⟨p, 0, none⟩), .int .i64 i] w fun e w' => e = .returned (.int .i64 (selS L ((i : Int) - tBelow T s) s)) ∧ WkT B X w' p L T ∧ Chg (exT B X) w w' := by
  have HF := Lib.hid (wkFirst_yes (i := (i : Int)) h (by omega) (by omega) (by omega))
  have HOK := Lib.hid h.ok
  have HWH := Lib.hid hwh
  obtain ⟨tb0, tb1⟩ := tBelow_le h.ok (s : Int)
  have hle := h.le
  obtain ⟨pw, pt, hp⟩ := h
  have HBW := Lib.hid (fun (w' : World) (h' : WkP B X w' p pw pt L T) => wpBelow h' (s : Int))
  have HSE := Lib.hid (fun (w' : World) (h' : WkP B X w' p pw pt L T) (hc : Chg (exT B X) w w') => wpSelect h' (hTab.below (exT_below hc hle) htl) htl hn ((i : Int) - tBelow T s) s hs)
  have HS := Lib.hid (wkS (w := w) hp Chg.refl)
  obtain ⟨sq, hsq⟩ : ∃ sq, selS L ((i : Int) - tBelow T s) s = sq := ⟨_, rfl⟩
  rw [hsq] at HSE ⊢
  obtain ⟨bq, hbq⟩ : ∃ bq, tBelow T (s : Int) = bq := ⟨_, rfl⟩
  rw [hbq] at HBW HSE tb0 tb1
  have hw : IntKind.i64.wrap ((i : Int) - bq) = (i : Int) - bq := IntWalk.i64_in _ (by omega)
  clear hp hwh hsq hbq hle hTab
  go_enter Tryz.func18, Tryz.ntmps18
  go_wp2_with fail
  refine HF.out.mono ?_
  rintro e w' ⟨⟨r, rfl, hr⟩, rfl⟩
  obtain rfl := IsWhich.unique HOK.out hr HWH.out
  clear hr
  go_upto_region 4 with fail
  -- REGION on
  refine reg_start (fun w' => w'.cell? ⟨p, 0, none⟩ = some (.pointer (some ⟨pw, 0, none⟩)) ∧ WkP B X w' p pw pt L T ∧ Chg (exT B X) w w') (by kernel_rfl) (HS.out) (fun hHeld => ?_)
  refine rt 0 hHeld ?_
  refine rt 1 hHeld ?_
  refine rt 2 hHeld ?_
  refine rt 3 hHeld ?_
  refine rt 4 hHeld ?_
  refine rt 5 hHeld ?_
  refine rt 6 hHeld ?_
  refine rt 9 hHeld ?_
  refine reg_loud (i := 7) rfl (by kernel_rfl) rfl (fun K hK => ?_)
  go_simp
  ((refine (HBW.out _ hHeld.2.1).mono ?_))
  rintro e w' ⟨rfl, rfl⟩
  refine hK.out _ _ (hHeld) (fun hNew => ?_)
  clear hK K hHeld
  have hHeld := hNew
  clear hNew
  try simp only [Act.put, List.setIfInBounds_toArray, List.set_cons_zero, List.set_cons_succ]
  refine rt 8 hHeld ?_
  refine reg_loud (i := 10) rfl (by kernel_rfl) rfl (fun K hK => ?_)
  go_simp
  ((refine (HSE.out _ hHeld.2.1 hHeld.2.2).mono ?_))
  rintro e w2 ⟨rfl, hk2, hc2⟩
  refine hK.out _ _ (wkSt hk2 hHeld.2.2 hc2) (fun hNew => ?_)
  clear hK K hHeld
  have hHeld := hNew
  clear hNew
  try simp only [Act.put, List.setIfInBounds_toArray, List.set_cons_zero, List.set_cons_succ]
  refine rt 11 hHeld ?_
  refine reg_done (by kernel_rfl) ?_ _
  obtain ⟨_, hkF, hcF⟩ := hHeld
  have HKF := Lib.hid hkF
  have HCF := Lib.hid hcF
  clear hkF hcF
  go_wp2_with fail
  go_ret
  exact ⟨rfl, ⟨pw, pt, HKF.out⟩, HCF.out⟩
  -- END OF REGION on

theorem wkNarrow_bad (h : WkT B X w p L T) (lo hi : Int) {s : Int} (hs : symIs s = false) : Calls Tryz.prog 11 #[.pointer (some ⟨p, 0, none⟩), .int .i64 lo, .int .i64 hi, .int .i64 s] w fun e w' => e = .returned (.tuple #[.int .i64 0, .int .i64 0]) ∧ w = w' := by
  have HIS : Hid (∀ w, Calls Tryz.prog 30 #[.int .i64 s] w fun e w' => e = .returned (.bool false) ∧ w = w') := Lib.hid (fun w => by rw [← hs]; exact symIs_any s w)
  clear h hs
  go_enter Tryz.func11, Tryz.ntmps11
  go_wp2_with fail
  refine (HIS.out _).mono ?_
  rintro e w' ⟨rfl, rfl⟩
  go_wp2_with fail
  go_ret2
  exact ⟨rfl, rfl⟩
set_option maxHeartbeats 6400000 in
set_option maxRecDepth 100000 in
theorem wkNarrow_any (h : WkT B X w p L T) (lo hi : Int) {s lo' hi' : Nat} (hs : s < 257) (h1 : (lo' : Int) = min (max lo 0) L.length) (h2 : (hi' : Int) = max (min hi L.length) lo') (hn : L.length ≤ 1000000) :
    Calls Tryz.prog 11 #[.pointer (some ⟨p, 0, none⟩), .int .i64 lo, .int .i64 hi, .int .i64 s] w fun e w' => e = .returned (.tuple #[.int .i64 (tBelow T s + rankS L lo' s), .int .i64 (tBelow T s + rankS L hi' s)]) ∧ WkT B X w' p L T ∧ Chg (exT B X) w w' := by
  have HIS : Hid (∀ w, Calls Tryz.prog 30 #[.int .i64 s] w fun e w' => e = .returned (.bool true) ∧ w = w') := Lib.hid (fun w => by rw [← symIs_true (s := (s : Int)) (by omega) (by omega)]; exact symIs_any s w)
  have HLN := Lib.hid (wkLen h)
  obtain ⟨tb0, tb1⟩ := tBelow_le h.ok (s : Int)
  have hr1 := (rankS_le L lo' s).1
  have hr2 := (rankS_le L hi' s).1
  have hl1 : lo' ≤ 1000000 := by omega
  have hl2 : hi' ≤ 1000000 := by omega
  have e1 := h1.symm
  have e2 := h2.symm
  obtain ⟨pw, pt, hp⟩ := h
  have HBW := Lib.hid (fun (w' : World) (h' : WkP B X w' p pw pt L T) => wpBelow h' (s : Int))
  have HR1 := Lib.hid (fun (w' : World) (h' : WkP B X w' p pw pt L T) => wpRank h' hn lo' s hs)
  have HR2 := Lib.hid (fun (w' : World) (h' : WkP B X w' p pw pt L T) => wpRank h' hn hi' s hs)
  have HS := Lib.hid (wkS (w := w) hp Chg.refl)
  obtain ⟨bq, hbq⟩ : ∃ bq, tBelow T (s : Int) = bq := ⟨_, rfl⟩
  rw [hbq] at HBW tb0 tb1 ⊢
  obtain ⟨r1, hr1q⟩ : ∃ r1, rankS L lo' s = r1 := ⟨_, rfl⟩
  rw [hr1q] at HR1 hr1 ⊢
  obtain ⟨r2, hr2q⟩ : ∃ r2, rankS L hi' s = r2 := ⟨_, rfl⟩
  rw [hr2q] at HR2 hr2 ⊢
  have hw1 : IntKind.i64.wrap (bq + (r1 : Int)) = bq + r1 := IntWalk.i64_in _ (by omega)
  have hw2 : IntKind.i64.wrap (bq + (r2 : Int)) = bq + r2 := IntWalk.i64_in _ (by omega)
  clear hp h1 h2 hr1q hr2q hbq
  go_enter Tryz.func11, Tryz.ntmps11
  go_wp2_with fail
  refine (HIS.out _).mono ?_
  rintro e w' ⟨rfl, rfl⟩
  go_wp2_with fail
  refine HLN.out.mono ?_
  rintro e w' ⟨rfl, rfl⟩
  go_wp2_with fail
  refine HLN.out.mono ?_
  rintro e w' ⟨rfl, rfl⟩
  go_upto_region 5 with fail
  -- REGION nar
  refine reg_start (fun w' => w'.cell? ⟨p, 0, none⟩ = some (.pointer (some ⟨pw, 0, none⟩)) ∧ WkP B X w' p pw pt L T ∧ Chg (exT B X) w w') (by kernel_rfl) (HS.out) (fun hHeld => ?_)
  refine rt 0 hHeld ?_
  refine rt 1 hHeld ?_
  refine rt 3 hHeld ?_
  refine rt 4 hHeld ?_
  refine rt 5 hHeld ?_
  refine rt 6 hHeld ?_
  refine rt 7 hHeld ?_
  refine rt 8 hHeld ?_
  refine rt 11 hHeld ?_
  refine rt 12 hHeld ?_
  refine rt 14 hHeld ?_
  refine rt 15 hHeld ?_
  refine rt 16 hHeld ?_
  refine rt 17 hHeld ?_
  refine rt 18 hHeld ?_
  refine rt 19 hHeld ?_
  refine reg_loud (i := 2) rfl (by kernel_rfl) rfl (fun K hK => ?_)
  go_simp
  ((refine (HBW.out _ hHeld.2.1).mono ?_))
  rintro e w' ⟨rfl, rfl⟩
  refine hK.out _ _ (hHeld) (fun hNew => ?_)
  clear hK K hHeld
  have hHeld := hNew
  clear hNew
  try simp only [Act.put, List.setIfInBounds_toArray, List.set_cons_zero, List.set_cons_succ]
  refine reg_loud (i := 9) rfl (by kernel_rfl) rfl (fun K hK => ?_)
  go_simp
  ((refine (HR1.out _ hHeld.2.1).mono ?_))
  rintro e w2 ⟨rfl, hk2, hc2⟩
  refine hK.out _ _ (wkSt hk2 hHeld.2.2 hc2) (fun hNew => ?_)
  clear hK K hHeld
  have hHeld := hNew
  clear hNew
  try simp only [Act.put, List.setIfInBounds_toArray, List.set_cons_zero, List.set_cons_succ]
  refine rt 10 hHeld ?_
  refine reg_loud (i := 13) rfl (by kernel_rfl) rfl (fun K hK => ?_)
  go_simp
  ((refine (HBW.out _ hHeld.2.1).mono ?_))
  rintro e w' ⟨rfl, rfl⟩
  refine hK.out _ _ (hHeld) (fun hNew => ?_)
  clear hK K hHeld
  have hHeld := hNew
  clear hNew
  try simp only [Act.put, List.setIfInBounds_toArray, List.set_cons_zero, List.set_cons_succ]
  refine reg_loud (i := 20) rfl (by kernel_rfl) rfl (fun K hK => ?_)
  go_simp
  ((refine (HR2.out _ hHeld.2.1).mono ?_))
  rintro e w2 ⟨rfl, hk2, hc2⟩
  refine hK.out _ _ (wkSt hk2 hHeld.2.2 hc2) (fun hNew => ?_)
  clear hK K hHeld
  have hHeld := hNew
  clear hNew
  try simp only [Act.put, List.setIfInBounds_toArray, List.set_cons_zero, List.set_cons_succ]
  refine rt 21 hHeld ?_
  refine rt 22 hHeld ?_
  refine rt 23 hHeld ?_
  refine reg_done (by kernel_rfl) ?_ _
  obtain ⟨_, hkF, hcF⟩ := hHeld
  have HKF := Lib.hid hkF
  have HCF := Lib.hid hcF
  clear hkF hcF
  go_wp2_with fail
  go_ret2
  exact ⟨rfl, ⟨pw, pt, HKF.out⟩, HCF.out⟩
  -- END OF REGION nar
end

end Go.Proofs.YtacoeohmdngnkaaGreatDoor
