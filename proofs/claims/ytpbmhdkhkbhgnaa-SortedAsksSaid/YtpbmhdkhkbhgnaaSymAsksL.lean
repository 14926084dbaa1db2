/- Lemmas for the walk of SymAsks. -/
import Derived.Test.YtpbmhdkhkbhgnaaSymLaw
import Derived.Test.YtpbmhdkhkbhgnaaRef6
import Derived.Test.YtpbmhdkhkbhgnaaArgs
import Derived.Test.YtpbmhdkhkbhgnaaReg
namespace Go.Proofs.Ytpbmhdkhkbhgnaa
set_option linter.unusedVariables false
open Go.RowKit

theorem bytes_of {w : World} {a : Option Addr} {c : Nat} {xs : List Int} (h : ArgI .u8 w a c xs) : Bytes xs := fun i hi => by
  have := bounds_u8 (h.wf i hi); omega

/-- 'string(x)' of a row that came in. -/
theorem conv_str {P : Program} {src dst e : TypeId} {w : World} {a : Option Addr} {c : Nat} {xs : List Int} (hs : P.underlying src = some (.slice e)) (he : P.underlying e = some (.int .u8)) (hd : P.underlying dst = some .string) (h : Reads w .u8 a xs) :
    (convert src dst (.slice a xs.length c)).run P w = .ok (.string (strOfNums xs)) w := by
  by_cases h0 : xs.length = 0
  · have hx : xs = [] := List.eq_nil_of_length_eq_zero h0
    subst hx
    cases a with
    | none => exact run_convert_bytes_nil w src e hs he _ _ dst hd
    | some ad =>
      have := run_convert_bytes_back w src dst e ad c [] hs he hd (fun j hj => absurd hj (by simp))
      exact this
  · obtain ⟨b, off, rfl, _, hc⟩ := h.some (by omega)
    exact run_convert_bytes_arg w src e hs he b off xs.length c xs rfl (fun i hi => by rw [hc i hi, List.getD_eq_getElem?_getD]) dst hd

theorem symB_of (xs : List Int) (h : Bytes xs) : (strOfNums xs).data.toList.map symB = xs.map symV := by
  rw [strOfNums_data, List.map_map]
  apply List.ext_getElem
  · simp
  · intro i h1 h2
    simp only [List.length_map] at h1 h2
    have hb := h i h2
    rw [List.getElem?_eq_getElem h2] at hb
    simp only [Option.getD_some] at hb
    simp only [List.getElem_map, Function.comp_apply, symB, symV]
    congr 1
    have : (UInt8.ofNat xs[i].toNat).toNat = xs[i].toNat := by
      rw [UInt8.toNat_ofNat']; exact Nat.mod_eq_of_lt (by omega)
    rw [this]; omega

theorem strOfNums_append (xs ys : List Int) : strOfNums xs ++ strOfNums ys = strOfNums (xs ++ ys) := by
  unfold strOfNums
  rw [ByteArray.mk_append_mk, List.map_append]

theorem symAll_of (pb c : Nat) (a0 : Option Addr) (c0 : Nat) (x0 : List Int) (a1 : Option Addr) (c1 : Nat) (x1 : List Int) (w : World) (hpb : pb < w.heap.size)
    (h0 : w.cell? ⟨pb, 0, none⟩ = some (.slice a0 x0.length c0)) (r0 : Reads w .u8 a0 x0) (b0 : Bytes x0)
    (h1 : w.cell? ⟨pb, 1, none⟩ = some (.slice a1 x1.length c1)) (r1 : Reads w .u8 a1 x1) (b1 : Bytes x1) (ht : x0.length + x1.length ≤ 1000000000) :
    Calls Try.prog 26 #[.slice (some ⟨pb, 0, none⟩) 2 c] w fun e w' =>
      ∃ g cap, e = .returned (.slice (some ⟨g, 0, none⟩) ((x0 ++ x1).length + 1) cap) ∧ Reads w' .i64 (some ⟨g, 0, none⟩) (symsOf (x0 ++ x1)) ∧ w.heap.size ≤ g ∧ g < w'.heap.size ∧ Below w.heap.size w w' := by
  refine (symAll2 pb c a0 c0 x0 a1 c1 x1 w hpb h0 r0 b0 h1 r1 b1 ht).mono ?_
  rintro e w' ⟨v, rfl, hown, hbl⟩
  obtain ⟨g, cap, rfl, h1, h2, h3⟩ := own_syms hown
  exact ⟨g, cap, rfl, h3, h1, h2, hbl⟩

theorem conv_run_keep {P : Program} {src dst e : TypeId} {w : World} {a : Option Addr} {c : Nat} {xs : List Int} (hs : P.underlying src = some (.slice e)) (he : P.underlying e = some (.int .u8)) (hd : P.underlying dst = some .string)
    {w' : World} (h : Reads w .u8 a xs) (hb : Below w.heap.size w w') : (convert src dst (.slice a xs.length c)).run P w' = .ok (.string (strOfNums xs)) w' := conv_str hs he hd (h.below hb)

end Go.Proofs.Ytpbmhdkhkbhgnaa
