/- sym.All of one, two and three parts. -/
import Derived.Test.YtpbmhdkhkbhgnaaAll
namespace Go.Proofs.Ytpbmhdkhkbhgnaa
open Go.RowKit

theorem symAll1 (pb c : Nat) (a0 : Option Addr) (c0 : Nat) (x0 : List Int) (w : World) (hpb : pb < w.heap.size)
    (h0 : w.cell? ⟨pb, 0, none⟩ = some (.slice a0 x0.length c0)) (r0 : Reads w .u8 a0 x0) (b0 : Bytes x0) (ht : x0.length ≤ 1000000000) :
    Calls Try.prog 26 #[.slice (some ⟨pb, 0, none⟩) 1 c] w fun e w' =>
      ∃ v, e = .returned v ∧ w'.ownsRow w.heap.size 3 1 v (x0.length + 1) (x0.map symV ++ [.int .i64 0]) ∧ Below w.heap.size w w' := by
  have h := symAll_any pb 1 c (fun _ => a0) (fun _ => c0) (fun _ => x0) w (by omega) (fun j hj => by obtain rfl : j = 0 := by omega
                                                                                                     exact h0) hpb (fun _ _ => r0) (fun _ _ => b0) (by simpa [cat] using ht)
  simpa [cat] using h

theorem symAll2 (pb c : Nat) (a0 : Option Addr) (c0 : Nat) (x0 : List Int) (a1 : Option Addr) (c1 : Nat) (x1 : List Int) (w : World) (hpb : pb < w.heap.size)
    (h0 : w.cell? ⟨pb, 0, none⟩ = some (.slice a0 x0.length c0)) (r0 : Reads w .u8 a0 x0) (b0 : Bytes x0)
    (h1 : w.cell? ⟨pb, 1, none⟩ = some (.slice a1 x1.length c1)) (r1 : Reads w .u8 a1 x1) (b1 : Bytes x1) (ht : x0.length + x1.length ≤ 1000000000) :
    Calls Try.prog 26 #[.slice (some ⟨pb, 0, none⟩) 2 c] w fun e w' =>
      ∃ v, e = .returned v ∧ w'.ownsRow w.heap.size 3 1 v ((x0 ++ x1).length + 1) ((x0 ++ x1).map symV ++ [.int .i64 0]) ∧ Below w.heap.size w w' := by
  have h := symAll_any pb 2 c (fun j => match j with | 0 => a0 | _ => a1) (fun j => match j with | 0 => c0 | _ => c1) (fun j => match j with | 0 => x0 | _ => x1) w (by omega)
    (fun j hj => by match j, hj with
                    | 0, _ => exact h0
                    | 1, _ => exact h1) hpb
    (fun j hj => by match j, hj with
                    | 0, _ => exact r0
                    | 1, _ => exact r1)
    (fun j hj => by match j, hj with
                    | 0, _ => exact b0
                    | 1, _ => exact b1) (by simpa [cat] using ht)
  simpa [cat] using h

theorem symAll3 (pb c : Nat) (a0 : Option Addr) (c0 : Nat) (x0 : List Int) (a1 : Option Addr) (c1 : Nat) (x1 : List Int) (a2 : Option Addr) (c2 : Nat) (x2 : List Int) (w : World) (hpb : pb < w.heap.size)
    (h0 : w.cell? ⟨pb, 0, none⟩ = some (.slice a0 x0.length c0)) (r0 : Reads w .u8 a0 x0) (b0 : Bytes x0)
    (h1 : w.cell? ⟨pb, 1, none⟩ = some (.slice a1 x1.length c1)) (r1 : Reads w .u8 a1 x1) (b1 : Bytes x1)
    (h2 : w.cell? ⟨pb, 2, none⟩ = some (.slice a2 x2.length c2)) (r2 : Reads w .u8 a2 x2) (b2 : Bytes x2) (ht : x0.length + x1.length + x2.length ≤ 1000000000) :
    Calls Try.prog 26 #[.slice (some ⟨pb, 0, none⟩) 3 c] w fun e w' =>
      ∃ v, e = .returned v ∧ w'.ownsRow w.heap.size 3 1 v ((x0 ++ x1 ++ x2).length + 1) ((x0 ++ x1 ++ x2).map symV ++ [.int .i64 0]) ∧ Below w.heap.size w w' := by
  have h := symAll_any pb 3 c (fun j => match j with | 0 => a0 | 1 => a1 | _ => a2) (fun j => match j with | 0 => c0 | 1 => c1 | _ => c2) (fun j => match j with | 0 => x0 | 1 => x1 | _ => x2) w (by omega)
    (fun j hj => by match j, hj with
                    | 0, _ => exact h0
                    | 1, _ => exact h1
                    | 2, _ => exact h2) hpb
    (fun j hj => by match j, hj with
                    | 0, _ => exact r0
                    | 1, _ => exact r1
                    | 2, _ => exact r2)
    (fun j hj => by match j, hj with
                    | 0, _ => exact b0
                    | 1, _ => exact b1
                    | 2, _ => exact b2) (by simp [cat]; omega)
  simpa [cat] using h

end Go.Proofs.Ytpbmhdkhkbhgnaa
