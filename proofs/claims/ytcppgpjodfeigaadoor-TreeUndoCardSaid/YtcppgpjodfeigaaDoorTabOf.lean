/- The listed table, as a walk reads it. -/
import Derived.Test.YtcppgpjodfeigaaDoorRows
import Derived.Test.YtcppgpjodfeigaaDoorBits
import Derived.Lib.LaidTab
import Derived.Lay
import Derived.LaidSub
import Derived.MakeChecks
import Derived.SevenTiedAt
import Derived.JoinedOf
import Derived.ProofKit
import Derived.OpenShut
import Derived.ChangeVars
namespace Go.Proofs.YtcppgpjodfeigaaDoor

def laidTab : List (String × DataW Unit) := [("math/bits.deBruijn64tab", Rows.laid_math_bits_deBruijn64tab)]
theorem tab_data : (Rows.laid_math_bits_deBruijn64tab : DataW Unit) = Lib.tabData .u8 (Lib.deBruijn64tab.map Int.ofNat) := rfl
theorem bitTab_of {W : World} (hL : laidMetH Tryd.prog laidTab W) : BitTab W := by
  rw [MakeChecks.laidMetH_plain _ _ _ (by kernel_rfl)] at hL
  have hL' : laidMet Tryd.prog [("math/bits.deBruijn64tab", Lib.tabData .u8 (Lib.deBruijn64tab.map Int.ofNat))] W := by rw [← tab_data]; exact hL
  have hg : Tryd.prog.globalNamed "math/bits.deBruijn64tab" = some 0 := by kernel_rfl
  have hT := Lib.tabIs_of_head hg (t := 128) (by kernel_rfl) Tryd.underlying128 Tryd.underlying5 (by kernel_rfl) (by kernel_rfl) hL'
  intro j hj
  rw [hT.cell hg j (by simpa using hj)]
  simp [List.getD_eq_getElem?_getD, List.getElem?_eq_getElem hj]

end Go.Proofs.YtcppgpjodfeigaaDoor
