/-
  DERIVED. GIVEN WITH THE SEED: THE CARDS: each row of YticbfhbilfgoiaaDoorRows.lean that lists a variable, with what it lists TIED to the program's text (the seventh form; the later family's looks); each row that meets fmt, with fmt's text TOLD by the authors' own Lean function (tested against real Go, not proved from fmt's source: count such statements apart). THE CARD IS WHAT COUNTS. Prove the row's statement (the work); the ties are given (YticbfhbilfgoiaaDoorTie.lean); close each card by the builder's one call (the guide's Derived/Test/ToyasCard.lean, 'card_holds'). Laid BY PROGRAM, IN A SANDBOX (cutbox-door.mjs). By AI agents, Wed Nov 11 2026. No macro, syntax, notation, axiom, sorry.
-/
import Derived.Test.YticbfhbilfgoiaaDoorRows
import GoSem.ClaimSeven
namespace Go.Proofs.YticbfhbilfgoiaaDoor
namespace Rows

/-- THE TIED CARD OF 'scrimshawlaw1.BitsOrder'. -/
def bitsOrderCard : Claim7 := { stood := { row := bitsOrderRow, standIns := [], harness := (true, "8d458326656b948ee8cc77c56d7ef63c53f170ba10806dcdad4feda74cf2a9f1"), looks := false }, kinds := [], alts := [], laidByText := true, laidKinds := [.data], laidTests := true, laidLooks := .later }
def BitsOrderCardSaid : Prop := Claim7.holds Tryd.pinned (.plain (OpenSpec.ofChange bitsOrderSpec)) bitsOrderCard

/-- THE TIED CARD OF 'scrimshawlaw1.BitsAsks'. -/
def bitsAsksCard : Claim7 := { stood := { row := bitsAsksRow, standIns := [], harness := (true, "8d458326656b948ee8cc77c56d7ef63c53f170ba10806dcdad4feda74cf2a9f1"), looks := false }, kinds := [], alts := [], laidByText := true, laidKinds := [.data], laidTests := true, laidLooks := .later }
def BitsAsksCardSaid : Prop := Claim7.holds Tryd.pinned (.plain (OpenSpec.ofChange bitsAsksSpec)) bitsAsksCard

/-- THE TIED CARD OF 'scrimshawlaw1.BitsBack'. -/
def bitsBackCard : Claim7 := { stood := { row := bitsBackRow, standIns := [], harness := (true, "8d458326656b948ee8cc77c56d7ef63c53f170ba10806dcdad4feda74cf2a9f1"), looks := false }, kinds := [], alts := [], laidByText := true, laidKinds := [.data], laidTests := true, laidLooks := .later }
def BitsBackCardSaid : Prop := Claim7.holds Tryd.pinned (.plain (OpenSpec.ofChange bitsBackSpec)) bitsBackCard

/-- THE TIED CARD OF 'scrimshawlaw1.BitsPlaces'. -/
def bitsPlacesCard : Claim7 := { stood := { row := bitsPlacesRow, standIns := [], harness := (true, "8d458326656b948ee8cc77c56d7ef63c53f170ba10806dcdad4feda74cf2a9f1"), looks := false }, kinds := [], alts := [], laidByText := true, laidKinds := [.data], laidTests := true, laidLooks := .later }
def BitsPlacesCardSaid : Prop := Claim7.holds Tryd.pinned (.plain (OpenSpec.ofChange bitsPlacesSpec)) bitsPlacesCard

/-- THE TIED CARD OF 'scrimshawlaw1.BitsSums'. -/
def bitsSumsCard : Claim7 := { stood := { row := bitsSumsRow, standIns := [], harness := (true, "8d458326656b948ee8cc77c56d7ef63c53f170ba10806dcdad4feda74cf2a9f1"), looks := false }, kinds := [], alts := [], laidByText := true, laidKinds := [.data], laidTests := true, laidLooks := .later }
def BitsSumsCardSaid : Prop := Claim7.holds Tryd.pinned (.plain (OpenSpec.ofChange bitsSumsSpec)) bitsSumsCard

/-- THE TIED CARD OF 'scrimshawlaw1.BitsChain'. -/
def bitsChainCard : Claim7 := { stood := { row := bitsChainRow, standIns := [], harness := (true, "8d458326656b948ee8cc77c56d7ef63c53f170ba10806dcdad4feda74cf2a9f1"), looks := false }, kinds := [], alts := [], laidByText := true, laidKinds := [.data], laidTests := true, laidLooks := .later }
def BitsChainCardSaid : Prop := Claim7.holds Tryd.pinned (.plain (OpenSpec.ofChange bitsChainSpec)) bitsChainCard

/-- THE TIED CARD OF 'scrimshawlaw2.BlockPlays'. -/
def blockPlaysCard : Claim7 := { stood := { row := blockPlaysRow, standIns := [], harness := (true, "8d458326656b948ee8cc77c56d7ef63c53f170ba10806dcdad4feda74cf2a9f1"), looks := false }, kinds := [], alts := [], laidByText := true, laidKinds := [.data], laidTests := true, laidLooks := .later }
def BlockPlaysCardSaid : Prop := Claim7.holds Tryd.pinned (.plain (OpenSpec.ofChange blockPlaysSpec)) blockPlaysCard

/-- THE TIED CARD OF 'scrimshawlaw2.BlockFull'. -/
def blockFullCard : Claim7 := { stood := { row := blockFullRow, standIns := [], harness := (true, "8d458326656b948ee8cc77c56d7ef63c53f170ba10806dcdad4feda74cf2a9f1"), looks := false }, kinds := [], alts := [], laidByText := true, laidKinds := [.data], laidTests := true, laidLooks := .later }
def BlockFullCardSaid : Prop := Claim7.holds Tryd.pinned (.plain (OpenSpec.ofChange blockFullSpec)) blockFullCard

/-- THE TIED CARD OF 'scrimshawlaw2.BlockRanks'. -/
def blockRanksCard : Claim7 := { stood := { row := blockRanksRow, standIns := [], harness := (true, "8d458326656b948ee8cc77c56d7ef63c53f170ba10806dcdad4feda74cf2a9f1"), looks := false }, kinds := [], alts := [], laidByText := true, laidKinds := [.data], laidTests := true, laidLooks := .later }
def BlockRanksCardSaid : Prop := Claim7.holds Tryd.pinned (.plain (OpenSpec.ofChange blockRanksSpec)) blockRanksCard

/-- THE TIED CARD OF 'scrimshawlaw2.BlockHalves'. -/
def blockHalvesCard : Claim7 := { stood := { row := blockHalvesRow, standIns := [], harness := (true, "8d458326656b948ee8cc77c56d7ef63c53f170ba10806dcdad4feda74cf2a9f1"), looks := false }, kinds := [], alts := [], laidByText := true, laidKinds := [.data], laidTests := true, laidLooks := .later }
def BlockHalvesCardSaid : Prop := Claim7.holds Tryd.pinned (.plain (OpenSpec.ofChange blockHalvesSpec)) blockHalvesCard

/-- THE TIED CARD OF 'scrimshawlaw2.BlockOwn'. -/
def blockOwnCard : Claim7 := { stood := { row := blockOwnRow, standIns := [], harness := (true, "8d458326656b948ee8cc77c56d7ef63c53f170ba10806dcdad4feda74cf2a9f1"), looks := false }, kinds := [], alts := [], laidByText := true, laidKinds := [.data], laidTests := true, laidLooks := .later }
def BlockOwnCardSaid : Prop := Claim7.holds Tryd.pinned (.plain (OpenSpec.ofChange blockOwnSpec)) blockOwnCard

/-- THE SECOND FORM's CARD OF 'scrimshawlaw1.BitsOrder'. -/
def bitsOrderUptoCard : Claim7 := { stood := { row := bitsOrderUptoRow, standIns := [], harness := (true, "8d458326656b948ee8cc77c56d7ef63c53f170ba10806dcdad4feda74cf2a9f1"), looks := false }, kinds := [], alts := [], laidByText := true, laidKinds := [.data], laidTests := true, laidLooks := .later }
def BitsOrderUptoCardSaid : Prop := Claim7.holds Tryd.pinned (.plain (OpenSpec.upto bitsOrderSpec)) bitsOrderUptoCard

/-- THE SECOND FORM's CARD OF 'scrimshawlaw1.BitsAsks'. -/
def bitsAsksUptoCard : Claim7 := { stood := { row := bitsAsksUptoRow, standIns := [], harness := (true, "8d458326656b948ee8cc77c56d7ef63c53f170ba10806dcdad4feda74cf2a9f1"), looks := false }, kinds := [], alts := [], laidByText := true, laidKinds := [.data], laidTests := true, laidLooks := .later }
def BitsAsksUptoCardSaid : Prop := Claim7.holds Tryd.pinned (.plain (OpenSpec.upto bitsAsksSpec)) bitsAsksUptoCard

/-- THE SECOND FORM's CARD OF 'scrimshawlaw1.BitsBack'. -/
def bitsBackUptoCard : Claim7 := { stood := { row := bitsBackUptoRow, standIns := [], harness := (true, "8d458326656b948ee8cc77c56d7ef63c53f170ba10806dcdad4feda74cf2a9f1"), looks := false }, kinds := [], alts := [], laidByText := true, laidKinds := [.data], laidTests := true, laidLooks := .later }
def BitsBackUptoCardSaid : Prop := Claim7.holds Tryd.pinned (.plain (OpenSpec.upto bitsBackSpec)) bitsBackUptoCard

/-- THE SECOND FORM's CARD OF 'scrimshawlaw1.BitsPlaces'. -/
def bitsPlacesUptoCard : Claim7 := { stood := { row := bitsPlacesUptoRow, standIns := [], harness := (true, "8d458326656b948ee8cc77c56d7ef63c53f170ba10806dcdad4feda74cf2a9f1"), looks := false }, kinds := [], alts := [], laidByText := true, laidKinds := [.data], laidTests := true, laidLooks := .later }
def BitsPlacesUptoCardSaid : Prop := Claim7.holds Tryd.pinned (.plain (OpenSpec.upto bitsPlacesSpec)) bitsPlacesUptoCard

/-- THE SECOND FORM's CARD OF 'scrimshawlaw1.BitsSums'. -/
def bitsSumsUptoCard : Claim7 := { stood := { row := bitsSumsUptoRow, standIns := [], harness := (true, "8d458326656b948ee8cc77c56d7ef63c53f170ba10806dcdad4feda74cf2a9f1"), looks := false }, kinds := [], alts := [], laidByText := true, laidKinds := [.data], laidTests := true, laidLooks := .later }
def BitsSumsUptoCardSaid : Prop := Claim7.holds Tryd.pinned (.plain (OpenSpec.upto bitsSumsSpec)) bitsSumsUptoCard

/-- THE SECOND FORM's CARD OF 'scrimshawlaw1.BitsChain'. -/
def bitsChainUptoCard : Claim7 := { stood := { row := bitsChainUptoRow, standIns := [], harness := (true, "8d458326656b948ee8cc77c56d7ef63c53f170ba10806dcdad4feda74cf2a9f1"), looks := false }, kinds := [], alts := [], laidByText := true, laidKinds := [.data], laidTests := true, laidLooks := .later }
def BitsChainUptoCardSaid : Prop := Claim7.holds Tryd.pinned (.plain (OpenSpec.upto bitsChainSpec)) bitsChainUptoCard

/-- THE SECOND FORM's CARD OF 'scrimshawlaw2.BlockPlays'. -/
def blockPlaysUptoCard : Claim7 := { stood := { row := blockPlaysUptoRow, standIns := [], harness := (true, "8d458326656b948ee8cc77c56d7ef63c53f170ba10806dcdad4feda74cf2a9f1"), looks := false }, kinds := [], alts := [], laidByText := true, laidKinds := [.data], laidTests := true, laidLooks := .later }
def BlockPlaysUptoCardSaid : Prop := Claim7.holds Tryd.pinned (.plain (OpenSpec.upto blockPlaysSpec)) blockPlaysUptoCard

/-- THE SECOND FORM's CARD OF 'scrimshawlaw2.BlockFull'. -/
def blockFullUptoCard : Claim7 := { stood := { row := blockFullUptoRow, standIns := [], harness := (true, "8d458326656b948ee8cc77c56d7ef63c53f170ba10806dcdad4feda74cf2a9f1"), looks := false }, kinds := [], alts := [], laidByText := true, laidKinds := [.data], laidTests := true, laidLooks := .later }
def BlockFullUptoCardSaid : Prop := Claim7.holds Tryd.pinned (.plain (OpenSpec.upto blockFullSpec)) blockFullUptoCard

/-- THE SECOND FORM's CARD OF 'scrimshawlaw2.BlockRanks'. -/
def blockRanksUptoCard : Claim7 := { stood := { row := blockRanksUptoRow, standIns := [], harness := (true, "8d458326656b948ee8cc77c56d7ef63c53f170ba10806dcdad4feda74cf2a9f1"), looks := false }, kinds := [], alts := [], laidByText := true, laidKinds := [.data], laidTests := true, laidLooks := .later }
def BlockRanksUptoCardSaid : Prop := Claim7.holds Tryd.pinned (.plain (OpenSpec.upto blockRanksSpec)) blockRanksUptoCard

/-- THE SECOND FORM's CARD OF 'scrimshawlaw2.BlockHalves'. -/
def blockHalvesUptoCard : Claim7 := { stood := { row := blockHalvesUptoRow, standIns := [], harness := (true, "8d458326656b948ee8cc77c56d7ef63c53f170ba10806dcdad4feda74cf2a9f1"), looks := false }, kinds := [], alts := [], laidByText := true, laidKinds := [.data], laidTests := true, laidLooks := .later }
def BlockHalvesUptoCardSaid : Prop := Claim7.holds Tryd.pinned (.plain (OpenSpec.upto blockHalvesSpec)) blockHalvesUptoCard

/-- THE SECOND FORM's CARD OF 'scrimshawlaw2.BlockOwn'. -/
def blockOwnUptoCard : Claim7 := { stood := { row := blockOwnUptoRow, standIns := [], harness := (true, "8d458326656b948ee8cc77c56d7ef63c53f170ba10806dcdad4feda74cf2a9f1"), looks := false }, kinds := [], alts := [], laidByText := true, laidKinds := [.data], laidTests := true, laidLooks := .later }
def BlockOwnUptoCardSaid : Prop := Claim7.holds Tryd.pinned (.plain (OpenSpec.upto blockOwnSpec)) blockOwnUptoCard
end Rows
end Go.Proofs.YticbfhbilfgoiaaDoor
