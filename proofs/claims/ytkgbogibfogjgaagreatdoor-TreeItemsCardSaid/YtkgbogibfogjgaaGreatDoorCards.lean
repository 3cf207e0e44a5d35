/-
  DERIVED. GIVEN WITH THE SEED: THE CARDS: each row of YtkgbogibfogjgaaGreatDoorRows.lean that lists a variable, with what it lists TIED to the program's text (the seventh form; the later family's looks); each row that meets fmt, with fmt's text TOLD by the authors' own Lean function (tested against real Go, not proved from fmt's source: count such statements apart). THE CARD IS WHAT COUNTS. Prove the row's statement (the work); the ties are given (YtkgbogibfogjgaaGreatDoorTie.lean); close each card by the builder's one call (the guide's Derived/Test/ToyasCard.lean, 'card_holds'). Laid BY PROGRAM, IN A SANDBOX (cutbox-door.mjs). By AI agents, Wed Nov 11 2026. No macro, syntax, notation, axiom, sorry.
-/
import Derived.Test.YtkgbogibfogjgaaGreatDoorRows
import GoSem.ClaimSeven
namespace Go.Proofs.YtkgbogibfogjgaaGreatDoor
namespace Rows

/-- THE TIED CARD OF 'carlinglaw14.TreeMakes'. -/
def treeMakesCard : Claim7 := { stood := { row := treeMakesRow, standIns := [], harness := (true, "1d0e12b7b53de3c8090db97348bd639fd3e90c344ba91a3ffb92b38d127c18ac"), looks := false }, kinds := [], alts := [], laidByText := true, laidKinds := [.data, .pinned], laidTests := true, laidLooks := .later }
def TreeMakesCardSaid : Prop := Claim7.holds Tryz.pinned (.plain (OpenSpec.ofChange treeMakesSpec)) treeMakesCard

/-- THE TIED CARD OF 'carlinglaw14.TreeItems'. -/
def treeItemsCard : Claim7 := { stood := { row := treeItemsRow, standIns := [], harness := (true, "1d0e12b7b53de3c8090db97348bd639fd3e90c344ba91a3ffb92b38d127c18ac"), looks := false }, kinds := [], alts := [], laidByText := true, laidKinds := [.data, .pinned], laidTests := true, laidLooks := .later }
def TreeItemsCardSaid : Prop := Claim7.holds Tryz.pinned (.plain (OpenSpec.ofChange treeItemsSpec)) treeItemsCard

/-- THE TIED CARD OF 'carlinglaw14.TreeFetches'. -/
def treeFetchesCard : Claim7 := { stood := { row := treeFetchesRow, standIns := [], harness := (true, "1d0e12b7b53de3c8090db97348bd639fd3e90c344ba91a3ffb92b38d127c18ac"), looks := false }, kinds := [], alts := [], laidByText := true, laidKinds := [.data, .pinned], laidTests := true, laidLooks := .later }
def TreeFetchesCardSaid : Prop := Claim7.holds Tryz.pinned (.plain (OpenSpec.ofChange treeFetchesSpec)) treeFetchesCard

/-- THE SECOND FORM's CARD OF 'carlinglaw14.TreeMakes'. -/
def treeMakesUptoCard : Claim7 := { stood := { row := treeMakesUptoRow, standIns := [], harness := (true, "1d0e12b7b53de3c8090db97348bd639fd3e90c344ba91a3ffb92b38d127c18ac"), looks := false }, kinds := [], alts := [], laidByText := true, laidKinds := [.data, .pinned], laidTests := true, laidLooks := .later }
def TreeMakesUptoCardSaid : Prop := Claim7.holds Tryz.pinned (.plain (OpenSpec.upto treeMakesSpec)) treeMakesUptoCard

/-- THE SECOND FORM's CARD OF 'carlinglaw14.TreeItems'. -/
def treeItemsUptoCard : Claim7 := { stood := { row := treeItemsUptoRow, standIns := [], harness := (true, "1d0e12b7b53de3c8090db97348bd639fd3e90c344ba91a3ffb92b38d127c18ac"), looks := false }, kinds := [], alts := [], laidByText := true, laidKinds := [.data, .pinned], laidTests := true, laidLooks := .later }
def TreeItemsUptoCardSaid : Prop := Claim7.holds Tryz.pinned (.plain (OpenSpec.upto treeItemsSpec)) treeItemsUptoCard

/-- THE SECOND FORM's CARD OF 'carlinglaw14.TreeFetches'. -/
def treeFetchesUptoCard : Claim7 := { stood := { row := treeFetchesUptoRow, standIns := [], harness := (true, "1d0e12b7b53de3c8090db97348bd639fd3e90c344ba91a3ffb92b38d127c18ac"), looks := false }, kinds := [], alts := [], laidByText := true, laidKinds := [.data, .pinned], laidTests := true, laidLooks := .later }
def TreeFetchesUptoCardSaid : Prop := Claim7.holds Tryz.pinned (.plain (OpenSpec.upto treeFetchesSpec)) treeFetchesUptoCard
end Rows
end Go.Proofs.YtkgbogibfogjgaaGreatDoor
