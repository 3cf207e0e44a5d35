/-
  DERIVED. GIVEN WITH THE SEED: THE CARDS: each row of YtabdhjmlfhhmpaaDoorRows.lean that lists a variable, with what it lists TIED to the program's text (the seventh form; the later family's looks); each row that meets fmt, with fmt's text TOLD by the authors' own Lean function (tested against real Go, not proved from fmt's source: count such statements apart). THE CARD IS WHAT COUNTS. Prove the row's statement (the work); the ties are given (YtabdhjmlfhhmpaaDoorTie.lean); close each card by the builder's one call (the guide's Derived/Test/ToyasCard.lean, 'card_holds'). Laid BY PROGRAM, IN A SANDBOX (cutbox-door.mjs). By AI agents, Wed Nov 11 2026. No macro, syntax, notation, axiom, sorry.
-/
import Derived.Test.YtabdhjmlfhhmpaaDoorRows
import GoSem.ClaimSeven
namespace Go.Proofs.YtabdhjmlfhhmpaaDoor
namespace Rows

/-- THE TIED CARD OF 'carlinglaw21.InodeParses'. -/
def inodeParsesCard : Claim7 := { stood := { row := inodeParsesRow, standIns := [], harness := (true, "0e5ec0de433119fb403251081d7ce38da5897db51d0b430d34296803340ab26d"), looks := false }, kinds := [], alts := [], laidByText := true, laidKinds := [.data, .pinned], laidTests := true, laidLooks := .later }
def InodeParsesCardSaid : Prop := Claim7.holds Tryd.pinned (.plain (OpenSpec.ofChange inodeParsesSpec)) inodeParsesCard

/-- THE TIED CARD OF 'carlinglaw21.InodeBack'. -/
def inodeBackCard : Claim7 := { stood := { row := inodeBackRow, standIns := [], harness := (true, "0e5ec0de433119fb403251081d7ce38da5897db51d0b430d34296803340ab26d"), looks := false }, kinds := [], alts := [], laidByText := true, laidKinds := [.data, .pinned], laidTests := true, laidLooks := .later }
def InodeBackCardSaid : Prop := Claim7.holds Tryd.pinned (.plain (OpenSpec.ofChange inodeBackSpec)) inodeBackCard

/-- THE TIED CARD OF 'carlinglaw21.InodePages'. -/
def inodePagesCard : Claim7 := { stood := { row := inodePagesRow, standIns := [], harness := (true, "0e5ec0de433119fb403251081d7ce38da5897db51d0b430d34296803340ab26d"), looks := false }, kinds := [], alts := [], laidByText := true, laidKinds := [.data, .pinned], laidTests := true, laidLooks := .later }
def InodePagesCardSaid : Prop := Claim7.holds Tryd.pinned (.plain (OpenSpec.ofChange inodePagesSpec)) inodePagesCard

/-- THE SECOND FORM's CARD OF 'carlinglaw21.InodeParses'. -/
def inodeParsesUptoCard : Claim7 := { stood := { row := inodeParsesUptoRow, standIns := [], harness := (true, "0e5ec0de433119fb403251081d7ce38da5897db51d0b430d34296803340ab26d"), looks := false }, kinds := [], alts := [], laidByText := true, laidKinds := [.data, .pinned], laidTests := true, laidLooks := .later }
def InodeParsesUptoCardSaid : Prop := Claim7.holds Tryd.pinned (.plain (OpenSpec.upto inodeParsesSpec)) inodeParsesUptoCard

/-- THE SECOND FORM's CARD OF 'carlinglaw21.InodeBack'. -/
def inodeBackUptoCard : Claim7 := { stood := { row := inodeBackUptoRow, standIns := [], harness := (true, "0e5ec0de433119fb403251081d7ce38da5897db51d0b430d34296803340ab26d"), looks := false }, kinds := [], alts := [], laidByText := true, laidKinds := [.data, .pinned], laidTests := true, laidLooks := .later }
def InodeBackUptoCardSaid : Prop := Claim7.holds Tryd.pinned (.plain (OpenSpec.upto inodeBackSpec)) inodeBackUptoCard

/-- THE SECOND FORM's CARD OF 'carlinglaw21.InodePages'. -/
def inodePagesUptoCard : Claim7 := { stood := { row := inodePagesUptoRow, standIns := [], harness := (true, "0e5ec0de433119fb403251081d7ce38da5897db51d0b430d34296803340ab26d"), looks := false }, kinds := [], alts := [], laidByText := true, laidKinds := [.data, .pinned], laidTests := true, laidLooks := .later }
def InodePagesUptoCardSaid : Prop := Claim7.holds Tryd.pinned (.plain (OpenSpec.upto inodePagesSpec)) inodePagesUptoCard
end Rows
end Go.Proofs.YtabdhjmlfhhmpaaDoor
