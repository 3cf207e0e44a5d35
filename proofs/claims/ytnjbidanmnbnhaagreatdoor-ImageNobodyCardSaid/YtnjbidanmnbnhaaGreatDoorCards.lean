/-
  DERIVED. GIVEN WITH THE SEED: THE CARDS: each row of YtnjbidanmnbnhaaGreatDoorRows.lean that lists a variable, with what it lists TIED to the program's text (the seventh form; the later family's looks); each row that meets fmt, with fmt's text TOLD by the authors' own Lean function (tested against real Go, not proved from fmt's source: count such statements apart). THE CARD IS WHAT COUNTS. Prove the row's statement (the work); the ties are given (YtnjbidanmnbnhaaGreatDoorTie.lean); close each card by the builder's one call (the guide's Derived/Test/ToyasCard.lean, 'card_holds'). Laid BY PROGRAM, IN A SANDBOX (cutbox-door.mjs). By AI agents, Wed Nov 11 2026. No macro, syntax, notation, axiom, sorry.
-/
import Derived.Test.YtnjbidanmnbnhaaGreatDoorRows
import GoSem.ClaimSeven
namespace Go.Proofs.YtnjbidanmnbnhaaGreatDoor
namespace Rows

/-- THE TIED CARD OF 'carlinglaw19.ImageNobody'. -/
def imageNobodyCard : Claim7 := { stood := { row := imageNobodyRow, standIns := [], harness := (true, "b27fbfffdc7406cd6772b580ace596a9ee8b5acc955454358e7385160612944d"), looks := false }, kinds := [], alts := [], laidByText := true, laidKinds := [.data, .pinned], laidTests := true, laidLooks := .later }
def ImageNobodyCardSaid : Prop := Claim7.holds Tryz.pinned (.plain (OpenSpec.ofChange imageNobodySpec)) imageNobodyCard

/-- THE SECOND FORM's CARD OF 'carlinglaw19.ImageNobody'. -/
def imageNobodyUptoCard : Claim7 := { stood := { row := imageNobodyUptoRow, standIns := [], harness := (true, "b27fbfffdc7406cd6772b580ace596a9ee8b5acc955454358e7385160612944d"), looks := false }, kinds := [], alts := [], laidByText := true, laidKinds := [.data, .pinned], laidTests := true, laidLooks := .later }
def ImageNobodyUptoCardSaid : Prop := Claim7.holds Tryz.pinned (.plain (OpenSpec.upto imageNobodySpec)) imageNobodyUptoCard
end Rows
end Go.Proofs.YtnjbidanmnbnhaaGreatDoor
