/-
  DERIVED. GIVEN WITH THE SEED: THE CARDS: each row of YtkknpgebiihkfaaGreatDoorRows.lean that lists a variable, with what it lists TIED to the program's text (the seventh form; the later family's looks); each row that meets fmt, with fmt's text TOLD by the authors' own Lean function (tested against real Go, not proved from fmt's source: count such statements apart). THE CARD IS WHAT COUNTS. Prove the row's statement (the work); the ties are given (YtkknpgebiihkfaaGreatDoorTie.lean); close each card by the builder's one call (the guide's Derived/Test/ToyasCard.lean, 'card_holds'). Laid BY PROGRAM, IN A SANDBOX (cutbox-door.mjs). By AI agents, Wed Nov 11 2026. No macro, syntax, notation, axiom, sorry.
-/
import Derived.Test.YtkknpgebiihkfaaGreatDoorRows
import GoSem.ClaimSeven
namespace Go.Proofs.YtkknpgebiihkfaaGreatDoor
namespace Rows

/-- THE TIED CARD OF 'graphdblaw11.DeltaTells'. -/
def deltaTellsCard : Claim7 := { stood := { row := deltaTellsRow, standIns := [], harness := (true, "357efce62e8d3c6f8eecfcf7f8cfbe742ad3ace9a6ae06112e01a1910d16b5a2"), looks := false }, kinds := [], alts := [], laidByText := true, laidKinds := [.data], laidTests := true, laidLooks := .later }
def DeltaTellsCardSaid : Prop := Claim7.holds Tryz.pinned (.plain (OpenSpec.ofChange deltaTellsSpec)) deltaTellsCard

/-- THE SECOND FORM's CARD OF 'graphdblaw11.DeltaTells'. -/
def deltaTellsUptoCard : Claim7 := { stood := { row := deltaTellsUptoRow, standIns := [], harness := (true, "357efce62e8d3c6f8eecfcf7f8cfbe742ad3ace9a6ae06112e01a1910d16b5a2"), looks := false }, kinds := [], alts := [], laidByText := true, laidKinds := [.data], laidTests := true, laidLooks := .later }
def DeltaTellsUptoCardSaid : Prop := Claim7.holds Tryz.pinned (.plain (OpenSpec.upto deltaTellsSpec)) deltaTellsUptoCard
end Rows
end Go.Proofs.YtkknpgebiihkfaaGreatDoor
