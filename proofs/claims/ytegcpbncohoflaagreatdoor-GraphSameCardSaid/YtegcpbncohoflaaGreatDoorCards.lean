/-
  DERIVED. GIVEN WITH THE SEED: THE CARDS: each row of YtegcpbncohoflaaGreatDoorRows.lean that lists a variable, with what it lists TIED to the program's text (the seventh form; the later family's looks); each row that meets fmt, with fmt's text TOLD by the authors' own Lean function (tested against real Go, not proved from fmt's source: count such statements apart). THE CARD IS WHAT COUNTS. Prove the row's statement (the work); the ties are given (YtegcpbncohoflaaGreatDoorTie.lean); close each card by the builder's one call (the guide's Derived/Test/ToyasCard.lean, 'card_holds'). Laid BY PROGRAM, IN A SANDBOX (cutbox-door.mjs). By AI agents, Wed Nov 11 2026. No macro, syntax, notation, axiom, sorry.
-/
import Derived.Test.YtegcpbncohoflaaGreatDoorRows
import GoSem.ClaimSeven
namespace Go.Proofs.YtegcpbncohoflaaGreatDoor
namespace Rows

/-- THE TIED CARD OF 'graphdblaw07.GraphSame'. -/
def graphSameCard : Claim7 := { stood := { row := graphSameRow, standIns := [], harness := (true, "ddf6670cb84a29650e0f6822239bb7489439eb6a9c196f413866a80055d6e6a5"), looks := false }, kinds := [], alts := [], laidByText := true, laidKinds := [.data], laidTests := true, laidLooks := .later }
def GraphSameCardSaid : Prop := Claim7.holds Tryz.pinned (.plain (OpenSpec.ofChange graphSameSpec)) graphSameCard

/-- THE SECOND FORM's CARD OF 'graphdblaw07.GraphSame'. -/
def graphSameUptoCard : Claim7 := { stood := { row := graphSameUptoRow, standIns := [], harness := (true, "ddf6670cb84a29650e0f6822239bb7489439eb6a9c196f413866a80055d6e6a5"), looks := false }, kinds := [], alts := [], laidByText := true, laidKinds := [.data], laidTests := true, laidLooks := .later }
def GraphSameUptoCardSaid : Prop := Claim7.holds Tryz.pinned (.plain (OpenSpec.upto graphSameSpec)) graphSameUptoCard
end Rows
end Go.Proofs.YtegcpbncohoflaaGreatDoor
