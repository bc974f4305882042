/-
  DERIVED. GIVEN WITH THE SEED: THE CARDS: each row of YthjeehjphekjmaaGreatDoorRows.lean that lists a variable, with what it lists TIED to the program's text (the seventh form; the later family's looks); each row that meets fmt, with fmt's text TOLD by the authors' own Lean function (tested against real Go, not proved from fmt's source: count such statements apart). THE CARD IS WHAT COUNTS. Prove the row's statement (the work); the ties are given (YthjeehjphekjmaaGreatDoorTie.lean); close each card by the builder's one call (the guide's Derived/Test/ToyasCard.lean, 'card_holds'). Laid BY PROGRAM, IN A SANDBOX (cutbox-door.mjs). By AI agents, Wed Nov 11 2026. No macro, syntax, notation, axiom, sorry.
-/
import Derived.Test.YthjeehjphekjmaaGreatDoorRows
import GoSem.ClaimSeven
namespace Go.Proofs.YthjeehjphekjmaaGreatDoor
namespace Rows

/-- THE TIED CARD OF 'graphdblaw25.ShortestLevels'. -/
def shortestLevelsCard : Claim7 := { stood := { row := shortestLevelsRow, standIns := [], harness := (true, "e9ffaa5598370d0d5ec677c84c14a40571e9f7b76e74804d0b5217372db687c5"), looks := false }, kinds := [], alts := [], laidByText := true, laidKinds := [.data], laidTests := true, laidLooks := .later }
def ShortestLevelsCardSaid : Prop := Claim7.holds Tryz.pinned (.plain (OpenSpec.ofChange shortestLevelsSpec)) shortestLevelsCard

/-- THE TIED CARD OF 'graphdblaw25.ShortestRight'. -/
def shortestRightCard : Claim7 := { stood := { row := shortestRightRow, standIns := [], harness := (true, "e9ffaa5598370d0d5ec677c84c14a40571e9f7b76e74804d0b5217372db687c5"), looks := false }, kinds := [], alts := [], laidByText := true, laidKinds := [.data], laidTests := true, laidLooks := .later }
def ShortestRightCardSaid : Prop := Claim7.holds Tryz.pinned (.plain (OpenSpec.ofChange shortestRightSpec)) shortestRightCard

/-- THE TIED CARD OF 'graphdblaw25.ShortestSteps'. -/
def shortestStepsCard : Claim7 := { stood := { row := shortestStepsRow, standIns := [], harness := (true, "e9ffaa5598370d0d5ec677c84c14a40571e9f7b76e74804d0b5217372db687c5"), looks := false }, kinds := [], alts := [], laidByText := true, laidKinds := [.data], laidTests := true, laidLooks := .later }
def ShortestStepsCardSaid : Prop := Claim7.holds Tryz.pinned (.plain (OpenSpec.ofChange shortestStepsSpec)) shortestStepsCard

/-- THE TIED CARD OF 'graphdblaw25.ShortestTurned'. -/
def shortestTurnedCard : Claim7 := { stood := { row := shortestTurnedRow, standIns := [], harness := (true, "e9ffaa5598370d0d5ec677c84c14a40571e9f7b76e74804d0b5217372db687c5"), looks := false }, kinds := [], alts := [], laidByText := true, laidKinds := [.data], laidTests := true, laidLooks := .later }
def ShortestTurnedCardSaid : Prop := Claim7.holds Tryz.pinned (.plain (OpenSpec.ofChange shortestTurnedSpec)) shortestTurnedCard

/-- THE TIED CARD OF 'graphdblaw25.ShortestWalks'. -/
def shortestWalksCard : Claim7 := { stood := { row := shortestWalksRow, standIns := [], harness := (true, "e9ffaa5598370d0d5ec677c84c14a40571e9f7b76e74804d0b5217372db687c5"), looks := false }, kinds := [], alts := [], laidByText := true, laidKinds := [.data], laidTests := true, laidLooks := .later }
def ShortestWalksCardSaid : Prop := Claim7.holds Tryz.pinned (.plain (OpenSpec.ofChange shortestWalksSpec)) shortestWalksCard

/-- THE SECOND FORM's CARD OF 'graphdblaw25.ShortestLevels'. -/
def shortestLevelsUptoCard : Claim7 := { stood := { row := shortestLevelsUptoRow, standIns := [], harness := (true, "e9ffaa5598370d0d5ec677c84c14a40571e9f7b76e74804d0b5217372db687c5"), looks := false }, kinds := [], alts := [], laidByText := true, laidKinds := [.data], laidTests := true, laidLooks := .later }
def ShortestLevelsUptoCardSaid : Prop := Claim7.holds Tryz.pinned (.plain (OpenSpec.upto shortestLevelsSpec)) shortestLevelsUptoCard

/-- THE SECOND FORM's CARD OF 'graphdblaw25.ShortestRight'. -/
def shortestRightUptoCard : Claim7 := { stood := { row := shortestRightUptoRow, standIns := [], harness := (true, "e9ffaa5598370d0d5ec677c84c14a40571e9f7b76e74804d0b5217372db687c5"), looks := false }, kinds := [], alts := [], laidByText := true, laidKinds := [.data], laidTests := true, laidLooks := .later }
def ShortestRightUptoCardSaid : Prop := Claim7.holds Tryz.pinned (.plain (OpenSpec.upto shortestRightSpec)) shortestRightUptoCard

/-- THE SECOND FORM's CARD OF 'graphdblaw25.ShortestSteps'. -/
def shortestStepsUptoCard : Claim7 := { stood := { row := shortestStepsUptoRow, standIns := [], harness := (true, "e9ffaa5598370d0d5ec677c84c14a40571e9f7b76e74804d0b5217372db687c5"), looks := false }, kinds := [], alts := [], laidByText := true, laidKinds := [.data], laidTests := true, laidLooks := .later }
def ShortestStepsUptoCardSaid : Prop := Claim7.holds Tryz.pinned (.plain (OpenSpec.upto shortestStepsSpec)) shortestStepsUptoCard

/-- THE SECOND FORM's CARD OF 'graphdblaw25.ShortestTurned'. -/
def shortestTurnedUptoCard : Claim7 := { stood := { row := shortestTurnedUptoRow, standIns := [], harness := (true, "e9ffaa5598370d0d5ec677c84c14a40571e9f7b76e74804d0b5217372db687c5"), looks := false }, kinds := [], alts := [], laidByText := true, laidKinds := [.data], laidTests := true, laidLooks := .later }
def ShortestTurnedUptoCardSaid : Prop := Claim7.holds Tryz.pinned (.plain (OpenSpec.upto shortestTurnedSpec)) shortestTurnedUptoCard

/-- THE SECOND FORM's CARD OF 'graphdblaw25.ShortestWalks'. -/
def shortestWalksUptoCard : Claim7 := { stood := { row := shortestWalksUptoRow, standIns := [], harness := (true, "e9ffaa5598370d0d5ec677c84c14a40571e9f7b76e74804d0b5217372db687c5"), looks := false }, kinds := [], alts := [], laidByText := true, laidKinds := [.data], laidTests := true, laidLooks := .later }
def ShortestWalksUptoCardSaid : Prop := Claim7.holds Tryz.pinned (.plain (OpenSpec.upto shortestWalksSpec)) shortestWalksUptoCard
end Rows
end Go.Proofs.YthjeehjphekjmaaGreatDoor
