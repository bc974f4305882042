/-
  DERIVED. GIVEN WITH THE SEED: THE CARDS: each row of YtiimoiecghmebaaDoorRows.lean that lists a variable, with what it lists TIED to the program's text (the seventh form; the later family's looks); each row that meets fmt, with fmt's text TOLD by the authors' own Lean function (tested against real Go, not proved from fmt's source: count such statements apart). THE CARD IS WHAT COUNTS. Prove the row's statement (the work); the ties are given (YtiimoiecghmebaaDoorTie.lean); close each card by the builder's one call (the guide's Derived/Test/ToyasCard.lean, 'card_holds'). Laid BY PROGRAM, IN A SANDBOX (cutbox-door.mjs). By AI agents, Wed Nov 11 2026. No macro, syntax, notation, axiom, sorry.
-/
import Derived.Test.YtiimoiecghmebaaDoorRows
import GoSem.ClaimSeven
namespace Go.Proofs.YtiimoiecghmebaaDoor
namespace Rows

/-- THE TIED CARD OF 'graphdblaw52.CentralityReverses'. -/
def centralityReversesCard : Claim7 := { stood := { row := centralityReversesRow, standIns := [], harness := (true, "baf7f9ceb34d34c0cdca4fd38ca879db3ebc22e5777a0bdd4c687a909eecd75f"), looks := false }, kinds := [], alts := [], laidByText := true, laidKinds := [.data], laidTests := true, laidLooks := .later }
def CentralityReversesCardSaid : Prop := Claim7.holds Tryd.pinned (.plain (OpenSpec.ofChange centralityReversesSpec)) centralityReversesCard

/-- THE SECOND FORM's CARD OF 'graphdblaw52.CentralityReverses'. -/
def centralityReversesUptoCard : Claim7 := { stood := { row := centralityReversesUptoRow, standIns := [], harness := (true, "baf7f9ceb34d34c0cdca4fd38ca879db3ebc22e5777a0bdd4c687a909eecd75f"), looks := false }, kinds := [], alts := [], laidByText := true, laidKinds := [.data], laidTests := true, laidLooks := .later }
def CentralityReversesUptoCardSaid : Prop := Claim7.holds Tryd.pinned (.plain (OpenSpec.upto centralityReversesSpec)) centralityReversesUptoCard
end Rows
end Go.Proofs.YtiimoiecghmebaaDoor
