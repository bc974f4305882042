/-
  DERIVED. GIVEN WITH THE SEED: THE CARDS: each row of YtdlkcancogpafaaGreatDoorRows.lean that lists a variable, with what it lists TIED to the program's text (the seventh form; the later family's looks); each row that meets fmt, with fmt's text TOLD by the authors' own Lean function (tested against real Go, not proved from fmt's source: count such statements apart). THE CARD IS WHAT COUNTS. Prove the row's statement (the work); the ties are given (YtdlkcancogpafaaGreatDoorTie.lean); close each card by the builder's one call (the guide's Derived/Test/ToyasCard.lean, 'card_holds'). Laid BY PROGRAM, IN A SANDBOX (cutbox-door.mjs). By AI agents, Wed Nov 11 2026. No macro, syntax, notation, axiom, sorry.
-/
import Derived.Test.YtdlkcancogpafaaGreatDoorRows
import GoSem.ClaimSeven
namespace Go.Proofs.YtdlkcancogpafaaGreatDoor
namespace Rows

/-- THE TIED CARD OF 'graphdblaw55.EvolveRules'. -/
def evolveRulesCard : Claim7 := { stood := { row := evolveRulesRow, standIns := [], harness := (true, "8c40dec010853f1753e9e18f35fb09caabc746f7b5b211bf6412123061550372"), looks := false }, kinds := [], alts := [], laidByText := true, laidKinds := [.data], laidTests := true, laidLooks := .later }
def EvolveRulesCardSaid : Prop := Claim7.holds Tryz.pinned (.plain (OpenSpec.ofChange evolveRulesSpec)) evolveRulesCard

/-- THE TIED CARD OF 'graphdblaw55.EvolveChecks'. -/
def evolveChecksCard : Claim7 := { stood := { row := evolveChecksRow, standIns := [], harness := (true, "8c40dec010853f1753e9e18f35fb09caabc746f7b5b211bf6412123061550372"), looks := false }, kinds := [], alts := [], laidByText := true, laidKinds := [.data], laidTests := true, laidLooks := .later }
def EvolveChecksCardSaid : Prop := Claim7.holds Tryz.pinned (.plain (OpenSpec.ofChange evolveChecksSpec)) evolveChecksCard

/-- THE SECOND FORM's CARD OF 'graphdblaw55.EvolveRules'. -/
def evolveRulesUptoCard : Claim7 := { stood := { row := evolveRulesUptoRow, standIns := [], harness := (true, "8c40dec010853f1753e9e18f35fb09caabc746f7b5b211bf6412123061550372"), looks := false }, kinds := [], alts := [], laidByText := true, laidKinds := [.data], laidTests := true, laidLooks := .later }
def EvolveRulesUptoCardSaid : Prop := Claim7.holds Tryz.pinned (.plain (OpenSpec.upto evolveRulesSpec)) evolveRulesUptoCard

/-- THE SECOND FORM's CARD OF 'graphdblaw55.EvolveChecks'. -/
def evolveChecksUptoCard : Claim7 := { stood := { row := evolveChecksUptoRow, standIns := [], harness := (true, "8c40dec010853f1753e9e18f35fb09caabc746f7b5b211bf6412123061550372"), looks := false }, kinds := [], alts := [], laidByText := true, laidKinds := [.data], laidTests := true, laidLooks := .later }
def EvolveChecksUptoCardSaid : Prop := Claim7.holds Tryz.pinned (.plain (OpenSpec.upto evolveChecksSpec)) evolveChecksUptoCard
end Rows
end Go.Proofs.YtdlkcancogpafaaGreatDoor
