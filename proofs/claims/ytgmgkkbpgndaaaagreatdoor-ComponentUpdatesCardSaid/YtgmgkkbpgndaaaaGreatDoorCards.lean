/-
  DERIVED. GIVEN WITH THE SEED: THE CARDS: each row of YtgmgkkbpgndaaaaGreatDoorRows.lean that lists a variable, with what it lists TIED to the program's text (the seventh form; the later family's looks); each row that meets fmt, with fmt's text TOLD by the authors' own Lean function (tested against real Go, not proved from fmt's source: count such statements apart). THE CARD IS WHAT COUNTS. Prove the row's statement (the work); the ties are given (YtgmgkkbpgndaaaaGreatDoorTie.lean); close each card by the builder's one call (the guide's Derived/Test/ToyasCard.lean, 'card_holds'). Laid BY PROGRAM, IN A SANDBOX (cutbox-door.mjs). By AI agents, Wed Nov 11 2026. No macro, syntax, notation, axiom, sorry.
-/
import Derived.Test.YtgmgkkbpgndaaaaGreatDoorRows
import GoSem.ClaimSeven
namespace Go.Proofs.YtgmgkkbpgndaaaaGreatDoor
namespace Rows

/-- THE TIED CARD OF 'graphdblaw50.ComponentJoins'. -/
def componentJoinsCard : Claim7 := { stood := { row := componentJoinsRow, standIns := [], harness := (true, "bbb920ac84a7de3e76f737f74e4c9dfe754dac5ddb2c0065be28004f3b961c13"), looks := true }, kinds := [], alts := [], laidByText := true, laidKinds := [.data], laidTests := true, laidLooks := .later }
def ComponentJoinsCardSaid : Prop := Claim7.holds Tryz.pinned (.plain (OpenSpec.ofChange componentJoinsSpec)) componentJoinsCard

/-- THE TIED CARD OF 'graphdblaw50.ComponentUpdates'. -/
def componentUpdatesCard : Claim7 := { stood := { row := componentUpdatesRow, standIns := [], harness := (true, "bbb920ac84a7de3e76f737f74e4c9dfe754dac5ddb2c0065be28004f3b961c13"), looks := true }, kinds := [], alts := [], laidByText := true, laidKinds := [.data], laidTests := true, laidLooks := .later }
def ComponentUpdatesCardSaid : Prop := Claim7.holds Tryz.pinned (.plain (OpenSpec.ofChange componentUpdatesSpec)) componentUpdatesCard

/-- THE TIED CARD OF 'graphdblaw50.ComponentTopo'. -/
def componentTopoCard : Claim7 := { stood := { row := componentTopoRow, standIns := [], harness := (true, "bbb920ac84a7de3e76f737f74e4c9dfe754dac5ddb2c0065be28004f3b961c13"), looks := true }, kinds := [], alts := [], laidByText := true, laidKinds := [.data], laidTests := true, laidLooks := .later }
def ComponentTopoCardSaid : Prop := Claim7.holds Tryz.pinned (.plain (OpenSpec.ofChange componentTopoSpec)) componentTopoCard

/-- THE TIED CARD OF 'graphdblaw50.ComponentGrows'. -/
def componentGrowsCard : Claim7 := { stood := { row := componentGrowsRow, standIns := [], harness := (true, "bbb920ac84a7de3e76f737f74e4c9dfe754dac5ddb2c0065be28004f3b961c13"), looks := true }, kinds := [], alts := [], laidByText := true, laidKinds := [.data], laidTests := true, laidLooks := .later }
def ComponentGrowsCardSaid : Prop := Claim7.holds Tryz.pinned (.plain (OpenSpec.ofChange componentGrowsSpec)) componentGrowsCard

/-- THE SECOND FORM's CARD OF 'graphdblaw50.ComponentJoins'. -/
def componentJoinsUptoCard : Claim7 := { stood := { row := componentJoinsUptoRow, standIns := [], harness := (true, "bbb920ac84a7de3e76f737f74e4c9dfe754dac5ddb2c0065be28004f3b961c13"), looks := true }, kinds := [], alts := [], laidByText := true, laidKinds := [.data], laidTests := true, laidLooks := .later }
def ComponentJoinsUptoCardSaid : Prop := Claim7.holds Tryz.pinned (.plain (OpenSpec.upto componentJoinsSpec)) componentJoinsUptoCard

/-- THE SECOND FORM's CARD OF 'graphdblaw50.ComponentUpdates'. -/
def componentUpdatesUptoCard : Claim7 := { stood := { row := componentUpdatesUptoRow, standIns := [], harness := (true, "bbb920ac84a7de3e76f737f74e4c9dfe754dac5ddb2c0065be28004f3b961c13"), looks := true }, kinds := [], alts := [], laidByText := true, laidKinds := [.data], laidTests := true, laidLooks := .later }
def ComponentUpdatesUptoCardSaid : Prop := Claim7.holds Tryz.pinned (.plain (OpenSpec.upto componentUpdatesSpec)) componentUpdatesUptoCard

/-- THE SECOND FORM's CARD OF 'graphdblaw50.ComponentTopo'. -/
def componentTopoUptoCard : Claim7 := { stood := { row := componentTopoUptoRow, standIns := [], harness := (true, "bbb920ac84a7de3e76f737f74e4c9dfe754dac5ddb2c0065be28004f3b961c13"), looks := true }, kinds := [], alts := [], laidByText := true, laidKinds := [.data], laidTests := true, laidLooks := .later }
def ComponentTopoUptoCardSaid : Prop := Claim7.holds Tryz.pinned (.plain (OpenSpec.upto componentTopoSpec)) componentTopoUptoCard

/-- THE SECOND FORM's CARD OF 'graphdblaw50.ComponentGrows'. -/
def componentGrowsUptoCard : Claim7 := { stood := { row := componentGrowsUptoRow, standIns := [], harness := (true, "bbb920ac84a7de3e76f737f74e4c9dfe754dac5ddb2c0065be28004f3b961c13"), looks := true }, kinds := [], alts := [], laidByText := true, laidKinds := [.data], laidTests := true, laidLooks := .later }
def ComponentGrowsUptoCardSaid : Prop := Claim7.holds Tryz.pinned (.plain (OpenSpec.upto componentGrowsSpec)) componentGrowsUptoCard
end Rows
end Go.Proofs.YtgmgkkbpgndaaaaGreatDoor
