/-
  DERIVED. GIVEN WITH THE SEED: THE CARDS: each row of YtchcadfjbkkgmaaGreatDoorRows.lean that lists a variable, with what it lists TIED to the program's text (the seventh form; the later family's looks); each row that meets fmt, with fmt's text TOLD by the authors' own Lean function (tested against real Go, not proved from fmt's source: count such statements apart). THE CARD IS WHAT COUNTS. Prove the row's statement (the work); the ties are given (YtchcadfjbkkgmaaGreatDoorTie.lean); close each card by the builder's one call (the guide's Derived/Test/ToyasCard.lean, 'card_holds'). Laid BY PROGRAM, IN A SANDBOX (cutbox-door.mjs). By AI agents, Wed Nov 11 2026. No macro, syntax, notation, axiom, sorry.
-/
import Derived.Test.YtchcadfjbkkgmaaGreatDoorRows
import GoSem.ClaimSeven
namespace Go.Proofs.YtchcadfjbkkgmaaGreatDoor
namespace Rows

/-- THE TIED CARD OF 'graphdblaw52.CentralityTells'. -/
def centralityTellsCard : Claim7 := { stood := { row := centralityTellsRow, standIns := [], harness := (true, "b3741a251c474fafa756504988c867517369de149ab062a276ef9ab13a422691"), looks := true }, kinds := [], alts := [], laidByText := true, laidKinds := [.data], laidTests := true, laidLooks := .later }
def CentralityTellsCardSaid : Prop := Claim7.holds Tryz.pinned (.plain (OpenSpec.ofChange centralityTellsSpec)) centralityTellsCard

/-- THE TIED CARD OF 'graphdblaw52.CentralitySums'. -/
def centralitySumsCard : Claim7 := { stood := { row := centralitySumsRow, standIns := [], harness := (true, "b3741a251c474fafa756504988c867517369de149ab062a276ef9ab13a422691"), looks := true }, kinds := [], alts := [], laidByText := true, laidKinds := [.data], laidTests := true, laidLooks := .later }
def CentralitySumsCardSaid : Prop := Claim7.holds Tryz.pinned (.plain (OpenSpec.ofChange centralitySumsSpec)) centralitySumsCard

/-- THE TIED CARD OF 'graphdblaw52.CentralityTriangles'. -/
def centralityTrianglesCard : Claim7 := { stood := { row := centralityTrianglesRow, standIns := [], harness := (true, "b3741a251c474fafa756504988c867517369de149ab062a276ef9ab13a422691"), looks := true }, kinds := [], alts := [], laidByText := true, laidKinds := [.data], laidTests := true, laidLooks := .later }
def CentralityTrianglesCardSaid : Prop := Claim7.holds Tryz.pinned (.plain (OpenSpec.ofChange centralityTrianglesSpec)) centralityTrianglesCard

/-- THE TIED CARD OF 'graphdblaw52.CentralityKeeps'. -/
def centralityKeepsCard : Claim7 := { stood := { row := centralityKeepsRow, standIns := [], harness := (true, "b3741a251c474fafa756504988c867517369de149ab062a276ef9ab13a422691"), looks := true }, kinds := [], alts := [], laidByText := true, laidKinds := [.data], laidTests := true, laidLooks := .later }
def CentralityKeepsCardSaid : Prop := Claim7.holds Tryz.pinned (.plain (OpenSpec.ofChange centralityKeepsSpec)) centralityKeepsCard

/-- THE SECOND FORM's CARD OF 'graphdblaw52.CentralityTells'. -/
def centralityTellsUptoCard : Claim7 := { stood := { row := centralityTellsUptoRow, standIns := [], harness := (true, "b3741a251c474fafa756504988c867517369de149ab062a276ef9ab13a422691"), looks := true }, kinds := [], alts := [], laidByText := true, laidKinds := [.data], laidTests := true, laidLooks := .later }
def CentralityTellsUptoCardSaid : Prop := Claim7.holds Tryz.pinned (.plain (OpenSpec.upto centralityTellsSpec)) centralityTellsUptoCard

/-- THE SECOND FORM's CARD OF 'graphdblaw52.CentralitySums'. -/
def centralitySumsUptoCard : Claim7 := { stood := { row := centralitySumsUptoRow, standIns := [], harness := (true, "b3741a251c474fafa756504988c867517369de149ab062a276ef9ab13a422691"), looks := true }, kinds := [], alts := [], laidByText := true, laidKinds := [.data], laidTests := true, laidLooks := .later }
def CentralitySumsUptoCardSaid : Prop := Claim7.holds Tryz.pinned (.plain (OpenSpec.upto centralitySumsSpec)) centralitySumsUptoCard

/-- THE SECOND FORM's CARD OF 'graphdblaw52.CentralityTriangles'. -/
def centralityTrianglesUptoCard : Claim7 := { stood := { row := centralityTrianglesUptoRow, standIns := [], harness := (true, "b3741a251c474fafa756504988c867517369de149ab062a276ef9ab13a422691"), looks := true }, kinds := [], alts := [], laidByText := true, laidKinds := [.data], laidTests := true, laidLooks := .later }
def CentralityTrianglesUptoCardSaid : Prop := Claim7.holds Tryz.pinned (.plain (OpenSpec.upto centralityTrianglesSpec)) centralityTrianglesUptoCard

/-- THE SECOND FORM's CARD OF 'graphdblaw52.CentralityKeeps'. -/
def centralityKeepsUptoCard : Claim7 := { stood := { row := centralityKeepsUptoRow, standIns := [], harness := (true, "b3741a251c474fafa756504988c867517369de149ab062a276ef9ab13a422691"), looks := true }, kinds := [], alts := [], laidByText := true, laidKinds := [.data], laidTests := true, laidLooks := .later }
def CentralityKeepsUptoCardSaid : Prop := Claim7.holds Tryz.pinned (.plain (OpenSpec.upto centralityKeepsSpec)) centralityKeepsUptoCard
end Rows
end Go.Proofs.YtchcadfjbkkgmaaGreatDoor
