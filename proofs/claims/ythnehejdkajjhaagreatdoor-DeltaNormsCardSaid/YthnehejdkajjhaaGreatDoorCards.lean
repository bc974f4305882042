/-
  DERIVED. GIVEN WITH THE SEED: THE CARDS: each row of YthnehejdkajjhaaGreatDoorRows.lean that lists a variable, with what it lists TIED to the program's text (the seventh form; the later family's looks); each row that meets fmt, with fmt's text TOLD by the authors' own Lean function (tested against real Go, not proved from fmt's source: count such statements apart). THE CARD IS WHAT COUNTS. Prove the row's statement (the work); the ties are given (YthnehejdkajjhaaGreatDoorTie.lean); close each card by the builder's one call (the guide's Derived/Test/ToyasCard.lean, 'card_holds'). Laid BY PROGRAM, IN A SANDBOX (cutbox-door.mjs). By AI agents, Wed Nov 11 2026. No macro, syntax, notation, axiom, sorry.
-/
import Derived.Test.YthnehejdkajjhaaGreatDoorRows
import GoSem.ClaimSeven
namespace Go.Proofs.YthnehejdkajjhaaGreatDoor
namespace Rows

/-- THE TIED CARD OF 'graphdblaw11.DeltaSettles'. -/
def deltaSettlesCard : Claim7 := { stood := { row := deltaSettlesRow, standIns := [], harness := (true, "bea7bfae7039cc92039605ec21a6d8677b8aec67a04b3bf29817023e35519e43"), looks := true }, kinds := [], alts := [], laidByText := true, laidKinds := [.data], laidTests := true, laidLooks := .later }
def DeltaSettlesCardSaid : Prop := Claim7.holds Tryz.pinned (.plain (OpenSpec.ofChange deltaSettlesSpec)) deltaSettlesCard

/-- THE TIED CARD OF 'graphdblaw11.DeltaNorms'. -/
def deltaNormsCard : Claim7 := { stood := { row := deltaNormsRow, standIns := [], harness := (true, "bea7bfae7039cc92039605ec21a6d8677b8aec67a04b3bf29817023e35519e43"), looks := true }, kinds := [], alts := [], laidByText := true, laidKinds := [.data], laidTests := true, laidLooks := .later }
def DeltaNormsCardSaid : Prop := Claim7.holds Tryz.pinned (.plain (OpenSpec.ofChange deltaNormsSpec)) deltaNormsCard

/-- THE TIED CARD OF 'graphdblaw11.DeltaJoins'. -/
def deltaJoinsCard : Claim7 := { stood := { row := deltaJoinsRow, standIns := [], harness := (true, "bea7bfae7039cc92039605ec21a6d8677b8aec67a04b3bf29817023e35519e43"), looks := true }, kinds := [], alts := [], laidByText := true, laidKinds := [.data], laidTests := true, laidLooks := .later }
def DeltaJoinsCardSaid : Prop := Claim7.holds Tryz.pinned (.plain (OpenSpec.ofChange deltaJoinsSpec)) deltaJoinsCard

/-- THE TIED CARD OF 'graphdblaw16.DegreeSteps'. -/
def degreeStepsCard : Claim7 := { stood := { row := degreeStepsRow, standIns := [], harness := (true, "bea7bfae7039cc92039605ec21a6d8677b8aec67a04b3bf29817023e35519e43"), looks := true }, kinds := [], alts := [], laidByText := true, laidKinds := [.data], laidTests := true, laidLooks := .later }
def DegreeStepsCardSaid : Prop := Claim7.holds Tryz.pinned (.plain (OpenSpec.ofChange degreeStepsSpec)) degreeStepsCard

/-- THE SECOND FORM's CARD OF 'graphdblaw11.DeltaSettles'. -/
def deltaSettlesUptoCard : Claim7 := { stood := { row := deltaSettlesUptoRow, standIns := [], harness := (true, "bea7bfae7039cc92039605ec21a6d8677b8aec67a04b3bf29817023e35519e43"), looks := true }, kinds := [], alts := [], laidByText := true, laidKinds := [.data], laidTests := true, laidLooks := .later }
def DeltaSettlesUptoCardSaid : Prop := Claim7.holds Tryz.pinned (.plain (OpenSpec.upto deltaSettlesSpec)) deltaSettlesUptoCard

/-- THE SECOND FORM's CARD OF 'graphdblaw11.DeltaNorms'. -/
def deltaNormsUptoCard : Claim7 := { stood := { row := deltaNormsUptoRow, standIns := [], harness := (true, "bea7bfae7039cc92039605ec21a6d8677b8aec67a04b3bf29817023e35519e43"), looks := true }, kinds := [], alts := [], laidByText := true, laidKinds := [.data], laidTests := true, laidLooks := .later }
def DeltaNormsUptoCardSaid : Prop := Claim7.holds Tryz.pinned (.plain (OpenSpec.upto deltaNormsSpec)) deltaNormsUptoCard

/-- THE SECOND FORM's CARD OF 'graphdblaw11.DeltaJoins'. -/
def deltaJoinsUptoCard : Claim7 := { stood := { row := deltaJoinsUptoRow, standIns := [], harness := (true, "bea7bfae7039cc92039605ec21a6d8677b8aec67a04b3bf29817023e35519e43"), looks := true }, kinds := [], alts := [], laidByText := true, laidKinds := [.data], laidTests := true, laidLooks := .later }
def DeltaJoinsUptoCardSaid : Prop := Claim7.holds Tryz.pinned (.plain (OpenSpec.upto deltaJoinsSpec)) deltaJoinsUptoCard

/-- THE SECOND FORM's CARD OF 'graphdblaw16.DegreeSteps'. -/
def degreeStepsUptoCard : Claim7 := { stood := { row := degreeStepsUptoRow, standIns := [], harness := (true, "bea7bfae7039cc92039605ec21a6d8677b8aec67a04b3bf29817023e35519e43"), looks := true }, kinds := [], alts := [], laidByText := true, laidKinds := [.data], laidTests := true, laidLooks := .later }
def DegreeStepsUptoCardSaid : Prop := Claim7.holds Tryz.pinned (.plain (OpenSpec.upto degreeStepsSpec)) degreeStepsUptoCard
end Rows
end Go.Proofs.YthnehejdkajjhaaGreatDoor
