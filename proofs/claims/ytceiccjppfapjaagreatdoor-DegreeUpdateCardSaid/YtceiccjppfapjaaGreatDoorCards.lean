/-
  DERIVED. GIVEN WITH THE SEED: THE CARDS: each row of YtceiccjppfapjaaGreatDoorRows.lean that lists a variable, with what it lists TIED to the program's text (the seventh form; the later family's looks); each row that meets fmt, with fmt's text TOLD by the authors' own Lean function (tested against real Go, not proved from fmt's source: count such statements apart). THE CARD IS WHAT COUNTS. Prove the row's statement (the work); the ties are given (YtceiccjppfapjaaGreatDoorTie.lean); close each card by the builder's one call (the guide's Derived/Test/ToyasCard.lean, 'card_holds'). Laid BY PROGRAM, IN A SANDBOX (cutbox-door.mjs). By AI agents, Wed Nov 11 2026. No macro, syntax, notation, axiom, sorry.
-/
import Derived.Test.YtceiccjppfapjaaGreatDoorRows
import GoSem.ClaimSeven
namespace Go.Proofs.YtceiccjppfapjaaGreatDoor
namespace Rows

/-- THE TIED CARD OF 'graphdblaw11.DeltaSettles'. -/
def deltaSettlesCard : Claim7 := { stood := { row := deltaSettlesRow, standIns := [], harness := (true, "2c646e6369fe31c3e6a24e1c37c8bbe1111e9044fddc7f740906176930b12cf2"), looks := true }, kinds := [], alts := [], laidByText := true, laidKinds := [.data], laidTests := true, laidLooks := .later }
def DeltaSettlesCardSaid : Prop := Claim7.holds Tryz.pinned (.plain (OpenSpec.ofChange deltaSettlesSpec)) deltaSettlesCard

/-- THE TIED CARD OF 'graphdblaw11.DeltaNorms'. -/
def deltaNormsCard : Claim7 := { stood := { row := deltaNormsRow, standIns := [], harness := (true, "2c646e6369fe31c3e6a24e1c37c8bbe1111e9044fddc7f740906176930b12cf2"), looks := true }, kinds := [], alts := [], laidByText := true, laidKinds := [.data], laidTests := true, laidLooks := .later }
def DeltaNormsCardSaid : Prop := Claim7.holds Tryz.pinned (.plain (OpenSpec.ofChange deltaNormsSpec)) deltaNormsCard

/-- THE TIED CARD OF 'graphdblaw11.DeltaJoins'. -/
def deltaJoinsCard : Claim7 := { stood := { row := deltaJoinsRow, standIns := [], harness := (true, "2c646e6369fe31c3e6a24e1c37c8bbe1111e9044fddc7f740906176930b12cf2"), looks := true }, kinds := [], alts := [], laidByText := true, laidKinds := [.data], laidTests := true, laidLooks := .later }
def DeltaJoinsCardSaid : Prop := Claim7.holds Tryz.pinned (.plain (OpenSpec.ofChange deltaJoinsSpec)) deltaJoinsCard

/-- THE TIED CARD OF 'graphdblaw16.DegreeUpdate'. -/
def degreeUpdateCard : Claim7 := { stood := { row := degreeUpdateRow, standIns := [], harness := (true, "2c646e6369fe31c3e6a24e1c37c8bbe1111e9044fddc7f740906176930b12cf2"), looks := true }, kinds := [], alts := [], laidByText := true, laidKinds := [.data], laidTests := true, laidLooks := .later }
def DegreeUpdateCardSaid : Prop := Claim7.holds Tryz.pinned (.plain (OpenSpec.ofChange degreeUpdateSpec)) degreeUpdateCard

/-- THE TIED CARD OF 'graphdblaw16.DegreeSteps'. -/
def degreeStepsCard : Claim7 := { stood := { row := degreeStepsRow, standIns := [], harness := (true, "2c646e6369fe31c3e6a24e1c37c8bbe1111e9044fddc7f740906176930b12cf2"), looks := true }, kinds := [], alts := [], laidByText := true, laidKinds := [.data], laidTests := true, laidLooks := .later }
def DegreeStepsCardSaid : Prop := Claim7.holds Tryz.pinned (.plain (OpenSpec.ofChange degreeStepsSpec)) degreeStepsCard

/-- THE TIED CARD OF 'graphdblaw15.IndexUpdates'. -/
def indexUpdatesCard : Claim7 := { stood := { row := indexUpdatesRow, standIns := [], harness := (true, "2c646e6369fe31c3e6a24e1c37c8bbe1111e9044fddc7f740906176930b12cf2"), looks := true }, kinds := [], alts := [], laidByText := true, laidKinds := [.data], laidTests := true, laidLooks := .later }
def IndexUpdatesCardSaid : Prop := Claim7.holds Tryz.pinned (.plain (OpenSpec.ofChange indexUpdatesSpec)) indexUpdatesCard

/-- THE SECOND FORM's CARD OF 'graphdblaw11.DeltaSettles'. -/
def deltaSettlesUptoCard : Claim7 := { stood := { row := deltaSettlesUptoRow, standIns := [], harness := (true, "2c646e6369fe31c3e6a24e1c37c8bbe1111e9044fddc7f740906176930b12cf2"), looks := true }, kinds := [], alts := [], laidByText := true, laidKinds := [.data], laidTests := true, laidLooks := .later }
def DeltaSettlesUptoCardSaid : Prop := Claim7.holds Tryz.pinned (.plain (OpenSpec.upto deltaSettlesSpec)) deltaSettlesUptoCard

/-- THE SECOND FORM's CARD OF 'graphdblaw11.DeltaNorms'. -/
def deltaNormsUptoCard : Claim7 := { stood := { row := deltaNormsUptoRow, standIns := [], harness := (true, "2c646e6369fe31c3e6a24e1c37c8bbe1111e9044fddc7f740906176930b12cf2"), looks := true }, kinds := [], alts := [], laidByText := true, laidKinds := [.data], laidTests := true, laidLooks := .later }
def DeltaNormsUptoCardSaid : Prop := Claim7.holds Tryz.pinned (.plain (OpenSpec.upto deltaNormsSpec)) deltaNormsUptoCard

/-- THE SECOND FORM's CARD OF 'graphdblaw11.DeltaJoins'. -/
def deltaJoinsUptoCard : Claim7 := { stood := { row := deltaJoinsUptoRow, standIns := [], harness := (true, "2c646e6369fe31c3e6a24e1c37c8bbe1111e9044fddc7f740906176930b12cf2"), looks := true }, kinds := [], alts := [], laidByText := true, laidKinds := [.data], laidTests := true, laidLooks := .later }
def DeltaJoinsUptoCardSaid : Prop := Claim7.holds Tryz.pinned (.plain (OpenSpec.upto deltaJoinsSpec)) deltaJoinsUptoCard

/-- THE SECOND FORM's CARD OF 'graphdblaw16.DegreeUpdate'. -/
def degreeUpdateUptoCard : Claim7 := { stood := { row := degreeUpdateUptoRow, standIns := [], harness := (true, "2c646e6369fe31c3e6a24e1c37c8bbe1111e9044fddc7f740906176930b12cf2"), looks := true }, kinds := [], alts := [], laidByText := true, laidKinds := [.data], laidTests := true, laidLooks := .later }
def DegreeUpdateUptoCardSaid : Prop := Claim7.holds Tryz.pinned (.plain (OpenSpec.upto degreeUpdateSpec)) degreeUpdateUptoCard

/-- THE SECOND FORM's CARD OF 'graphdblaw16.DegreeSteps'. -/
def degreeStepsUptoCard : Claim7 := { stood := { row := degreeStepsUptoRow, standIns := [], harness := (true, "2c646e6369fe31c3e6a24e1c37c8bbe1111e9044fddc7f740906176930b12cf2"), looks := true }, kinds := [], alts := [], laidByText := true, laidKinds := [.data], laidTests := true, laidLooks := .later }
def DegreeStepsUptoCardSaid : Prop := Claim7.holds Tryz.pinned (.plain (OpenSpec.upto degreeStepsSpec)) degreeStepsUptoCard

/-- THE SECOND FORM's CARD OF 'graphdblaw15.IndexUpdates'. -/
def indexUpdatesUptoCard : Claim7 := { stood := { row := indexUpdatesUptoRow, standIns := [], harness := (true, "2c646e6369fe31c3e6a24e1c37c8bbe1111e9044fddc7f740906176930b12cf2"), looks := true }, kinds := [], alts := [], laidByText := true, laidKinds := [.data], laidTests := true, laidLooks := .later }
def IndexUpdatesUptoCardSaid : Prop := Claim7.holds Tryz.pinned (.plain (OpenSpec.upto indexUpdatesSpec)) indexUpdatesUptoCard
end Rows
end Go.Proofs.YtceiccjppfapjaaGreatDoor
