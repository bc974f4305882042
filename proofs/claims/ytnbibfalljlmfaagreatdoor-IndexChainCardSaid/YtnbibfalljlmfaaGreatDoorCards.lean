/-
  DERIVED. GIVEN WITH THE SEED: THE CARDS: each row of YtnbibfalljlmfaaGreatDoorRows.lean that lists a variable, with what it lists TIED to the program's text (the seventh form; the later family's looks); each row that meets fmt, with fmt's text TOLD by the authors' own Lean function (tested against real Go, not proved from fmt's source: count such statements apart). THE CARD IS WHAT COUNTS. Prove the row's statement (the work); the ties are given (YtnbibfalljlmfaaGreatDoorTie.lean); close each card by the builder's one call (the guide's Derived/Test/ToyasCard.lean, 'card_holds'). Laid BY PROGRAM, IN A SANDBOX (cutbox-door.mjs). By AI agents, Wed Nov 11 2026. No macro, syntax, notation, axiom, sorry.
-/
import Derived.Test.YtnbibfalljlmfaaGreatDoorRows
import GoSem.ClaimSeven
namespace Go.Proofs.YtnbibfalljlmfaaGreatDoor
namespace Rows

/-- THE TIED CARD OF 'graphdblaw11.DeltaLeads'. -/
def deltaLeadsCard : Claim7 := { stood := { row := deltaLeadsRow, standIns := [], harness := (true, "88e62577704524afcac682c925280cecbe42bf7241044ff06c0c1fab3859b864"), looks := true }, kinds := [], alts := [], laidByText := true, laidKinds := [.data], laidTests := true, laidLooks := .later }
def DeltaLeadsCardSaid : Prop := Claim7.holds Tryz.pinned (.plain (OpenSpec.ofChange deltaLeadsSpec)) deltaLeadsCard

/-- THE TIED CARD OF 'graphdblaw11.DeltaSettles'. -/
def deltaSettlesCard : Claim7 := { stood := { row := deltaSettlesRow, standIns := [], harness := (true, "88e62577704524afcac682c925280cecbe42bf7241044ff06c0c1fab3859b864"), looks := true }, kinds := [], alts := [], laidByText := true, laidKinds := [.data], laidTests := true, laidLooks := .later }
def DeltaSettlesCardSaid : Prop := Claim7.holds Tryz.pinned (.plain (OpenSpec.ofChange deltaSettlesSpec)) deltaSettlesCard

/-- THE TIED CARD OF 'graphdblaw11.DeltaNorms'. -/
def deltaNormsCard : Claim7 := { stood := { row := deltaNormsRow, standIns := [], harness := (true, "88e62577704524afcac682c925280cecbe42bf7241044ff06c0c1fab3859b864"), looks := true }, kinds := [], alts := [], laidByText := true, laidKinds := [.data], laidTests := true, laidLooks := .later }
def DeltaNormsCardSaid : Prop := Claim7.holds Tryz.pinned (.plain (OpenSpec.ofChange deltaNormsSpec)) deltaNormsCard

/-- THE TIED CARD OF 'graphdblaw11.DeltaJoins'. -/
def deltaJoinsCard : Claim7 := { stood := { row := deltaJoinsRow, standIns := [], harness := (true, "88e62577704524afcac682c925280cecbe42bf7241044ff06c0c1fab3859b864"), looks := true }, kinds := [], alts := [], laidByText := true, laidKinds := [.data], laidTests := true, laidLooks := .later }
def DeltaJoinsCardSaid : Prop := Claim7.holds Tryz.pinned (.plain (OpenSpec.ofChange deltaJoinsSpec)) deltaJoinsCard

/-- THE TIED CARD OF 'graphdblaw15.IndexUpdates'. -/
def indexUpdatesCard : Claim7 := { stood := { row := indexUpdatesRow, standIns := [], harness := (true, "88e62577704524afcac682c925280cecbe42bf7241044ff06c0c1fab3859b864"), looks := true }, kinds := [], alts := [], laidByText := true, laidKinds := [.data], laidTests := true, laidLooks := .later }
def IndexUpdatesCardSaid : Prop := Claim7.holds Tryz.pinned (.plain (OpenSpec.ofChange indexUpdatesSpec)) indexUpdatesCard

/-- THE TIED CARD OF 'graphdblaw15.IndexChain'. -/
def indexChainCard : Claim7 := { stood := { row := indexChainRow, standIns := [], harness := (true, "88e62577704524afcac682c925280cecbe42bf7241044ff06c0c1fab3859b864"), looks := true }, kinds := [], alts := [], laidByText := true, laidKinds := [.data], laidTests := true, laidLooks := .later }
def IndexChainCardSaid : Prop := Claim7.holds Tryz.pinned (.plain (OpenSpec.ofChange indexChainSpec)) indexChainCard

/-- THE SECOND FORM's CARD OF 'graphdblaw11.DeltaLeads'. -/
def deltaLeadsUptoCard : Claim7 := { stood := { row := deltaLeadsUptoRow, standIns := [], harness := (true, "88e62577704524afcac682c925280cecbe42bf7241044ff06c0c1fab3859b864"), looks := true }, kinds := [], alts := [], laidByText := true, laidKinds := [.data], laidTests := true, laidLooks := .later }
def DeltaLeadsUptoCardSaid : Prop := Claim7.holds Tryz.pinned (.plain (OpenSpec.upto deltaLeadsSpec)) deltaLeadsUptoCard

/-- THE SECOND FORM's CARD OF 'graphdblaw11.DeltaSettles'. -/
def deltaSettlesUptoCard : Claim7 := { stood := { row := deltaSettlesUptoRow, standIns := [], harness := (true, "88e62577704524afcac682c925280cecbe42bf7241044ff06c0c1fab3859b864"), looks := true }, kinds := [], alts := [], laidByText := true, laidKinds := [.data], laidTests := true, laidLooks := .later }
def DeltaSettlesUptoCardSaid : Prop := Claim7.holds Tryz.pinned (.plain (OpenSpec.upto deltaSettlesSpec)) deltaSettlesUptoCard

/-- THE SECOND FORM's CARD OF 'graphdblaw11.DeltaNorms'. -/
def deltaNormsUptoCard : Claim7 := { stood := { row := deltaNormsUptoRow, standIns := [], harness := (true, "88e62577704524afcac682c925280cecbe42bf7241044ff06c0c1fab3859b864"), looks := true }, kinds := [], alts := [], laidByText := true, laidKinds := [.data], laidTests := true, laidLooks := .later }
def DeltaNormsUptoCardSaid : Prop := Claim7.holds Tryz.pinned (.plain (OpenSpec.upto deltaNormsSpec)) deltaNormsUptoCard

/-- THE SECOND FORM's CARD OF 'graphdblaw11.DeltaJoins'. -/
def deltaJoinsUptoCard : Claim7 := { stood := { row := deltaJoinsUptoRow, standIns := [], harness := (true, "88e62577704524afcac682c925280cecbe42bf7241044ff06c0c1fab3859b864"), looks := true }, kinds := [], alts := [], laidByText := true, laidKinds := [.data], laidTests := true, laidLooks := .later }
def DeltaJoinsUptoCardSaid : Prop := Claim7.holds Tryz.pinned (.plain (OpenSpec.upto deltaJoinsSpec)) deltaJoinsUptoCard

/-- THE SECOND FORM's CARD OF 'graphdblaw15.IndexUpdates'. -/
def indexUpdatesUptoCard : Claim7 := { stood := { row := indexUpdatesUptoRow, standIns := [], harness := (true, "88e62577704524afcac682c925280cecbe42bf7241044ff06c0c1fab3859b864"), looks := true }, kinds := [], alts := [], laidByText := true, laidKinds := [.data], laidTests := true, laidLooks := .later }
def IndexUpdatesUptoCardSaid : Prop := Claim7.holds Tryz.pinned (.plain (OpenSpec.upto indexUpdatesSpec)) indexUpdatesUptoCard

/-- THE SECOND FORM's CARD OF 'graphdblaw15.IndexChain'. -/
def indexChainUptoCard : Claim7 := { stood := { row := indexChainUptoRow, standIns := [], harness := (true, "88e62577704524afcac682c925280cecbe42bf7241044ff06c0c1fab3859b864"), looks := true }, kinds := [], alts := [], laidByText := true, laidKinds := [.data], laidTests := true, laidLooks := .later }
def IndexChainUptoCardSaid : Prop := Claim7.holds Tryz.pinned (.plain (OpenSpec.upto indexChainSpec)) indexChainUptoCard
end Rows
end Go.Proofs.YtnbibfalljlmfaaGreatDoor
