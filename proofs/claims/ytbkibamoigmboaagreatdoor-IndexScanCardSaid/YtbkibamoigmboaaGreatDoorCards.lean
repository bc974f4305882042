/-
  DERIVED. GIVEN WITH THE SEED: THE CARDS: each row of YtbkibamoigmboaaGreatDoorRows.lean that lists a variable, with what it lists TIED to the program's text (the seventh form; the later family's looks); each row that meets fmt, with fmt's text TOLD by the authors' own Lean function (tested against real Go, not proved from fmt's source: count such statements apart). THE CARD IS WHAT COUNTS. Prove the row's statement (the work); the ties are given (YtbkibamoigmboaaGreatDoorTie.lean); close each card by the builder's one call (the guide's Derived/Test/ToyasCard.lean, 'card_holds'). Laid BY PROGRAM, IN A SANDBOX (cutbox-door.mjs). By AI agents, Wed Nov 11 2026. No macro, syntax, notation, axiom, sorry.
-/
import Derived.Test.YtbkibamoigmboaaGreatDoorRows
import GoSem.ClaimSeven
namespace Go.Proofs.YtbkibamoigmboaaGreatDoor
namespace Rows

/-- THE TIED CARD OF 'graphdblaw15.IndexSets'. -/
def indexSetsCard : Claim7 := { stood := { row := indexSetsRow, standIns := [], harness := (true, "555508f6a65396de0e2f666cec7d197ffac9efb3934e8887a58d47bbeed40b66"), looks := true }, kinds := [], alts := [], laidByText := true, laidKinds := [.data], laidTests := true, laidLooks := .later }
def IndexSetsCardSaid : Prop := Claim7.holds Tryz.pinned (.plain (OpenSpec.ofChange indexSetsSpec)) indexSetsCard

/-- THE TIED CARD OF 'graphdblaw15.IndexBuilds'. -/
def indexBuildsCard : Claim7 := { stood := { row := indexBuildsRow, standIns := [], harness := (true, "555508f6a65396de0e2f666cec7d197ffac9efb3934e8887a58d47bbeed40b66"), looks := true }, kinds := [], alts := [], laidByText := true, laidKinds := [.data], laidTests := true, laidLooks := .later }
def IndexBuildsCardSaid : Prop := Claim7.holds Tryz.pinned (.plain (OpenSpec.ofChange indexBuildsSpec)) indexBuildsCard

/-- THE TIED CARD OF 'graphdblaw15.IndexFinds'. -/
def indexFindsCard : Claim7 := { stood := { row := indexFindsRow, standIns := [], harness := (true, "555508f6a65396de0e2f666cec7d197ffac9efb3934e8887a58d47bbeed40b66"), looks := true }, kinds := [], alts := [], laidByText := true, laidKinds := [.data], laidTests := true, laidLooks := .later }
def IndexFindsCardSaid : Prop := Claim7.holds Tryz.pinned (.plain (OpenSpec.ofChange indexFindsSpec)) indexFindsCard

/-- THE TIED CARD OF 'graphdblaw15.IndexUpdates'. -/
def indexUpdatesCard : Claim7 := { stood := { row := indexUpdatesRow, standIns := [], harness := (true, "555508f6a65396de0e2f666cec7d197ffac9efb3934e8887a58d47bbeed40b66"), looks := true }, kinds := [], alts := [], laidByText := true, laidKinds := [.data], laidTests := true, laidLooks := .later }
def IndexUpdatesCardSaid : Prop := Claim7.holds Tryz.pinned (.plain (OpenSpec.ofChange indexUpdatesSpec)) indexUpdatesCard

/-- THE TIED CARD OF 'graphdblaw15.IndexOrder'. -/
def indexOrderCard : Claim7 := { stood := { row := indexOrderRow, standIns := [], harness := (true, "555508f6a65396de0e2f666cec7d197ffac9efb3934e8887a58d47bbeed40b66"), looks := true }, kinds := [], alts := [], laidByText := true, laidKinds := [.data], laidTests := true, laidLooks := .later }
def IndexOrderCardSaid : Prop := Claim7.holds Tryz.pinned (.plain (OpenSpec.ofChange indexOrderSpec)) indexOrderCard

/-- THE TIED CARD OF 'graphdblaw15.IndexChain'. -/
def indexChainCard : Claim7 := { stood := { row := indexChainRow, standIns := [], harness := (true, "555508f6a65396de0e2f666cec7d197ffac9efb3934e8887a58d47bbeed40b66"), looks := true }, kinds := [], alts := [], laidByText := true, laidKinds := [.data], laidTests := true, laidLooks := .later }
def IndexChainCardSaid : Prop := Claim7.holds Tryz.pinned (.plain (OpenSpec.ofChange indexChainSpec)) indexChainCard

/-- THE TIED CARD OF 'graphdblaw15.IndexScan'. -/
def indexScanCard : Claim7 := { stood := { row := indexScanRow, standIns := [], harness := (true, "555508f6a65396de0e2f666cec7d197ffac9efb3934e8887a58d47bbeed40b66"), looks := true }, kinds := [], alts := [], laidByText := true, laidKinds := [.data], laidTests := true, laidLooks := .later }
def IndexScanCardSaid : Prop := Claim7.holds Tryz.pinned (.plain (OpenSpec.ofChange indexScanSpec)) indexScanCard

/-- THE SECOND FORM's CARD OF 'graphdblaw15.IndexSets'. -/
def indexSetsUptoCard : Claim7 := { stood := { row := indexSetsUptoRow, standIns := [], harness := (true, "555508f6a65396de0e2f666cec7d197ffac9efb3934e8887a58d47bbeed40b66"), looks := true }, kinds := [], alts := [], laidByText := true, laidKinds := [.data], laidTests := true, laidLooks := .later }
def IndexSetsUptoCardSaid : Prop := Claim7.holds Tryz.pinned (.plain (OpenSpec.upto indexSetsSpec)) indexSetsUptoCard

/-- THE SECOND FORM's CARD OF 'graphdblaw15.IndexBuilds'. -/
def indexBuildsUptoCard : Claim7 := { stood := { row := indexBuildsUptoRow, standIns := [], harness := (true, "555508f6a65396de0e2f666cec7d197ffac9efb3934e8887a58d47bbeed40b66"), looks := true }, kinds := [], alts := [], laidByText := true, laidKinds := [.data], laidTests := true, laidLooks := .later }
def IndexBuildsUptoCardSaid : Prop := Claim7.holds Tryz.pinned (.plain (OpenSpec.upto indexBuildsSpec)) indexBuildsUptoCard

/-- THE SECOND FORM's CARD OF 'graphdblaw15.IndexFinds'. -/
def indexFindsUptoCard : Claim7 := { stood := { row := indexFindsUptoRow, standIns := [], harness := (true, "555508f6a65396de0e2f666cec7d197ffac9efb3934e8887a58d47bbeed40b66"), looks := true }, kinds := [], alts := [], laidByText := true, laidKinds := [.data], laidTests := true, laidLooks := .later }
def IndexFindsUptoCardSaid : Prop := Claim7.holds Tryz.pinned (.plain (OpenSpec.upto indexFindsSpec)) indexFindsUptoCard

/-- THE SECOND FORM's CARD OF 'graphdblaw15.IndexUpdates'. -/
def indexUpdatesUptoCard : Claim7 := { stood := { row := indexUpdatesUptoRow, standIns := [], harness := (true, "555508f6a65396de0e2f666cec7d197ffac9efb3934e8887a58d47bbeed40b66"), looks := true }, kinds := [], alts := [], laidByText := true, laidKinds := [.data], laidTests := true, laidLooks := .later }
def IndexUpdatesUptoCardSaid : Prop := Claim7.holds Tryz.pinned (.plain (OpenSpec.upto indexUpdatesSpec)) indexUpdatesUptoCard

/-- THE SECOND FORM's CARD OF 'graphdblaw15.IndexOrder'. -/
def indexOrderUptoCard : Claim7 := { stood := { row := indexOrderUptoRow, standIns := [], harness := (true, "555508f6a65396de0e2f666cec7d197ffac9efb3934e8887a58d47bbeed40b66"), looks := true }, kinds := [], alts := [], laidByText := true, laidKinds := [.data], laidTests := true, laidLooks := .later }
def IndexOrderUptoCardSaid : Prop := Claim7.holds Tryz.pinned (.plain (OpenSpec.upto indexOrderSpec)) indexOrderUptoCard

/-- THE SECOND FORM's CARD OF 'graphdblaw15.IndexChain'. -/
def indexChainUptoCard : Claim7 := { stood := { row := indexChainUptoRow, standIns := [], harness := (true, "555508f6a65396de0e2f666cec7d197ffac9efb3934e8887a58d47bbeed40b66"), looks := true }, kinds := [], alts := [], laidByText := true, laidKinds := [.data], laidTests := true, laidLooks := .later }
def IndexChainUptoCardSaid : Prop := Claim7.holds Tryz.pinned (.plain (OpenSpec.upto indexChainSpec)) indexChainUptoCard

/-- THE SECOND FORM's CARD OF 'graphdblaw15.IndexScan'. -/
def indexScanUptoCard : Claim7 := { stood := { row := indexScanUptoRow, standIns := [], harness := (true, "555508f6a65396de0e2f666cec7d197ffac9efb3934e8887a58d47bbeed40b66"), looks := true }, kinds := [], alts := [], laidByText := true, laidKinds := [.data], laidTests := true, laidLooks := .later }
def IndexScanUptoCardSaid : Prop := Claim7.holds Tryz.pinned (.plain (OpenSpec.upto indexScanSpec)) indexScanUptoCard
end Rows
end Go.Proofs.YtbkibamoigmboaaGreatDoor
