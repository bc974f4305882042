/-
  DERIVED. GIVEN WITH THE SEED: THE CARDS: each row of YtnfdpfeeenmffaaGreatDoorRows.lean that lists a variable, with what it lists TIED to the program's text (the seventh form; the later family's looks); each row that meets fmt, with fmt's text TOLD by the authors' own Lean function (tested against real Go, not proved from fmt's source: count such statements apart). THE CARD IS WHAT COUNTS. Prove the row's statement (the work); the ties are given (YtnfdpfeeenmffaaGreatDoorTie.lean); close each card by the builder's one call (the guide's Derived/Test/ToyasCard.lean, 'card_holds'). Laid BY PROGRAM, IN A SANDBOX (cutbox-door.mjs). By AI agents, Wed Nov 11 2026. No macro, syntax, notation, axiom, sorry.
-/
import Derived.Test.YtnfdpfeeenmffaaGreatDoorRows
import GoSem.ClaimSeven
namespace Go.Proofs.YtnfdpfeeenmffaaGreatDoor
namespace Rows

/-- THE TIED CARD OF 'graphdblaw11.DeltaSpares'. -/
def deltaSparesCard : Claim7 := { stood := { row := deltaSparesRow, standIns := [], harness := (true, "2246107a4007a670bc7f93541f2034196554e2f4e2de31e87d2f37599c20ef94"), looks := false }, kinds := [], alts := [], laidByText := true, laidKinds := [.data], laidTests := true, laidLooks := .later }
def DeltaSparesCardSaid : Prop := Claim7.holds Tryz.pinned (.plain (OpenSpec.ofChange deltaSparesSpec)) deltaSparesCard

/-- THE SECOND FORM's CARD OF 'graphdblaw11.DeltaSpares'. -/
def deltaSparesUptoCard : Claim7 := { stood := { row := deltaSparesUptoRow, standIns := [], harness := (true, "2246107a4007a670bc7f93541f2034196554e2f4e2de31e87d2f37599c20ef94"), looks := false }, kinds := [], alts := [], laidByText := true, laidKinds := [.data], laidTests := true, laidLooks := .later }
def DeltaSparesUptoCardSaid : Prop := Claim7.holds Tryz.pinned (.plain (OpenSpec.upto deltaSparesSpec)) deltaSparesUptoCard
end Rows
end Go.Proofs.YtnfdpfeeenmffaaGreatDoor
