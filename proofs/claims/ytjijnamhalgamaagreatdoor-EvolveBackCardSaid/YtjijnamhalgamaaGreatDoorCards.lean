/-
  DERIVED. GIVEN WITH THE SEED: THE CARDS: each row of YtjijnamhalgamaaGreatDoorRows.lean that lists a variable, with what it lists TIED to the program's text (the seventh form; the later family's looks); each row that meets fmt, with fmt's text TOLD by the authors' own Lean function (tested against real Go, not proved from fmt's source: count such statements apart). THE CARD IS WHAT COUNTS. Prove the row's statement (the work); the ties are given (YtjijnamhalgamaaGreatDoorTie.lean); close each card by the builder's one call (the guide's Derived/Test/ToyasCard.lean, 'card_holds'). Laid BY PROGRAM, IN A SANDBOX (cutbox-door.mjs). By AI agents, Wed Nov 11 2026. No macro, syntax, notation, axiom, sorry.
-/
import Derived.Test.YtjijnamhalgamaaGreatDoorRows
import GoSem.ClaimSeven
namespace Go.Proofs.YtjijnamhalgamaaGreatDoor
namespace Rows

/-- THE TIED CARD OF 'graphdblaw55.EvolveApplies'. -/
def evolveAppliesCard : Claim7 := { stood := { row := evolveAppliesRow, standIns := [], harness := (true, "ed2980beb3bcfcbb4f111031628910c4d1dfcabb2f65547721763095efe41835"), looks := true }, kinds := [], alts := [], laidByText := true, laidKinds := [.data], laidTests := true, laidLooks := .later }
def EvolveAppliesCardSaid : Prop := Claim7.holds Tryz.pinned (.plain (OpenSpec.ofChange evolveAppliesSpec)) evolveAppliesCard

/-- THE TIED CARD OF 'graphdblaw55.EvolveSound'. -/
def evolveSoundCard : Claim7 := { stood := { row := evolveSoundRow, standIns := [], harness := (true, "ed2980beb3bcfcbb4f111031628910c4d1dfcabb2f65547721763095efe41835"), looks := true }, kinds := [], alts := [], laidByText := true, laidKinds := [.data], laidTests := true, laidLooks := .later }
def EvolveSoundCardSaid : Prop := Claim7.holds Tryz.pinned (.plain (OpenSpec.ofChange evolveSoundSpec)) evolveSoundCard

/-- THE TIED CARD OF 'graphdblaw55.EvolveParts'. -/
def evolvePartsCard : Claim7 := { stood := { row := evolvePartsRow, standIns := [], harness := (true, "ed2980beb3bcfcbb4f111031628910c4d1dfcabb2f65547721763095efe41835"), looks := true }, kinds := [], alts := [], laidByText := true, laidKinds := [.data], laidTests := true, laidLooks := .later }
def EvolvePartsCardSaid : Prop := Claim7.holds Tryz.pinned (.plain (OpenSpec.ofChange evolvePartsSpec)) evolvePartsCard

/-- THE TIED CARD OF 'graphdblaw55.EvolveBack'. -/
def evolveBackCard : Claim7 := { stood := { row := evolveBackRow, standIns := [], harness := (true, "ed2980beb3bcfcbb4f111031628910c4d1dfcabb2f65547721763095efe41835"), looks := true }, kinds := [], alts := [], laidByText := true, laidKinds := [.data], laidTests := true, laidLooks := .later }
def EvolveBackCardSaid : Prop := Claim7.holds Tryz.pinned (.plain (OpenSpec.ofChange evolveBackSpec)) evolveBackCard

/-- THE SECOND FORM's CARD OF 'graphdblaw55.EvolveApplies'. -/
def evolveAppliesUptoCard : Claim7 := { stood := { row := evolveAppliesUptoRow, standIns := [], harness := (true, "ed2980beb3bcfcbb4f111031628910c4d1dfcabb2f65547721763095efe41835"), looks := true }, kinds := [], alts := [], laidByText := true, laidKinds := [.data], laidTests := true, laidLooks := .later }
def EvolveAppliesUptoCardSaid : Prop := Claim7.holds Tryz.pinned (.plain (OpenSpec.upto evolveAppliesSpec)) evolveAppliesUptoCard

/-- THE SECOND FORM's CARD OF 'graphdblaw55.EvolveSound'. -/
def evolveSoundUptoCard : Claim7 := { stood := { row := evolveSoundUptoRow, standIns := [], harness := (true, "ed2980beb3bcfcbb4f111031628910c4d1dfcabb2f65547721763095efe41835"), looks := true }, kinds := [], alts := [], laidByText := true, laidKinds := [.data], laidTests := true, laidLooks := .later }
def EvolveSoundUptoCardSaid : Prop := Claim7.holds Tryz.pinned (.plain (OpenSpec.upto evolveSoundSpec)) evolveSoundUptoCard

/-- THE SECOND FORM's CARD OF 'graphdblaw55.EvolveParts'. -/
def evolvePartsUptoCard : Claim7 := { stood := { row := evolvePartsUptoRow, standIns := [], harness := (true, "ed2980beb3bcfcbb4f111031628910c4d1dfcabb2f65547721763095efe41835"), looks := true }, kinds := [], alts := [], laidByText := true, laidKinds := [.data], laidTests := true, laidLooks := .later }
def EvolvePartsUptoCardSaid : Prop := Claim7.holds Tryz.pinned (.plain (OpenSpec.upto evolvePartsSpec)) evolvePartsUptoCard

/-- THE SECOND FORM's CARD OF 'graphdblaw55.EvolveBack'. -/
def evolveBackUptoCard : Claim7 := { stood := { row := evolveBackUptoRow, standIns := [], harness := (true, "ed2980beb3bcfcbb4f111031628910c4d1dfcabb2f65547721763095efe41835"), looks := true }, kinds := [], alts := [], laidByText := true, laidKinds := [.data], laidTests := true, laidLooks := .later }
def EvolveBackUptoCardSaid : Prop := Claim7.holds Tryz.pinned (.plain (OpenSpec.upto evolveBackSpec)) evolveBackUptoCard
end Rows
end Go.Proofs.YtjijnamhalgamaaGreatDoor
