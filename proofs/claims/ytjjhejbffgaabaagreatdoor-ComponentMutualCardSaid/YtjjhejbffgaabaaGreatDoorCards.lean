/-
  DERIVED. GIVEN WITH THE SEED: THE CARDS: each row of YtjjhejbffgaabaaGreatDoorRows.lean that lists a variable, with what it lists TIED to the program's text (the seventh form; the later family's looks); each row that meets fmt, with fmt's text TOLD by the authors' own Lean function (tested against real Go, not proved from fmt's source: count such statements apart). THE CARD IS WHAT COUNTS. Prove the row's statement (the work); the ties are given (YtjjhejbffgaabaaGreatDoorTie.lean); close each card by the builder's one call (the guide's Derived/Test/ToyasCard.lean, 'card_holds'). Laid BY PROGRAM, IN A SANDBOX (cutbox-door.mjs). By AI agents, Wed Nov 11 2026. No macro, syntax, notation, axiom, sorry.
-/
import Derived.Test.YtjjhejbffgaabaaGreatDoorRows
import GoSem.ClaimSeven
namespace Go.Proofs.YtjjhejbffgaabaaGreatDoor
namespace Rows

/-- THE TIED CARD OF 'graphdblaw50.ComponentFinds'. -/
def componentFindsCard : Claim7 := { stood := { row := componentFindsRow, standIns := [], harness := (true, "52e55076284f845792b0a2cdc910df56eb918ebcb0674f45da832b2755f1e0b7"), looks := true }, kinds := [], alts := [], laidByText := true, laidKinds := [.data], laidTests := true, laidLooks := .later }
def ComponentFindsCardSaid : Prop := Claim7.holds Tryz.pinned (.plain (OpenSpec.ofChange componentFindsSpec)) componentFindsCard

/-- THE TIED CARD OF 'graphdblaw50.ComponentFine'. -/
def componentFineCard : Claim7 := { stood := { row := componentFineRow, standIns := [], harness := (true, "52e55076284f845792b0a2cdc910df56eb918ebcb0674f45da832b2755f1e0b7"), looks := true }, kinds := [], alts := [], laidByText := true, laidKinds := [.data], laidTests := true, laidLooks := .later }
def ComponentFineCardSaid : Prop := Claim7.holds Tryz.pinned (.plain (OpenSpec.ofChange componentFineSpec)) componentFineCard

/-- THE TIED CARD OF 'graphdblaw50.ComponentSorts'. -/
def componentSortsCard : Claim7 := { stood := { row := componentSortsRow, standIns := [], harness := (true, "52e55076284f845792b0a2cdc910df56eb918ebcb0674f45da832b2755f1e0b7"), looks := true }, kinds := [], alts := [], laidByText := true, laidKinds := [.data], laidTests := true, laidLooks := .later }
def ComponentSortsCardSaid : Prop := Claim7.holds Tryz.pinned (.plain (OpenSpec.ofChange componentSortsSpec)) componentSortsCard

/-- THE TIED CARD OF 'graphdblaw50.ComponentMutual'. -/
def componentMutualCard : Claim7 := { stood := { row := componentMutualRow, standIns := [], harness := (true, "52e55076284f845792b0a2cdc910df56eb918ebcb0674f45da832b2755f1e0b7"), looks := true }, kinds := [], alts := [], laidByText := true, laidKinds := [.data], laidTests := true, laidLooks := .later }
def ComponentMutualCardSaid : Prop := Claim7.holds Tryz.pinned (.plain (OpenSpec.ofChange componentMutualSpec)) componentMutualCard

/-- THE SECOND FORM's CARD OF 'graphdblaw50.ComponentFinds'. -/
def componentFindsUptoCard : Claim7 := { stood := { row := componentFindsUptoRow, standIns := [], harness := (true, "52e55076284f845792b0a2cdc910df56eb918ebcb0674f45da832b2755f1e0b7"), looks := true }, kinds := [], alts := [], laidByText := true, laidKinds := [.data], laidTests := true, laidLooks := .later }
def ComponentFindsUptoCardSaid : Prop := Claim7.holds Tryz.pinned (.plain (OpenSpec.upto componentFindsSpec)) componentFindsUptoCard

/-- THE SECOND FORM's CARD OF 'graphdblaw50.ComponentFine'. -/
def componentFineUptoCard : Claim7 := { stood := { row := componentFineUptoRow, standIns := [], harness := (true, "52e55076284f845792b0a2cdc910df56eb918ebcb0674f45da832b2755f1e0b7"), looks := true }, kinds := [], alts := [], laidByText := true, laidKinds := [.data], laidTests := true, laidLooks := .later }
def ComponentFineUptoCardSaid : Prop := Claim7.holds Tryz.pinned (.plain (OpenSpec.upto componentFineSpec)) componentFineUptoCard

/-- THE SECOND FORM's CARD OF 'graphdblaw50.ComponentSorts'. -/
def componentSortsUptoCard : Claim7 := { stood := { row := componentSortsUptoRow, standIns := [], harness := (true, "52e55076284f845792b0a2cdc910df56eb918ebcb0674f45da832b2755f1e0b7"), looks := true }, kinds := [], alts := [], laidByText := true, laidKinds := [.data], laidTests := true, laidLooks := .later }
def ComponentSortsUptoCardSaid : Prop := Claim7.holds Tryz.pinned (.plain (OpenSpec.upto componentSortsSpec)) componentSortsUptoCard

/-- THE SECOND FORM's CARD OF 'graphdblaw50.ComponentMutual'. -/
def componentMutualUptoCard : Claim7 := { stood := { row := componentMutualUptoRow, standIns := [], harness := (true, "52e55076284f845792b0a2cdc910df56eb918ebcb0674f45da832b2755f1e0b7"), looks := true }, kinds := [], alts := [], laidByText := true, laidKinds := [.data], laidTests := true, laidLooks := .later }
def ComponentMutualUptoCardSaid : Prop := Claim7.holds Tryz.pinned (.plain (OpenSpec.upto componentMutualSpec)) componentMutualUptoCard
end Rows
end Go.Proofs.YtjjhejbffgaabaaGreatDoor
