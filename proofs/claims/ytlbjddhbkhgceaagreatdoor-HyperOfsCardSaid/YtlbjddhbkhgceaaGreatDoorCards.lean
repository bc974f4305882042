/-
  DERIVED. GIVEN WITH THE SEED: THE CARDS: each row of YtlbjddhbkhgceaaGreatDoorRows.lean that lists a variable, with what it lists TIED to the program's text (the seventh form; the later family's looks); each row that meets fmt, with fmt's text TOLD by the authors' own Lean function (tested against real Go, not proved from fmt's source: count such statements apart). THE CARD IS WHAT COUNTS. Prove the row's statement (the work); the ties are given (YtlbjddhbkhgceaaGreatDoorTie.lean); close each card by the builder's one call (the guide's Derived/Test/ToyasCard.lean, 'card_holds'). Laid BY PROGRAM, IN A SANDBOX (cutbox-door.mjs). By AI agents, Wed Nov 11 2026. No macro, syntax, notation, axiom, sorry.
-/
import Derived.Test.YtlbjddhbkhgceaaGreatDoorRows
import GoSem.ClaimSeven
namespace Go.Proofs.YtlbjddhbkhgceaaGreatDoor
namespace Rows

/-- THE TIED CARD OF 'graphdblaw29.HyperOfs'. -/
def hyperOfsCard : Claim7 := { stood := { row := hyperOfsRow, standIns := [], harness := (true, "b6729c465419addfd671284aa7f7c004c2fd71c0f42b347bcfe5b61fd571a11a"), looks := false }, kinds := [], alts := [], laidByText := true, laidKinds := [.data], laidTests := true, laidLooks := .later }
def HyperOfsCardSaid : Prop := Claim7.holds Tryz.pinned (.plain (OpenSpec.ofChange hyperOfsSpec)) hyperOfsCard

/-- THE SECOND FORM's CARD OF 'graphdblaw29.HyperOfs'. -/
def hyperOfsUptoCard : Claim7 := { stood := { row := hyperOfsUptoRow, standIns := [], harness := (true, "b6729c465419addfd671284aa7f7c004c2fd71c0f42b347bcfe5b61fd571a11a"), looks := false }, kinds := [], alts := [], laidByText := true, laidKinds := [.data], laidTests := true, laidLooks := .later }
def HyperOfsUptoCardSaid : Prop := Claim7.holds Tryz.pinned (.plain (OpenSpec.upto hyperOfsSpec)) hyperOfsUptoCard
end Rows
end Go.Proofs.YtlbjddhbkhgceaaGreatDoor
