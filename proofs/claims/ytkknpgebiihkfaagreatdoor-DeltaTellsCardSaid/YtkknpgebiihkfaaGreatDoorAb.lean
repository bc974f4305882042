/- Short words for compiled operations. -/
import Derived.Test.YtkknpgebiihkfaaGreatDoorComp
namespace Go.Proofs.YtkknpgebiihkfaaGreatDoor
namespace AI

/-- an operation without a guard -/
abbrev op (d : Nat) (x : AOp) : AOper := ⟨some d, x, none⟩
/-- a move -/
abbrev mv (d t : Nat) : AOper := ⟨some d, .mov (.tmp t), none⟩
/-- a move under a guard -/
abbrev mg (d t g : Nat) (b : Bool) : AOper := ⟨some d, .mov (.tmp t), some (g, b)⟩
/-- a temporary -/
abbrev tm (t : Nat) : AO := .tmp t
/-- a number -/
abbrev ci (n : Int) : AO := .cst (.int .i64 n)

/-- a region in the order of the text, its operations and what stays -/
abbrev rg (ops : List AOper) (live : List Nat) : ACode := .region none [] ops live none
abbrev ra (i : Nat) (l : List Nat) : RAnn := { id := i, live := l }
abbrev rh (i : Nat) (l h : List Nat) : RAnn := { id := i, live := l, hdr := h }

end AI
end Go.Proofs.YtkknpgebiihkfaaGreatDoor
