/- Short words for compiled operations. -/
import Derived.Test.YtnfdpfeeenmffaaGreatDoorCore
namespace Go.Proofs.YtnfdpfeeenmffaaGreatDoor
namespace AI

/-- an operation without a guard -/
abbrev op (d : Nat) (x : AOp) : AOper := ⟨some d, x, none⟩
/-- a move -/
abbrev mv (d t : Nat) : AOper := ⟨some d, .mov (.tmp t), none⟩
/-- a move under a guard -/
abbrev mg (d t g : Nat) (b : Bool) : AOper := ⟨some d, .mov (.tmp t), some (g, b)⟩
/-- a temporary -/
abbrev tm (t : Nat) : AO := .tmp t
/-- a number -/
abbrev ci (n : Int) : AO := .cst (.int .i64 n)

end AI
end Go.Proofs.YtnfdpfeeenmffaaGreatDoor
