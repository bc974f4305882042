/- The worked example in the laws about indexes: reckoned by the kernel. -/
import Derived.Test.YtbkibamoigmboaaGreatDoorGrCode
import Derived.Test.YtbkibamoigmboaaGreatDoorVa
namespace Go.Proofs.YtbkibamoigmboaaGreatDoor
namespace AI

set_option maxRecDepth 100000 in
theorem lives_call : pureCall (run (findFn tab) 80) 11 [] = some (.bool true) := by kernel_rfl

theorem livesI : PureP (findFn tab) 11 [] (· = .bool (decide True)) := ⟨.bool true, ⟨80, lives_call⟩, rfl⟩

end AI
end Go.Proofs.YtbkibamoigmboaaGreatDoor
