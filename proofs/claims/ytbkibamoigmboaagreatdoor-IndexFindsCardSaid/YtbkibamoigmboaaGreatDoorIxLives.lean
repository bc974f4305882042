/- The worked example in the laws about indexes: reckoned by the kernel. -/
import Derived.Test.YtbkibamoigmboaaGreatDoorGrCode
namespace Go.Proofs.YtbkibamoigmboaaGreatDoor
namespace AI

set_option maxRecDepth 100000 in
theorem lives_call : pureCall (run (findFn tab) 80) 11 [] = some (.bool true) := by kernel_rfl

end AI
end Go.Proofs.YtbkibamoigmboaaGreatDoor
