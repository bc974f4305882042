/- The worked example in the laws about scripts: reckoned by the kernel. -/
import Derived.Test.YtkknpgebiihkfaaGreatDoorGrCode
namespace Go.Proofs.YtkknpgebiihkfaaGreatDoor
namespace AI

set_option maxRecDepth 100000 in
theorem alive_call : pureCall (run (findFn tab) 80) 5 [] = some (.bool true) := by kernel_rfl

end AI
end Go.Proofs.YtkknpgebiihkfaaGreatDoor
