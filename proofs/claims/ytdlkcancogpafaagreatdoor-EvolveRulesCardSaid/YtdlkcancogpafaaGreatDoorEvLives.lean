/- The worked example in the laws about migrations: reckoned by the kernel. -/
import Derived.Test.YtdlkcancogpafaaGreatDoorGrCode
namespace Go.Proofs.YtdlkcancogpafaaGreatDoor
namespace AI

set_option maxRecDepth 100000 in
theorem alive_call : pureCall (run (findFn tab) 80) 6 [] = some (.bool true) := by kernel_rfl

end AI
end Go.Proofs.YtdlkcancogpafaaGreatDoor
