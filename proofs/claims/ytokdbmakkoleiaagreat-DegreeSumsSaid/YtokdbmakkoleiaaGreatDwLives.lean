/- The worked examples in the degree laws: reckoned by the kernel. -/
import Derived.Test.YtokdbmakkoleiaaGreatGrCode
namespace Go.Proofs.YtokdbmakkoleiaaGreat
namespace AI

set_option maxRecDepth 100000 in
theorem alive_call : pureCall (run (findFn tab) 60) 7 [] = some (.bool true) := by kernel_rfl

end AI
end Go.Proofs.YtokdbmakkoleiaaGreat
