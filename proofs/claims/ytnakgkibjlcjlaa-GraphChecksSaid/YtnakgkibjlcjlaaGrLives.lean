/- The worked examples in the graph laws: reckoned by the kernel. -/
import Derived.Test.YtnakgkibjlcjlaaGrCode
namespace Go.Proofs.Ytnakgkibjlcjlaa
namespace AI

set_option maxRecDepth 100000 in
theorem alive_call : pureCall (run (findFn tab) 60) 9 [] = some (.bool true) := by kernel_rfl

end AI
end Go.Proofs.Ytnakgkibjlcjlaa
