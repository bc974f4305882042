/- The worked examples in the laws: reckoned by the kernel. -/
import Derived.Test.YtocgbgffpdphdaaHyCode
namespace Go.Proofs.Ytocgbgffpdphdaa
namespace AI

set_option maxRecDepth 100000 in
theorem lives_call : pureCall (run (findFn tab) 60) 14 [] = some (.bool true) := by kernel_rfl

end AI
end Go.Proofs.Ytocgbgffpdphdaa
