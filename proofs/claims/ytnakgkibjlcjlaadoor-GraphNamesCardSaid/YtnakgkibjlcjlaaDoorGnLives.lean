/- The worked examples in the graph laws: reckoned by the kernel. -/
import Derived.Test.YtnakgkibjlcjlaaDoorGnCode
namespace Go.Proofs.YtnakgkibjlcjlaaDoor
namespace AI

set_option maxRecDepth 100000 in
theorem alive_call : pureCall (run (findFn tab) 60) 4 [] = some (.bool true) := by kernel_rfl

set_option maxRecDepth 100000 in
theorem new_call : pureCall (run (findFn tab) 60) 8 [] = some (.agg [.sl false [], .sl false [], .int .i64 1, .int .i64 1]) := by kernel_rfl

set_option maxRecDepth 100000 in
theorem rnew_call : pureCall (run (findFn tab) 60) 9 [] = some (.agg [.sl false [], .sl false [], .int .i64 1, .int .i64 1]) := by kernel_rfl

set_option maxRecDepth 100000 in
theorem same_call : pureCall (run (findFn tab) 60) 7 [.agg [.sl false [], .sl false [], .int .i64 1, .int .i64 1], .agg [.sl false [], .sl false [], .int .i64 1, .int .i64 1]] = some (.bool true) := by kernel_rfl

end AI
end Go.Proofs.YtnakgkibjlcjlaaDoor
