/- The worked example of the component laws. -/
import Derived.Test.YtgmgkkbpgndaaaaGreatDoorGrCode
import Derived.Test.YtgmgkkbpgndaaaaGreatDoorVa
set_option linter.unusedVariables false
set_option maxRecDepth 4000
namespace Go.Proofs.YtgmgkkbpgndaaaaGreatDoor
namespace AI
open Go
set_option maxRecDepth 100000 in
theorem lives_call:pureCall (run (findFn tab) 60) 7 []=some (.bool true):=by kernel_rfl
end AI
end Go.Proofs.YtgmgkkbpgndaaaaGreatDoor
