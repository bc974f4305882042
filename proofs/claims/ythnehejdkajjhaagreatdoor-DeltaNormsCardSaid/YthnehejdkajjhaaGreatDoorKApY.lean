/- change.Apply. -/
import Derived.Test.YthnehejdkajjhaaGreatDoorKMal
set_option linter.unusedVariables false
set_option maxRecDepth 4000
namespace Go.Proofs.YthnehejdkajjhaaGreatDoor
namespace AI
end AI
end Go.Proofs.YthnehejdkajjhaaGreatDoor
