/- The reference's Check of a graph. -/
import Derived.Test.YtjijnamhalgamaaGreatDoorPCk7
import Derived.Test.YtjijnamhalgamaaGreatDoorPMaj
set_option linter.unusedVariables false
set_option maxRecDepth 4000
namespace Go.Proofs.YtjijnamhalgamaaGreatDoor
namespace AI
end AI
end Go.Proofs.YtjijnamhalgamaaGreatDoor
