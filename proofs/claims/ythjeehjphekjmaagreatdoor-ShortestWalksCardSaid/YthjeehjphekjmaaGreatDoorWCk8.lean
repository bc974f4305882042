/- The reference's Check of a graph. -/
import Derived.Test.YthjeehjphekjmaaGreatDoorWCk7
import Derived.Test.YthjeehjphekjmaaGreatDoorWCk6
set_option linter.unusedVariables false
set_option maxRecDepth 4000
namespace Go.Proofs.YthjeehjphekjmaaGreatDoor
namespace AI
end AI
end Go.Proofs.YthjeehjphekjmaaGreatDoor
