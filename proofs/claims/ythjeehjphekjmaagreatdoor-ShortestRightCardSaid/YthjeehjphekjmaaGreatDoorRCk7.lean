/- The reference's check of values that may be stored, of labels and properties. -/
import Derived.Test.YthjeehjphekjmaaGreatDoorRMan
import Derived.Test.YthjeehjphekjmaaGreatDoorRMah
import Derived.Test.YthjeehjphekjmaaGreatDoorBMaa
set_option linter.unusedVariables false
set_option maxRecDepth 4000
namespace Go.Proofs.YthjeehjphekjmaaGreatDoor
namespace AI
end AI
end Go.Proofs.YthjeehjphekjmaaGreatDoor
