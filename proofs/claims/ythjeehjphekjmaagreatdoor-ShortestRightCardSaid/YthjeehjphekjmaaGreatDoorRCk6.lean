/- graph.Check, walked. -/
import Derived.Test.YthjeehjphekjmaaGreatDoorRMan
set_option linter.unusedVariables false
set_option maxRecDepth 4000
namespace Go.Proofs.YthjeehjphekjmaaGreatDoor
namespace AI
end AI
end Go.Proofs.YthjeehjphekjmaaGreatDoor
