/- What is wrong with a migration: the reference's Check. -/
import Derived.Test.YtjijnamhalgamaaGreatDoorTMao
import Derived.Test.YtjijnamhalgamaaGreatDoorTCk7
import Derived.Test.YtjijnamhalgamaaGreatDoorTMah
set_option linter.unusedVariables false
set_option maxRecDepth 4000
namespace Go.Proofs.YtjijnamhalgamaaGreatDoor
namespace AI
end AI
end Go.Proofs.YtjijnamhalgamaaGreatDoor
