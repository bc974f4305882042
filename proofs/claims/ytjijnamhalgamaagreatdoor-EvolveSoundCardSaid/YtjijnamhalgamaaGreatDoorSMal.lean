/- The reference's order of a value and null. What is wrong with a migration: the reference's Check. -/
import Derived.Test.YtjijnamhalgamaaGreatDoorSMag
import Derived.Test.YtjijnamhalgamaaGreatDoorSMah
import Derived.Test.YtjijnamhalgamaaGreatDoorSMaj
import Derived.Test.YtjijnamhalgamaaGreatDoorSCk7
set_option linter.unusedVariables false
set_option maxRecDepth 4000
namespace Go.Proofs.YtjijnamhalgamaaGreatDoor
namespace AI
end AI
end Go.Proofs.YtjijnamhalgamaaGreatDoor
