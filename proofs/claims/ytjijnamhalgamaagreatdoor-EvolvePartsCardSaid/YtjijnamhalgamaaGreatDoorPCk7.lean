/- The reference's check of values that may be stored, of labels and properties. -/
import Derived.Test.YtjijnamhalgamaaGreatDoorPMaf
import Derived.Test.YtjijnamhalgamaaGreatDoorPMag
import Derived.Test.YtjijnamhalgamaaGreatDoorBMaa
set_option linter.unusedVariables false
set_option maxRecDepth 4000
namespace Go.Proofs.YtjijnamhalgamaaGreatDoor
namespace AI
end AI
end Go.Proofs.YtjijnamhalgamaaGreatDoor
