/- The reference's order of a value and null. What is wrong with a migration: the reference's Check. -/
import Derived.Test.YtjijnamhalgamaaGreatDoorPMaf
import Derived.Test.YtjijnamhalgamaaGreatDoorPMag
import Derived.Test.YtjijnamhalgamaaGreatDoorPMaj
import Derived.Test.YtjijnamhalgamaaGreatDoorPCk7
set_option linter.unusedVariables false
set_option maxRecDepth 4000
namespace Go.Proofs.YtjijnamhalgamaaGreatDoor
namespace AI
def AbW (k:Int):Int:=if k=0 then 0 else if k=1 then 1 else if k=2∨k=3 then 2 else if k=4 then 3 else if k=5 then 4 else if k=6 then 5 else if k=8 then 6 else 7
theorem AdJ {k:Int}:Ae (Ad tab) 94 [.int .i64 k] (· =.int .i64 (AbW k)):=by
 refine Ac rfl rfl ?_
 (conv=>whnf);repeat' (first  |(refine kA ?_;conv=>whnf)|(refine Br.mk (fun hc=>?_) fun hc=>?_<;>first|exact hc.elim|conv=>whnf)|(refine kB ?_))
 all_goals first
  |rfl
  |(unfold AbW;repeat' split
    all_goals first|rfl|(exfalso;omega))
end AI
end Go.Proofs.YtjijnamhalgamaaGreatDoor
