/- The reference's numbers, classes, strings compared. -/
import Derived.Test.YtnbibfalljlmfaaGreatDoorGlB
set_option linter.unusedVariables false
set_option maxRecDepth 4000
namespace Go.Proofs.YtnbibfalljlmfaaGreatDoor
namespace AI
theorem number {g:GV} (hg:g.ok):D8 (Dx tab) 169 [g.av] (fun v=>∃n d b,v=.tup [.agg [.int .i64 n,.int .i64 d],.bool b]):=by
  refine Lu rfl rfl ?_
  (conv=>whnf);repeat' (first|((with_reducible first|apply kN|apply kW|apply kX|apply kG|apply kQ);(· exact sd);conv=>whnf)|(refine DW.mk ?_ ?_<;>intro hc<;>(try rw[List.length_nil]at hc)<;>first|(exfalso;omega)|(exact absurd rfl hc)|conv=>whnf)|(refine BM (Valid hg) ?_;rintro _ ⟨b,rfl⟩;conv=>whnf)|(refine CB ?_ ?_<;>intro hc<;>conv=>whnf))
  all_goals exact⟨_,_,_,rfl⟩
theorem AKK {k:Int}:D8 (Dx tab) 168 [.int .i64 k] (fun v=>∃z,v=.int .i64 z):=by
  refine Lu rfl rfl ?_
  (conv=>whnf);repeat' (first|((with_reducible first|apply kN|apply kW|apply kX|apply kG|apply kQ);(· exact sd);conv=>whnf)|(refine DW.mk ?_ ?_<;>intro hc<;>(try rw[List.length_nil]at hc)<;>first|(exfalso;omega)|(exact absurd rfl hc)|conv=>whnf)  |(refine CB ?_ ?_<;>intro hc<;>conv=>whnf))
  all_goals exact⟨_,rfl⟩
theorem Az0 {k:Int}:D8 (Dx tab) 167 [.int .i64 k,.int .i64 k] (· =.int .i64 0):=by
  refine Lu rfl rfl ?_
  (conv=>whnf);repeat' (first|((with_reducible first|apply kN|apply kW|apply kX|apply kG|apply kQ);(· exact sd);conv=>whnf)|(refine DW.mk ?_ ?_<;>intro hc<;>(try rw[List.length_nil]at hc)<;>first|(exfalso;omega)|(exact absurd rfl hc)|conv=>whnf)  |(refine CB ?_ ?_<;>intro hc<;>conv=>whnf))
  all_goals rfl
theorem At3:∀s:List UInt8,Op.bytesLess s s=false
  |[]=>rfl
  |a::s=>by simp[Op.bytesLess,At3 s]
theorem Az1 {s:List UInt8}:D8 (Dx tab) 229 [.str s,.str s] (· =.int .i64 0):=by
  refine Lu rfl rfl ?_
  (conv=>whnf);repeat' (first|((with_reducible first|apply kN|apply kW|apply kX|apply kG|apply kQ);(· exact sd);conv=>whnf)|(refine DW.mk ?_ ?_<;>intro hc<;>(try rw[List.length_nil]at hc)<;>first|(exfalso;omega)|(exact absurd rfl hc)|conv=>whnf)  |(refine CB ?_ ?_<;>intro hc<;>conv=>whnf))
  all_goals first|rfl|(exfalso;simp[At3]at hc)
end AI
end Go.Proofs.YtnbibfalljlmfaaGreatDoor
