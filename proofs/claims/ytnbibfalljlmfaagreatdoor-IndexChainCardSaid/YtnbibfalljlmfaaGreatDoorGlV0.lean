/- The reference's order of values: a value is equal to itself, if its list is. -/
import Derived.Test.YtnbibfalljlmfaaGreatDoorGlU
set_option linter.unusedVariables false
set_option maxRecDepth 4000
namespace Go.Proofs.YtnbibfalljlmfaaGreatDoor
namespace AI
theorem AB6 {g:GV} (hl:D8 (Dx tab) 230 [.sl g.nn g.l,.sl g.nn g.l] (· =.int .i64 0)):D8 (Dx tab) 166 [g.av,g.av] (· =.int .i64 0):=by
  refine Lu rfl rfl ?_
  (conv=>whnf);repeat' (first|((with_reducible first|apply kN|apply kW|apply kX|apply kG|apply kQ);(· exact sd);conv=>whnf)|(refine DW.mk ?_ ?_<;>intro hc<;>(try rw[List.length_nil]at hc)<;>first|(exfalso;omega)|(exact absurd rfl hc)|conv=>whnf)|(refine BM Az0 ?_;rintro _ rfl;conv=>whnf)|(refine BM Az1 ?_;rintro _ rfl;conv=>whnf)|(refine BM hl ?_;rintro _ rfl;conv=>whnf)|(refine CB ?_ ?_<;>intro hc<;>conv=>whnf))
  all_goals rfl
theorem AAC {g:GV} (hg:g.ok) (hl:D8 (Dx tab) 230 [.sl g.nn g.l,.sl g.nn g.l] (· =.int .i64 0)):D8 (Dx tab) 96 [g.av,g.av] (· =.int .i64 0):=by
  obtain⟨_,⟨b,rfl⟩,hV⟩:=(Valid hg).det
  obtain⟨_,⟨z,rfl⟩,hC⟩:=(AKK (k:=g.k)).det
  obtain⟨_,⟨n,d,b2,rfl⟩,hN⟩:=(number hg).det
  cases b<;>cases b2<;>(
  refine Lu rfl rfl ?_
  (conv=>whnf);repeat' (first|((with_reducible first|apply kN|apply kW|apply kX|apply kG|apply kQ);(· exact sd);conv=>whnf)|(refine DW.mk ?_ ?_<;>intro hc<;>(try rw[List.length_nil]at hc)<;>first|(exfalso;omega)|(exact absurd rfl hc)|conv=>whnf)|(refine BM hV ?_;rintro _ rfl;conv=>whnf)|(refine BM hC ?_;rintro _ rfl;conv=>whnf)|(refine BM hN ?_;rintro _ rfl;conv=>whnf)|(refine BM Az0 ?_;rintro _ rfl;conv=>whnf)|(refine BM (AB6 hl) ?_;rintro _ rfl;conv=>whnf)|(refine BM (cmp0 (n:=n) (d:=d)) ?_;rintro _ rfl;conv=>whnf)|(refine CB ?_ ?_<;>intro hc<;>conv=>whnf))
  all_goals rfl)
theorem listsE {nn:Bool} {l:List AV} (h:l=[]):D8 (Dx tab) 230 [.sl nn l,.sl nn l] (· =.int .i64 0):=by
  subst h
  refine Lu rfl rfl ?_
  (conv=>whnf);repeat' (first|((with_reducible first|apply kN|apply kW|apply kX|apply kG|apply kQ);(· exact sd);conv=>whnf)|(refine DW.mk ?_ ?_<;>intro hc<;>(try rw[List.length_nil]at hc)<;>first|(exfalso;omega)|(exact absurd rfl hc)|conv=>whnf)  |(refine CB ?_ ?_<;>intro hc<;>conv=>whnf))
  refine DK (fun m env s=>m=0∧env=[(0,.sl nn []),(1,.sl nn []),(5,.int .i64 0)]∧s=⟨[],0⟩) ?_ _ _ _ ⟨rfl,rfl,rfl⟩
  rintro _ _ _ ⟨rfl,rfl,rfl⟩
  refine⟨rfl,?_⟩
  (conv=>whnf);repeat' (first|((with_reducible first|apply kN|apply kW|apply kX|apply kG|apply kQ);(· exact sd);conv=>whnf)|(refine DW.mk ?_ ?_<;>intro hc<;>(try rw[List.length_nil]at hc)<;>first|(exfalso;omega)|(exact absurd rfl hc)|conv=>whnf)|(refine BM Az0 ?_;rintro _ rfl;conv=>whnf)|(refine CB ?_ ?_<;>intro hc<;>conv=>whnf))
  all_goals first | rfl | (exfalso; omega) | (trace_state; fail "listsE")
end AI
end Go.Proofs.YtnbibfalljlmfaaGreatDoor
