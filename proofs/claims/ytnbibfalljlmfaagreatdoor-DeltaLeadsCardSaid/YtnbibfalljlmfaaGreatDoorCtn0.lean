/- Strings in a list. -/
import Derived.Test.YtnbibfalljlmfaaGreatDoorMaf
set_option linter.unusedVariables false
set_option maxRecDepth 4000
namespace Go.Proofs.YtnbibfalljlmfaaGreatDoor
namespace AI
theorem idxS {l:List (List UInt8)} {x:List UInt8} {nn:Bool} (hl:l.length<2^63):D8 (Dx tab) 210 [.sl nn (vs .str l),.str x] (fun v=>∃z,v=.int .i64 z∧(0≤z↔x∈l)):=by
  refine Lu rfl rfl ?_
  (conv=>whnf);repeat' (first|((with_reducible first|apply kN|apply kW|apply kX|apply kG|apply kQ);(· exact sd);conv=>whnf)|(refine DW.mk ?_ ?_<;>intro hc<;>(try rw[List.length_nil]at hc)<;>first|(exfalso;omega)|(exact absurd rfl hc)|conv=>whnf)  |(refine CB ?_ ?_<;>intro hc<;>conv=>whnf))
  refine DK (fun m env s=>∃i:Nat,m=l.length-i∧env=[(0,.sl nn (vs .str l)),(1,.str x),(7,.int .i64 l.length),(8,.int .i64 i)]∧s=⟨[],0⟩∧x∉l.take i) ?_ _ _ _ ⟨0,rfl,by simp,rfl,by simp⟩
  rintro _ _ _ ⟨i,rfl,rfl,rfl,hx⟩
  refine⟨rfl,?_⟩
  (conv=>whnf);repeat' (first|((with_reducible first|apply kN|apply kW|apply kX|apply kG|apply kQ);(· exact sd);conv=>whnf)|(refine DW.mk ?_ ?_<;>intro hc<;>(try rw[List.length_nil]at hc)<;>first|(exfalso;omega)|(exact absurd rfl hc)|conv=>whnf)  |(refine CB ?_ ?_<;>intro hc<;>conv=>whnf))
  · subst hc;exact⟨_,rfl,by simp⟩
  · exact again.mk ⟨_,by omega,i+1,rfl,rfl,rfl,nms (by omega) hx (fun h=>hc h.symm)⟩
  · rw[TP hc]at hx;exact⟨_,rfl,by simp[hx]⟩
theorem AGW {l:List (List UInt8)} {x:List UInt8} {nn:Bool} (hl:l.length<2^63):D8 (Dx tab) 137 [.sl nn (vs .str l),.str x] (· =.bool (decide (x∈l))):=by
  refine Lu rfl rfl ?_
  (conv=>whnf);repeat' (first|((with_reducible first|apply kN|apply kW|apply kX|apply kG|apply kQ);(· exact sd);conv=>whnf)|(refine DW.mk ?_ ?_<;>intro hc<;>(try rw[List.length_nil]at hc)<;>first|(exfalso;omega)|(exact absurd rfl hc)|conv=>whnf)  |(refine CB ?_ ?_<;>intro hc<;>conv=>whnf))
  refine BM (idxS hl) ?_
  rintro _ ⟨z,rfl,hz⟩
  (conv=>whnf);repeat' (first|((with_reducible first|apply kN|apply kW|apply kX|apply kG|apply kQ);(· exact sd);conv=>whnf)|(refine DW.mk ?_ ?_<;>intro hc<;>(try rw[List.length_nil]at hc)<;>first|(exfalso;omega)|(exact absurd rfl hc)|conv=>whnf)  |(refine CB ?_ ?_<;>intro hc<;>conv=>whnf))
  · exact Lp (hz.1 hc)
  · exact Hf (mt hz.2 hc)
end AI
end Go.Proofs.YtnbibfalljlmfaaGreatDoor
