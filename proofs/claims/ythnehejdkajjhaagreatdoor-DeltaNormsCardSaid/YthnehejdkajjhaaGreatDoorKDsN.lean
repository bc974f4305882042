/- Few changes, small; delta.Norm. -/
import Derived.Test.YthnehejdkajjhaaGreatDoorKDtF
import Derived.Test.YthnehejdkajjhaaGreatDoorKMae
import Derived.Test.YthnehejdkajjhaaGreatDoorKMal
set_option linter.unusedVariables false
set_option maxRecDepth 4000
namespace Go.Proofs.YthnehejdkajjhaaGreatDoor
namespace AI
theorem AgY {L:List GC} {nn:Bool} (hL:Ln L) (hc:∀c∈L,c.ok):Ag (Ac tab) 8 [.sl nn (vs GC.av L),.int .i64 30] (fun v=>∃b,v=.bool b∧(b=true→L.length≤30∧∀c∈L,GY 12 c.v.av)):=by
 unfold Ln at hL
 refine Ad rfl rfl ?_
 (conv=>whnf);repeat' (first  |refine kA ?_;conv=>whnf|(apply Br.mk<;>intro hc<;>first|exact hc.elim|conv=>whnf)|refine kB ?_)
 refine Af (fun m env s=>∃(i:Nat) (left:Int),m=L.length-i∧-368934881474191048≤left∧left≤2000∧(0≤left→∀c∈L.take i,GY 12 c.v.av)∧env=[(0,.sl nn (vs GC.av L)),(1,.int .i64 30),(5,.int .i64 left),(6,.int .i64 i)]∧s=⟨[],0⟩) ?_ _ _ _ ⟨0,_,rfl,by omega,by omega,fun _=>by simp,rfl,rfl⟩
 rintro _ _ _ ⟨i,left,rfl,h1,h2,hx,rfl,rfl⟩
 refine⟨rfl,?_⟩
 by_cases hlt:i<L.length
 ·have hci:=hc _ (List.getElem_mem hlt)
  have hk:(L[i]).name.length<2^63:=hci.2.2.2.2.1
  (conv=>whnf);repeat' (first|(refine WB hk ?_;conv=>whnf)|(have hwr:=hk;apply BI;(· exact wrap_i64 (by omega) (by omega));clear hwr;conv=>whnf)|(refine Aa (wei 12 (by omega) hci.2.2.2.2.2 (by omega) (by omega)) ?_;rintro _ ⟨r,rfl,r1,r2,r3⟩;conv=>whnf)|refine kA ?_;conv=>whnf|(apply Br.mk<;>intro hc<;>first|exact hc.elim|conv=>whnf)|refine kB ?_)
  all_goals first
   |exact again.mk ⟨_,by omega,i+1,_,rfl,by omega,by omega,fun h=>by
     rw[List.take_succ_eq_append_getElem hlt]
     intro c hc
     rcases List.mem_append.1 hc with hc|hc
     ·exact hx (by omega) c hc
     ·obtain rfl:=List.mem_singleton.1 hc;exact(r3 h).2,rfl,rfl⟩
   |exact⟨_,rfl,fun h=>by omega⟩
   |exact⟨_,rfl,fun h=>Bool.noConfusion h⟩
 ·rw[List.take_of_length_le (by omega)]at hx
  (conv=>whnf);repeat' (first  |refine kA ?_;conv=>whnf|(apply Br.mk<;>intro hc<;>first|exact hc.elim|conv=>whnf)|refine kB ?_)
  all_goals first
   |exact⟨_,rfl,fun h=>by first|exact⟨by have:=of_decide_eq_true h;omega,hx (by omega)⟩|exact⟨by omega,hx (by omega)⟩⟩
   |exact⟨_,rfl,fun h=>Bool.noConfusion h⟩
theorem AdO {g h:GG} {L:List GC} {nn b:Bool} {X:List AV} {n e:Int} (hA:Ag (Ac tab) 12 [g.av,.sl nn (vs GC.av L)] (· =.BG [h.av,.int .i64 n,.int .i64 0])) (hO:Ag (Ac tab) 32 [g.av,h.av] (· =.BG [.sl b X,.int .i64 e])):
 Ag (Ac tab) 11 [g.av,.sl nn (vs GC.av L)] (· =.BG [.sl b X,.int .i64 e]):=by
 refine Ad rfl rfl ?_
 (conv=>whnf);repeat' (first|((first|refine Aa hA ?_|refine Aa hO ?_);rintro _ rfl;conv=>whnf)|refine kA ?_;conv=>whnf|(apply Br.mk<;>intro hc<;>first|exact hc.elim|conv=>whnf)|refine kB ?_)
 all_goals first|rfl|(exfalso;omega)
theorem AqX {g h:GG} {L:List GC} {nn:Bool} {n e:Int} (hA:Ag (Ac tab) 12 [g.av,.sl nn (vs GC.av L)] (· =.BG [h.av,.int .i64 n,.int .i64 e])) (h0:e≠0):
 Ag (Ac tab) 11 [g.av,.sl nn (vs GC.av L)] (· =.BG [.sl false [],.int .i64 e]):=by
 refine Ad rfl rfl ?_
 (conv=>whnf);repeat' (first|(refine Aa hA ?_;rintro _ rfl;conv=>whnf)|refine kA ?_;conv=>whnf|(apply Br.mk<;>intro hc<;>first|exact hc.elim|conv=>whnf)|refine kB ?_)
 all_goals first|rfl|(exfalso;omega)
end AI
end Go.Proofs.YthnehejdkajjhaaGreatDoor
