/- The reference's ApplyAll is the program's, but for flags. -/
import Derived.Test.YthnehejdkajjhaaGreatDoorKRcL
set_option linter.unusedVariables false
set_option maxRecDepth 4000
namespace Go.Proofs.YthnehejdkajjhaaGreatDoor
namespace AI
set_option maxHeartbeats 2000000 in
theorem LX {g:GG} {L:List GC} {nn:Bool} (hg:g.ok) (hL:L.length≤900) (hcc:∀c∈L,c.ok) (hN:g.nodes.length≤2000) (hE:g.edges.length≤2000):Ag (Ac tab) 10 [g.av,.sl nn (vs GC.av L)] (fun w=>∃h:GG,w=.BG [h.av,.int .i64 (AX g L).2.1,.int .i64 (AX g L).2.2]∧BL h=BL (AX g L).1∧h.ok):=by
 have hck:=VO hg
 by_cases h0:AZ g=0
 rotate_left
 ·have hG:AX g L=(EP,0,AZ g):=by unfold AX;rw[if_pos h0]
  rw[hG]
  generalize AZ g=e at hck h0 ⊢
  refine Ad rfl rfl ?_
  (conv=>whnf);repeat' (first|(refine Aa hck ?_;rintro _ rfl;conv=>whnf)|refine kA ?_;conv=>whnf|(apply Br.mk<;>intro hc<;>first|exact hc.elim|conv=>whnf)|refine kB ?_)
  all_goals first|exact⟨EP,rfl,rfl,LY⟩|(exfalso;omega)
 have hG:AX g L=Jl g L 0:=by unfold AX;rw[if_neg (fun k=>k h0)]
 rw[hG]
 have ha0:=Td h0
 have hx0:=AdE h0
 rw[h0]at hck
 refine Ad rfl rfl ?_
 (conv=>whnf);repeat' (first|(refine Aa hck ?_;rintro _ rfl;conv=>whnf)|refine kA ?_;conv=>whnf|(apply Br.mk<;>intro hc<;>first|exact hc.elim|conv=>whnf)|refine kB ?_)
 refine Af (fun m env s=>∃(i c:Nat) (h k:GG),m=L.length-i∧i≤L.length∧h.ok∧BL h=BL k∧Ef h∧Tf h∧h.nodes.length≤2000+i∧h.edges.length≤2000+i∧Jl g L 0=Jl k (L.drop i) i∧env=[(1,.sl nn (vs GC.av L)),(2,.ref 0 0 0 0),(4,.ref 1 1 0 0),(8,.int .i64 i)]∧s=⟨[.arr 0 4 true true [h.av],.arr 1 4 true true [EP.av]],c⟩) ?_ _ _ _ ⟨0,_,g,g,rfl,by omega,hg,rfl,ha0,hx0,by omega,by omega,by rw[List.drop_zero],rfl,rfl⟩
 rintro _ _ _ ⟨i,c,h,k,rfl,hi,ho,hs,ha,hx,hn,he,hall,rfl,rfl⟩
 refine⟨rfl,?_⟩
 by_cases hlt:i<L.length
 ·have hci:=hcc _ (List.getElem_mem hlt)
  have hst:=Amg ho (by omega) (by omega) ha hx hci
  have hsm:=Ti hs L[i]
  have hln:=VP h L[i]
  have ha':=ha.step (c:=L[i])
  have hx':=hx.step (c:=L[i])
  rw[List.drop_eq_getElem_cons hlt,Jl,←hsm.1]at hall
  (conv=>whnf);repeat' (first|(refine Aa hst ?_;rintro _ ⟨k',rfl,q1,q2⟩;conv=>whnf)|refine kA ?_;conv=>whnf|(apply Br.mk<;>intro hc<;>first|exact hc.elim|conv=>whnf)|refine kB ?_)
  all_goals first
   |(rw [if_pos (by assumption)]at hall;rw[hall];exact⟨EP,rfl,rfl,LY⟩)
   |(have h00:(stepG h L[i]).1=0:=by first|assumption|exact Classical.not_not.1 (by assumption)
     rw[if_neg (not_not_intro h00)]at hall
     obtain⟨q1,q3⟩:=q1 h00
     have hl2:=JM q1
     exact again.mk ⟨_,by omega,i+1,_,k',_,rfl,by omega,q3,q1.trans hsm.2,ha'.sam q1.symm,hx'.sam q1.symm,by omega,by omega,hall,rfl,rfl⟩)
 ·obtain rfl:i=L.length:=by omega
  rw[List.drop_length]at hall
  rw[hall]
  (conv=>whnf);repeat' (first  |refine kA ?_;conv=>whnf|(apply Br.mk<;>intro hc<;>first|exact hc.elim|conv=>whnf)|refine kB ?_)
  all_goals first
   |exact⟨h,rfl,hs,ho⟩
end AI
end Go.Proofs.YthnehejdkajjhaaGreatDoor
