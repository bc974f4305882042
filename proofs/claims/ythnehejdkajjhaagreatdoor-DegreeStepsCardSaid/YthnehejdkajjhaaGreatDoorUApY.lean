/- change.Apply. -/
import Derived.Test.YthnehejdkajjhaaGreatDoorUApX
set_option linter.unusedVariables false
set_option maxRecDepth 4000
namespace Go.Proofs.YthnehejdkajjhaaGreatDoor
namespace AI
noncomputable def BU (g:GG) (c:GC):GG×Int:=if AZ g≠0 then(EP,AZ g)else if(stepG g c).1≠0 then(EP,(stepG g c).1)else((stepG g c).2,0)
theorem YP {g:GG} {c:GC}:(AX g [c]).1=(BU g c).1∧(AX g [c]).2.2=(BU g c).2:=by
 unfold AX BU
 by_cases h:AZ g=0
 ·rw[if_neg (fun k=>k h),if_neg (fun k=>k h)]
  unfold Jl
  by_cases h2:(stepG g c).1=0
  ·rw[if_neg (fun k=>k h2),if_neg (fun k=>k h2)]
   exact⟨rfl,rfl⟩
  ·rw[if_pos h2,if_pos h2]
   exact⟨rfl,rfl⟩
 ·rw[if_pos h,if_pos h]
  exact⟨rfl,rfl⟩
set_option maxHeartbeats 4000000 in
theorem AoJ {g:GG} {c:GC} (hg:g.ok) (hc:c.ok):Ag (Ac tab) 57 [g.av,c.av] (· =.BG [(BU g c).1.av,.int .i64 (BU g c).2]):=by
 have hp:=J5 (L:=[c]) (nn:=true) hg (by simp) (by simpa using hc)
 rw[YP.1,YP.2]at hp
 generalize (BU g c).1=h at hp ⊢
 generalize (BU g c).2=e at hp ⊢
 generalize (AX g [c]).2.1=n at hp
 obtain⟨op,z,fr,to,nm,v⟩:=c
 refine Ad rfl rfl ?_
 show vC _ _ [(0,.agg [.sl g.nn (vs GN.av g.nodes),.sl g.en (vs GE.av g.edges),.int .i64 g.BF,.int .i64 g.BA]),(1,.agg [.int .i64 op,.int .i64 z,.int .i64 fr,.int .i64 to,.str nm,.int .i64 v.k,.int .i64 v.n,.int .i64 v.d,.str v.s,.sl v.nn v.l])] _ _
 (conv=>whnf);repeat' (first|(refine Aa hp ?_;rintro _ rfl;conv=>whnf)|(refine kA ?_;conv=>whnf)|(refine Br.mk (fun hc=>?_) fun hc=>?_<;>first|exact hc.elim|conv=>whnf)|(refine kB ?_))
 all_goals first|rfl
end AI
end Go.Proofs.YthnehejdkajjhaaGreatDoor
