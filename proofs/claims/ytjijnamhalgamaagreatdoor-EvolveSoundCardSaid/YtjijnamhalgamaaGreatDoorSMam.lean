/- What a migration changes of a graph: the program's and the reference's Changes. Small graphs, few strings. The reference's order of values: a value is equal to itself, if its list is. The reference's order of values: a value is equal to itself. Lists of changes compared with themselves; inverses; what is small. Adding a rule and leaving one out: the program's Add and Drop. Adding a rule and leaving one out: the reference's Add and Drop. A rule turned by a migration: the program's rule and the reference's turned. -/
import Derived.Test.YtjijnamhalgamaaGreatDoorSMak
import Derived.Test.YtjijnamhalgamaaGreatDoorSMal
import Derived.Test.YtjijnamhalgamaaGreatDoorSCk8
import Derived.Test.YtjijnamhalgamaaGreatDoorSMae
import Derived.Test.YtjijnamhalgamaaGreatDoorSMag
set_option linter.unusedVariables false
set_option maxRecDepth 4000
namespace Go.Proofs.YtjijnamhalgamaaGreatDoor
namespace AI
def UA (g:GG) (m:GM):List GC:=g.nodes.flatMap (CW · m)++g.edges.flatMap (FI · m)
noncomputable def Gw (g:GG) (m:GM):List GC×Int:=if EW m≠0 then([],EW m)else if AZ g≠0 then([],AZ g)else if FU g m then([],7)else(UA g m,0)
theorem AfG {g:GG} {m:GM} (h:EW m≠0):Gw g m=([],EW m):=by unfold Gw;rw[if_pos h]
theorem AfH {g:GG} {m:GM} (h:EW m=0) (h1:AZ g≠0):Gw g m=([],AZ g):=by unfold Gw;rw[if_neg (not_not_intro h),if_pos h1]
theorem AfI {g:GG} {m:GM} (h:EW m=0) (h1:AZ g=0) (h2:FU g m):Gw g m=([],7):=by unfold Gw;rw[if_neg (not_not_intro h),if_neg (not_not_intro h1),if_pos h2]
theorem AfJ {g:GG} {m:GM} (h:EW m=0) (h1:AZ g=0) (h2:¬FU g m):Gw g m=(UA g m,0):=by unfold Gw;rw[if_neg (not_not_intro h),if_neg (not_not_intro h1),if_neg h2]
theorem Xh {α β:Type} {f:α→List β} {l:List α} {k i:Nat} {L:List β} (hi:i<l.length) (h:(f l[i]).length≤k) (hL:L.length≤k*i):(L++f l[i]).length≤k*(i+1):=by
 rw[List.length_append,Nat.mul_succ];omega
theorem Apu {g:GG} {m:GM} (hf:Fair g) (hk:m.k=2) {c:Nat} {go:Nat} {b:Bool} {ln:Nat} (hln:ln=g.edges.length) {Q:AQ→Env→Am→Prop}
 (hQ:∀c' go b n tl,n=(g.edges.flatMap (FI · m)).length→Q (.exit 3) ([(3,.ref 1 1 0 0),(8,.own 2 go 0 n)]++tl) ⟨[.arr 0 4 true true [g.av],.arr 1 15 true true [m.av],.arr go 10 b true (vs GC.av (g.edges.flatMap (FI · m)))],c'⟩):
 Run (Ad tab) (.loop l23_0_h l23_0_b) [(3,.ref 1 1 0 0),(8,.own 2 go 0 0),(44,.sl g.en (vs GE.av g.edges)),(45,.int .i64 ln),(46,.int .i64 0)] ⟨[.arr 0 4 true true [g.av],.arr 1 15 true true [m.av],.arr go 10 b true []],c⟩ Q:=by
 have hE:=hf.2.2.1
 subst hln
 refine Ag (fun z env s=>∃(i c go n:Nat) (b:Bool) (L:List GC),z=g.edges.length-i∧i≤g.edges.length∧L=(g.edges.take i).flatMap (FI · m)∧n=L.length∧L.length≤2002*i∧env=[(3,.ref 1 1 0 0),(8,.own 2 go 0 n),(44,.sl g.en (vs GE.av g.edges)),(45,.int .i64 g.edges.length),(46,.int .i64 i)]∧s=⟨[.arr 0 4 true true [g.av],.arr 1 15 true true [m.av],.arr go 10 b true (vs GC.av L)],c⟩) ?_ _ _ _ ⟨0,_,_,_,_,[],rfl,by omega,rfl,rfl,by simp,rfl,rfl⟩
 rintro _ _ _ ⟨i,c,go,n,b,L,rfl,hi,hL,hn,hlen,rfl,rfl⟩
 refine⟨rfl,?_⟩
 by_cases hlt:i<g.edges.length
 ·have hs:=Aa6 (f:=(FI · m)) hlt
  rw[← hL]at hs
  have hp:=hf.2.2.2.2 _ (List.getElem_mem hlt)
  have hb:=Vw g.edges[i] m
  have hb2:(FI g.edges[i] m).length≤2002:=by have:=hp.1.1;omega
  by_cases ht:(g.edges[i]).ty=m.fr
  ·have he:=AbT hk ht
   have hcall:=Aj0 (e:=g.edges[i]) (to:=m.to) hp.1.1
   rw[he]at hcall
   (conv=>whnf);repeat' (first|((first|refine kE hcall ?_|refine AjK (f:=GC.av) (l':=FI g.edges[i] m) rfl Zt hn (by omega) (fun b=>?_)|refine kA ?_|(apply Br.mk<;>intro hc))<;>first|exact hc.elim|conv=>whnf)|refine kB ?_)
   all_goals first
        |exact again.mk ⟨_,by omega,i+1,_,_,_,_,_,rfl,by omega,hs.symm,by simp,Xh (f:=(FI · m)) hlt hb2 hlen,rfl,rfl⟩
        |(exfalso;contradiction)
        |exact again.mk ⟨_,by omega,i+1,_,_,_,_,_,rfl,by omega,hs.symm,by simp,Xh (f:=(FI · m)) hlt hb2 hlen,rfl,rfl⟩
  ·have he:FI g.edges[i] m=[]:=Aa5 fun h=>ht h.2
   rw[he,List.append_nil]at hs
   (conv=>whnf);repeat' (first|((first|refine kA ?_|(apply Br.mk<;>intro hc))<;>first|exact hc.elim|conv=>whnf)|refine kB ?_)
   all_goals first
        |exact again.mk ⟨_,by omega,i+1,_,_,_,_,_,rfl,by omega,hs.symm,hn,by omega,rfl,rfl⟩
        |(exfalso;contradiction)
 ·rw[List.take_of_length_le (by omega)]at hL
  subst hL
  (conv=>whnf);repeat' (first|((first|refine kA ?_|(apply Br.mk<;>intro hc))<;>first|exact hc.elim|conv=>whnf)|refine kB ?_)
  exact hQ _ _ _ _ _ hn
theorem Apv {g:GG} {m:GM} (hf:Fair g) {c:Nat} {go:Nat} {b:Bool} {ln:Nat} (hln:ln=g.nodes.length) {Q:AQ→Env→Am→Prop}
 (hQ:∀c' go b n tl,n=(g.nodes.flatMap (CW · m)).length→Q (.exit 1) ([(3,.ref 1 1 0 0),(8,.own 2 go 0 n)]++tl) ⟨[.arr 0 4 true true [g.av],.arr 1 15 true true [m.av],.arr go 10 b true (vs GC.av (g.nodes.flatMap (CW · m)))],c'⟩):
 Run (Ad tab) (.loop l23_1_h l23_1_b) [(3,.ref 1 1 0 0),(8,.own 2 go 0 0),(29,.sl g.nn (vs GN.av g.nodes)),(30,.int .i64 ln),(31,.int .i64 0)] ⟨[.arr 0 4 true true [g.av],.arr 1 15 true true [m.av],.arr go 10 b true []],c⟩ Q:=by
 have hE:=hf.2.1
 subst hln
 refine Ag (fun z env s=>∃(i c go n:Nat) (b:Bool) (L:List GC),z=g.nodes.length-i∧i≤g.nodes.length∧L=(g.nodes.take i).flatMap (CW · m)∧n=L.length∧L.length≤2*i∧env=[(3,.ref 1 1 0 0),(8,.own 2 go 0 n),(29,.sl g.nn (vs GN.av g.nodes)),(30,.int .i64 g.nodes.length),(31,.int .i64 i)]∧s=⟨[.arr 0 4 true true [g.av],.arr 1 15 true true [m.av],.arr go 10 b true (vs GC.av L)],c⟩) ?_ _ _ _ ⟨0,_,_,_,_,[],rfl,by omega,rfl,rfl,by simp,rfl,rfl⟩
 rintro _ _ _ ⟨i,c,go,n,b,L,rfl,hi,hL,hn,hlen,rfl,rfl⟩
 refine⟨rfl,?_⟩
 by_cases hlt:i<g.nodes.length
 ·have hs:=Aa6 (f:=(CW · m)) hlt
  rw[← hL]at hs
  have hp:=hf.2.2.2.1 _ (List.getElem_mem hlt)
  have hb:=Vu g.nodes[i] m
  (conv=>whnf);repeat' (first|((first|(refine Aa (AjZ (n:=g.nodes[i]) (m:=m) (by have:=hp.1;omega) hp.2) ?_;rintro _ ⟨b9,rfl,_⟩)|refine AjK (f:=GC.av) (l':=CW g.nodes[i] m) rfl Zt hn (by omega) (fun b=>?_)|refine kA ?_|(apply Br.mk<;>intro hc))<;>first|exact hc.elim|conv=>whnf)|refine kB ?_)
  all_goals first
   |exact again.mk ⟨_,by omega,i+1,_,_,_,_,_,rfl,by omega,hs.symm,by simp,Xh (f:=(CW · m)) hlt hb hlen,rfl,rfl⟩
   |exact again.mk ⟨_,by omega,i+1,_,_,_,_,_,rfl,by omega,hs.symm,by simp,Xh (f:=(CW · m)) hlt hb hlen,rfl,rfl⟩
 ·rw[List.take_of_length_le (by omega)]at hL
  subst hL
  (conv=>whnf);repeat' (first|((first|refine kA ?_|(apply Br.mk<;>intro hc))<;>first|exact hc.elim|conv=>whnf)|refine kB ?_)
  exact hQ _ _ _ _ _ hn
set_option maxHeartbeats 2000000 in
theorem AfK {g:GG} {m:GM} (hg:g.ok) (hm:m.ok) (hf:AZ g=0→Fair g):Ae (Ad tab) 23 [g.av,m.av] (fun v=>∃b,v=.BD [.sl b (vs GC.av (Gw g m).1),.int .i64 (Gw g m).2]):=by
 by_cases h1:EW m=0
 case neg=>
  rw[AfG h1]
  refine Ac rfl rfl ?_
  (conv=>whnf);repeat' (first|((first|refine kE (Ajd hm) ?_|refine kA ?_|(apply Br.mk<;>intro hc))<;>first|exact hc.elim|conv=>whnf)|refine kB ?_)
  all_goals first|exact⟨_,rfl⟩|(exfalso;omega)
 have hM:=Ajd hm
 rw[h1]at hM
 by_cases h2:AZ g=0
 case neg=>
  rw[AfH h1 h2]
  refine Ac rfl rfl ?_
  (conv=>whnf);repeat' (first|((first|refine kE hM ?_|refine kE (V6 hg) ?_|refine kA ?_|(apply Br.mk<;>intro hc))<;>first|exact hc.elim|conv=>whnf)|refine kB ?_)
  all_goals first|exact⟨_,rfl⟩|(exfalso;omega)
 have hF:=hf h2
 have hC:=V6 hg
 rw[h2]at hC
 by_cases h3:FU g m
 ·rw[AfI h1 h2 h3]
  refine Ac rfl rfl ?_
  (conv=>whnf);repeat' (first|((first|refine kE hM ?_|refine kE hC ?_|refine Aq (AeJ hF) (fun hz=>?_) (fun hz=>?_)|refine kA ?_|(apply Br.mk<;>intro hc))<;>first|exact hc.elim|conv=>whnf)|refine kB ?_)
  all_goals first|exact⟨_,rfl⟩|(exfalso;exact absurd h3 (by assumption))|(exfalso;omega)
 rw[AfJ h1 h2 h3]
 have hT:=AeJ (m:=m) hF
 rw[decide_eq_false h3]at hT
 by_cases k2:m.k=2
 ·have e1:UA g m=g.edges.flatMap (FI · m):=by rw[UA,Uc (by omega) (by omega) (by omega) (by omega)];rfl
  rw[e1]
  refine Ac rfl rfl ?_
  (conv=>whnf);repeat' (first|((first|refine kE hM ?_|refine kE hC ?_|refine kE hT ?_|refine kA ?_|(apply Br.mk<;>intro hc))<;>first|exact hc.elim|conv=>whnf)|refine kB ?_)
  all_goals first
   |(exfalso;omega)
   |(refine Apu hF k2 rfl ?_
     intro c' go b n tl hn
     (conv=>whnf);repeat' (first|((first|refine kA ?_|(apply Br.mk<;>intro hc))<;>first|exact hc.elim|conv=>whnf)|refine kB ?_)
     all_goals first|exact⟨b,by rw[hn,JU,List.drop_zero,List.take_length];rfl⟩)
 by_cases k6:m.k=6∨m.k=7
 ·have e1:UA g m=[]:=by rw[UA,Uc (by omega) (by omega) (by omega) (by omega),Ud k2];rfl
  rw[e1]
  refine Ac rfl rfl ?_
  (conv=>whnf);repeat' (first|((first|refine kE hM ?_|refine kE hC ?_|refine kE hT ?_|refine kA ?_|(apply Br.mk<;>intro hc))<;>first|exact hc.elim|conv=>whnf)|refine kB ?_)
  all_goals first
   |(exfalso;omega)
   |exact⟨_,rfl⟩
 ·have e1:UA g m=g.nodes.flatMap (CW · m):=by rw[UA,Ud k2,List.append_nil]
  rw[e1]
  refine Ac rfl rfl ?_
  (conv=>whnf);repeat' (first|((first|refine kE hM ?_|refine kE hC ?_|refine kE hT ?_|refine kA ?_|(apply Br.mk<;>intro hc))<;>first|exact hc.elim|conv=>whnf)|refine kB ?_)
  all_goals first
   |(exfalso;omega)
   |(refine Apv hF rfl ?_
     intro c' go b n tl hn
     (conv=>whnf);repeat' (first|((first|refine kA ?_|(apply Br.mk<;>intro hc))<;>first|exact hc.elim|conv=>whnf)|refine kB ?_)
     all_goals first|exact⟨b,by rw[hn,JU,List.drop_zero,List.take_length];rfl⟩)
theorem weigh {ps:List GP} {nn:Bool} (hl:Ln ps) (hp:∀p∈ps,p.ok) {left:Int} (h1:-9223372036854775808≤left) (h2:left≤2000):
 Ae (Ad tab) 46 [.sl nn (vs GP.av ps),.int .i64 left] (fun v=>∃r,v=.int .i64 r∧-9223372036854775808≤r∧r≤2000∧(0≤r→r+ps.length≤left∧∀p∈ps,p.key.length≤101000∧Gx 12 p.v.av)):=by
 unfold Ln at hl
 refine Ac rfl rfl ?_
 (conv=>whnf);repeat' (first|((first|refine kA ?_|(apply Br.mk<;>intro hc))<;>first|exact hc.elim|conv=>whnf)|refine kB ?_)
 refine Ag (fun m env s=>∃(i:Nat) (cur:Int),m=ps.length-i∧env=[(0,.sl nn (vs GP.av ps)),(1,.int .i64 cur),(5,.int .i64 i)]∧s=⟨[],0⟩∧
  -9223372036854775808≤cur∧cur≤2000∧(0≤cur→cur+i≤left∧∀p∈ps.take i,p.key.length≤101000∧Gx 12 p.v.av)) ?_ _ _ _ ⟨0,_,rfl,rfl,rfl,by omega,by omega,fun h=>⟨by omega,by simp⟩⟩
 rintro _ _ _ ⟨i,cur,rfl,rfl,rfl,b1,b2,hx⟩
 refine⟨rfl,?_⟩
 have hat:∀(h:i<ps.length),(ps[i]).ok:=fun h=>hp _ (List.getElem_mem _)
 have hk:∀(h:i<ps.length),(ps[i]).key.length<2^63:=fun h=>(hat h).1
 (conv=>whnf);repeat' (first|((first|refine kA ?_|(apply Br.mk<;>intro hc)|refine VD (hk (by omega)) ?_|(have hwr:=hk (by omega);apply BI;(· exact wrap_i64 (by omega) (by omega));clear hwr))<;>first|exact hc.elim|conv=>whnf)|refine kB ?_)
 ·refine Aa (wei 12 (by omega) (hat (by omega)).2 (by have:=hk (by omega);omega) (by omega)) ?_
  rintro _ ⟨r,rfl,r1,r2,r3⟩
  (conv=>whnf);repeat' (first|((first|refine kA ?_|(apply Br.mk<;>intro hc))<;>first|exact hc.elim|conv=>whnf)|refine kB ?_)
  exact again.mk ⟨_,by omega,i+1,r,rfl,rfl,rfl,by omega,by omega,fun h=>⟨by have:=hx (by omega);have:=r3 h;omega,Bl (by omega) (hx (by omega)).2 ⟨by have:=r3 h;omega,(r3 h).2⟩⟩⟩
 ·exact⟨_,rfl,by omega,by omega,fun h=>absurd h (by omega)⟩
 ·refine⟨_,rfl,by omega,by omega,fun h=>?_⟩
  obtain⟨x1,x2⟩:=hx h
  rw[BN hc]at x2
  exact⟨by omega,x2⟩
def SmP (ps:List GP):Prop:=ps.length≤2000∧∀p∈ps,p.key.length≤101000∧Gx 12 p.v.av
def SmN (n:GN):Prop:=n.labels.length≤2000∧(∀ s∈n.labels,s.length≤101000)∧SmP n.props
def SmE (e:GE):Prop:=e.ty.length≤101000∧SmP e.props
def SmG (g:GG) (n e:Int):Prop:=g.nodes.length≤n∧g.edges.length≤e∧(∀ n∈g.nodes,SmN n)∧∀e∈g.edges,SmE e
theorem small {g:GG} (hg:g.ok) {n e:Int}:Ae (Ad tab) 22 [g.av,.int .i64 n,.int .i64 e] (fun v=>∃b,v=.bool b∧(b=true→SmG g n e)):=by
 obtain⟨g1,g2,g3,g4,g5,g6,g7,g8⟩:=hg
 unfold Ln at g1 g4
 refine Ac rfl rfl ?_
 (conv=>whnf);repeat' (first|((first|refine kA ?_|(apply Br.mk<;>intro hc))<;>first|exact hc.elim|conv=>whnf)|refine kB ?_)
 ·exact⟨_,rfl,fun h=>by cases h⟩
 ·exact⟨_,rfl,fun h=>by cases h⟩
 refine Ag (fun m env s=>∃(i c:Nat) (left:Int),m=g.nodes.length-i∧env=[(3,.ref 0 0 0 0),(7,.int .i64 left),(8,.int .i64 i)]∧s=⟨[.arr 0 4 true true [g.av]],c⟩∧-9223372036854775808≤left∧left≤2000∧(0≤left→∀n∈g.nodes.take i,SmN n)) ?_ _ _ _ ⟨0,1,2000,rfl,rfl,rfl,by omega,by omega,fun _=>by simp⟩
 rintro _ _ _ ⟨i,c,left,rfl,rfl,rfl,b1,b2,hx⟩
 refine⟨rfl,?_⟩
 have hat:∀h:i<g.nodes.length,(g.nodes[i]).ok:=fun h=>g3 _ (List.getElem_mem _)
 have hk:∀h:i<g.nodes.length,(g.nodes[i]).labels.length<2^63:=fun h=>(hat h).2.1
 (conv=>whnf);repeat' (first|((first|refine kA ?_|(apply Br.mk<;>intro hc)|(have hwr:=hk (by omega);apply BI;(· exact wrap_i64 (by omega) (by omega));clear hwr))<;>first|exact hc.elim|conv=>whnf)|refine kB ?_)
 rotate_left
 ·have hN:0≤left→∀n∈g.nodes,SmN n:=fun h=>absurd h (by omega)
  refine Ag (fun m env s=>∃(i c:Nat) (left:Int),m=g.edges.length-i∧env=[(3,.ref 0 0 0 0),(7,.int .i64 left),(11,.int .i64 i)]∧s=⟨[.arr 0 4 true true [g.av]],c⟩∧-9223372036854775808≤left∧left≤2000∧(0≤left→(∀ n∈g.nodes,SmN n)∧∀n∈g.edges.take i,SmE n)) ?_ _ _ _ ⟨0,_,left,rfl,rfl,rfl,by omega,by omega,fun h=>⟨hN h,by simp⟩⟩
  clear hN hx hat hk b1 b2 hc
  rintro _ _ _ ⟨i,c,left,rfl,rfl,rfl,b1,b2,hx⟩
  refine⟨rfl,?_⟩
  have hat:∀h:i<g.edges.length,(g.edges[i]).ok:=fun h=>g6 _ (List.getElem_mem _)
  have hk:∀h:i<g.edges.length,(g.edges[i]).ty.length<2^63:=fun h=>(hat h).2.2.2.1
  (conv=>whnf);repeat' (first|((first|refine kA ?_|(apply Br.mk<;>intro hc)|refine VD (hk (by omega)) ?_|(have hwr:=hk (by omega);apply BI;(· exact wrap_i64 (by omega) (by omega));clear hwr))<;>first|exact hc.elim|conv=>whnf)|refine kB ?_)
  ·refine Aa (weigh (hat (by omega)).2.2.2.2.1 (hat (by omega)).2.2.2.2.2.2 (by have:=hk (by omega);omega) (by omega)) ?_
   rintro _ ⟨r,rfl,r1,r2,r3⟩
   (conv=>whnf);repeat' (first|((first|refine kA ?_|(apply Br.mk<;>intro hc))<;>first|exact hc.elim|conv=>whnf)|refine kB ?_)
   have hk1:=hk (by omega)
   exact again.mk ⟨_,by omega,i+1,_,r,rfl,rfl,rfl,by omega,by omega,fun h=>⟨(hx (by omega)).1,Bl (by omega) (hx (by omega)).2 ⟨by have:=r3 h;omega,by have:=r3 h;omega,(r3 h).2⟩⟩⟩
  all_goals first
   |exact⟨_,rfl,fun h=>absurd h Bool.false_ne_true⟩
   |(refine ⟨_,rfl,fun h=>?_⟩
     rename_i hc1
     obtain⟨x1,x2⟩:=hx hc
     rw[BN hc1]at x2
     exact⟨by omega,by omega,x1,x2⟩)
 ·have hN:0≤left→∀n∈g.nodes,SmN n:=by rw[BN hc]at hx;exact hx
  refine Ag (fun m env s=>∃(i c:Nat) (left:Int),m=g.edges.length-i∧env=[(3,.ref 0 0 0 0),(7,.int .i64 left),(11,.int .i64 i)]∧s=⟨[.arr 0 4 true true [g.av]],c⟩∧-9223372036854775808≤left∧left≤2000∧(0≤left→(∀ n∈g.nodes,SmN n)∧∀n∈g.edges.take i,SmE n)) ?_ _ _ _ ⟨0,_,left,rfl,rfl,rfl,by omega,by omega,fun h=>⟨hN h,by simp⟩⟩
  clear hN hx hat hk b1 b2 hc
  rintro _ _ _ ⟨i,c,left,rfl,rfl,rfl,b1,b2,hx⟩
  refine⟨rfl,?_⟩
  have hat:∀h:i<g.edges.length,(g.edges[i]).ok:=fun h=>g6 _ (List.getElem_mem _)
  have hk:∀h:i<g.edges.length,(g.edges[i]).ty.length<2^63:=fun h=>(hat h).2.2.2.1
  (conv=>whnf);repeat' (first|((first|refine kA ?_|(apply Br.mk<;>intro hc)|refine VD (hk (by omega)) ?_|(have hwr:=hk (by omega);apply BI;(· exact wrap_i64 (by omega) (by omega));clear hwr))<;>first|exact hc.elim|conv=>whnf)|refine kB ?_)
  ·refine Aa (weigh (hat (by omega)).2.2.2.2.1 (hat (by omega)).2.2.2.2.2.2 (by have:=hk (by omega);omega) (by omega)) ?_
   rintro _ ⟨r,rfl,r1,r2,r3⟩
   (conv=>whnf);repeat' (first|((first|refine kA ?_|(apply Br.mk<;>intro hc))<;>first|exact hc.elim|conv=>whnf)|refine kB ?_)
   have hk1:=hk (by omega)
   exact again.mk ⟨_,by omega,i+1,_,r,rfl,rfl,rfl,by omega,by omega,fun h=>⟨(hx (by omega)).1,Bl (by omega) (hx (by omega)).2 ⟨by have:=r3 h;omega,by have:=r3 h;omega,(r3 h).2⟩⟩⟩
  all_goals first
   |exact⟨_,rfl,fun h=>absurd h Bool.false_ne_true⟩
   |(refine ⟨_,rfl,fun h=>?_⟩
     rename_i hc1
     obtain⟨x1,x2⟩:=hx hc
     rw[BN hc1]at x2
     exact⟨by omega,by omega,x1,x2⟩)
 refine Aa (weigh (hat (by omega)).2.2.2.2.1 (hat (by omega)).2.2.2.2.2.2 (by have:=hk (by omega);omega) (by omega)) ?_
 rintro _ ⟨r,rfl,r1,r2,r3⟩
 (conv=>whnf);repeat' (first|((first|refine kA ?_|(apply Br.mk<;>intro hc))<;>first|exact hc.elim|conv=>whnf)|refine kB ?_)
 refine Ag (fun m env s=>∃(j:Nat) (l2:Int),m=(g.nodes[i]).labels.length-j∧env=[(3,.ref 0 0 0 0),(7,.int .i64 l2),(8,.int .i64 i),(9,.ref 1 c 0 0),(10,.int .i64 j)]∧s=⟨[.arr 0 4 true true [g.av],.arr c 3 true true [(g.nodes[i]).av]],c+1⟩∧-9223372036854775808≤l2∧l2≤2000∧(0≤l2→0≤r∧∀s∈(g.nodes[i]).labels.take j,s.length≤101000)) ?_ _ _ _ ⟨0,r,rfl,rfl,rfl,by omega,by omega,fun h=>⟨h,by simp⟩⟩
 rintro _ _ _ ⟨j,l2,rfl,rfl,rfl,d1,d2,hy⟩
 refine⟨rfl,?_⟩
 have hlb:∀h:j<(g.nodes[i]).labels.length,((g.nodes[i]).labels[j]).length<2^63:=fun h=>(hat (by omega)).2.2.2.1 _ (List.getElem_mem _)
 have hk1:=hk (by omega)
 (conv=>whnf);repeat' (first|((first|refine kA ?_|(apply Br.mk<;>intro hc)|refine VD (hlb (by omega)) ?_|(have hwr:=hlb (by omega);apply BI;(· exact wrap_i64 (by omega) (by omega));clear hwr))<;>first|exact hc.elim|conv=>whnf)|refine kB ?_)
 ·have:=hlb (by omega)
  exact again.mk ⟨_,by omega,j+1,_,rfl,rfl,rfl,by omega,by omega,fun h=>⟨(hy (by omega)).1,Bl (by omega) (hy (by omega)).2 (by omega)⟩⟩
 ·exact again.mk ⟨_,by omega,i+1,_,l2,rfl,rfl,rfl,by omega,by omega,fun h=>absurd h (by omega)⟩
 ·refine again.mk ⟨_,by omega,i+1,_,l2,rfl,rfl,rfl,by omega,by omega,fun h=>?_⟩
  obtain⟨y1,y2⟩:=hy h
  rw[BN hc]at y2
  have:=r3 y1
  exact Bl (by omega) (hx (by omega)) ⟨by omega,y2,by omega,this.2⟩
theorem AfE {α β:Type} {f:α→List β} {l:List α} {k:Nat} (h:∀x∈l,(f x).length≤k):(l.flatMap f).length≤k*l.length:=by
 induction l with
 |nil=>simp
 |cons a l ih=>
  have h1:=h a (by simp)
  have h2:=ih fun x hx=>h x (by simp[hx])
  rw[List.flatMap_cons,List.length_append,List.length_cons,Nat.mul_succ];omega
theorem AfF {g:GG} {m:GM} (h:AZ g=0→Fair g):(Gw g m).1.length<2^62:=by
 by_cases h1:EW m=0
 case neg=>rw[AfG h1];simp
 by_cases h2:AZ g=0
 case neg=>rw[AfH h1 h2];simp
 by_cases h3:FU g m
 ·rw[AfI h1 h2 h3];simp
 rw[AfJ h1 h2 h3]
 have hf:=h h2
 have a:=AfE (f:=(CW · m)) (l:=g.nodes) (k:=2) fun x _=>Vu x m
 have b:=AfE (f:=(FI · m)) (l:=g.edges) (k:=2002) fun x hx=>by have:=Vw x m;have:=(hf.2.2.2.2 x hx).1.1;omega
 have:=hf.2.1
 have:=hf.2.2.1
 simp only[UA,List.length_append]
 omega
theorem Alp {v:GV} (hv:v.ok):Ae (Ad tab) 41 [.sl true [.sl true [v.av]],.int .i64 60] (fun w=>∃b,w=.bool b∧(b=true→Gx 12 v.av)):=by
 refine Ac rfl rfl ?_
 (conv=>whnf);repeat' (first|((first|refine kA ?_|(apply Br.mk<;>intro hc))<;>first|exact hc.elim|conv=>whnf)|refine kB ?_)
 refine DR ?_ rfl
 (conv=>whnf);repeat' (first|((first|refine kA ?_|(apply Br.mk<;>intro hc))<;>first|exact hc.elim|conv=>whnf)|refine kB ?_)
 all_goals first|(exfalso;simp_all;done)|skip
 refine DR ?_ rfl
 (conv=>whnf);repeat' (first|((first|(refine Aa (wei 12 (by omega) hv (by omega) (by omega)) ?_;rintro _ ⟨r,rfl,r1,r2,r3⟩)|refine kA ?_|(apply Br.mk<;>intro hc))<;>first|exact hc.elim|conv=>whnf)|refine kB ?_)
 all_goals first|(exfalso;simp_all;done)|skip
 refine DR ?_ rfl
 (conv=>whnf);repeat' (first|((first|refine kA ?_|(apply Br.mk<;>intro hc))<;>first|exact hc.elim|conv=>whnf)|refine kB ?_)
 all_goals first|(exfalso;simp_all;done)|skip
 refine DR ?_ rfl
 (conv=>whnf);repeat' (first|((first|refine kA ?_|(apply Br.mk<;>intro hc))<;>first|exact hc.elim|conv=>whnf)|refine kB ?_)
 all_goals first
  |(exfalso;simp_all;done)
  |exact⟨_,rfl,fun _=>(r3 (by assumption)).2⟩
  |exact⟨_,rfl,fun h=>Bool.noConfusion h⟩
theorem Aia {z:Int} {K:AV→Prop} (h:∀y,K (.int .i64 y)):Jk .i64 z K:=BI rfl (h _)
theorem AjT {m:GM} (hm:m.ok):Ae (Ad tab) 17 [m.av] (fun v=>∃b,v=.bool b∧(b=true→Gx 12 m.v.av)):=by
 obtain⟨_,⟨b,rfl,hb⟩,hp⟩:=(Alp hm.2.2.2.2.1).KI
 cases b
 all_goals
  refine Ac rfl rfl ?_
  (conv=>whnf);repeat' (first|((first|refine kE hp ?_|refine Aia (fun y=>?_)|refine kA ?_|(apply Br.mk<;>intro hc))<;>first|exact hc.elim|conv=>whnf)|refine kB ?_)
 all_goals first|exact⟨_,rfl,hb⟩|exact⟨_,rfl,fun h=>Bool.noConfusion h⟩|exact⟨_,rfl,fun _=>hb rfl⟩
def Anv (M:GR→Prop) (v:AV):Prop:=∃b W,v=.BD [.sl b (vs GR.av W),.int .i64 0]∧W.Pairwise (fun x y=>BX x y=true)∧W.length<2^61∧∀y,y∈W↔M y
def Ab6 (e:Int) (M:GR→Prop) (v:AV):Prop:=(e≠0→v=.BD [.sl false [],.int .i64 e])∧(e=0→Anv M v)
theorem Ll {e k:Int} {M:GR→Prop} (h:k=e) (h0:k≠0):Ab6 e M (.BD [.sl false [],.int .i64 k]):=by subst h;exact⟨fun _=>rfl,fun h=>absurd h h0⟩
theorem WJ {e:Int} {M:GR→Prop} {v:AV} (h:e=0) (h2:Anv M v):Ab6 e M v:=⟨fun k=>absurd h k,fun _=>h2⟩
noncomputable def TU (l:List GR) (x:GR):Int:=by
 classical exact if¬Du l then 19 else if Dt x≠0 then Dt x else if x∈l then 7 else if l.length=40 then 20 else 0
noncomputable def Q7 (l:List GR) (x:GR):Int:=by
 classical exact if¬Du l then 19 else if Dt x≠0 then Dt x else if x∉l then 23 else 0
theorem Acp {l:List GR} {x:GR} {z:Nat} (hs:l.Pairwise fun x y=>BX x y=true) (hp:AeZ l x z) (hx:x∉l):
 (l.take z++x::l.drop z).Pairwise (fun x y=>BX x y=true)∧∀y,y∈l.take z++x::l.drop z↔y∈l∨y=x:=by
 constructor
 ·have h0:=List.take_append_drop z l
  rw[← h0]at hs
  rw[List.pairwise_append]at hs ⊢
  obtain⟨a,b,c⟩:=hs
  have lo:∀y∈l.take z,BX y x=true:=fun y hy=>by
   obtain⟨k,hk,e⟩:=List.getElem_of_mem hy
   rw[List.length_take]at hk
   rw[List.getElem_take]at e
   rw[← e];exact hp.lo k (by omega) (by omega)
  have hi:∀y∈l.drop z,BX x y=true:=fun y hy=>by
   obtain⟨k,hk,e⟩:=List.getElem_of_mem hy
   rw[List.length_drop]at hk
   rw[List.getElem_drop]at e
   have h1:=hp.hi (z+k) (by omega) (by omega)
   rw[e]at h1
   cases h2:BX x y with
   |true=>rfl
   |false=>exact absurd (Aas _ _ h1 h2) (fun e2=>hx (by rw[← e2,←e];exact List.getElem_mem _))
  refine⟨a,List.pairwise_cons.2 ⟨hi,b⟩,fun y hy w hw=>?_⟩
  rcases List.mem_cons.1 hw with rfl|hw
  ·exact lo y hy
  ·exact c y hy w hw
 ·intro y
  conv=>rhs;rw[← List.take_append_drop z l]
  simp only[List.mem_append,List.mem_cons]
  constructor
  ·rintro(h|h|h)<;>simp[h]
  ·rintro((h|h)|h)<;>simp[h]
theorem Acr {l:List GR} {x:GR} {z:Nat} (hs:l.Pairwise fun x y=>BX x y=true) (hz:z<l.length) (hx:l[z]=x):
 (l.take z++l.drop (z+1)).Pairwise (fun x y=>BX x y=true)∧∀y,y∈l.take z++l.drop (z+1)↔y∈l∧y≠x:=by
 have h0:l=l.take z++x::l.drop (z+1):=by rw[← hx,←List.drop_eq_getElem_cons hz,List.take_append_drop]
 have hs2:=hs
 rw[h0]at hs2
 rw[List.pairwise_append,List.pairwise_cons]at hs2
 obtain⟨a,⟨b1,b2⟩,c⟩:=hs2
 constructor
 ·exact List.pairwise_append.2 ⟨a,b2,fun y hy w hw=>c y hy w (by simp[hw])⟩
 ·intro y
  have n1:y∈l.take z→y≠x:=fun h e=>by have:=c y h x (by simp);rw[e,Es.irrefl]at this;cases this
  have n2:y∈l.drop (z+1)→y≠x:=fun h e=>by have:=b1 y h;rw[e,Es.irrefl]at this;cases this
  constructor
  ·intro h
   rcases List.mem_append.1 h with h|h
   ·exact⟨List.mem_of_mem_take h,n1 h⟩
   ·exact⟨List.mem_of_mem_drop h,n2 h⟩
  ·rintro⟨h,hne⟩
   rw[h0]at h
   simp only[List.mem_append,List.mem_cons]at h
   rcases h with h|h|h
   ·exact List.mem_append.2 (.inl h)
   ·exact absurd h hne
   ·exact List.mem_append.2 (.inr h)
theorem Ah4 {g es:Nat} {ys:List AV} {bytes:Nat} {K:Nat→Bool→Bool→List AV→Prop} (hs:Bc es ys) (hr:ys.length*bytes≤2 ^ 46) (h:K ys.length true true ys):
 IW g g es es 0 true true true [] ys bytes K:=by
 refine⟨⟨rfl,rfl,by simp,hs,?_⟩,?_⟩
 ·rw[Nat.zero_add];exact Jq hr
 ·rw[Nat.zero_add];exact h
theorem Ah5:Ar (Ad tab) 26 [.sl false []] ⟨[],0⟩ fun out _=>out=.ok (.sl false []):=by
 refine Ai rfl rfl ?_
 (conv=>whnf);repeat' (first|((first|refine kA ?_|(apply Br.mk<;>intro hc))<;>first|exact hc.elim|conv=>whnf)|refine kB ?_)
 rfl
theorem Afz {l:List GR} (hl:l.length≤2000):Ar (Ad tab) 26 [.sl true (vs GR.av l)] ⟨[],0⟩ fun out s'=>∃o g,out=.ok (.own o g 0 (vs GR.av l).length)∧nth s'.σ o=some (.arr g 6 true true (vs GR.av l)):=by
 refine Ai rfl rfl ?_
 (conv=>whnf);repeat' (first|((first|refine kA ?_|(apply Br.mk<;>intro hc))<;>first|exact hc.elim|conv=>whnf)|refine kB ?_)
 refine Ah4 (Cj (f:=GR.av) (fun _=>rfl) l) (by rw[lV];omega) ?_
 (conv=>whnf);repeat' (first|((first|refine kA ?_|(apply Br.mk<;>intro hc))<;>first|exact hc.elim|conv=>whnf)|refine kB ?_)
 exact⟨_,_,rfl,rfl⟩
theorem Apq {Bv:Obj} {g1 c:Nat} {z:Int} (hz:z=0) {x:GR} {K:AB→Am→Prop} (hK:K (.ok (.own 2 c 0 1)) ⟨[Bv,.arr g1 1 false true [],.arr c 6 true true [x.av]],c+1⟩):
 Ar (Ad tab) 115 [.own 1 g1 0 0,.int .i64 z,.sl true [x.av]] ⟨[Bv,.arr g1 1 false true []],c⟩ K:=
 Gs rfl (by subst hz;simp[VU,D5,nth,push,GR.av,AV.cells]) hK
theorem insL {Bv:Obj} {g1 c n z:Nat} {l:List GR} (hz:z≤l.length) (hl:l.length≤2000) (hn:n=l.length) {x:GR} {K:AB→Am→Prop} (hK:K (.ok (.own 1 c 0 (n+1))) ⟨[Bv,.arr c 6 true true (vs GR.av (l.take z++x::l.drop z))],c+1⟩):
 Ar (Ad tab) 115 [.own 1 g1 0 n,.int .i64 z,.sl true [x.av]] ⟨[Bv,.arr g1 6 true true (vs GR.av l)],c⟩ K:=by
 subst hn
 have e:List.take z (vs GR.av l)++[x.av]++List.drop z (vs GR.av l)=vs GR.av (l.take z++x::l.drop z):=by simp[vs,List.map_take,List.map_drop]
 have hx:(GR.av x).cells.length=6:=rfl
 refine Gs rfl ?_ hK
 unfold VU D5
 simp only[nth,lV,Int.toNat_natCast,hx,if_true,Bool.true_eq_false,if_false]
 rw[if_pos ⟨trivial,trivial,by omega,hz,Nat.le_refl _,by omega⟩]
 rw[← e,List.take_of_length_le (show (vs GR.av l).length≤l.length by simp)]
 rfl
theorem Anw {Bv:Obj} {g1 c n z:Nat} {y:Int} {l:List GR} (hz:z<l.length) (hy:y=(z:Int)+1) (hn:n=l.length) {K:AB→Am→Prop} (hK:K (.ok (.own 1 c 0 (n-1))) ⟨[Bv,.arr c 6 true true (vs GR.av (l.take z++l.drop (z+1)))],c+1⟩):
 Ar (Ad tab) 116 [.own 1 g1 0 n,.int .i64 z,.int .i64 y] ⟨[Bv,.arr g1 6 true true (vs GR.av l)],c⟩ K:=by
 subst hn
 have e:List.take z (vs GR.av l)++List.drop (z+1) (vs GR.av l)=vs GR.av (l.take z++l.drop (z+1)):=by simp[vs,List.map_take,List.map_drop]
 have hy2:y.toNat=z+1:=by omega
 refine Gs rfl ?_ hK
 unfold YP delSpec
 simp only[nth,lV,Int.toNat_natCast,hy2]
 rw[if_pos ⟨trivial,trivial,by omega,by omega,by omega,Nat.le_refl _⟩]
 rw[← e,List.take_of_length_le (show (vs GR.av l).length≤l.length by simp),show z+(l.length-(z+1))=l.length-1 by omega]
 rfl
def TV (v:AV):Prop:=∀b W e,v=.BD [.sl b W,e]→b=false→W=[]
theorem PS {x:AV}:TV (.BD [.sl false [],x]):=fun b W e h _=>by
 injection h with h;injection h with h1 h2;injection h1 with h3 h4;exact h4.symm
theorem AfA {W:List AV} {x:AV}:TV (.BD [.sl true W,x]):=fun b W e h hb=>by
 injection h with h;injection h with h1 h2;injection h1 with h3 h4;rw[hb]at h3;cases h3
theorem AmF {l:List GR} {nn:Bool} {x:GR} (hn:nn=false→l=[]) (hl:l.length<2^61) (hok:∀r∈l,r.ok) (hx:x.ok):Ae (Ad tab) 52 [.sl nn (vs GR.av l),x.av] (fun v=>Ab6 (TU l x) (fun y=>y∈l∨y=x) v∧TV v):=by
 have hv:=Agi (nn:=nn) (l:=l) (by omega) hok
 have hr:=NQ hx
 by_cases h1:Du l
 case neg=>
  rw[decide_eq_false h1]at hv
  refine Ac rfl rfl ?_
  (conv=>whnf);repeat' (first|((first|refine kE hv ?_|refine kA ?_|(apply Br.mk<;>intro hc))<;>first|exact hc.elim|conv=>whnf)|refine kB ?_)
  all_goals exact⟨Ll (by unfold TU;simp[h1]) (by omega),PS⟩
 rw[decide_eq_true h1]at hv
 by_cases h2:Dt x=0
 case neg=>
  refine Ac rfl rfl ?_
  (conv=>whnf);repeat' (first|((first|refine kE hv ?_|refine kE hr ?_|refine kA ?_|(apply Br.mk<;>intro hc))<;>first|exact hc.elim|conv=>whnf)|refine kB ?_)
  all_goals first|exact⟨Ll (by unfold TU;simp[h1,h2]) (by omega),PS⟩|(exfalso;omega)
 rw[h2]at hr
 obtain⟨_,⟨z,b,rfl,hp,hb⟩,hbs⟩:=(bsR (nn:=nn) (x:=x) hl (AeY h1)).KI
 cases b with
 |true=>
  refine Ac rfl rfl ?_
  (conv=>whnf);repeat' (first|((first|refine kE hv ?_|refine kE hr ?_|refine kE hbs ?_|refine kA ?_|(apply Br.mk<;>intro hc))<;>first|exact hc.elim|conv=>whnf)|refine kB ?_)
  all_goals first|exact⟨Ll (by unfold TU;simp[h1,h2,hb.1 rfl]) (by omega),PS⟩|(exfalso;omega)
 |false=>
  have h3:x∉l:=fun h=>Bool.noConfusion (hb.2 h)
  have hle:=hp.le
  have h40:=h1.1
  obtain⟨s1,s2⟩:=Acp (AeY h1) hp h3
  by_cases h4:l.length=40
  ·refine Ac rfl rfl ?_
   (conv=>whnf);repeat' (first|((first|refine kE hv ?_|refine kE hr ?_|refine kE hbs ?_|refine kA ?_|(apply Br.mk<;>intro hc))<;>first|exact hc.elim|conv=>whnf)|refine kB ?_)
   all_goals first|exact⟨Ll (by unfold TU;simp[h1,h2,h3,h4]) (by omega),PS⟩|(exfalso;omega)
  ·have he:TU l x=0:=by unfold TU;simp[h1,h2,h3,h4]
   cases nn with
   |false=>
    obtain rfl:=hn rfl
    refine Ac rfl rfl ?_
    (conv=>whnf);repeat' (first|((first|refine kE hv ?_|refine kE hr ?_|refine kE hbs ?_|refine FW rfl Ah5 ?_|refine kA ?_|(apply Br.mk<;>intro hc))<;>first|exact hc.elim|conv=>whnf)|refine kB ?_)
    refine Apq (by simp at hle;omega) ?_
    (conv=>whnf);repeat' (first|((first|refine kA ?_|(apply Br.mk<;>intro hc))<;>first|exact hc.elim|conv=>whnf)|refine kB ?_)
    refine⟨WJ he ⟨true,[]++[x],rfl,?_,by simp,fun y=>by simp⟩,AfA⟩
    simp
   |true=>
    refine Ac rfl rfl ?_
    (conv=>whnf);repeat' (first|((first|refine kE hv ?_|refine kE hr ?_|refine kE hbs ?_|refine RY rfl (Afz (by omega)) ?_|refine kA ?_|(apply Br.mk<;>intro hc))<;>first|exact hc.elim|conv=>whnf)|refine kB ?_)
    refine insL (by omega) (by omega) (lV _) ?_
    (conv=>whnf);repeat' (first|((first|refine kA ?_|(apply Br.mk<;>intro hc))<;>first|exact hc.elim|conv=>whnf)|refine kB ?_)
    have e:sub (vs GR.av (l.take z++x::l.drop z)) 0 ((vs GR.av l).length+1)=vs GR.av (l.take z++x::l.drop z):=by
       rw[JU,List.drop_zero,List.take_of_length_le (by simp;omega)]
    refine⟨WJ he ⟨true,l.take z++x::l.drop z,?_,s1,by simp;omega,s2⟩,AfA⟩
    show AV.BD [.sl true (sub (vs GR.av (l.take z++x::l.drop z)) 0 ((vs GR.av l).length+1)),.int .i64 0]=_
    rw[e]
theorem Akd {l:List GR} {nn:Bool} {x:GR} (hn:nn=false→l=[]) (hl:l.length<2^61) (hok:∀r∈l,r.ok) (hx:x.ok):Ae (Ad tab) 53 [.sl nn (vs GR.av l),x.av] (fun v=>Ab6 (Q7 l x) (fun y=>y∈l∧y≠x) v∧TV v):=by
 have hv:=Agi (nn:=nn) (l:=l) (by omega) hok
 have hr:=NQ hx
 by_cases h1:Du l
 case neg=>
  rw[decide_eq_false h1]at hv
  refine Ac rfl rfl ?_
  (conv=>whnf);repeat' (first|((first|refine kE hv ?_|refine kA ?_|(apply Br.mk<;>intro hc))<;>first|exact hc.elim|conv=>whnf)|refine kB ?_)
  all_goals exact⟨Ll (by unfold Q7;simp[h1]) (by omega),PS⟩
 rw[decide_eq_true h1]at hv
 by_cases h2:Dt x=0
 case neg=>
  refine Ac rfl rfl ?_
  (conv=>whnf);repeat' (first|((first|refine kE hv ?_|refine kE hr ?_|refine kA ?_|(apply Br.mk<;>intro hc))<;>first|exact hc.elim|conv=>whnf)|refine kB ?_)
  all_goals first|exact⟨Ll (by unfold Q7;simp[h1,h2]) (by omega),PS⟩|(exfalso;omega)
 rw[h2]at hr
 obtain⟨_,⟨z,b,rfl,hp,hb⟩,hbs⟩:=(bsR (nn:=nn) (x:=x) hl (AeY h1)).KI
 cases b with
 |false=>
  have h3:x∉l:=fun h=>Bool.noConfusion (hb.2 h)
  refine Ac rfl rfl ?_
  (conv=>whnf);repeat' (first|((first|refine kE hv ?_|refine kE hr ?_|refine kE hbs ?_|refine kA ?_|(apply Br.mk<;>intro hc))<;>first|exact hc.elim|conv=>whnf)|refine kB ?_)
  all_goals first|exact⟨Ll (by unfold Q7;simp[h1,h2,h3]) (by omega),PS⟩|(exfalso;omega)
 |true=>
  have h3:=hb.1 rfl
  obtain⟨hz,hz2⟩:=(hp.mem (AeY h1)).1 h3
  obtain⟨s1,s2⟩:=Acr (AeY h1) hz hz2
  have h40:=h1.1
  have he:Q7 l x=0:=by unfold Q7;simp[h1,h2,h3]
  obtain rfl:nn=true:=by
   cases nn with
   |true=>rfl
   |false=>rw[hn rfl]at hz;simp at hz
  refine Ac rfl rfl ?_
  (conv=>whnf);repeat' (first|((first|refine kE hv ?_|refine kE hr ?_|refine kE hbs ?_|refine RY rfl (Afz (by omega)) ?_|refine kA ?_|(apply Br.mk<;>intro hc))<;>first|exact hc.elim|conv=>whnf)|refine kB ?_)
  refine Anw hz rfl (lV _) ?_
  (conv=>whnf);repeat' (first|((first|refine kA ?_|(apply Br.mk<;>intro hc))<;>first|exact hc.elim|conv=>whnf)|refine kB ?_)
  have e:sub (vs GR.av (l.take z++l.drop (z+1))) 0 ((vs GR.av l).length-1)=vs GR.av (l.take z++l.drop (z+1)):=by
   rw[JU,List.drop_zero,List.take_of_length_le (by simp;omega)]
  refine⟨WJ he ⟨true,l.take z++l.drop (z+1),?_,s1,by simp;omega,s2⟩,AfA⟩
  show AV.BD [.sl true (sub (vs GR.av (l.take z++l.drop (z+1))) 0 ((vs GR.av l).length-1)),.int .i64 0]=_
  rw[e]
def Jd (k:Int):Prop:=k=1∨k=2∨k=3
instance (k:Int):Decidable (Jd k):=by unfold Jd;infer_instance
def CS (s:List UInt8) (m:GM):List UInt8:=if s=m.fr then m.to else s
def D9 (r:GR) (m:GM):GR:=
 if m.k=1 then
    if Jd r.k then{r with name:=CS r.name m}
    else if r.k=6 then{r with fr:=CS r.fr m,to:=CS r.to m}else r
 else if m.k=2 then if Jd r.k then r else{r with name:=CS r.name m}
 else if m.k=3 then if Jd r.k∧r.name=m.label then{r with key:=CS r.key m}else r
 else r
def J5 (r:GR) (m:GM):Prop:=m.k=4∧Jd r.k∧r.name=m.label∧r.key=m.fr
instance (r:GR) (m:GM):Decidable (J5 r m):=by unfold J5;infer_instance
theorem AcG {r:GR}:Ae (Ad tab) 117 [r.av] (· =.bool (decide (Jd r.k))):=by
 refine Ac rfl rfl ?_
 (conv=>whnf);repeat' (first|((first|refine kA ?_|(apply Br.mk<;>intro hc))<;>first|exact hc.elim|conv=>whnf)|refine kB ?_)
 all_goals first|exact Bd (by unfold Jd;omega)|exact Au (by unfold Jd;omega)
theorem AlK {r:GR} {m:GM} {Qj N9:Obj} {g c:Nat} {K:AB→Am→Prop} (hK:∀YM c',K (.ok (.BD [])) ⟨[.arr g 6 true true [GR.av {r with name:=CS r.name m}],Qj,N9,YM],c'⟩):Ar (Ad tab) 118 [.ref 0 g 0 2,m.av] ⟨[.arr g 6 true true [r.av],Qj,N9],c⟩ K:=by
 refine Ai rfl rfl ?_
 by_cases h:r.name=m.fr
 ·have e:({r with name:=CS r.name m}:GR)={r with name:=m.to}:=by unfold CS;rw[if_pos h]
  rw[e]at hK
  (conv=>whnf);repeat' (first|((first|refine kA ?_|(apply Br.mk<;>intro hc))<;>first|exact hc.elim|conv=>whnf)|refine kB ?_)
  all_goals first|exact hK _ _|exact absurd h (by assumption)
 ·have e:({r with name:=CS r.name m}:GR)=r:=by unfold CS;rw[if_neg h]
  rw[e]at hK
  (conv=>whnf);repeat' (first|((first|refine kA ?_|(apply Br.mk<;>intro hc))<;>first|exact hc.elim|conv=>whnf)|refine kB ?_)
  all_goals first|exact hK _ _|exact absurd (by assumption) h
theorem An2 {r:GR} {m:GM} {Qj N9:Obj} {g c:Nat} {K:AB→Am→Prop} (hK:∀YM c',K (.ok (.BD [])) ⟨[.arr g 6 true true [GR.av {r with key:=CS r.key m}],Qj,N9,YM],c'⟩):Ar (Ad tab) 118 [.ref 0 g 0 3,m.av] ⟨[.arr g 6 true true [r.av],Qj,N9],c⟩ K:=by
 refine Ai rfl rfl ?_
 by_cases h:r.key=m.fr
 ·have e:({r with key:=CS r.key m}:GR)={r with key:=m.to}:=by unfold CS;rw[if_pos h]
  rw[e]at hK
  (conv=>whnf);repeat' (first|((first|refine kA ?_|(apply Br.mk<;>intro hc))<;>first|exact hc.elim|conv=>whnf)|refine kB ?_)
  all_goals first|exact hK _ _|exact absurd h (by assumption)
 ·have e:({r with key:=CS r.key m}:GR)=r:=by unfold CS;rw[if_neg h]
  rw[e]at hK
  (conv=>whnf);repeat' (first|((first|refine kA ?_|(apply Br.mk<;>intro hc))<;>first|exact hc.elim|conv=>whnf)|refine kB ?_)
  all_goals first|exact hK _ _|exact absurd (by assumption) h
theorem An3 {r:GR} {m:GM} {Qj N9:Obj} {g c:Nat} {K:AB→Am→Prop} (hK:∀YM c',K (.ok (.BD [])) ⟨[.arr g 6 true true [GR.av {r with fr:=CS r.fr m}],Qj,N9,YM],c'⟩):Ar (Ad tab) 118 [.ref 0 g 0 4,m.av] ⟨[.arr g 6 true true [r.av],Qj,N9],c⟩ K:=by
 refine Ai rfl rfl ?_
 by_cases h:r.fr=m.fr
 ·have e:({r with fr:=CS r.fr m}:GR)={r with fr:=m.to}:=by unfold CS;rw[if_pos h]
  rw[e]at hK
  (conv=>whnf);repeat' (first|((first|refine kA ?_|(apply Br.mk<;>intro hc))<;>first|exact hc.elim|conv=>whnf)|refine kB ?_)
  all_goals first|exact hK _ _|exact absurd h (by assumption)
 ·have e:({r with fr:=CS r.fr m}:GR)=r:=by unfold CS;rw[if_neg h]
  rw[e]at hK
  (conv=>whnf);repeat' (first|((first|refine kA ?_|(apply Br.mk<;>intro hc))<;>first|exact hc.elim|conv=>whnf)|refine kB ?_)
  all_goals first|exact hK _ _|exact absurd (by assumption) h
theorem An4 {r:GR} {m:GM} {Qj N9:Obj} {g c:Nat} {K:AB→Am→Prop} (hK:∀YM c',K (.ok (.BD [])) ⟨[.arr g 6 true true [GR.av {r with to:=CS r.to m}],Qj,N9,YM],c'⟩):Ar (Ad tab) 118 [.ref 0 g 0 5,m.av] ⟨[.arr g 6 true true [r.av],Qj,N9],c⟩ K:=by
 refine Ai rfl rfl ?_
 by_cases h:r.to=m.fr
 ·have e:({r with to:=CS r.to m}:GR)={r with to:=m.to}:=by unfold CS;rw[if_pos h]
  rw[e]at hK
  (conv=>whnf);repeat' (first|((first|refine kA ?_|(apply Br.mk<;>intro hc))<;>first|exact hc.elim|conv=>whnf)|refine kB ?_)
  all_goals first|exact hK _ _|exact absurd h (by assumption)
 ·have e:({r with to:=CS r.to m}:GR)=r:=by unfold CS;rw[if_neg h]
  rw[e]at hK
  (conv=>whnf);repeat' (first|((first|refine kA ?_|(apply Br.mk<;>intro hc))<;>first|exact hc.elim|conv=>whnf)|refine kB ?_)
  all_goals first|exact hK _ _|exact absurd (by assumption) h
end AI
end Go.Proofs.YtjijnamhalgamaaGreatDoor
