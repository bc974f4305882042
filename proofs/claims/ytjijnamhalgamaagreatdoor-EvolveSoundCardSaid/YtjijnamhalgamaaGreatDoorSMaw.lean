/- The reference's violations of a rule: equal values; all rules; the first violated one. The law EvolveSound, about the evaluator. -/
import Derived.Test.YtjijnamhalgamaaGreatDoorSVfR
import Derived.Test.YtjijnamhalgamaaGreatDoorSMaj
import Derived.Test.YtjijnamhalgamaaGreatDoorSCk8
import Derived.Test.YtjijnamhalgamaaGreatDoorSMav
set_option linter.unusedVariables false
set_option maxRecDepth 4000
namespace Go.Proofs.YtjijnamhalgamaaGreatDoor
namespace AI
def Qk (r:GR) (a b:GN):Prop:=J7 r a∧J7 r b∧VX (ET a.props r.key) (ET b.props r.key)=2
theorem AcJ {r:GR} {N:List GN}:lone r N↔∀a b,∀h1:a<b,∀h2:b<N.length,¬Qk r (N[a]'(by omega)) N[b]:=by
 unfold lone
 rw[List.pairwise_filter,List.pairwise_iff_getElem]
 constructor
 ·intro h a b h1 h2 ⟨x,y,z⟩
  exact h a b (by omega) h2 h1 (decide_eq_true x) (decide_eq_true y) z
 ·intro h a b ha hb hab x y z
  exact h a b hab hb ⟨of_decide_eq_true x,of_decide_eq_true y,z⟩
set_option maxRecDepth 10000 in
set_option maxHeartbeats 4000000 in
theorem AfZ {r:GR} {g:GG} (hN:g.nodes.length≤4000) (hb:∀n∈g.nodes,n.labels.length<2^62∧n.props.length<2^62∧∀p∈n.props,p.ok):Ae (Ad tab) 151 [r.av,g.av] (fun v=>∃nn L,v=.sl nn (vs KF L)∧L.length≤64000000∧(L=[]↔lone r g.nodes)):=by
 rw[AcJ]
 refine Ac rfl rfl ?_
 (conv=>whnf);repeat' (first|((first|refine kA ?_|(apply Br.mk<;>intro hc))<;>first|exact hc.elim|conv=>whnf)|refine kB ?_)
 all_goals first|(exfalso;omega)|skip
 refine Ag (fun m env s=>∃(i go n1 c:Nat) (f2:Bool) (L:List (Int×Int)),m=g.nodes.length-i∧i≤g.nodes.length∧n1=L.length∧L.length≤i*4000∧(L=[]↔∀a b,∀h1:a<b,∀h2:b<g.nodes.length,a<i→¬Qk r (g.nodes[a]'(by omega)) g.nodes[b])∧env=[(2,.ref 0 0 0 0),(3,.ref 1 1 0 0),(5,.own 2 go 0 n1),(6,.int .i64 i)]∧s=⟨[.arr 0 6 true true [r.av],.arr 1 4 true true [g.av],.arr go 2 f2 true (vs KF L)],c⟩) ?_ _ _ _ ⟨0,_,_,_,_,[],rfl,by omega,rfl,by simp,by simp,rfl,rfl⟩
 rintro _ _ _ ⟨i,go2,n1,c2,f2,L,rfl,hi,hn1,hLi,hL,rfl,rfl⟩
 refine⟨rfl,?_⟩
 by_cases hlt:i<g.nodes.length
 ·obtain⟨a1,a2,a3⟩:=hb _ (List.getElem_mem hlt)
  obtain⟨a,hae⟩:∃a,a=g.nodes[i]:=⟨_,rfl⟩
  have hna:nth (vs GN.av g.nodes) i=some a.av:=by rw[hae];exact nVN hlt
  rw[← hae]at a1 a2 a3
  have pA:=Aje (P:=a.props) (nn:=a.pn) (key:=r.key) a2
  have lA:=Nk (n:=a) (s:=r.name) (by omega)
  (conv=>whnf);repeat' (first|((first|refine kA ?_|(apply Br.mk<;>intro hc))<;>first|exact hc.elim|conv=>whnf)|refine kB ?_)
  all_goals first|(exfalso;omega)|skip
  refine Ag (fun m env s=>∃(j go n2 c:Nat) (f3:Bool) (L2:List (Int×Int)),m=g.nodes.length-j∧i<j∧j≤g.nodes.length∧n2=L2.length∧L2.length+i+1≤i*4000+j∧(L2=[]↔L=[]∧∀b,∀h2:b<g.nodes.length,i<b→b<j→¬Qk r a g.nodes[b])∧env=[(2,.ref 0 0 0 0),(3,.ref 1 1 0 0),(5,.own 2 go 0 n2),(6,.int .i64 i),(7,.int .i64 j)]∧s=⟨[.arr 0 6 true true [r.av],.arr 1 4 true true [g.av],.arr go 2 f3 true (vs KF L2)],c⟩) ?_ _ _ _ ⟨i+1,_,_,_,_,L,rfl,by omega,by omega,hn1,by omega,⟨fun h=>⟨h,fun b _ h1 h2=>by omega⟩,fun h=>h.1⟩,rfl,rfl⟩
  rintro _ _ _ ⟨j,go3,n2,c3,f3,L2,rfl,hij,hj,hn2,hLj,hL2,rfl,rfl⟩
  refine⟨rfl,?_⟩
  by_cases hjl:j<g.nodes.length
  ·obtain⟨b1,b2,b3⟩:=hb _ (List.getElem_mem hjl)
   obtain⟨b,hbe⟩:∃b,b=g.nodes[j]:=⟨_,rfl⟩
   have hnb:nth (vs GN.av g.nodes) j=some b.av:=by rw[hbe];exact nVN hjl
   rw[← hbe]at b1 b2 b3
   have pB:=Aje (P:=b.props) (nn:=b.pn) (key:=r.key) b2
   have lB:=Nk (n:=b) (s:=r.name) (by omega)
   have pE:=AlO (VY (key:=r.key) a3) (VY (key:=r.key) b3)
   have hst:(∀ x,∀h2:x<g.nodes.length,i<x→x<j+1→¬Qk r a g.nodes[x])↔(∀ x,∀h2:x<g.nodes.length,i<x→x<j→¬Qk r a g.nodes[x])∧¬Qk r a b:=by
        constructor
        ·intro h;exact⟨fun x h2 h3 h4=>h x h2 h3 (by omega),hbe▸h j hjl hij (by omega)⟩
        ·rintro⟨h,k⟩ x h2 h3 h4
         by_cases e:x=j
         ·subst e;rw[← hbe];exact k
         ·exact h x h2 h3 (by omega)
   have YQ:¬Qk r a b→(L2=[]↔L=[]∧∀x,∀h2:x<g.nodes.length,i<x→x<j+1→¬Qk r a g.nodes[x]):=fun hh=>by
        rw[hst,hL2];exact⟨fun h=>⟨h.1,h.2,hh⟩,fun h=>⟨h.1,h.2.1⟩⟩
   have hmB:Qk r a b→(L2++[(a.id,b.id)]=[]↔L=[]∧∀x,∀h2:x<g.nodes.length,i<x→x<j+1→¬Qk r a g.nodes[x]):=fun hh=>by
        rw[hst];exact⟨fun h=>by simp at h,fun h=>absurd hh h.2.2⟩
   clear hbe
   have uh:Qk r a b↔J7 r a∧J7 r b∧VX (ET a.props r.key) (ET b.props r.key)=2:=Iff.rfl
   unfold J7 at uh
   by_cases k1:hasK a.props r.key
   case neg=>
        rw[decide_eq_false k1]at pA
        have hm:=YQ fun h=>k1 (uh.1 h).1.1
        (conv=>whnf);repeat' (first|((first|(apply Af;(· exact hna))|(apply Af;(· exact hnb))|refine kE pA ?_|refine kE pB ?_|refine kE lA ?_|refine kE lB ?_|refine kE pE ?_|refine kA ?_|(apply Br.mk<;>intro hc))<;>first|exact hc.elim|conv=>whnf)|refine kB ?_)
        all_goals first
         |(exfalso;omega)
         |exact absurd rfl (by assumption)
         |exact again.mk ⟨_,by omega,j+1,_,_,_,_,L2,rfl,by omega,by omega,hn2,by omega,hm,rfl,rfl⟩
         |(exfalso;simp_all;done)
   rw[decide_eq_true k1]at pA
   by_cases k2:hasK b.props r.key
   case neg=>
        rw[decide_eq_false k2]at pB
        have hm:=YQ fun h=>k2 (uh.1 h).2.1.1
        (conv=>whnf);repeat' (first|((first|(apply Af;(· exact hna))|(apply Af;(· exact hnb))|refine kE pA ?_|refine kE pB ?_|refine kE lA ?_|refine kE lB ?_|refine kE pE ?_|refine kA ?_|(apply Br.mk<;>intro hc))<;>first|exact hc.elim|conv=>whnf)|refine kB ?_)
        all_goals first
         |(exfalso;omega)
         |exact absurd rfl (by assumption)
         |exact again.mk ⟨_,by omega,j+1,_,_,_,_,L2,rfl,by omega,by omega,hn2,by omega,hm,rfl,rfl⟩
         |(exfalso;simp_all;done)
   rw[decide_eq_true k2]at pB
   by_cases k3:r.name∈a.labels
   case neg=>
        rw[decide_eq_false k3]at lA
        have hm:=YQ fun h=>k3 (uh.1 h).1.2
        (conv=>whnf);repeat' (first|((first|(apply Af;(· exact hna))|(apply Af;(· exact hnb))|refine kE pA ?_|refine kE pB ?_|refine kE lA ?_|refine kE lB ?_|refine kE pE ?_|refine kA ?_|(apply Br.mk<;>intro hc))<;>first|exact hc.elim|conv=>whnf)|refine kB ?_)
        all_goals first
         |(exfalso;omega)
         |exact absurd rfl (by assumption)
         |exact again.mk ⟨_,by omega,j+1,_,_,_,_,L2,rfl,by omega,by omega,hn2,by omega,hm,rfl,rfl⟩
         |(exfalso;simp_all;done)
   rw[decide_eq_true k3]at lA
   by_cases k4:r.name∈b.labels
   case neg=>
        rw[decide_eq_false k4]at lB
        have hm:=YQ fun h=>k4 (uh.1 h).2.1.2
        (conv=>whnf);repeat' (first|((first|(apply Af;(· exact hna))|(apply Af;(· exact hnb))|refine kE pA ?_|refine kE pB ?_|refine kE lA ?_|refine kE lB ?_|refine kE pE ?_|refine kA ?_|(apply Br.mk<;>intro hc))<;>first|exact hc.elim|conv=>whnf)|refine kB ?_)
        all_goals first
         |(exfalso;omega)
         |exact absurd rfl (by assumption)
         |exact again.mk ⟨_,by omega,j+1,_,_,_,_,L2,rfl,by omega,by omega,hn2,by omega,hm,rfl,rfl⟩
         |(exfalso;simp_all;done)
   rw[decide_eq_true k4]at lB
   by_cases k5:VX (ET a.props r.key) (ET b.props r.key)=2
   case neg=>
        have hm:=YQ fun h=>k5 (uh.1 h).2.2
        generalize VX (ET a.props r.key) (ET b.props r.key)=q at pE k5
        (conv=>whnf);repeat' (first|((first|(apply Af;(· exact hna))|(apply Af;(· exact hnb))|refine kE pA ?_|refine kE pB ?_|refine kE lA ?_|refine kE lB ?_|refine kE pE ?_|refine kA ?_|(apply Br.mk<;>intro hc))<;>first|exact hc.elim|conv=>whnf)|refine kB ?_)
        all_goals first
         |(exfalso;omega)
         |exact absurd rfl (by assumption)
         |exact absurd (by assumption) k5
         |exact again.mk ⟨_,by omega,j+1,_,_,_,_,L2,rfl,by omega,by omega,hn2,by omega,hm,rfl,rfl⟩
         |(exfalso;simp_all;done)
   rw[k5]at pE
   have hm:=hmB (uh.2 ⟨⟨k1,k3⟩,⟨k2,k4⟩,k5⟩)
   (conv=>whnf);repeat' (first|((first|(apply Af;(· exact hna))|(apply Af;(· exact hnb))|refine kE pA ?_|refine kE pB ?_|refine kE lA ?_|refine kE lB ?_|refine kE pE ?_|refine LU (f:=KF) (l:=L2) (x:=(a.id,b.id)) rfl cells2 hn2 (by omega) ?_|refine kA ?_|(apply Br.mk<;>intro hc))<;>first|exact hc.elim|conv=>whnf)|refine kB ?_)
   all_goals first
        |(exfalso;omega)
        |exact absurd rfl (by assumption)
        |exact again.mk ⟨_,by omega,j+1,_,_,_,_,L2++[(a.id,b.id)],rfl,by omega,by omega,by simp,by simp;omega,hm,rfl,rfl⟩
        |(exfalso;simp_all;done)
  ·have hm:L2=[]↔∀x y,∀h1:x<y,∀h2:y<g.nodes.length,x<i+1→¬Qk r (g.nodes[x]'(by omega)) g.nodes[y]:=by
        rw[hL2,hL]
        constructor
        ·rintro⟨h1,h2⟩ x y hxy hy hx
         by_cases e:x=i
         ·subst e;rw[← hae];exact h2 y hy hxy (by omega)
         ·exact h1 x y hxy hy (by omega)
        ·intro h
         refine⟨fun x y hxy hy hx=>h x y hxy hy (by omega),fun y hy hiy _=>?_⟩
         rw[hae];exact h i y hiy hy (by omega)
   (conv=>whnf);repeat' (first|((first|refine kA ?_|(apply Br.mk<;>intro hc))<;>first|exact hc.elim|conv=>whnf)|refine kB ?_)
   all_goals first
        |(exfalso;omega)
        |exact again.mk ⟨_,by omega,i+1,_,_,_,_,L2,rfl,by omega,hn2,by omega,hm,rfl,rfl⟩
 ·have hm:L=[]↔∀a b,∀h1:a<b,∀h2:b<g.nodes.length,¬Qk r (g.nodes[a]'(by omega)) g.nodes[b]:=by
   rw[hL];exact⟨fun h a b h1 h2=>h a b h1 h2 (by omega),fun h a b h1 h2 _=>h a b h1 h2⟩
  (conv=>whnf);repeat' (first|((first|refine kA ?_|(apply Br.mk<;>intro hc))<;>first|exact hc.elim|conv=>whnf)|refine kB ?_)
  all_goals first
   |(exfalso;omega)
   |exact⟨_,L,by rw[hn1,uV],by omega,hm⟩
theorem ofW {r:GR} {g:GG} (hr:r.ok) (hr0:Dt r=0) (hg:g.ok) (h:AZ g=0→Look g) (NR:AZ g=0→∀e∈g.edges,(∃ n∈g.nodes,n.id=e.fr)∧∃n∈g.nodes,n.id=e.to):
 Ae (Ad tab) 87 [r.av,g.av] (fun v=>∃nn L,v=.sl nn (vs KF L)∧L.length≤64000000∧(L=[]↔¬(AZ g=0∧DZ r g))):=by
 have c1:=Aih hr
 have c2:=AcK hg
 rw[hr0]at c1
 by_cases hck:AZ g=0
 case neg=>
  refine Ac rfl rfl ?_
  (conv=>whnf);repeat' (first|((first|refine kE c1 ?_|refine kE c2 ?_|refine kA ?_|(apply Br.mk<;>intro hc))<;>first|exact hc.elim|conv=>whnf)|refine kB ?_)
  all_goals first|exact⟨false,[],rfl,by simp,⟨fun _ k=>hck k.1,fun _=>rfl⟩⟩|(exfalso;omega)|exact absurd rfl (by assumption)|(exfalso;simp_all;done)
 have hL:=h hck
 have hE:=NR hck
 rw[hck]at c2
 have hkk:1≤r.k∧r.k≤7:=by
  unfold Dt at hr0
  split at hr0
  ·omega
  ·rename_i hb
   unfold badR at hb
   exact Classical.not_not.1 fun k=>hb (.inl k)
 have hv:∀{L:List (Int×Int)},(L=[]↔¬DZ r g)→(L=[]↔¬(AZ g=0∧DZ r g)):=fun k=>k.trans ⟨fun a b=>a b.2,fun a b=>a ⟨hck,b⟩⟩
 by_cases h1:r.k=1
 ·obtain⟨_,⟨nn,L,rfl,hl,hL2⟩,p⟩:=(AfZ (r:=r) (g:=g) hL.nn hL.nodes).KI
  have e:L=[]↔¬DZ r g:=by unfold DZ;rw[if_pos h1,hL2];exact Classical.not_not.symm
  refine Ac rfl rfl ?_
  (conv=>whnf);repeat' (first|((first|refine kE c1 ?_|refine kE c2 ?_|refine kE p ?_|refine kA ?_|(apply Br.mk<;>intro hc))<;>first|exact hc.elim|conv=>whnf)|refine kB ?_)
  all_goals first|exact⟨nn,L,rfl,hl,hv e⟩|(exfalso;omega)|exact absurd h1 (by assumption)|exact absurd rfl (by assumption)|(exfalso;simp_all;done)
 ·by_cases h2:r.k=2∨r.k=3∨r.k=7
  ·obtain⟨_,⟨nn,L,rfl,hl,hL2⟩,p⟩:=(Af0 (r:=r) (g:=g) hL.nn hL.en fun n hn=>⟨(hL.nodes n hn).1,(hL.nodes n hn).2.1⟩).KI
   have e:L=[]↔¬DZ r g:=by
        unfold DZ
        rw[if_neg h1,hL2]
        by_cases h7:r.k=7
        ·rw[if_neg (by omega),if_pos h7];unfold Jv;simp only[if_pos h7];simp
        ·rw[if_pos (by omega)];unfold Jv;simp only[if_neg h7];simp
   refine Ac rfl rfl ?_
   (conv=>whnf);repeat' (first|((first|refine kE c1 ?_|refine kE c2 ?_|refine kE p ?_|refine kA ?_|(apply Br.mk<;>intro hc))<;>first|exact hc.elim|conv=>whnf)|refine kB ?_)
   all_goals first|exact⟨nn,L,rfl,by omega,hv e⟩|(exfalso;omega)|exact absurd (by assumption) h1|exact absurd rfl (by assumption)|(exfalso;simp_all;done)
  ·obtain⟨_,⟨nn,L,rfl,hl,hL2⟩,p⟩:=(Af1 (r:=r) (g:=g) hL.en hL.edges hE fun z lb=>Abs (by have:=hL.nn;omega) (fun n hn=>(hL.nodes n hn).1)).KI
   have e:L=[]↔¬DZ r g:=by
        unfold DZ
        rw[if_neg h1,if_neg (by omega),if_neg (by omega),hL2];simp
   refine Ac rfl rfl ?_
   (conv=>whnf);repeat' (first|((first|refine kE c1 ?_|refine kE c2 ?_|refine kE p ?_|refine kA ?_|(apply Br.mk<;>intro hc))<;>first|exact hc.elim|conv=>whnf)|refine kB ?_)
   all_goals first|exact⟨nn,L,rfl,by omega,hv e⟩|(exfalso;omega)|exact absurd (by assumption) h1|exact absurd rfl (by assumption)|(exfalso;simp_all;done)
structure VLq (s:List GR) (g:GG) (n:Nat) (V:List (Int×Int×Int)):Prop where
 y:AZ g=0→VL s g n V
 n:AZ g≠0→V=[]
set_option maxHeartbeats 4000000 in
theorem An6 {s:List GR} {sn:Bool} {g:GG} (hs:s.length<2^62) (hok:∀r∈s,r.ok) (hg:g.ok) (h:AZ g=0→Look g) (NR:AZ g=0→∀e∈g.edges,(∃ n∈g.nodes,n.id=e.fr)∧∃n∈g.nodes,n.id=e.to):
 Ae (Ad tab) 39 [.sl sn (vs GR.av s),g.av] (fun v=>∃nn V,v=.sl nn (vs YR V)∧V.length<2^62∧(¬ (Du s∧AZ g=0)→V=[])∧(Du s∧AZ g=0→VL s g s.length V)):=by
 have p1:=AlP (l:=s) (nn:=sn) hs hok
 by_cases hv:Du s
 case neg=>
  rw[decide_eq_false hv]at p1
  refine Ac rfl rfl ?_
  (conv=>whnf);repeat' (first|((first|refine kE p1 ?_|refine kA ?_|(apply Br.mk<;>intro hc))<;>first|exact hc.elim|conv=>whnf)|refine kB ?_)
  all_goals first
   |exact⟨_,[],rfl,by simp,fun _=>rfl,fun k=>absurd k.1 hv⟩
   |(exfalso;omega)
   |exact absurd rfl (by assumption)
 rw[decide_eq_true hv]at p1
 have An7:=hv.1
 refine Ac rfl rfl ?_
 (conv=>whnf);repeat' (first|((first|refine kE p1 ?_|refine kA ?_|(apply Br.mk<;>intro hc))<;>first|exact hc.elim|conv=>whnf)|refine kB ?_)
 all_goals first|(exfalso;omega)|exact absurd rfl (by assumption)|skip
 refine Ag (fun m env st=>∃(i go n1 c:Nat) (fo:Bool) (V:List (Int×Int×Int)),m=s.length-i∧i≤s.length∧n1=V.length∧V.length≤i*64000000∧VLq s g i V∧env=[(0,.sl sn (vs GR.av s)),(3,.ref 0 0 0 0),(5,.own 1 go 0 n1),(6,.int .i64 i)]∧st=⟨[.arr 0 4 true true [g.av],.arr go 3 fo true (vs YR V)],c⟩) ?_ _ _ _ ⟨0,_,_,_,_,[],rfl,by omega,rfl,by simp,⟨fun _=>VL.start s g,fun _=>rfl⟩,rfl,rfl⟩
 rintro _ _ _ ⟨i,go,n1,c,fo,V,rfl,hi,hn1,hVi,hV,rfl,rfl⟩
 refine⟨rfl,?_⟩
 by_cases hlt:i<s.length
 ·have hri:=hok _ (List.getElem_mem hlt)
  have hr0:=(hv.2 i hlt hlt).1
  obtain⟨_,⟨ln,L,rfl,hLl,hL2⟩,q⟩:=(ofW (r:=s[i]) hri hr0 hg h NR).KI
  have hst:VLq s g (i+1) (V++L.map fun p=>((i:Int),p)):=⟨fun k=>(hV.y k).step hlt (hL2.trans ⟨fun a b=>a ⟨k,b⟩,fun a b=>a b.2⟩),fun k=>by
   have e1:=hV.n k
   have e2:L=[]:=hL2.2 fun b=>k b.1
   rw[e1,e2];rfl⟩
  have Gf:nth (vs GR.av s) i=some (s[i]).av:=nVN hlt
  (conv=>whnf);repeat' (first|((first|(apply Af;(· exact Gf))|refine kE q ?_|refine kA ?_|(apply Br.mk<;>intro hc))<;>first|exact hc.elim|conv=>whnf)|refine kB ?_)
  all_goals first|(exfalso;omega)|skip
  refine Ag (fun m env st=>∃(j go n1 c:Nat) (fo:Bool) (V2:List (Int×Int×Int)),m=L.length-j∧j≤L.length∧n1=V2.length∧V2=V++(L.take j).map (fun p=>((i:Int),p))∧env=[(0,.sl sn (vs GR.av s)),(3,.ref 0 0 0 0),(5,.own 1 go 0 n1),(6,.int .i64 i),(7,.sl ln (vs KF L)),(8,.int .i64 j)]∧st=⟨[.arr 0 4 true true [g.av],.arr go 3 fo true (vs YR V2)],c⟩) ?_ _ _ _ ⟨0,_,_,_,_,V,rfl,by omega,hn1,by simp,rfl,rfl⟩
  rintro _ _ _ ⟨j,go2,n2,c2,fo2,V2,rfl,hj,hn2,hV2,rfl,rfl⟩
  refine⟨rfl,?_⟩
  have Ajf:V2.length=V.length+(L.take j).length:=by rw[hV2,List.length_append,List.length_map]
  have htl:(L.take j).length≤L.length:=List.length_take_le' ..
  by_cases hjl:j<L.length
  ·have e2:V2++[((i:Int),L[j])]=V++(L.take (j+1)).map (fun p=>((i:Int),p)):=by
        rw[hV2,List.take_succ_eq_append_getElem hjl,List.map_append,List.append_assoc];rfl
   have hnl:nth (vs KF L) j=some (KF L[j]):=nVN hjl
   (conv=>whnf);repeat' (first|((first|(apply Af;(· exact hnl))|refine LU (f:=YR) (l:=V2) (x:=((i:Int),L[j])) rfl cells3 hn2 (by omega) ?_|refine kA ?_|(apply Br.mk<;>intro hc))<;>first|exact hc.elim|conv=>whnf)|refine kB ?_)
   all_goals first
        |(exfalso;omega)
        |exact again.mk ⟨_,by omega,j+1,_,_,_,_,V2++[((i:Int),L[j])],rfl,by omega,by simp,e2,rfl,rfl⟩
  ·rw[List.take_of_length_le (by omega)]at hV2 Ajf
   rw[← hV2]at hst
   (conv=>whnf);repeat' (first|((first|refine kA ?_|(apply Br.mk<;>intro hc))<;>first|exact hc.elim|conv=>whnf)|refine kB ?_)
   all_goals first
        |(exfalso;omega)
        |exact again.mk ⟨_,by omega,i+1,_,_,_,_,V2,rfl,by omega,hn2,by omega,hst,rfl,rfl⟩
 ·obtain rfl:i=s.length:=by omega
  (conv=>whnf);repeat' (first|((first|refine kA ?_|(apply Br.mk<;>intro hc))<;>first|exact hc.elim|conv=>whnf)|refine kB ?_)
  all_goals first
   |(exfalso;omega)
   |exact⟨_,V,by rw[hn1,uV],by omega,fun k=>hV.n fun k2=>k ⟨hv,k2⟩,fun k=>hV.y k.2⟩
theorem Ajg {k:Int}:Ae (Ad tab) 40 [.int .i64 k] (· =.int .i64 (Oh k)):=by
 unfold Oh
 by_cases h1:k=1
 ·subst h1
  refine Ac rfl rfl ?_
  (conv=>whnf);repeat' (first|((first|refine kA ?_|(apply Br.mk<;>intro hc))<;>first|exact hc.elim|conv=>whnf)|refine kB ?_)
  all_goals first|rfl|(exfalso;omega)|exact absurd rfl (by assumption)
 rw[if_neg h1]
 by_cases h2:k=2∨k=4
 ·rw[if_pos h2]
  refine Ac rfl rfl ?_
  (conv=>whnf);repeat' (first|((first|refine kA ?_|(apply Br.mk<;>intro hc))<;>first|exact hc.elim|conv=>whnf)|refine kB ?_)
  all_goals first|rfl|(exfalso;omega)
 rw[if_neg h2]
 by_cases h3:k=3∨k=5
 ·rw[if_pos h3]
  refine Ac rfl rfl ?_
  (conv=>whnf);repeat' (first|((first|refine kA ?_|(apply Br.mk<;>intro hc))<;>first|exact hc.elim|conv=>whnf)|refine kB ?_)
  all_goals first|rfl|(exfalso;omega)
 rw[if_neg h3]
 by_cases h6:k=6
 ·rw[if_pos h6]
  refine Ac rfl rfl ?_
  (conv=>whnf);repeat' (first|((first|refine kA ?_|(apply Br.mk<;>intro hc))<;>first|exact hc.elim|conv=>whnf)|refine kB ?_)
  all_goals first|rfl|(exfalso;omega)
 rw[if_neg h6]
 by_cases h7:k=7
 ·rw[if_pos h7]
  refine Ac rfl rfl ?_
  (conv=>whnf);repeat' (first|((first|refine kA ?_|(apply Br.mk<;>intro hc))<;>first|exact hc.elim|conv=>whnf)|refine kB ?_)
  all_goals first|rfl|(exfalso;omega)
 rw[if_neg h7]
 refine Ac rfl rfl ?_
 (conv=>whnf);repeat' (first|((first|refine kA ?_|(apply Br.mk<;>intro hc))<;>first|exact hc.elim|conv=>whnf)|refine kB ?_)
 all_goals first|rfl|(exfalso;omega)
set_option maxHeartbeats 2000000 in
theorem Ajh {s:List GR} {sn:Bool} {g:GG} (hs:s.length<2^62) (hok:∀r∈s,r.ok) (hg:g.ok) (h:AZ g=0→Look g) (NR:AZ g=0→∀e∈g.edges,(∃ n∈g.nodes,n.id=e.fr)∧∃n∈g.nodes,n.id=e.to):Ae (Ad tab) 16 [.sl sn (vs GR.av s),g.av] (· =.int .i64 (Ea s g)):=by
 obtain⟨_,⟨nn,V,rfl,hl,h1,h2⟩,p⟩:=(An6 (sn:=sn) hs hok hg h NR).KI
 by_cases hvc:Du s∧AZ g=0
 case neg=>
  have e:Ea s g=0:=by unfold Ea;rw[if_neg hvc]
  rw[e]
  have e2:=h1 hvc
  subst e2
  refine Ac rfl rfl ?_
  (conv=>whnf);repeat' (first|((first|refine kE p ?_|refine kA ?_|(apply Br.mk<;>intro hc))<;>first|exact hc.elim|conv=>whnf)|refine kB ?_)
  all_goals first|rfl|(exfalso;omega)|exact absurd rfl (by assumption)|(exfalso;simp_all;done)
 have hV:=h2 hvc
 cases V with
 |nil=>
  have e:Ea s g=0:=by unfold Ea;rw[if_pos hvc,hV.Xl]
  rw[e]
  refine Ac rfl rfl ?_
  (conv=>whnf);repeat' (first|((first|refine kE p ?_|refine kA ?_|(apply Br.mk<;>intro hc))<;>first|exact hc.elim|conv=>whnf)|refine kB ?_)
  all_goals first|rfl|(exfalso;omega)|exact absurd rfl (by assumption)|(exfalso;simp_all;done)
 |cons q T=>
  obtain⟨i,hi,hil,_,hv,hn⟩:=hV.yes q T rfl
  have e:Ea s g=Oh (s[i]).k:=by unfold Ea;rw[if_pos hvc,Xm hil hv hn]
  rw[e]
  obtain⟨q1,q2,q3⟩:=q
  replace hi:q1=(i:Int):=hi
  subst hi
  have hlen:(vs YR (((i:Int),q2,q3)::T)).length=T.length+1:=lV _
  have hn0:nth (vs YR (((i:Int),q2,q3)::T)) 0=some (.agg [.int .i64 (i:Int),.int .i64 q2,.int .i64 q3]):=rfl
  generalize vs YR (((i:Int),q2,q3)::T)=W at*
  have hns:nth (vs GR.av s) i=some (s[i]).av:=nVN hil
  refine Ac rfl rfl ?_
  (conv=>whnf);repeat' (first|((first|refine kE p ?_|(apply Af;(· exact hn0))|(apply Af;(· exact hns))|refine kE Ajg ?_|refine kA ?_|(apply Br.mk<;>intro hc))<;>first|exact hc.elim|conv=>whnf)|refine kB ?_)
  all_goals first|rfl|(exfalso;omega)|exact absurd rfl (by assumption)|(exfalso;simp_all;done)
set_option maxRecDepth 10000 in
set_option maxHeartbeats 4000000 in
theorem Aca:∀xs,likes Tryz.prog [25,26,27] xs→Ar (Ad tab) 4 xs ⟨[],0⟩ fun out _=>out=.ok (.bool true):=by
 intro xs h
 match xs,h with
 |[a,b,c],h=>
  obtain⟨h1,h2,h3,_⟩:=h
  obtain⟨g,rfl,hg⟩:=ZG h1
  obtain⟨sn,s,rfl,hsn,hsl,AoS⟩:=ZU h2
  obtain⟨ln,l,rfl,hln,hll,AeV⟩:=AbP h3
  unfold Ln at hsl hll
  obtain⟨_,⟨b1,rfl,q1⟩,p1⟩:=(AjS (s:=s) (sn:=sn) hg (by omega)).KI
  obtain⟨_,⟨b2,rfl,q2⟩,p2⟩:=(Aos (ln:=ln) (l:=l) (by omega) AeV).KI
  refine Ai rfl rfl ?_
  cases b1 with
  |false=>
   (conv=>whnf);repeat' (first|((first|refine kE p1 ?_|refine Aq TD (fun _=>?_) (fun h=>absurd trivial h)|refine kA ?_|(apply Br.mk<;>intro hc))<;>first|exact hc.elim|conv=>whnf)|refine kB ?_)
   all_goals first|rfl|exact absurd rfl (by assumption)
  |true=>cases b2 with
   |false=>
    (conv=>whnf);repeat' (first|((first|refine kE p1 ?_|refine kE p2 ?_|refine Aq TD (fun _=>?_) (fun h=>absurd trivial h)|refine kA ?_|(apply Br.mk<;>intro hc))<;>first|exact hc.elim|conv=>whnf)|refine kB ?_)
    all_goals first|rfl|exact absurd rfl (by assumption)
   |true=>
    by_cases hz:l.length=0
    ·(conv=>whnf);repeat' (first|((first|refine kE p1 ?_|refine kE p2 ?_|refine Aq TD (fun _=>?_) (fun h=>absurd trivial h)|refine kA ?_|(apply Br.mk<;>intro hc))<;>first|exact hc.elim|conv=>whnf)|refine kB ?_)
     all_goals first|rfl|exact absurd rfl (by assumption)|(exfalso;omega)
    have hne:l≠[]:=fun e=>hz (by rw[e];rfl)
    obtain⟨hsm,h44⟩:=q1 rfl
    obtain⟨h5,_⟩:=q2 rfl
    have ho:OkE g s:=⟨hg,AoS,by omega⟩
    obtain⟨_,⟨ba,rfl,fa⟩,cA⟩:=(Akz (ln:=ln) (l:=l) ho hsn (by omega) (by omega) AeV (AbQ hg hsm)).KI
    have hAo:=Af7 (i:=0) ho AeV
    have AoT:=AgB (l:=l) (g:=g) (i:=0) h44
    have hAn:=Ajm (l:=l) (g:=g) (s:=s) (i:=0)
    have hAc:(Fz g s l 0).e=0→_:=fun h0=>AcW ho AeV h0 hne
    have hAv:(Fz g s l 0).e=0→_:=fun h0=>AeW ho AeV h0 hne
    have hAe:(Fz g s l 0).e≠0→_:=fun h0=>AcV (l:=l) (g:=g) (s:=s) (i:=0) h0
    obtain⟨A,hA⟩:∃A,A=Fz g s l 0:=⟨_,rfl⟩
    rw[← hA]at cA fa hAo AoT hAn hAc hAv hAe
    clear hA
    by_cases eA:A.e=0
    case neg=>
     obtain⟨e1,e2⟩:=hAe eA
     have e3:=hAn.2.2.2 eA
     rw[e1,e2]at cA
     (conv=>whnf);repeat' (first|((first|refine kE p1 ?_|refine kE p2 ?_|refine kE cA ?_|refine Aq TD (fun _=>?_) (fun h=>absurd trivial h)|refine kA ?_|(apply Br.mk<;>intro hc))<;>first|exact hc.elim|conv=>whnf)|refine kB ?_)
     all_goals first|rfl|exact absurd rfl (by assumption)|exact absurd (by assumption) eA|(exfalso;omega)
    have hAk:A.n=l.length:=by have:=hAn.2.2.1 eA;omega
    have hc:=hAc eA
    obtain⟨hv,hf⟩:=hAv eA
    have hck:=AjX hc
    have r1:=AcK hAo.gk
    rw[hck]at r1
    have r2:=AlP (l:=A.s) (nn:=ba) (by omega) hAo.sk
    rw[decide_eq_true hv]at r2
    have r3:=Ajh (s:=A.s) (sn:=ba) (g:=A.g) (by omega) hAo.sk hAo.gk (Xp hAo.gk) (fun _=>hc.vg.ends)
    rw[hf]at r3
    rw[eA]at cA
    clear hc
    (conv=>whnf);repeat' (first|((first|refine kE p1 ?_|refine kE p2 ?_|refine kE cA ?_|refine kE r1 ?_|refine kE r2 ?_|refine kE r3 ?_|refine Aq TD (fun _=>?_) (fun h=>absurd trivial h)|refine kA ?_|(apply Br.mk<;>intro hc))<;>first|exact hc.elim|conv=>whnf)|refine kB ?_)
    all_goals first|rfl|exact absurd rfl (by assumption)|(exfalso;omega)
end AI
end Go.Proofs.YtjijnamhalgamaaGreatDoor
