/- The reference's violations of a rule: equal values; all rules; the first violated one. Changes that neither add nor delete nodes: the editor. Migrations one after the other, at least one: the program's Apply. -/
import Derived.Test.YtjijnamhalgamaaGreatDoorTVfR
import Derived.Test.YtjijnamhalgamaaGreatDoorTMar
import Derived.Test.YtjijnamhalgamaaGreatDoorTCk8
import Derived.Test.YtjijnamhalgamaaGreatDoorTMal
import Derived.Test.YtjijnamhalgamaaGreatDoorTMau
set_option linter.unusedVariables false
set_option maxRecDepth 4000
namespace Go.Proofs.YtjijnamhalgamaaGreatDoor
namespace AI
def Qk (r:GR) (a b:GN):Prop:=J7 r a∧J7 r b∧VX (ET a.props r.key) (ET b.props r.key)=2
theorem AcJ {r:GR} {N:List GN}:lone r N↔∀a b,∀h1:a<b,∀h2:b<N.length,¬Qk r (N[a]'(by omega)) N[b]:=by
 unfold lone
 rw[List.pairwise_filter,List.pairwise_iff_getElem]
 constructor
 ·intro h a b h1 h2 ⟨x,y,z⟩
  exact h a b (by omega) h2 h1 (decide_eq_true x) (decide_eq_true y) z
 ·intro h a b ha hb hab x y z
  exact h a b hab hb ⟨of_decide_eq_true x,of_decide_eq_true y,z⟩
set_option maxRecDepth 10000 in
set_option maxHeartbeats 4000000 in
theorem AfZ {r:GR} {g:GG} (hN:g.nodes.length≤4000) (hb:∀n∈g.nodes,n.labels.length<2^62∧n.props.length<2^62∧∀p∈n.props,p.ok∧Dx p.v):Ae (Ad tab) 151 [r.av,g.av] (fun v=>∃nn L,v=.sl nn (vs KF L)∧L.length≤64000000∧(L=[]↔lone r g.nodes)):=by
 rw[AcJ]
 refine Ac rfl rfl ?_
 (conv=>whnf);repeat' (first|((first|refine kA ?_|(apply Br.mk<;>intro hc))<;>first|exact hc.elim|conv=>whnf)|refine kB ?_)
 all_goals try omega
 refine Ag (fun m env s=>∃(i go n1 c:Nat) (f2:Bool) (L:List (Int×Int)),m=g.nodes.length-i∧i≤g.nodes.length∧n1=L.length∧L.length≤i*4000∧(L=[]↔∀a b,∀h1:a<b,∀h2:b<g.nodes.length,a<i→¬Qk r (g.nodes[a]'(by omega)) g.nodes[b])∧env=[(2,.ref 0 0 0 0),(3,.ref 1 1 0 0),(5,.own 2 go 0 n1),(6,.int .i64 i)]∧s=⟨[.arr 0 6 true true [r.av],.arr 1 4 true true [g.av],.arr go 2 f2 true (vs KF L)],c⟩) ?_ _ _ _ ⟨0,_,_,_,_,[],rfl,by omega,rfl,by simp,by simp,rfl,rfl⟩
 rintro _ _ _ ⟨i,go2,n1,c2,f2,L,rfl,hi,hn1,hLi,hL,rfl,rfl⟩
 refine⟨rfl,?_⟩
 by_cases hlt:i<g.nodes.length
 ·obtain⟨a1,a2,a3⟩:=hb _ (List.getElem_mem hlt)
  obtain⟨a,hae⟩:∃a,a=g.nodes[i]:=⟨_,rfl⟩
  have hna:nth (vs GN.av g.nodes) i=some a.av:=by rw[hae];exact nVN hlt
  rw[← hae]at a1 a2 a3
  have pA:=Aje (P:=a.props) (nn:=a.pn) (key:=r.key) a2
  have lA:=Nk (n:=a) (s:=r.name) (by omega)
  (conv=>whnf);repeat' (first|((first|refine kA ?_|(apply Br.mk<;>intro hc))<;>first|exact hc.elim|conv=>whnf)|refine kB ?_)
  all_goals try omega
  refine Ag (fun m env s=>∃(j go n2 c:Nat) (f3:Bool) (L2:List (Int×Int)),m=g.nodes.length-j∧i<j∧j≤g.nodes.length∧n2=L2.length∧L2.length+i+1≤i*4000+j∧(L2=[]↔L=[]∧∀b,∀h2:b<g.nodes.length,i<b→b<j→¬Qk r a g.nodes[b])∧env=[(2,.ref 0 0 0 0),(3,.ref 1 1 0 0),(5,.own 2 go 0 n2),(6,.int .i64 i),(7,.int .i64 j)]∧s=⟨[.arr 0 6 true true [r.av],.arr 1 4 true true [g.av],.arr go 2 f3 true (vs KF L2)],c⟩) ?_ _ _ _ ⟨i+1,_,_,_,_,L,rfl,by omega,by omega,hn1,by omega,⟨fun h=>⟨h,fun b _ h1 h2=>by omega⟩,fun h=>h.1⟩,rfl,rfl⟩
  rintro _ _ _ ⟨j,go3,n2,c3,f3,L2,rfl,hij,hj,hn2,hLj,hL2,rfl,rfl⟩
  refine⟨rfl,?_⟩
  by_cases hjl:j<g.nodes.length
  ·obtain⟨b1,b2,b3⟩:=hb _ (List.getElem_mem hjl)
   obtain⟨b,hbe⟩:∃b,b=g.nodes[j]:=⟨_,rfl⟩
   have hnb:nth (vs GN.av g.nodes) j=some b.av:=by rw[hbe];exact nVN hjl
   rw[← hbe]at b1 b2 b3
   have pB:=Aje (P:=b.props) (nn:=b.pn) (key:=r.key) b2
   have lB:=Nk (n:=b) (s:=r.name) (by omega)
   have hst:(∀ x,∀h2:x<g.nodes.length,i<x→x<j+1→¬Qk r a g.nodes[x])↔(∀ x,∀h2:x<g.nodes.length,i<x→x<j→¬Qk r a g.nodes[x])∧¬Qk r a b:=by
        constructor
        ·intro h;exact⟨fun x h2 h3 h4=>h x h2 h3 (by omega),hbe▸h j hjl hij (by omega)⟩
        ·rintro⟨h,k⟩ x h2 h3 h4
         by_cases e:x=j
         ·subst e;rw[← hbe];exact k
         ·exact h x h2 h3 (by omega)
   have YQ:¬Qk r a b→(L2=[]↔L=[]∧∀x,∀h2:x<g.nodes.length,i<x→x<j+1→¬Qk r a g.nodes[x]):=fun hh=>by
        rw[hst,hL2];exact⟨fun h=>⟨h.1,h.2,hh⟩,fun h=>⟨h.1,h.2.1⟩⟩
   have hmB:Qk r a b→(L2++[(a.id,b.id)]=[]↔L=[]∧∀x,∀h2:x<g.nodes.length,i<x→x<j+1→¬Qk r a g.nodes[x]):=fun hh=>by
        rw[hst];exact⟨fun h=>by simp at h,fun h=>absurd hh h.2.2⟩
   clear hbe
   have uh:Qk r a b↔J7 r a∧J7 r b∧VX (ET a.props r.key) (ET b.props r.key)=2:=Iff.rfl
   unfold J7 at uh
   by_cases k1:AcA a.props r.key
   case neg=>
        rw[decide_eq_false k1]at pA
        have hm:=YQ fun h=>k1 (uh.1 h).1.1
        (conv=>whnf);repeat' (first|((first|refine Af hna ?_|refine Af hnb ?_|apply kE pA|apply kE pB|apply kE lA|apply kE lB|refine kA ?_|(apply Br.mk<;>intro hc))<;>first|exact hc.elim|conv=>whnf)|refine kB ?_)
        all_goals first
         |omega
         |contradiction
         |exact again.mk ⟨_,by omega,j+1,_,_,_,_,L2,rfl,by omega,by omega,hn2,by omega,hm,rfl,rfl⟩
         |(exfalso;simp_all;done)
   rw[decide_eq_true k1]at pA
   by_cases k2:AcA b.props r.key
   case neg=>
        rw[decide_eq_false k2]at pB
        have hm:=YQ fun h=>k2 (uh.1 h).2.1.1
        (conv=>whnf);repeat' (first|((first|refine Af hna ?_|refine Af hnb ?_|apply kE pA|apply kE pB|apply kE lA|apply kE lB|refine kA ?_|(apply Br.mk<;>intro hc))<;>first|exact hc.elim|conv=>whnf)|refine kB ?_)
        all_goals first
         |omega
         |contradiction
         |exact again.mk ⟨_,by omega,j+1,_,_,_,_,L2,rfl,by omega,by omega,hn2,by omega,hm,rfl,rfl⟩
         |(exfalso;simp_all;done)
   rw[decide_eq_true k2]at pB
   by_cases k3:r.name∈a.labels
   case neg=>
        rw[decide_eq_false k3]at lA
        have hm:=YQ fun h=>k3 (uh.1 h).1.2
        (conv=>whnf);repeat' (first|((first|refine Af hna ?_|refine Af hnb ?_|apply kE pA|apply kE pB|apply kE lA|apply kE lB|refine kA ?_|(apply Br.mk<;>intro hc))<;>first|exact hc.elim|conv=>whnf)|refine kB ?_)
        all_goals first
         |omega
         |contradiction
         |exact again.mk ⟨_,by omega,j+1,_,_,_,_,L2,rfl,by omega,by omega,hn2,by omega,hm,rfl,rfl⟩
         |(exfalso;simp_all;done)
   rw[decide_eq_true k3]at lA
   by_cases k4:r.name∈b.labels
   case neg=>
        rw[decide_eq_false k4]at lB
        have hm:=YQ fun h=>k4 (uh.1 h).2.1.2
        (conv=>whnf);repeat' (first|((first|refine Af hna ?_|refine Af hnb ?_|apply kE pA|apply kE pB|apply kE lA|apply kE lB|refine kA ?_|(apply Br.mk<;>intro hc))<;>first|exact hc.elim|conv=>whnf)|refine kB ?_)
        all_goals first
         |omega
         |contradiction
         |exact again.mk ⟨_,by omega,j+1,_,_,_,_,L2,rfl,by omega,by omega,hn2,by omega,hm,rfl,rfl⟩
         |(exfalso;simp_all;done)
   rw[decide_eq_true k4]at lB
   have pE:=AlO (Aga k1 a3) (Aga k2 b3)
   by_cases k5:VX (ET a.props r.key) (ET b.props r.key)=2
   case neg=>
        have hm:=YQ fun h=>k5 (uh.1 h).2.2
        generalize VX (ET a.props r.key) (ET b.props r.key)=q at pE k5
        (conv=>whnf);repeat' (first|((first|refine Af hna ?_|refine Af hnb ?_|apply kE pA|apply kE pB|apply kE lA|apply kE lB|apply kE pE|refine kA ?_|(apply Br.mk<;>intro hc))<;>first|exact hc.elim|conv=>whnf)|refine kB ?_)
        all_goals first
         |omega
         |contradiction
         |exact absurd ‹_› k5
         |exact again.mk ⟨_,by omega,j+1,_,_,_,_,L2,rfl,by omega,by omega,hn2,by omega,hm,rfl,rfl⟩
         |(exfalso;simp_all;done)
   rw[k5]at pE
   have hm:=hmB (uh.2 ⟨⟨k1,k3⟩,⟨k2,k4⟩,k5⟩)
   (conv=>whnf);repeat' (first|((first|refine Af hna ?_|refine Af hnb ?_|apply kE pA|apply kE pB|apply kE lA|apply kE lB|apply kE pE|refine LU (f:=KF) (l:=L2) (x:=(a.id,b.id)) rfl AcC hn2 (by omega) ?_|refine kA ?_|(apply Br.mk<;>intro hc))<;>first|exact hc.elim|conv=>whnf)|refine kB ?_)
   all_goals first
        |omega
        |contradiction
        |exact again.mk ⟨_,by omega,j+1,_,_,_,_,L2++[(a.id,b.id)],rfl,by omega,by omega,by simp,by simp;omega,hm,rfl,rfl⟩
        |(exfalso;simp_all;done)
  ·have hm:L2=[]↔∀x y,∀h1:x<y,∀h2:y<g.nodes.length,x<i+1→¬Qk r (g.nodes[x]'(by omega)) g.nodes[y]:=by
        rw[hL2,hL]
        constructor
        ·rintro⟨h1,h2⟩ x y hxy hy hx
         by_cases e:x=i
         ·subst e;rw[← hae];exact h2 y hy hxy (by omega)
         ·exact h1 x y hxy hy (by omega)
        ·intro h
         refine⟨fun x y hxy hy hx=>h x y hxy hy (by omega),fun y hy hiy _=>?_⟩
         rw[hae];exact h i y hiy hy (by omega)
   (conv=>whnf);repeat' (first|((first|refine kA ?_|(apply Br.mk<;>intro hc))<;>first|exact hc.elim|conv=>whnf)|refine kB ?_)
   all_goals first
        |omega
        |exact again.mk ⟨_,by omega,i+1,_,_,_,_,L2,rfl,by omega,hn2,by omega,hm,rfl,rfl⟩
 ·have hm:L=[]↔∀a b,∀h1:a<b,∀h2:b<g.nodes.length,¬Qk r (g.nodes[a]'(by omega)) g.nodes[b]:=by
   rw[hL];exact⟨fun h a b h1 h2=>h a b h1 h2 (by omega),fun h a b h1 h2 _=>h a b h1 h2⟩
  (conv=>whnf);repeat' (first|((first|refine kA ?_|(apply Br.mk<;>intro hc))<;>first|exact hc.elim|conv=>whnf)|refine kB ?_)
  all_goals first
   |omega
   |exact⟨_,L,by rw[hn1,uV],by omega,hm⟩
theorem ofW {r:GR} {g:GG} (hr:r.ok) (hr0:Dt r=0) (hg:g.ok) (h:AZ g=0→Look g) (NR:AZ g=0→∀e∈g.edges,(∃ n∈g.nodes,n.id=e.fr)∧∃n∈g.nodes,n.id=e.to):
 Ae (Ad tab) 87 [r.av,g.av] (fun v=>∃nn L,v=.sl nn (vs KF L)∧L.length≤64000000∧(L=[]↔¬(AZ g=0∧DZ r g))):=by
 have c1:=Aih hr
 have c2:=AcK hg
 rw[hr0]at c1
 by_cases hck:AZ g=0
 case neg=>
  refine Ac rfl rfl ?_
  (conv=>whnf);repeat' (first|((first|apply kE c1|apply kE c2|refine kA ?_|(apply Br.mk<;>intro hc))<;>first|exact hc.elim|conv=>whnf)|refine kB ?_)
  all_goals first|exact⟨false,[],rfl,by simp,⟨fun _ k=>hck k.1,fun _=>rfl⟩⟩|omega|contradiction|(exfalso;simp_all;done)
 have hL:=h hck
 have hE:=NR hck
 rw[hck]at c2
 have hkk:1≤r.k∧r.k≤7:=by
  unfold Dt at hr0
  split at hr0
  ·omega
  ·rename_i hb
   unfold Acc at hb
   exact Classical.not_not.1 fun k=>hb (.inl k)
 have hv:∀{L:List (Int×Int)},(L=[]↔¬DZ r g)→(L=[]↔¬(AZ g=0∧DZ r g)):=fun k=>k.trans ⟨fun a b=>a b.2,fun a b=>a ⟨hck,b⟩⟩
 by_cases h1:r.k=1
 ·obtain⟨_,⟨nn,L,rfl,hl,hL2⟩,p⟩:=(AfZ (r:=r) (g:=g) hL.nn hL.nodes).KI
  have e:L=[]↔¬DZ r g:=by unfold DZ;rw[if_pos h1,hL2];exact Classical.not_not.symm
  refine Ac rfl rfl ?_
  (conv=>whnf);repeat' (first|((first|apply kE c1|apply kE c2|apply kE p|refine kA ?_|(apply Br.mk<;>intro hc))<;>first|exact hc.elim|conv=>whnf)|refine kB ?_)
  all_goals first|exact⟨nn,L,rfl,hl,hv e⟩|omega|exact absurd h1 ‹_› |contradiction|(exfalso;simp_all;done)
 ·by_cases h2:r.k=2∨r.k=3∨r.k=7
  ·obtain⟨_,⟨nn,L,rfl,hl,hL2⟩,p⟩:=(Af0 (r:=r) (g:=g) hL.nn hL.en fun n hn=>⟨(hL.nodes n hn).1,(hL.nodes n hn).2.1⟩).KI
   have e:L=[]↔¬DZ r g:=by
        unfold DZ
        rw[if_neg h1,hL2]
        by_cases h7:r.k=7
        ·rw[if_neg (by omega),if_pos h7];unfold Jv;simp only[if_pos h7];simp
        ·rw[if_pos (by omega)];unfold Jv;simp only[if_neg h7];simp
   refine Ac rfl rfl ?_
   (conv=>whnf);repeat' (first|((first|apply kE c1|apply kE c2|apply kE p|refine kA ?_|(apply Br.mk<;>intro hc))<;>first|exact hc.elim|conv=>whnf)|refine kB ?_)
   all_goals first|exact⟨nn,L,rfl,by omega,hv e⟩|omega|exact absurd ‹_› h1|contradiction|(exfalso;simp_all;done)
  ·obtain⟨_,⟨nn,L,rfl,hl,hL2⟩,p⟩:=(Af1 (r:=r) (g:=g) hL.en hL.edges hE fun z lb=>Abs (by have:=hL.nn;omega) (fun n hn=>(hL.nodes n hn).1)).KI
   have e:L=[]↔¬DZ r g:=by
        unfold DZ
        rw[if_neg h1,if_neg (by omega),if_neg (by omega),hL2];simp
   refine Ac rfl rfl ?_
   (conv=>whnf);repeat' (first|((first|apply kE c1|apply kE c2|apply kE p|refine kA ?_|(apply Br.mk<;>intro hc))<;>first|exact hc.elim|conv=>whnf)|refine kB ?_)
   all_goals first|exact⟨nn,L,rfl,by omega,hv e⟩|omega|exact absurd ‹_› h1|contradiction|(exfalso;simp_all;done)
structure VLq (s:List GR) (g:GG) (n:Nat) (V:List (Int×Int×Int)):Prop where
 y:AZ g=0→VL s g n V
 n:AZ g≠0→V=[]
set_option maxHeartbeats 4000000 in
theorem An6 {s:List GR} {sn:Bool} {g:GG} (hs:s.length<2^62) (hok:∀r∈s,r.ok) (hg:g.ok) (h:AZ g=0→Look g) (NR:AZ g=0→∀e∈g.edges,(∃ n∈g.nodes,n.id=e.fr)∧∃n∈g.nodes,n.id=e.to):
 Ae (Ad tab) 39 [.sl sn (vs GR.av s),g.av] (fun v=>∃nn V,v=.sl nn (vs YR V)∧V.length<2^62∧(¬ (Du s∧AZ g=0)→V=[])∧(Du s∧AZ g=0→VL s g s.length V)):=by
 have p1:=AlP (l:=s) (nn:=sn) hs hok
 by_cases hv:Du s
 case neg=>
  rw[decide_eq_false hv]at p1
  refine Ac rfl rfl ?_
  (conv=>whnf);repeat' (first|((first|apply kE p1|refine kA ?_|(apply Br.mk<;>intro hc))<;>first|exact hc.elim|conv=>whnf)|refine kB ?_)
  all_goals first
   |exact⟨_,[],rfl,by simp,fun _=>rfl,fun k=>absurd k.1 hv⟩
   |omega
   |contradiction
 rw[decide_eq_true hv]at p1
 have An7:=hv.1
 refine Ac rfl rfl ?_
 (conv=>whnf);repeat' (first|((first|apply kE p1|refine kA ?_|(apply Br.mk<;>intro hc))<;>first|exact hc.elim|conv=>whnf)|refine kB ?_)
 all_goals first|omega|contradiction|skip
 refine Ag (fun m env st=>∃(i go n1 c:Nat) (fo:Bool) (V:List (Int×Int×Int)),m=s.length-i∧i≤s.length∧n1=V.length∧V.length≤i*64000000∧VLq s g i V∧env=[(0,.sl sn (vs GR.av s)),(3,.ref 0 0 0 0),(5,.own 1 go 0 n1),(6,.int .i64 i)]∧st=⟨[.arr 0 4 true true [g.av],.arr go 3 fo true (vs YR V)],c⟩) ?_ _ _ _ ⟨0,_,_,_,_,[],rfl,by omega,rfl,by simp,⟨fun _=>VL.start s g,fun _=>rfl⟩,rfl,rfl⟩
 rintro _ _ _ ⟨i,go,n1,c,fo,V,rfl,hi,hn1,hVi,hV,rfl,rfl⟩
 refine⟨rfl,?_⟩
 by_cases hlt:i<s.length
 ·have hri:=hok _ (List.getElem_mem hlt)
  have hr0:=(hv.2 i hlt hlt).1
  obtain⟨_,⟨ln,L,rfl,hLl,hL2⟩,q⟩:=(ofW (r:=s[i]) hri hr0 hg h NR).KI
  have hst:VLq s g (i+1) (V++L.map fun p=>((i:Int),p)):=⟨fun k=>(hV.y k).step hlt (hL2.trans ⟨fun a b=>a ⟨k,b⟩,fun a b=>a b.2⟩),fun k=>by
   have e1:=hV.n k
   have e2:L=[]:=hL2.2 fun b=>k b.1
   rw[e1,e2];rfl⟩
  have Gf:nth (vs GR.av s) i=some (s[i]).av:=nVN hlt
  (conv=>whnf);repeat' (first|((first|refine Af Gf ?_|apply kE q|refine kA ?_|(apply Br.mk<;>intro hc))<;>first|exact hc.elim|conv=>whnf)|refine kB ?_)
  all_goals try omega
  refine Ag (fun m env st=>∃(j go n1 c:Nat) (fo:Bool) (V2:List (Int×Int×Int)),m=L.length-j∧j≤L.length∧n1=V2.length∧V2=V++(L.take j).map (fun p=>((i:Int),p))∧env=[(0,.sl sn (vs GR.av s)),(3,.ref 0 0 0 0),(5,.own 1 go 0 n1),(6,.int .i64 i),(7,.sl ln (vs KF L)),(8,.int .i64 j)]∧st=⟨[.arr 0 4 true true [g.av],.arr go 3 fo true (vs YR V2)],c⟩) ?_ _ _ _ ⟨0,_,_,_,_,V,rfl,by omega,hn1,by simp,rfl,rfl⟩
  rintro _ _ _ ⟨j,go2,n2,c2,fo2,V2,rfl,hj,hn2,hV2,rfl,rfl⟩
  refine⟨rfl,?_⟩
  have Ajf:V2.length=V.length+(L.take j).length:=by rw[hV2,List.length_append,List.length_map]
  have htl:(L.take j).length≤L.length:=List.length_take_le' ..
  by_cases hjl:j<L.length
  ·have e2:V2++[((i:Int),L[j])]=V++(L.take (j+1)).map (fun p=>((i:Int),p)):=by
        rw[hV2,List.take_succ_eq_append_getElem hjl,List.map_append,List.append_assoc];rfl
   have hnl:nth (vs KF L) j=some (KF L[j]):=nVN hjl
   (conv=>whnf);repeat' (first|((first|refine Af hnl ?_|refine LU (f:=YR) (l:=V2) (x:=((i:Int),L[j])) rfl cells3 hn2 (by omega) ?_|refine kA ?_|(apply Br.mk<;>intro hc))<;>first|exact hc.elim|conv=>whnf)|refine kB ?_)
   all_goals first
        |omega
        |exact again.mk ⟨_,by omega,j+1,_,_,_,_,V2++[((i:Int),L[j])],rfl,by omega,by simp,e2,rfl,rfl⟩
  ·rw[List.take_of_length_le (by omega)]at hV2 Ajf
   rw[← hV2]at hst
   (conv=>whnf);repeat' (first|((first|refine kA ?_|(apply Br.mk<;>intro hc))<;>first|exact hc.elim|conv=>whnf)|refine kB ?_)
   all_goals first
        |omega
        |exact again.mk ⟨_,by omega,i+1,_,_,_,_,V2,rfl,by omega,hn2,by omega,hst,rfl,rfl⟩
 ·obtain rfl:i=s.length:=by omega
  (conv=>whnf);repeat' (first|((first|refine kA ?_|(apply Br.mk<;>intro hc))<;>first|exact hc.elim|conv=>whnf)|refine kB ?_)
  all_goals first
   |omega
   |exact⟨_,V,by rw[hn1,uV],by omega,fun k=>hV.n fun k2=>k ⟨hv,k2⟩,fun k=>hV.y k.2⟩
theorem Ajg {k:Int}:Ae (Ad tab) 40 [.int .i64 k] (· =.int .i64 (Oh k)):=by
 unfold Oh
 by_cases h1:k=1
 ·subst h1
  refine Ac rfl rfl ?_
  (conv=>whnf);repeat' (first|((first|refine kA ?_|(apply Br.mk<;>intro hc))<;>first|exact hc.elim|conv=>whnf)|refine kB ?_)
  all_goals first|rfl|omega|contradiction
 rw[if_neg h1]
 by_cases h2:k=2∨k=4
 ·rw[if_pos h2]
  refine Ac rfl rfl ?_
  (conv=>whnf);repeat' (first|((first|refine kA ?_|(apply Br.mk<;>intro hc))<;>first|exact hc.elim|conv=>whnf)|refine kB ?_)
  all_goals first|rfl|omega
 rw[if_neg h2]
 by_cases h3:k=3∨k=5
 ·rw[if_pos h3]
  refine Ac rfl rfl ?_
  (conv=>whnf);repeat' (first|((first|refine kA ?_|(apply Br.mk<;>intro hc))<;>first|exact hc.elim|conv=>whnf)|refine kB ?_)
  all_goals first|rfl|omega
 rw[if_neg h3]
 by_cases h6:k=6
 ·rw[if_pos h6]
  refine Ac rfl rfl ?_
  (conv=>whnf);repeat' (first|((first|refine kA ?_|(apply Br.mk<;>intro hc))<;>first|exact hc.elim|conv=>whnf)|refine kB ?_)
  all_goals first|rfl|omega
 rw[if_neg h6]
 by_cases h7:k=7
 ·rw[if_pos h7]
  refine Ac rfl rfl ?_
  (conv=>whnf);repeat' (first|((first|refine kA ?_|(apply Br.mk<;>intro hc))<;>first|exact hc.elim|conv=>whnf)|refine kB ?_)
  all_goals first|rfl|omega
 rw[if_neg h7]
 refine Ac rfl rfl ?_
 (conv=>whnf);repeat' (first|((first|refine kA ?_|(apply Br.mk<;>intro hc))<;>first|exact hc.elim|conv=>whnf)|refine kB ?_)
 all_goals first|rfl|omega
set_option maxHeartbeats 2000000 in
theorem Ajh {s:List GR} {sn:Bool} {g:GG} (hs:s.length<2^62) (hok:∀r∈s,r.ok) (hg:g.ok) (h:AZ g=0→Look g) (NR:AZ g=0→∀e∈g.edges,(∃ n∈g.nodes,n.id=e.fr)∧∃n∈g.nodes,n.id=e.to):Ae (Ad tab) 16 [.sl sn (vs GR.av s),g.av] (· =.int .i64 (Ea s g)):=by
 obtain⟨_,⟨nn,V,rfl,hl,h1,h2⟩,p⟩:=(An6 (sn:=sn) hs hok hg h NR).KI
 by_cases hvc:Du s∧AZ g=0
 case neg=>
  have e:Ea s g=0:=by unfold Ea;rw[if_neg hvc]
  rw[e]
  have e2:=h1 hvc
  subst e2
  refine Ac rfl rfl ?_
  (conv=>whnf);repeat' (first|((first|apply kE p|refine kA ?_|(apply Br.mk<;>intro hc))<;>first|exact hc.elim|conv=>whnf)|refine kB ?_)
  all_goals first|rfl|omega|contradiction|(exfalso;simp_all;done)
 have hV:=h2 hvc
 cases V with
 |nil=>
  have e:Ea s g=0:=by unfold Ea;rw[if_pos hvc,hV.Xl]
  rw[e]
  refine Ac rfl rfl ?_
  (conv=>whnf);repeat' (first|((first|apply kE p|refine kA ?_|(apply Br.mk<;>intro hc))<;>first|exact hc.elim|conv=>whnf)|refine kB ?_)
  all_goals first|rfl|omega|contradiction|(exfalso;simp_all;done)
 |cons q T=>
  obtain⟨i,hi,hil,_,hv,hn⟩:=hV.yes q T rfl
  have e:Ea s g=Oh (s[i]).k:=by unfold Ea;rw[if_pos hvc,Xm hil hv hn]
  rw[e]
  obtain⟨q1,q2,q3⟩:=q
  replace hi:q1=(i:Int):=hi
  subst hi
  have hlen:(vs YR (((i:Int),q2,q3)::T)).length=T.length+1:=lV _
  have hn0:nth (vs YR (((i:Int),q2,q3)::T)) 0=some (.agg [.int .i64 (i:Int),.int .i64 q2,.int .i64 q3]):=rfl
  generalize vs YR (((i:Int),q2,q3)::T)=W at*
  have hns:nth (vs GR.av s) i=some (s[i]).av:=nVN hil
  refine Ac rfl rfl ?_
  (conv=>whnf);repeat' (first|((first|apply kE p|refine Af hn0 ?_|refine Af hns ?_|apply kE Ajg|refine kA ?_|(apply Br.mk<;>intro hc))<;>first|exact hc.elim|conv=>whnf)|refine kB ?_)
  all_goals first|rfl|omega|contradiction|(exfalso;simp_all;done)
section
variable {σ:List Obj} {d gd:Nat} {vN vE:AV} {nb eb:Bool} {N:List EN} {E:List EE} {x y:Int} {ct:Nat} {K:AB→Am→Prop}
set_option maxHeartbeats 2000000 in
theorem nodesWx {c:GC} (h:Ed σ d gd vN vE nb eb N E x y) (hq:Ask N E x y) (hop:3≤c.op∧c.op≤5) (hz:UG c.id) (hv:c.v.ok)
 (hP:∀e,(BM (J4 nb eb N E x y) c)=(e,J4 nb eb N E x y)→∀σ' c',Fr σ σ' []→K (.Dq (.iface 154 (.int .i64 e))) ⟨σ',c'⟩)
 (hR:∀g',BM (J4 nb eb N E x y) c=(0,g')→∀σ' c',EdG σ' d gd g'→Fr σ σ' (d::(vN.obj++(vE.obj++Bz N E)))→K (.ok (.BD [])) ⟨σ',c'⟩):
 Ar (Ad tab) 127 [.ref d gd 0 0,c.av] ⟨σ,ct⟩ K:=by
 obtain⟨op,z,fr,to,nm,v⟩:=c
 dsimp only at hop hz hv
 have h1:¬op=1:=by omega
 by_cases hf:∃n∈N,n.n.id=z
 rotate_left
 ·have e:=Abp (key:=GN.id) (by rw[exN];exact hf)
  refine Ahw h hq hz (by omega) hf fun σ' c' f=>hP 10 ?_ σ' c' f
  show BM ⟨nb,N.map EN.n,eb,E.map EE.e,x,y⟩ _=(_,⟨_,_,_,_,_,_⟩);simp only[BM,if_neg h1,e]
 have fd:∀n∈N.map EN.n,n.id=z→(N.map EN.n).find? (fun n=>decide (n.id=z))=some n:=fun n hn e=>Ux hq.iN hn e
 have h2:¬op=2:=by omega
 by_cases h3:op=3
 ·subst h3
  refine AkI h hq hz hf (fun hx σ' c' f=>hP 7 ?_ σ' c' f) (fun hx σ' c' f=>hP 20 ?_ σ' c' f) (fun n hn e hx hl σ' c' N' he hN f=>hR _ ?_ σ' c' ⟨_,_,_,_,_,_,_,_,he,rfl⟩ f)
  ·obtain⟨n,hn,e,hx⟩:=hx
   show BM ⟨nb,N.map EN.n,eb,E.map EE.e,x,y⟩ _=(_,⟨_,_,_,_,_,_⟩);simp only[BM,fd n hn e];rw[if_neg (by decide),if_neg (by decide),if_pos trivial,if_pos hx]
  ·obtain⟨n,hn,e,hx,hl⟩:=hx
   show BM ⟨nb,N.map EN.n,eb,E.map EE.e,x,y⟩ _=(_,⟨_,_,_,_,_,_⟩);simp only[BM,fd n hn e];rw[if_neg (by decide),if_neg (by decide),if_pos trivial,if_neg hx,if_neg hl]
  ·show BM ⟨nb,N.map EN.n,eb,E.map EE.e,x,y⟩ _=(_,⟨_,_,_,_,_,_⟩);simp only[BM,fd n hn e,hN];rw[if_neg (by decide),if_neg (by decide),if_pos trivial,if_neg hx,if_pos hl]
 by_cases h4:op=4
 ·subst h4
  refine Aks h hq hz hf (fun hx σ' c' f=>hP 23 ?_ σ' c' f) (fun n hn e hx σ' c' N' he hN f=>hR _ ?_ σ' c' ⟨_,_,_,_,_,_,_,_,he,rfl⟩ f)
  ·obtain⟨n,hn,e,hx⟩:=hx
   show BM ⟨nb,N.map EN.n,eb,E.map EE.e,x,y⟩ _=(_,⟨_,_,_,_,_,_⟩);simp only[BM,fd n hn e];rw[if_neg (by decide),if_neg (by decide),if_neg (by decide),if_pos trivial,if_neg hx]
  ·show BM ⟨nb,N.map EN.n,eb,E.map EE.e,x,y⟩ _=(_,⟨_,_,_,_,_,_⟩);simp only[BM,fd n hn e,hN];rw[if_neg (by decide),if_neg (by decide),if_neg (by decide),if_pos trivial,if_pos hx]
 obtain rfl:op=5:=by omega
 refine Aku h hq hz hv hf (fun hx σ' c' f=>hP 20 ?_ σ' c' f) (fun n hn e hx σ' c' N' he hN f=>hR _ ?_ σ' c' ⟨_,_,_,_,_,_,_,_,he,rfl⟩ f) (fun n hn e hx hl σ' c' N' he hN f=>hR _ ?_ σ' c' ⟨_,_,_,_,_,_,_,_,he,rfl⟩ f)
 ·obtain⟨n,hn,e,hx,hk,hl⟩:=hx
  show BM ⟨nb,N.map EN.n,eb,E.map EE.e,x,y⟩ _=(_,⟨_,_,_,_,_,_⟩);simp only[BM,fd n hn e];rw[if_neg (by decide),if_neg (by decide),if_neg (by decide),if_neg (by decide),if_neg hx,if_neg (fun h=>h.elim hk hl)]
 ·show BM ⟨nb,N.map EN.n,eb,E.map EE.e,x,y⟩ _=(_,⟨_,_,_,_,_,_⟩);simp only[BM,fd n hn e,hN];rw[if_neg (by decide),if_neg (by decide),if_neg (by decide),if_neg (by decide),if_pos hx]
 ·show BM ⟨nb,N.map EN.n,eb,E.map EE.e,x,y⟩ _=(_,⟨_,_,_,_,_,_⟩);simp only[BM,fd n hn e,hN];rw[if_neg (by decide),if_neg (by decide),if_neg (by decide),if_neg (by decide),if_neg hx,if_pos hl]
set_option maxHeartbeats 4000000 in
theorem stepWx {c:GC} (h:Ed σ d gd vN vE nb eb N E x y) (hq:Ask N E x y) (hok:c.ok) (hno:3≤c.op)
 (hR:∀σ' c',EdG σ' d gd (stepG (J4 nb eb N E x y) c).2→Fr σ σ' (d::(vN.obj++(vE.obj++Bz N E)))→K (.ok (.int .i64 (stepG (J4 nb eb N E x y) c).1)) ⟨σ',c'⟩):
 Ar (Ad tab) 60 [.ref d gd 0 0,c.av] ⟨σ,ct⟩ K:=by
 have hck:=AmE hok
 have hlt:=h.OE
 have hdl:=BR h.box
 have hv:c.v.ok:=hok.2.2.2.2.2
 have h0:=fun(h0:ckC c=0)=>AgD h0
 obtain⟨op,z,fr,to,nm,v⟩:=c
 refine AbO rfl rfl ?_
 show vC _ _ [(0,.ref d gd 0 0),(1,.agg [.int .i64 op,.int .i64 z,.int .i64 fr,.int .i64 to,.str nm,.int .i64 v.k,.int .i64 v.n,.int .i64 v.d,.str v.s,.sl v.nn v.l])] _ _
 conv=>whnf
 (conv=>whnf);repeat' (first|((first|(refine BU fun σ2 f2 h2 l2=>?_;have h12:=f2.get h1 (by simp);have hE2:=(h.NK f1).NK f2;have f02:=f1.trans f2)|refine BU fun σ1 f1 h1 l1=>?_|apply kE hck|rw[h12]|rw[h2]|refine EL h2 fun σ3 f3 h3 l3=>?_|rw[h3]|refine kA ?_|(apply Br.mk<;>intro hc))<;>first|exact hc.elim|conv=>whnf)|refine kB ?_)
 all_goals have hns:∀q∈d::(vN.obj++(vE.obj++Bz N E)),q<σ.length:=hlt
 all_goals have l1':σ1.length=σ.length+1:=l1
 ·have hk:ckC (GC.mk op z fr to nm v)=0:=by assumption
  have h0':=h0 hk
  have hs:stepG (J4 nb eb N E x y) ⟨op,z,fr,to,nm,v⟩=BM (J4 nb eb N E x y) ⟨op,z,fr,to,nm,v⟩:=by
   unfold stepG;rw[if_neg (fun h=>h hk),if_pos hc]
  refine nodesWx hE2 hq ⟨hno,hc⟩ h0'.2.1 hv (fun e he σ' c' f=>?_) (fun g' hg σ' c' hE' f=>?_)
  ·have hz3:=f.get h2 (by simp)
   (conv=>whnf);repeat' (first|((first|rw[hz3]|refine EL hz3 fun σ4 f4 h4 l4=>?_|refine kA ?_|(apply Br.mk<;>intro hc))<;>first|exact hc.elim|conv=>whnf)|refine kB ?_)
   refine⟨_,AeK h4,?_⟩
   rw[hs,he]at hR
   have ff:Fr σ σ4 []:=(((f02.trans f).mono (by simp)).trans f4).mono (by simp;omega)
   exact hR _ _ ⟨_,_,_,_,_,_,_,_,h.NK ff,rfl⟩ (ff.mono (by simp))
  ·have hz3:=f.get h2 (fun hm=>by have:=hns _ hm;dsimp only at this;omega)
   (conv=>whnf);repeat' (first|((first|rw[hz3]|refine EL hz3 fun σ4 f4 h4 l4=>?_|refine kA ?_|(apply Br.mk<;>intro hc))<;>first|exact hc.elim|conv=>whnf)|refine kB ?_)
   refine⟨_,AeK h4,?_⟩
   rw[hs,hg]at hR
   refine hR _ _ (hE'.cell hz3 f4) ((((f02.mono (F':=σ1.length::(d::(vN.obj++(vE.obj++Bz N E)))) (by simp)).trans (f.mono (by intro q hq;exact .inl (List.mem_cons_of_mem _ hq)))).trans (f4.mono (by simp))).mono fun q hq=>?_)
   rcases List.mem_cons.1 hq with rfl|hq
   ·exact .inr (by omega)
   ·exact .inl hq
 ·have hk:ckC (GC.mk op z fr to nm v)=0:=by assumption
  have h0':=h0 hk
  have hs:stepG (J4 nb eb N E x y) ⟨op,z,fr,to,nm,v⟩=Di (J4 nb eb N E x y) ⟨op,z,fr,to,nm,v⟩:=by
   unfold stepG;rw[if_neg (fun h=>h hk),if_neg hc]
  refine Akr hE2 hq ⟨show 6≤op by omega,h0'.1.2⟩ h0'.2.1 hv (fun e he σ' c' f=>?_) (fun g' hg σ' c' hE' f=>?_)
  ·have hz3:=f.get h2 (by simp)
   (conv=>whnf);repeat' (first|((first|rw[hz3]|refine EL hz3 fun σ4 f4 h4 l4=>?_|refine kA ?_|(apply Br.mk<;>intro hc))<;>first|exact hc.elim|conv=>whnf)|refine kB ?_)
   refine⟨_,AeK h4,?_⟩
   rw[hs,he]at hR
   have ff:Fr σ σ4 []:=(((f02.trans f).mono (by simp)).trans f4).mono (by simp;omega)
   exact hR _ _ ⟨_,_,_,_,_,_,_,_,h.NK ff,rfl⟩ (ff.mono (by simp))
  ·have hz3:=f.get h2 (fun hm=>by have:=hns _ hm;dsimp only at this;omega)
   (conv=>whnf);repeat' (first|((first|rw[hz3]|refine EL hz3 fun σ4 f4 h4 l4=>?_|refine kA ?_|(apply Br.mk<;>intro hc))<;>first|exact hc.elim|conv=>whnf)|refine kB ?_)
   refine⟨_,AeK h4,?_⟩
   rw[hs,hg]at hR
   refine hR _ _ (hE'.cell hz3 f4) ((((f02.mono (F':=σ1.length::(d::(vN.obj++(vE.obj++Bz N E)))) (by simp)).trans (f.mono (by intro q hq;exact .inl (List.mem_cons_of_mem _ hq)))).trans (f4.mono (by simp))).mono fun q hq=>?_)
   rcases List.mem_cons.1 hq with rfl|hq
   ·exact .inr (by omega)
   ·exact .inl hq
 ·have hk:ckC (GC.mk op z fr to nm v)≠0:=by assumption
  refine⟨_,AeK h3,?_⟩
  have hs:stepG (J4 nb eb N E x y) ⟨op,z,fr,to,nm,v⟩=(ckC ⟨op,z,fr,to,nm,v⟩,J4 nb eb N E x y):=by
   unfold stepG;rw[if_pos hk]
  rw[hs]at hR
  have ff:Fr σ σ3 []:=((f02.mono (by simp)).trans f3).mono (by simp;omega)
  exact hR _ _ ⟨_,_,_,_,_,_,_,_,h.NK ff,rfl⟩ (ff.mono (by simp))
end
section
variable {σ:List Obj} {ct:Nat}
set_option maxHeartbeats 4000000 in
theorem allLoopx {g:GG} {L:List GC} {nn:Bool} {d gd p4 u4:Nat} {Q:AQ→Env→Am→Prop} (hL:L.length<2 ^ 62) (hok:∀c∈L,c.ok) (hno:∀c∈L,3≤c.op) (hg:EdG σ d gd g) (ha:IZ g)
 (h4:nth σ p4=some (.arr u4 4 true true [.agg [.sl false [],.sl false [],.int .i64 0,.int .i64 0]]))
 (hE:∀σ' c' i e,RX g L 0=(ED,i,e)→nth σ' p4=some (.arr u4 4 true true [.agg [.sl false [],.sl false [],.int .i64 0,.int .i64 0]])→Q .ret [(4,.ref p4 u4 0 0),(5,.int .i64 (i:Nat)),(6,.int .i64 e)] ⟨σ',c'⟩)
 (hQ:∀σ' c' h tl,RX g L 0=(h,L.length,0)→EdG σ' d gd h→IZ h→nth σ' p4=some (.arr u4 4 true true [.agg [.sl false [],.sl false [],.int .i64 0,.int .i64 0]])→Q (.exit 0) ([(1,.sl nn (vs GC.av L)),(4,.ref p4 u4 0 0),(8,.ref d gd 0 0),(21,.sl nn (vs GC.av L)),(22,.int .i64 L.length),(23,.int .i64 L.length)]++tl) ⟨σ',c'⟩):
 Run (Ad tab) (.loop l27_0_h l27_0_b) [(1,.sl nn (vs GC.av L)),(4,.ref p4 u4 0 0),(8,.ref d gd 0 0),(21,.sl nn (vs GC.av L)),(22,.int .i64 L.length),(23,.int .i64 0)] ⟨σ,ct⟩ Q:=by
 refine Ag (fun m env s=>∃(i c':Nat) (σ':List Obj) (h:GG),m=L.length-i∧i≤L.length∧env=[(1,.sl nn (vs GC.av L)),(4,.ref p4 u4 0 0),(8,.ref d gd 0 0),(21,.sl nn (vs GC.av L)),(22,.int .i64 L.length),(23,.int .i64 i)]∧s=⟨σ',c'⟩∧EdG σ' d gd h∧IZ h∧RX g L 0=RX h (L.drop i) i∧nth σ' p4=some (.arr u4 4 true true [.agg [.sl false [],.sl false [],.int .i64 0,.int .i64 0]])) ?_ _ _ _ ⟨0,_,_,g,rfl,by omega,rfl,rfl,hg,ha,by rw[List.drop_zero],h4⟩
 rintro _ _ _ ⟨i,c',σ',h,rfl,hi,rfl,rfl,he,hh,hr,hp⟩
 refine⟨rfl,?_⟩
 by_cases hlt:i<L.length
 ·have Anu:=hok _ (List.getElem_mem hlt)
  have hcno:=hno _ (List.getElem_mem hlt)
  have hnt:nth (vs GC.av L) (Int.toNat (i:Int))=some (L[i]).av:=nV hlt
  have Lm:nth (vs GC.av L) i=some (L[i]).av:=nV hlt
  rw[List.drop_eq_getElem_cons hlt,RX]at hr
  obtain⟨c,hcc⟩:∃c,c=L[i]:=⟨_,rfl⟩
  rw[← hcc]at Anu hcno hnt Lm hr
  obtain⟨vN,vE,nb,eb,N,E,x,y,hEd,hgo⟩:=he
  subst hgo
  have hq:=hh.ask
  have hpl:=BR hp
  obtain⟨op,z,fr,to,nm,v⟩:=c
  (conv=>whnf);repeat' (first|((first|(refine BU fun σ1 f1 h1 l1=>?_;have hp1:=f1.get hp (by simp);have hE1:=hEd.NK f1)|refine Af hnt ?_|refine Af Lm ?_|rw[h1]|(refine EL h1 fun σ2 f2 h2 l2=>?_;have hp2:=f2.get hp1 (by simp;omega))|rw[h2]|refine kA ?_|(apply Br.mk<;>intro hc))<;>first|exact hc.elim|conv=>whnf)|refine kB ?_)
  all_goals try omega
  have f02:Fr σ' σ2 []:=((f1.mono (F':=[σ'.length]) (by simp)).trans f2).mono (by simp)
  have hE2:=hEd.NK f02
  refine stepWx (c:=⟨op,z,fr,to,nm,v⟩) hE2 hq Anu hcno fun σ3 c3 hE3 f3=>?_
  have hp3:=f3.get hp2 (hE2.AaS hp2)
  have hh':=hh.step (c:=⟨op,z,fr,to,nm,v⟩)
  generalize hsg:stepG (J4 nb eb N E x y) ⟨op,z,fr,to,nm,v⟩=sg at hr hE3 hh' ⊢
  obtain⟨e0,g0⟩:=sg
  dsimp only at hr hE3 hh' ⊢
  (conv=>whnf);repeat' (first|((first|rw[hp3]|refine(Dp _ _).2 ?_|refine EL hp3 fun σ4 f4 h4' l4=>?_|refine kA ?_|(apply Br.mk<;>intro hc))<;>first|exact hc.elim|conv=>whnf)|refine kB ?_)
  all_goals first
   |exact hE σ4 _ i e0 (by rw[hr,if_pos (by omega)]) h4'
   |exact again.mk ⟨_,by omega,i+1,_,σ3,g0,rfl,by omega,rfl,rfl,hE3,hh',by rw[hr,if_neg (by omega)],hp3⟩
 ·obtain rfl:i=L.length:=by omega
  (conv=>whnf);repeat' (first|((first|refine kA ?_|(apply Br.mk<;>intro hc))<;>first|exact hc.elim|conv=>whnf)|refine kB ?_)
  all_goals first
   |(exact hQ _ _ h _ (by rw[hr,List.drop_length];rfl) he hh hp)
   |omega
end
set_option maxHeartbeats 4000000 in
theorem applyAllPx {g:GG} {L:List GC} {nn:Bool} (hg:g.ok) (hL:L.length<2 ^ 62) (hok:∀c∈L,c.ok) (hno:∀c∈L,3≤c.op):
 Ae (Ad tab) 27 [g.av,.sl nn (vs GC.av L)] (· =.BD [(Bq g L).1.av,.int .i64 (Bq g L).2.1,.int .i64 (Bq g L).2.2]):=by
 have hck:=V6 hg
 refine Aeu rfl rfl ?_
 show vC _ _ [(0,.agg [.sl g.nn (vs GN.av g.nodes),.sl g.en (vs GE.av g.edges),.int .i64 g.Df,.int .i64 g.DC]),(1,.sl nn (vs GC.av L))] _ _
 by_cases h0:AZ g=0
 ·have ha:=ZL h0
  have hfw:=Akg hg h0
  have hlL:(vs GC.av L).length=L.length:=lV _
  rw[h0]at hck
  (conv=>whnf);repeat' (first|((first|apply kE hck|refine AgQ hfw fun σ' c' oN uN nN oE uE nE N E hcp=>?_|refine kA ?_|(apply Br.mk<;>intro hc))<;>first|exact hc.elim|conv=>whnf)|refine kB ?_)
  have hz:=hcp.fr.get (o:=1) rfl (by simp)
  refine BU fun σ1 f1 h1 l1=>?_
  have hz1:=f1.get hz (by simp)
  have hzl:=BR hz
  (conv=>whnf);repeat' (first|((first|rw[h1]|refine(Dp _ _).2 ?_|refine EL h1 fun σ2 f2 h2 l2=>?_|refine kA ?_|(apply Br.mk<;>intro hc))<;>first|exact hc.elim|conv=>whnf)|refine kB ?_)
  have f02:Fr σ' σ2 []:=((f1.mono (F':=[σ'.length]) (by simp)).trans f2).mono (by simp)
  have hz2:=f02.get hz (by simp)
  have hEd:=hcp.ed f02 h2
  refine allLoopx hL hok hno hEd ha hz2 (fun σ3 c3 i e hr hz3=>?_) (fun σ3 c3 h tl hr hE3 ha3 hz3=>?_)
  ·have hR:Bq g L=(ED,i,e):=by unfold Bq;rw[if_neg (fun h=>h h0),hr]
   rw[hR]
   conv=>whnf
   exact⟨_,Akh rfl rfl hz3,_,_,rfl,rd3 WO (by omega),rfl⟩
  ·have hR:Bq g L=(h,L.length,0):=by unfold Bq;rw[if_neg (fun h=>h h0),hr]
   rw[hR]
   obtain⟨vN,vE,nb,eb,N3,E3,x,y,ZM,hgo⟩:=hE3
   obtain⟨cn,hn1,_⟩:=ZM.hn
   obtain⟨ce,he1,_⟩:=ZM.he
   obtain⟨o1,u1,k1,rfl⟩:=hn1.AiB ZM.oN
   obtain⟨o2,u2,k2,rfl⟩:=he1.AiB ZM.oE
   have hb3:=ZM.box
   have hnz:=ZM.AaS hz3
   subst hgo
   have hq:=ha3.ask
   have hlN:=hq.lN
   have hlE:=hq.lE
   (conv=>whnf);repeat' (first|((first|rw[hb3]|rw[hz3]|refine(Dp _ _).2 ?_|refine EL hz3 fun σ4 f4 h4 l4=>?_|refine kA ?_|(apply Br.mk<;>intro hc))<;>first|exact hc.elim|conv=>whnf)|refine kB ?_)
   have hE4:=ZM.fr f4 (fun o ho hm=>hnz (by simp only[List.mem_singleton]at hm;subst hm;exact ho))
   exact⟨_,Akh rfl rfl h4,_,_,rfl,rd3 hE4.snG (by omega),rfl⟩
 ·have hR:Bq g L=(ED,0,AZ g):=by unfold Bq;rw[if_pos h0]
  rw[hR]
  (conv=>whnf);repeat' (first|((first|apply kE hck|refine kA ?_|(apply Br.mk<;>intro hc))<;>first|exact hc.elim|conv=>whnf)|refine kB ?_)
  all_goals first|omega|exact⟨_,Akh rfl rfl rfl,_,_,rfl,rd3 WO (by omega),rfl⟩|exact⟨_,_,rfl,rd3 WO (by omega),rfl⟩
theorem cloneR1 {l:List GR} {nn:Bool} (hl:l.length≤2000) (hn:nn=false→l=[]):Ae (Ad tab) 26 [.sl nn (vs GR.av l)] (· =.sl nn (vs GR.av l)):=by
 cases nn with
 |false=>
  obtain rfl:=hn rfl
  refine Ac rfl rfl ?_
  (conv=>whnf);repeat' (first|((first|refine kA ?_|(apply Br.mk<;>intro hc))<;>first|exact hc.elim|conv=>whnf)|refine kB ?_)
  rfl
 |true=>
  refine Ac rfl rfl ?_
  (conv=>whnf);repeat' (first|((first|refine kA ?_|(apply Br.mk<;>intro hc))<;>first|exact hc.elim|conv=>whnf)|refine kB ?_)
  refine Ah4 (Cj (f:=GR.av) (fun _=>rfl) l) (by rw[lV];omega) ?_
  (conv=>whnf);repeat' (first|((first|refine kA ?_|(apply Br.mk<;>intro hc))<;>first|exact hc.elim|conv=>whnf)|refine kB ?_)
  rw[lV,uV]
theorem resM_op (g:GG) (m:GM):∀c∈(Gw g m).1,3≤c.op:=by
 have h0:∀c∈([]:List GC),3≤c.op:=fun c hc=>by cases hc
 unfold Gw
 split;· exact h0
 split;· exact h0
 split;· exact h0
 intro c hc
 unfold UA at hc
 rcases List.mem_append.1 hc with hc|hc
 ·obtain⟨n,hn,hc⟩:=List.mem_flatMap.1 hc
  unfold CW Uz at hc
  repeat' split at hc
  all_goals simp only[List.mem_cons,List.not_mem_nil,or_false]at hc
  all_goals first|(rcases hc with rfl|rfl<;>(dsimp only;omega))|(subst hc;dsimp only;omega)
 ·obtain⟨n,hn,hc⟩:=List.mem_flatMap.1 hc
  unfold FI Uz at hc
  split at hc
  ·simp only[List.mem_cons,List.mem_map]at hc
   rcases hc with rfl|rfl|⟨p,hp,rfl⟩<;>(dsimp only;omega)
  ·cases hc
def ansE1 (r:RE) (v:AV):Prop:=∃b,v=.BD [r.g.av,.sl b (vs GR.av r.s),.int .i64 r.n,.int .i64 r.e]∧(b=false→r.s=[])
set_option maxHeartbeats 4000000 in
theorem applyE1 {g:GG} {s:List GR} {sn ln:Bool} {l:List GM} (ho:OkE g s) (hsn:sn=false→s=[]) (hs:s.length≤2000) (hl:l.length<2^62) (hm:∀m∈l,m.ok) (hne:0<l.length):
 Ae (Ad tab) 10 [g.av,.sl sn (vs GR.av s),.sl ln (vs GM.av l)] (ansE1 (Fz g s l 0)):=by
 obtain⟨R,hR⟩:∃R,R=Fz g s l 0:=⟨_,rfl⟩
 rw[← hR]
 have pC:=cloneR1 (l:=s) (nn:=sn) hs hsn
 refine Ac rfl rfl ?_
 (conv=>whnf);repeat' (first|((first|apply kE pC|refine kA ?_|(apply Br.mk<;>intro hc))<;>first|exact hc.elim|conv=>whnf)|refine kB ?_)
 refine Ag (fun m env st=>∃(i c:Nat) (h:GG) (t:List GR) (b:Bool),m=l.length-i∧i≤l.length∧OkE h t∧(b=false→t=[])∧R=Fz h t (l.drop i) i∧env=[(2,.sl ln (vs GM.av l)),(3,.ref 0 0 0 0),(6,.ref 1 1 0 0),(10,.sl b (vs GR.av t)),(21,.sl ln (vs GM.av l)),(22,.int .i64 l.length),(23,.int .i64 i)]∧st=⟨[.arr 0 4 true true [h.av],.arr 1 4 true true [ED.av]],c⟩) ?_ _ _ _ ⟨0,_,g,s,sn,rfl,by omega,ho,hsn,by rw[List.drop_zero];exact hR,rfl,rfl⟩
 rintro _ _ _ ⟨i,c,h,t,b,rfl,hi,hot,hb,hall,rfl,rfl⟩
 refine⟨rfl,?_⟩
 by_cases hlt:i<l.length
 ·have VQ:=hm _ (List.getElem_mem hlt)
  obtain⟨m,hme⟩:∃m,m=l[i]:=⟨_,rfl⟩
  have Gf:nth (vs GM.av l) i=some m.av:=by rw[hme];exact nVN hlt
  rw[List.drop_eq_getElem_cons hlt,Fz,←hme]at hall
  rw[← hme]at VQ
  obtain⟨_,⟨b1,rfl⟩,p1⟩:=(AfK hot.gk VQ (RV hot.gk)).KI
  by_cases h1:(Gw h m).2=0
  case neg=>
   have e:AbV h t m=⟨(Gw h m).2,ED,[]⟩:=by unfold AbV;rw[if_pos h1]
   rw[e,if_pos h1]at hall
   subst hall
   (conv=>whnf);repeat' (first|((first|refine Af Gf ?_|apply kE p1|refine kA ?_|(apply Br.mk<;>intro hc))<;>first|exact hc.elim|conv=>whnf)|refine kB ?_)
   all_goals first
        |exact⟨false,rfl,fun _=>rfl⟩
        |omega
        |exact absurd ‹_› h1
  have p2:=applyAllPx (g:=h) (L:=(Gw h m).1) (nn:=b1) hot.gk (AfF (RV hot.gk)) (Rq hot.gk VQ) (resM_op h m)
  rw[h1]at p1
  by_cases h2:(Bq h (Gw h m).1).2.2=0
  case neg=>
   have e:AbV h t m=⟨(Bq h (Gw h m).1).2.2,ED,[]⟩:=by unfold AbV;rw[if_neg (not_not_intro h1),if_pos h2]
   rw[e,if_pos h2]at hall
   subst hall
   (conv=>whnf);repeat' (first|((first|refine Af Gf ?_|apply kE p1|apply kE p2|refine kA ?_|(apply Br.mk<;>intro hc))<;>first|exact hc.elim|conv=>whnf)|refine kB ?_)
   all_goals first
        |exact⟨false,rfl,fun _=>rfl⟩
        |omega
        |contradiction
        |exact absurd ‹_› h2
  rw[h2]at p2
  obtain⟨_,⟨b3,rfl,hb3⟩,p3⟩:=(Ajl (nn:=b) hb hot.lk hot.sk VQ).KI
  by_cases h3:IK t m=0
  case neg=>
   have e:AbV h t m=⟨IK t m,ED,[]⟩:=by unfold AbV;rw[if_neg (not_not_intro h1),if_neg (not_not_intro h2),if_pos h3]
   rw[e,if_pos h3]at hall
   subst hall
   (conv=>whnf);repeat' (first|((first|refine Af Gf ?_|apply kE p1|apply kE p2|apply kE p3|refine kA ?_|(apply Br.mk<;>intro hc))<;>first|exact hc.elim|conv=>whnf)|refine kB ?_)
   all_goals first
        |exact⟨false,rfl,fun _=>rfl⟩
        |omega
        |contradiction
        |exact absurd ‹_› h3
  rw[if_pos h3]at p3 hb3
  rw[h3]at p3
  obtain⟨hk,hkc⟩:=JL (L:=(Gw h m).1) hot.gk (Rq hot.gk VQ)
  have p4:=Aju (s:=Jh t m) (sn:=b3) (g:=(Bq h (Gw h m).1).1) (by have:=Xo (s:=t) (m:=m);omega) (Aan hot.sk VQ) hk (Xp hk)
  by_cases h4:Ea (Jh t m) (Bq h (Gw h m).1).1=0
  case neg=>
   have e:AbV h t m=⟨Ea (Jh t m) (Bq h (Gw h m).1).1,ED,[]⟩:=by unfold AbV;rw[if_neg (not_not_intro h1),if_neg (not_not_intro h2),if_neg (not_not_intro h3),if_pos h4]
   rw[e,if_pos h4]at hall
   subst hall
   (conv=>whnf);repeat' (first|((first|refine Af Gf ?_|apply kE p1|apply kE p2|apply kE p3|apply kE p4|refine kA ?_|(apply Br.mk<;>intro hc))<;>first|exact hc.elim|conv=>whnf)|refine kB ?_)
   all_goals first
        |exact⟨false,rfl,fun _=>rfl⟩
        |omega
        |contradiction
        |exact absurd ‹_› h4
  rw[h4]at p4
  have e:AbV h t m=⟨0,(Bq h (Gw h m).1).1,Jh t m⟩:=by unfold AbV;rw[if_neg (not_not_intro h1),if_neg (not_not_intro h2),if_neg (not_not_intro h3),if_neg (not_not_intro h4)]
  have ho2:=hot.step VQ
  rw[e]at ho2 hall
  rw[if_neg (not_not_intro rfl)]at hall
  dsimp only at ho2 hall
  (conv=>whnf);repeat' (first|((first|refine Af Gf ?_|apply kE p1|apply kE p2|apply kE p3|apply kE p4|refine kA ?_|(apply Br.mk<;>intro hc))<;>first|exact hc.elim|conv=>whnf)|refine kB ?_)
  all_goals first
   |omega
   |contradiction
   |exact again.mk ⟨_,by omega,i+1,_,_,_,b3,rfl,by omega,ho2,hb3,hall,rfl,rfl⟩
 ·obtain rfl:i=l.length:=by omega
  rw[List.drop_length,Fz]at hall
  subst hall
  (conv=>whnf);repeat' (first|((first|refine kA ?_|(apply Br.mk<;>intro hc))<;>first|exact hc.elim|conv=>whnf)|refine kB ?_)
  all_goals first
   |omega
   |exact⟨b,rfl,hb⟩
end AI
end Go.Proofs.YtjijnamhalgamaaGreatDoor
