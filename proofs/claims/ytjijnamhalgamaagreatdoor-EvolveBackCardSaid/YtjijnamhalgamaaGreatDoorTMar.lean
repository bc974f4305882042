/- The first violated rule, by the program. The reference's order of values: a value is equal to itself, if its list is. The reference's order of values: a value is equal to itself. Lists of changes compared with themselves; inverses; what is small. Adding a rule and leaving one out: the program's Add and Drop. Adding a rule and leaving one out: the reference's Add and Drop. A rule turned by a migration: the program's rule and the reference's turned. A rule turned by a migration, proved. -/
import Derived.Test.YtjijnamhalgamaaGreatDoorTMaq
import Derived.Test.YtjijnamhalgamaaGreatDoorTMal
import Derived.Test.YtjijnamhalgamaaGreatDoorTMae
import Derived.Test.YtjijnamhalgamaaGreatDoorTMad
import Derived.Test.YtjijnamhalgamaaGreatDoorTMap
import Derived.Test.YtjijnamhalgamaaGreatDoorTMag
import Derived.Test.YtjijnamhalgamaaGreatDoorTMah
set_option linter.unusedVariables false
set_option maxRecDepth 4000
namespace Go.Proofs.YtjijnamhalgamaaGreatDoor
namespace AI
structure Look (g:GG):Prop where
 nn:g.nodes.length≤4000
 en:g.edges.length≤4000
 nodes:∀n∈g.nodes,n.labels.length<2^62∧n.props.length<2^62∧∀p∈n.props,p.ok∧Dx p.v
 good:∀n∈g.nodes,Aal n
 edges:∀e∈g.edges,e.props.length<2^62
theorem ofV {r:GR} {g:GG} (h:Look g):Ae (Ad tab) 129 [r.av,g.av] (fun v=>∃nn L,v=.sl nn (vs KF L)∧L.length≤64000000∧(L=[]↔¬DZ r g)):=by
 by_cases h1:r.k=1
 ·obtain⟨_,⟨nn,L,rfl,hl,hL⟩,p⟩:=(Agh (r:=r) (g:=g) h.nn h.nodes).KI
  have e:L=[]↔¬DZ r g:=by unfold DZ;rw[if_pos h1,hL];exact Classical.not_not.symm
  refine Ac rfl rfl ?_
  (conv=>whnf);repeat' (first|((first|apply kE p|refine kA ?_|(apply Br.mk<;>intro hc))<;>first|exact hc.elim|conv=>whnf)|refine kB ?_)
  all_goals first|exact⟨nn,L,rfl,hl,e⟩|omega|exact absurd h1 ‹_›
 ·by_cases h2:r.k=2∨r.k=3
  ·obtain⟨_,⟨nn,L,rfl,hl,hL⟩,p⟩:=(Ajj (r:=r) (g:=g) h.nn fun n hn=>⟨(h.nodes n hn).1,(h.nodes n hn).2.1⟩).KI
   have e:L=[]↔¬DZ r g:=by unfold DZ;rw[if_neg h1,if_pos h2,hL];simp
   refine Ac rfl rfl ?_
   (conv=>whnf);repeat' (first|((first|apply kE p|refine kA ?_|(apply Br.mk<;>intro hc))<;>first|exact hc.elim|conv=>whnf)|refine kB ?_)
   all_goals first|exact⟨nn,L,rfl,by omega,e⟩|omega|exact absurd ‹_› h1
  ·by_cases h7:r.k=7
   ·obtain⟨_,⟨nn,L,rfl,hl,hL⟩,p⟩:=(Ac4 (r:=r) (g:=g) h.nn h.en).KI
    have e:L=[]↔¬DZ r g:=by unfold DZ;rw[if_neg h1,if_neg h2,if_pos h7,hL];simp
    refine Ac rfl rfl ?_
    (conv=>whnf);repeat' (first|((first|apply kE p|refine kA ?_|(apply Br.mk<;>intro hc))<;>first|exact hc.elim|conv=>whnf)|refine kB ?_)
    all_goals first|exact⟨nn,L,rfl,by omega,e⟩|omega|exact absurd ‹_› h1
   ·obtain⟨_,⟨nn,L,rfl,hl,hL⟩,p⟩:=(Ajk (r:=r) (g:=g) h.en h.edges fun z lb=>Aji (by have:=h.nn;omega) h.good (fun n hn=>(h.nodes n hn).1)).KI
    have e:L=[]↔¬DZ r g:=by unfold DZ;rw[if_neg h1,if_neg h2,if_neg h7,hL];simp
    refine Ac rfl rfl ?_
    (conv=>whnf);repeat' (first|((first|apply kE p|refine kA ?_|(apply Br.mk<;>intro hc))<;>first|exact hc.elim|conv=>whnf)|refine kB ?_)
    all_goals first|exact⟨nn,L,rfl,by omega,e⟩|omega|exact absurd ‹_› h1
def YR (p:Int×Int×Int):AV:=.agg [.int .i64 p.1,.int .i64 p.2.1,.int .i64 p.2.2]
theorem cells3 (x:Int×Int×Int):(YR x).cells.length=3:=rfl
structure VL (s:List GR) (g:GG) (n:Nat) (V:List (Int×Int×Int)):Prop where
 no:V=[]→∀r∈s.take n,¬DZ r g
 yes:∀p T,V=p::T→∃i:Nat,p.1=i∧∃h:i<s.length,i<n∧DZ s[i] g∧∀r∈s.take i,¬DZ r g
theorem VL.start (s:List GR) (g:GG):VL s g 0 []:=⟨fun _ r hr=>(by cases hr),fun p T h=>(by cases h)⟩
theorem VL.step {s:List GR} {g:GG} {n:Nat} {V:List (Int×Int×Int)} (h:VL s g n V) (hn:n<s.length) {L:List (Int×Int)} (hL:L=[]↔¬DZ s[n] g):VL s g (n+1) (V++L.map fun p=>((n:Int),p)) where
 no e r hr:=by
  obtain⟨e1,e2⟩:=List.append_eq_nil_iff.1 e
  rw[List.take_succ_eq_append_getElem hn,List.mem_append,List.mem_singleton]at hr
  rcases hr with hr|hr
  ·exact h.no e1 r hr
  ·subst hr;exact hL.1 (List.map_eq_nil_iff.1 e2)
 yes p T e:=by
  cases V with
  |cons q V'=>
   simp only[List.cons_append,List.cons.injEq]at e
   obtain⟨i,h1,h2,h3,h4,h5⟩:=h.yes q V' rfl
   exact⟨i,e.1▸h1,h2,by omega,h4,h5⟩
  |nil=>
   rw[List.nil_append]at e
   cases L with
   |nil=>cases e
   |cons q L'=>
    simp only[List.map_cons,List.cons.injEq]at e
    refine⟨n,by rw[← e.1],hn,by omega,Classical.not_not.1 fun hv=>?_,h.no rfl⟩
    have:=hL.2 hv
    cases this
set_option maxHeartbeats 4000000 in
theorem Aoe {s:List GR} {sn:Bool} {g:GG} (hs:s.length<2^62) (hok:∀r∈s,r.ok) (hg:g.ok) (h:AZ g=0→Look g):Ae (Ad tab) 61 [.sl sn (vs GR.av s),g.av] (fun v=>∃nn V,v=.sl nn (vs YR V)∧V.length<2^62∧(¬ (Du s∧AZ g=0)→V=[])∧(Du s∧AZ g=0→VL s g s.length V)):=by
 have p1:=Agi (l:=s) (nn:=sn) hs hok
 have p2:=V6 hg
 by_cases hv:Du s
 case neg=>
  rw[decide_eq_false hv]at p1
  refine Ac rfl rfl ?_
  (conv=>whnf);repeat' (first|((first|apply kE p1|refine kA ?_|(apply Br.mk<;>intro hc))<;>first|exact hc.elim|conv=>whnf)|refine kB ?_)
  all_goals first
   |exact⟨_,[],rfl,by simp,fun _=>rfl,fun k=>absurd k.1 hv⟩
   |omega
   |contradiction
 rw[decide_eq_true hv]at p1
 by_cases hck:AZ g=0
 case neg=>
  refine Ac rfl rfl ?_
  (conv=>whnf);repeat' (first|((first|apply kE p1|apply kE p2|refine kA ?_|(apply Br.mk<;>intro hc))<;>first|exact hc.elim|conv=>whnf)|refine kB ?_)
  all_goals first
   |exact⟨_,[],rfl,by simp,fun _=>rfl,fun k=>absurd k.2 hck⟩
   |omega
   |contradiction
   |exact absurd ‹_› hck
 have hL:=h hck
 have An7:=hv.1
 rw[hck]at p2
 refine Ac rfl rfl ?_
 (conv=>whnf);repeat' (first|((first|apply kE p1|apply kE p2|refine kA ?_|(apply Br.mk<;>intro hc))<;>first|exact hc.elim|conv=>whnf)|refine kB ?_)
 all_goals first|omega|contradiction|skip
 refine Ag (fun m env st=>∃(i go n1 c:Nat) (fo:Bool) (V:List (Int×Int×Int)),m=s.length-i∧i≤s.length∧n1=V.length∧V.length≤i*64000000∧VL s g i V∧env=[(3,.ref 0 0 0 0),(5,.own 1 go 0 n1),(18,.sl sn (vs GR.av s)),(19,.int .i64 s.length),(20,.int .i64 i)]∧st=⟨[.arr 0 4 true true [g.av],.arr go 3 fo true (vs YR V)],c⟩) ?_ _ _ _ ⟨0,_,_,_,_,[],rfl,by omega,rfl,by simp,VL.start s g,rfl,rfl⟩
 rintro _ _ _ ⟨i,go,n1,c,fo,V,rfl,hi,hn1,hVi,hV,rfl,rfl⟩
 refine⟨rfl,?_⟩
 by_cases hlt:i<s.length
 ·obtain⟨_,⟨ln,L,rfl,hLl,hL2⟩,q⟩:=(ofV (r:=s[i]) hL).KI
  have hst:=hV.step hlt hL2
  (conv=>whnf);repeat' (first|((first|apply kE q|refine kA ?_|(apply Br.mk<;>intro hc))<;>first|exact hc.elim|conv=>whnf)|refine kB ?_)
  all_goals try omega
  refine Ag (fun m env st=>∃(j go n1 c:Nat) (fo:Bool) (V2:List (Int×Int×Int)),m=L.length-j∧j≤L.length∧n1=V2.length∧V2=V++(L.take j).map (fun p=>((i:Int),p))∧env=[(3,.ref 0 0 0 0),(5,.own 1 go 0 n1),(6,.int .i64 i),(18,.sl sn (vs GR.av s)),(19,.int .i64 s.length),(20,.int .i64 i),(27,.sl ln (vs KF L)),(28,.int .i64 L.length),(29,.int .i64 j)]∧st=⟨[.arr 0 4 true true [g.av],.arr go 3 fo true (vs YR V2)],c⟩) ?_ _ _ _ ⟨0,_,_,_,_,V,rfl,by omega,hn1,by simp,rfl,rfl⟩
  rintro _ _ _ ⟨j,go2,n2,c2,fo2,V2,rfl,hj,hn2,hV2,rfl,rfl⟩
  refine⟨rfl,?_⟩
  have Ajf:V2.length=V.length+(L.take j).length:=by rw[hV2,List.length_append,List.length_map]
  have htl:(L.take j).length≤L.length:=List.length_take_le' ..
  by_cases hjl:j<L.length
  ·have e2:V2++[((i:Int),L[j])]=V++(L.take (j+1)).map (fun p=>((i:Int),p)):=by
        rw[hV2,List.take_succ_eq_append_getElem hjl,List.map_append,List.append_assoc];rfl
   (conv=>whnf);repeat' (first|((first|refine LU (f:=YR) (l:=V2) (x:=((i:Int),L[j])) rfl cells3 hn2 (by omega) ?_|refine kA ?_|(apply Br.mk<;>intro hc))<;>first|exact hc.elim|conv=>whnf)|refine kB ?_)
   all_goals first
        |omega
        |exact again.mk ⟨_,by omega,j+1,_,_,_,_,V2++[((i:Int),L[j])],rfl,by omega,by simp,e2,rfl,rfl⟩
  ·rw[List.take_of_length_le (by omega)]at hV2 Ajf
   rw[← hV2]at hst
   (conv=>whnf);repeat' (first|((first|refine kA ?_|(apply Br.mk<;>intro hc))<;>first|exact hc.elim|conv=>whnf)|refine kB ?_)
   all_goals first
        |omega
        |exact again.mk ⟨_,by omega,i+1,_,_,_,_,V2,rfl,by omega,hn2,by omega,hst,rfl,rfl⟩
 ·obtain rfl:i=s.length:=by omega
  (conv=>whnf);repeat' (first|((first|refine kA ?_|(apply Br.mk<;>intro hc))<;>first|exact hc.elim|conv=>whnf)|refine kB ?_)
  all_goals first
   |omega
   |exact⟨_,V,by rw[hn1,uV],by omega,fun k=>absurd ⟨hv,hck⟩ k,fun _=>hV⟩
theorem Ajt {k:Int}:Ae (Ad tab) 62 [.int .i64 k] (· =.int .i64 (Oh k)):=by
 unfold Oh
 by_cases h1:k=1
 ·subst h1
  refine Ac rfl rfl ?_
  (conv=>whnf);repeat' (first|((first|refine kA ?_|(apply Br.mk<;>intro hc))<;>first|exact hc.elim|conv=>whnf)|refine kB ?_)
  all_goals first|rfl|omega|contradiction
 rw[if_neg h1]
 by_cases h2:k=2∨k=4
 ·rw[if_pos h2]
  refine Ac rfl rfl ?_
  (conv=>whnf);repeat' (first|((first|refine kA ?_|(apply Br.mk<;>intro hc))<;>first|exact hc.elim|conv=>whnf)|refine kB ?_)
  all_goals first|rfl|omega
 rw[if_neg h2]
 by_cases h3:k=3∨k=5
 ·rw[if_pos h3]
  refine Ac rfl rfl ?_
  (conv=>whnf);repeat' (first|((first|refine kA ?_|(apply Br.mk<;>intro hc))<;>first|exact hc.elim|conv=>whnf)|refine kB ?_)
  all_goals first|rfl|omega
 rw[if_neg h3]
 by_cases h6:k=6
 ·rw[if_pos h6]
  refine Ac rfl rfl ?_
  (conv=>whnf);repeat' (first|((first|refine kA ?_|(apply Br.mk<;>intro hc))<;>first|exact hc.elim|conv=>whnf)|refine kB ?_)
  all_goals first|rfl|omega
 rw[if_neg h6]
 by_cases h7:k=7
 ·rw[if_pos h7]
  refine Ac rfl rfl ?_
  (conv=>whnf);repeat' (first|((first|refine kA ?_|(apply Br.mk<;>intro hc))<;>first|exact hc.elim|conv=>whnf)|refine kB ?_)
  all_goals first|rfl|omega
 rw[if_neg h7]
 refine Ac rfl rfl ?_
 (conv=>whnf);repeat' (first|((first|refine kA ?_|(apply Br.mk<;>intro hc))<;>first|exact hc.elim|conv=>whnf)|refine kB ?_)
 all_goals first|rfl|omega
theorem VL.Xl {s:List GR} {g:GG} (h:VL s g s.length []):s.find? (fun r=>decide (DZ r g))=none:=by
 rw[List.find?_eq_none]
 intro r hr
 have:=h.no rfl r (by rwa [List.take_length])
 simpa using this
theorem Xm {s:List GR} {g:GG} {i:Nat} (hi:i<s.length) (hv:DZ s[i] g) (hn:∀r∈s.take i,¬DZ r g):s.find? (fun r=>decide (DZ r g))=some s[i]:=by
 exact O8 hi (fun r hr=>decide_eq_false (hn r hr)) (decide_eq_true hv)
set_option maxHeartbeats 2000000 in
theorem Aju {s:List GR} {sn:Bool} {g:GG} (hs:s.length<2^62) (hok:∀r∈s,r.ok) (hg:g.ok) (h:AZ g=0→Look g):Ae (Ad tab) 28 [.sl sn (vs GR.av s),g.av] (· =.int .i64 (Ea s g)):=by
 obtain⟨_,⟨nn,V,rfl,hl,h1,h2⟩,p⟩:=(Aoe (sn:=sn) hs hok hg h).KI
 by_cases hvc:Du s∧AZ g=0
 case neg=>
  have e:Ea s g=0:=by unfold Ea;rw[if_neg hvc]
  rw[e]
  have e2:=h1 hvc
  subst e2
  refine Ac rfl rfl ?_
  (conv=>whnf);repeat' (first|((first|apply kE p|refine kA ?_|(apply Br.mk<;>intro hc))<;>first|exact hc.elim|conv=>whnf)|refine kB ?_)
  all_goals first|rfl|omega|contradiction|(exfalso;simp_all;done)
 have hV:=h2 hvc
 cases V with
 |nil=>
  have e:Ea s g=0:=by unfold Ea;rw[if_pos hvc,hV.Xl]
  rw[e]
  refine Ac rfl rfl ?_
  (conv=>whnf);repeat' (first|((first|apply kE p|refine kA ?_|(apply Br.mk<;>intro hc))<;>first|exact hc.elim|conv=>whnf)|refine kB ?_)
  all_goals first|rfl|omega|contradiction|(exfalso;simp_all;done)
 |cons q T=>
  obtain⟨i,hi,hil,_,hv,hn⟩:=hV.yes q T rfl
  have e:Ea s g=Oh (s[i]).k:=by unfold Ea;rw[if_pos hvc,Xm hil hv hn]
  rw[e]
  obtain⟨q1,q2,q3⟩:=q
  replace hi:q1=(i:Int):=hi
  subst hi
  have hlen:(vs YR (((i:Int),q2,q3)::T)).length=T.length+1:=lV _
  have hn0:nth (vs YR (((i:Int),q2,q3)::T)) 0=some (.agg [.int .i64 (i:Int),.int .i64 q2,.int .i64 q3]):=rfl
  generalize vs YR (((i:Int),q2,q3)::T)=W at*
  refine Ac rfl rfl ?_
  (conv=>whnf);repeat' (first|((first|apply kE p|refine Af hn0 ?_|apply kE Ajt|refine kA ?_|(apply Br.mk<;>intro hc))<;>first|exact hc.elim|conv=>whnf)|refine kB ?_)
  all_goals first|rfl|omega|contradiction|(exfalso;simp_all;done)
theorem fields0 {g:GV} (hl:Ae (Ad tab) 156 [.sl g.nn g.l,.sl g.nn g.l] (· =.int .i64 0)):Ae (Ad tab) 92 [g.av,g.av] (· =.int .i64 0):=by
 refine Ac rfl rfl ?_
 (conv=>whnf);repeat' (first|((first|refine kA ?_|(apply Br.mk<;>intro hc)|apply kE AlH|apply kE strs0|refine kE hl ?_)<;>first|exact hc.elim|conv=>whnf)|refine kB ?_)
 all_goals rfl
theorem listsE {nn:Bool} {l:List AV} (h:l=[]):Ae (Ad tab) 156 [.sl nn l,.sl nn l] (· =.int .i64 0):=by
 subst h
 refine Ac rfl rfl ?_
 (conv=>whnf);repeat' (first|((first|refine kA ?_|(apply Br.mk<;>intro hc))<;>first|exact hc.elim|conv=>whnf)|refine kB ?_)
 refine Ag (fun m env s=>m=0∧env=[(0,.sl nn []),(1,.sl nn []),(5,.int .i64 0)]∧s=⟨[],0⟩) ?_ _ _ _ ⟨rfl,rfl,rfl⟩
 rintro _ _ _ ⟨rfl,rfl,rfl⟩
 refine⟨rfl,?_⟩
 (conv=>whnf);repeat' (first|((first|refine kA ?_|(apply Br.mk<;>intro hc)|refine kE AlH ?_)<;>first|exact hc.elim|conv=>whnf)|refine kB ?_)
 all_goals first|rfl|omega
theorem AfE {α β:Type} {f:α→List β} {l:List α} {k:Nat} (h:∀x∈l,(f x).length≤k):(l.flatMap f).length≤k*l.length:=by
 induction l with
 |nil=>simp
 |cons a l ih=>
  have h1:=h a (by simp)
  have h2:=ih fun x hx=>h x (by simp[hx])
  rw[List.flatMap_cons,List.length_append,List.length_cons,Nat.mul_succ];omega
theorem AfF {g:GG} {m:GM} (h:AZ g=0→Fair g):(Gw g m).1.length<2^62:=by
 by_cases h1:EW m=0
 case neg=>rw[AfG h1];simp
 by_cases h2:AZ g=0
 case neg=>rw[AfH h1 h2];simp
 by_cases h3:FU g m
 ·rw[AfI h1 h2 h3];simp
 rw[AfJ h1 h2 h3]
 have hf:=h h2
 have a:=AfE (f:=(CW · m)) (l:=g.nodes) (k:=2) fun x _=>Vu x m
 have b:=AfE (f:=(FI · m)) (l:=g.edges) (k:=2002) fun x hx=>by have:=Vw x m;have:=(hf.2.2.2.2 x hx).1.1;omega
 have:=hf.2.1
 have:=hf.2.2.1
 simp only[UA,List.length_append]
 omega
def gm0:GM:=⟨0,[],[],[],V0,⟨0,0,[],[],[],[]⟩⟩
def invM (m:GM):AV:=if EW m=0∧m.k≤3 then .BD [(GM.mk m.k m.label m.to m.fr m.v m.r).av,.bool true]else .BD [gm0.av,.bool false]
theorem invM_y {m:GM} (h:EW m=0) (h1:m.k≤3):invM m=.BD [(GM.mk m.k m.label m.to m.fr m.v m.r).av,.bool true]:=if_pos ⟨h,h1⟩
theorem invM_n {m:GM} (h:¬(EW m=0∧m.k≤3)):invM m=.BD [gm0.av,.bool false]:=if_neg h
theorem invP {m:GM} (hm:m.ok):Ae (Ad tab) 20 [m.av] (· =invM m):=by
 refine Ac rfl rfl ?_
 (conv=>whnf);repeat' (first|((first|apply kE (Ajd hm)|refine kA ?_|(apply Br.mk<;>intro hc))<;>first|exact hc.elim|conv=>whnf)|refine kB ?_)
 all_goals first
  |(rw [invM_y (by omega) (by omega)];rfl)
  |(rw [invM_n (by omega)];rfl)
theorem Alp {v:GV} (hv:v.ok):Ae (Ad tab) 41 [.sl true [.sl true [v.av]],.int .i64 60] (fun w=>∃b,w=.bool b∧(b=true→Gx 12 v.av)):=by
 refine Ac rfl rfl ?_
 (conv=>whnf);repeat' (first|((first|refine kA ?_|(apply Br.mk<;>intro hc))<;>first|exact hc.elim|conv=>whnf)|refine kB ?_)
 refine DR ?_ rfl
 (conv=>whnf);repeat' (first|((first|refine kA ?_|(apply Br.mk<;>intro hc))<;>first|exact hc.elim|conv=>whnf)|refine kB ?_)
 all_goals first|(exfalso;simp_all;done)|skip
 refine DR ?_ rfl
 (conv=>whnf);repeat' (first|((first|(refine Aa (wei 12 (by omega) hv (by omega) (by omega)) ?_;rintro _ ⟨r,rfl,r1,r2,r3⟩)|refine kA ?_|(apply Br.mk<;>intro hc))<;>first|exact hc.elim|conv=>whnf)|refine kB ?_)
 all_goals first|(exfalso;simp_all;done)|skip
 refine DR ?_ rfl
 (conv=>whnf);repeat' (first|((first|refine kA ?_|(apply Br.mk<;>intro hc))<;>first|exact hc.elim|conv=>whnf)|refine kB ?_)
 all_goals first|(exfalso;simp_all;done)|skip
 refine DR ?_ rfl
 (conv=>whnf);repeat' (first|((first|refine kA ?_|(apply Br.mk<;>intro hc))<;>first|exact hc.elim|conv=>whnf)|refine kB ?_)
 all_goals first
  |(exfalso;simp_all;done)
  |exact⟨_,rfl,fun _=>(r3 ‹_›).2⟩
  |exact⟨_,rfl,fun h=>Bool.noConfusion h⟩
theorem Aia {z:Int} {K:AV→Prop} (h:∀y,K (.int .i64 y)):Jk .i64 z K:=BI rfl (h _)
theorem AjT {m:GM} (hm:m.ok):Ae (Ad tab) 17 [m.av] (fun v=>∃b,v=.bool b∧(b=true→Gx 12 m.v.av)):=by
 obtain⟨_,⟨b,rfl,hb⟩,hp⟩:=(Alp hm.2.2.2.2.1).KI
 cases b
 all_goals
  refine Ac rfl rfl ?_
  (conv=>whnf);repeat' (first|((first|apply kE hp|refine Aia (fun y=>?_)|refine kA ?_|(apply Br.mk<;>intro hc))<;>first|exact hc.elim|conv=>whnf)|refine kB ?_)
 all_goals first|exact⟨_,rfl,hb⟩|exact⟨_,rfl,fun h=>Bool.noConfusion h⟩|exact⟨_,rfl,fun _=>hb rfl⟩
def Anv (M:GR→Prop) (v:AV):Prop:=∃b W,v=.BD [.sl b (vs GR.av W),.int .i64 0]∧W.Pairwise (fun x y=>BX x y=true)∧W.length<2^61∧∀y,y∈W↔M y
def Ab6 (e:Int) (M:GR→Prop) (v:AV):Prop:=(e≠0→v=.BD [.sl false [],.int .i64 e])∧(e=0→Anv M v)
theorem Ll {e k:Int} {M:GR→Prop} (h:k=e) (h0:k≠0):Ab6 e M (.BD [.sl false [],.int .i64 k]):=by subst h;exact⟨fun _=>rfl,fun h=>absurd h h0⟩
theorem WJ {e:Int} {M:GR→Prop} {v:AV} (h:e=0) (h2:Anv M v):Ab6 e M v:=⟨fun k=>absurd h k,fun _=>h2⟩
noncomputable def TU (l:List GR) (x:GR):Int:=by
 classical exact if¬Du l then 19 else if Dt x≠0 then Dt x else if x∈l then 7 else if l.length=40 then 20 else 0
noncomputable def Q7 (l:List GR) (x:GR):Int:=by
 classical exact if¬Du l then 19 else if Dt x≠0 then Dt x else if x∉l then 23 else 0
theorem Acp {l:List GR} {x:GR} {z:Nat} (hs:l.Pairwise fun x y=>BX x y=true) (hp:AeZ l x z) (hx:x∉l):
 (l.take z++x::l.drop z).Pairwise (fun x y=>BX x y=true)∧∀y,y∈l.take z++x::l.drop z↔y∈l∨y=x:=by
 constructor
 ·have h0:=List.take_append_drop z l
  rw[← h0]at hs
  rw[List.pairwise_append]at hs ⊢
  obtain⟨a,b,c⟩:=hs
  have lo:∀y∈l.take z,BX y x=true:=fun y hy=>by
   obtain⟨k,hk,e⟩:=List.getElem_of_mem hy
   rw[List.length_take]at hk
   rw[List.getElem_take]at e
   rw[← e];exact hp.lo k (by omega) (by omega)
  have hi:∀y∈l.drop z,BX x y=true:=fun y hy=>by
   obtain⟨k,hk,e⟩:=List.getElem_of_mem hy
   rw[List.length_drop]at hk
   rw[List.getElem_drop]at e
   have h1:=hp.hi (z+k) (by omega) (by omega)
   rw[e]at h1
   cases h2:BX x y with
   |true=>rfl
   |false=>exact absurd (Aas _ _ h1 h2) (fun e2=>hx (by rw[← e2,←e];exact List.getElem_mem _))
  refine⟨a,List.pairwise_cons.2 ⟨hi,b⟩,fun y hy w hw=>?_⟩
  rcases List.mem_cons.1 hw with rfl|hw
  ·exact lo y hy
  ·exact c y hy w hw
 ·intro y
  conv=>rhs;rw[← List.take_append_drop z l]
  simp only[List.mem_append,List.mem_cons]
  constructor
  ·rintro(h|h|h)<;>simp[h]
  ·rintro((h|h)|h)<;>simp[h]
theorem Acr {l:List GR} {x:GR} {z:Nat} (hs:l.Pairwise fun x y=>BX x y=true) (hz:z<l.length) (hx:l[z]=x):
 (l.take z++l.drop (z+1)).Pairwise (fun x y=>BX x y=true)∧∀y,y∈l.take z++l.drop (z+1)↔y∈l∧y≠x:=by
 have h0:l=l.take z++x::l.drop (z+1):=by rw[← hx,←List.drop_eq_getElem_cons hz,List.take_append_drop]
 have hs2:=hs
 rw[h0]at hs2
 rw[List.pairwise_append,List.pairwise_cons]at hs2
 obtain⟨a,⟨b1,b2⟩,c⟩:=hs2
 constructor
 ·exact List.pairwise_append.2 ⟨a,b2,fun y hy w hw=>c y hy w (by simp[hw])⟩
 ·intro y
  have n1:y∈l.take z→y≠x:=fun h e=>by have:=c y h x (by simp);rw[e,Es.irrefl]at this;cases this
  have n2:y∈l.drop (z+1)→y≠x:=fun h e=>by have:=b1 y h;rw[e,Es.irrefl]at this;cases this
  constructor
  ·intro h
   rcases List.mem_append.1 h with h|h
   ·exact⟨List.mem_of_mem_take h,n1 h⟩
   ·exact⟨List.mem_of_mem_drop h,n2 h⟩
  ·rintro⟨h,hne⟩
   rw[h0]at h
   simp only[List.mem_append,List.mem_cons]at h
   rcases h with h|h|h
   ·exact List.mem_append.2 (.inl h)
   ·exact absurd h hne
   ·exact List.mem_append.2 (.inr h)
theorem Ah4 {g es:Nat} {ys:List AV} {bytes:Nat} {K:Nat→Bool→Bool→List AV→Prop} (hs:Bc es ys) (hr:ys.length*bytes≤2 ^ 46) (h:K ys.length true true ys):
 IW g g es es 0 true true true [] ys bytes K:=by
 refine⟨⟨rfl,rfl,by simp,hs,?_⟩,?_⟩
 ·rw[Nat.zero_add];exact Jq hr
 ·rw[Nat.zero_add];exact h
theorem Ah5:Ar (Ad tab) 26 [.sl false []] ⟨[],0⟩ fun out _=>out=.ok (.sl false []):=by
 refine Ai rfl rfl ?_
 (conv=>whnf);repeat' (first|((first|refine kA ?_|(apply Br.mk<;>intro hc))<;>first|exact hc.elim|conv=>whnf)|refine kB ?_)
 rfl
theorem Afz {l:List GR} (hl:l.length≤2000):Ar (Ad tab) 26 [.sl true (vs GR.av l)] ⟨[],0⟩ fun out s'=>∃o g,out=.ok (.own o g 0 (vs GR.av l).length)∧nth s'.σ o=some (.arr g 6 true true (vs GR.av l)):=by
 refine Ai rfl rfl ?_
 (conv=>whnf);repeat' (first|((first|refine kA ?_|(apply Br.mk<;>intro hc))<;>first|exact hc.elim|conv=>whnf)|refine kB ?_)
 refine Ah4 (Cj (f:=GR.av) (fun _=>rfl) l) (by rw[lV];omega) ?_
 (conv=>whnf);repeat' (first|((first|refine kA ?_|(apply Br.mk<;>intro hc))<;>first|exact hc.elim|conv=>whnf)|refine kB ?_)
 exact⟨_,_,rfl,rfl⟩
theorem Apq {Bv:Obj} {g1 c:Nat} {z:Int} (hz:z=0) {x:GR} {K:AB→Am→Prop} (hK:K (.ok (.own 2 c 0 1)) ⟨[Bv,.arr g1 1 false true [],.arr c 6 true true [x.av]],c+1⟩):
 Ar (Ad tab) 115 [.own 1 g1 0 0,.int .i64 z,.sl true [x.av]] ⟨[Bv,.arr g1 1 false true []],c⟩ K:=
 Gs rfl (by subst hz;simp[VU,D5,nth,push,GR.av,AV.cells]) hK
theorem insL {Bv:Obj} {g1 c n z:Nat} {l:List GR} (hz:z≤l.length) (hl:l.length≤2000) (hn:n=l.length) {x:GR} {K:AB→Am→Prop} (hK:K (.ok (.own 1 c 0 (n+1))) ⟨[Bv,.arr c 6 true true (vs GR.av (l.take z++x::l.drop z))],c+1⟩):
 Ar (Ad tab) 115 [.own 1 g1 0 n,.int .i64 z,.sl true [x.av]] ⟨[Bv,.arr g1 6 true true (vs GR.av l)],c⟩ K:=by
 subst hn
 have e:List.take z (vs GR.av l)++[x.av]++List.drop z (vs GR.av l)=vs GR.av (l.take z++x::l.drop z):=by simp[vs,List.map_take,List.map_drop]
 have hx:(GR.av x).cells.length=6:=rfl
 refine Gs rfl ?_ hK
 unfold VU D5
 simp only[nth,lV,Int.toNat_natCast,hx,if_true,Bool.true_eq_false,if_false]
 rw[if_pos ⟨trivial,trivial,by omega,hz,Nat.le_refl _,by omega⟩]
 rw[← e,List.take_of_length_le (show (vs GR.av l).length≤l.length by simp)]
 rfl
theorem Anw {Bv:Obj} {g1 c n z:Nat} {y:Int} {l:List GR} (hz:z<l.length) (hy:y=(z:Int)+1) (hn:n=l.length) {K:AB→Am→Prop} (hK:K (.ok (.own 1 c 0 (n-1))) ⟨[Bv,.arr c 6 true true (vs GR.av (l.take z++l.drop (z+1)))],c+1⟩):
 Ar (Ad tab) 116 [.own 1 g1 0 n,.int .i64 z,.int .i64 y] ⟨[Bv,.arr g1 6 true true (vs GR.av l)],c⟩ K:=by
 subst hn
 have e:List.take z (vs GR.av l)++List.drop (z+1) (vs GR.av l)=vs GR.av (l.take z++l.drop (z+1)):=by simp[vs,List.map_take,List.map_drop]
 have hy2:y.toNat=z+1:=by omega
 refine Gs rfl ?_ hK
 unfold YP AcD
 simp only[nth,lV,Int.toNat_natCast,hy2]
 rw[if_pos ⟨trivial,trivial,by omega,by omega,by omega,Nat.le_refl _⟩]
 rw[← e,List.take_of_length_le (show (vs GR.av l).length≤l.length by simp),show z+(l.length-(z+1))=l.length-1 by omega]
 rfl
def TV (v:AV):Prop:=∀b W e,v=.BD [.sl b W,e]→b=false→W=[]
theorem PS {x:AV}:TV (.BD [.sl false [],x]):=fun b W e h _=>by
 injection h with h;injection h with h1 h2;injection h1 with h3 h4;exact h4.symm
theorem AfA {W:List AV} {x:AV}:TV (.BD [.sl true W,x]):=fun b W e h hb=>by
 injection h with h;injection h with h1 h2;injection h1 with h3 h4;rw[hb]at h3;cases h3
theorem AmF {l:List GR} {nn:Bool} {x:GR} (hn:nn=false→l=[]) (hl:l.length<2^61) (hok:∀r∈l,r.ok) (hx:x.ok):Ae (Ad tab) 52 [.sl nn (vs GR.av l),x.av] (fun v=>Ab6 (TU l x) (fun y=>y∈l∨y=x) v∧TV v):=by
 have hv:=Agi (nn:=nn) (l:=l) (by omega) hok
 have hr:=NQ hx
 by_cases h1:Du l
 case neg=>
  rw[decide_eq_false h1]at hv
  refine Ac rfl rfl ?_
  (conv=>whnf);repeat' (first|((first|apply kE hv|refine kA ?_|(apply Br.mk<;>intro hc))<;>first|exact hc.elim|conv=>whnf)|refine kB ?_)
  all_goals exact⟨Ll (by unfold TU;simp[h1]) (by omega),PS⟩
 rw[decide_eq_true h1]at hv
 by_cases h2:Dt x=0
 case neg=>
  refine Ac rfl rfl ?_
  (conv=>whnf);repeat' (first|((first|apply kE hv|apply kE hr|refine kA ?_|(apply Br.mk<;>intro hc))<;>first|exact hc.elim|conv=>whnf)|refine kB ?_)
  all_goals first|exact⟨Ll (by unfold TU;simp[h1,h2]) (by omega),PS⟩|omega
 rw[h2]at hr
 obtain⟨_,⟨z,b,rfl,hp,hb⟩,hbs⟩:=(bsR (nn:=nn) (x:=x) hl (AeY h1)).KI
 cases b with
 |true=>
  refine Ac rfl rfl ?_
  (conv=>whnf);repeat' (first|((first|apply kE hv|apply kE hr|apply kE hbs|refine kA ?_|(apply Br.mk<;>intro hc))<;>first|exact hc.elim|conv=>whnf)|refine kB ?_)
  all_goals first|exact⟨Ll (by unfold TU;simp[h1,h2,hb.1 rfl]) (by omega),PS⟩|omega
 |false=>
  have h3:x∉l:=fun h=>Bool.noConfusion (hb.2 h)
  have hle:=hp.le
  have h40:=h1.1
  obtain⟨s1,s2⟩:=Acp (AeY h1) hp h3
  by_cases h4:l.length=40
  ·refine Ac rfl rfl ?_
   (conv=>whnf);repeat' (first|((first|apply kE hv|apply kE hr|apply kE hbs|refine kA ?_|(apply Br.mk<;>intro hc))<;>first|exact hc.elim|conv=>whnf)|refine kB ?_)
   all_goals first|exact⟨Ll (by unfold TU;simp[h1,h2,h3,h4]) (by omega),PS⟩|omega
  ·have he:TU l x=0:=by unfold TU;simp[h1,h2,h3,h4]
   cases nn with
   |false=>
    obtain rfl:=hn rfl
    refine Ac rfl rfl ?_
    (conv=>whnf);repeat' (first|((first|apply kE hv|apply kE hr|apply kE hbs|refine FW rfl Ah5 ?_|refine kA ?_|(apply Br.mk<;>intro hc))<;>first|exact hc.elim|conv=>whnf)|refine kB ?_)
    refine Apq (by simp at hle;omega) ?_
    (conv=>whnf);repeat' (first|((first|refine kA ?_|(apply Br.mk<;>intro hc))<;>first|exact hc.elim|conv=>whnf)|refine kB ?_)
    refine⟨WJ he ⟨true,[]++[x],rfl,?_,by simp,fun y=>by simp⟩,AfA⟩
    simp
   |true=>
    refine Ac rfl rfl ?_
    (conv=>whnf);repeat' (first|((first|apply kE hv|apply kE hr|apply kE hbs|refine RY rfl (Afz (by omega)) ?_|refine kA ?_|(apply Br.mk<;>intro hc))<;>first|exact hc.elim|conv=>whnf)|refine kB ?_)
    refine insL (by omega) (by omega) (lV _) ?_
    (conv=>whnf);repeat' (first|((first|refine kA ?_|(apply Br.mk<;>intro hc))<;>first|exact hc.elim|conv=>whnf)|refine kB ?_)
    have e:sub (vs GR.av (l.take z++x::l.drop z)) 0 ((vs GR.av l).length+1)=vs GR.av (l.take z++x::l.drop z):=by
       rw[JU,List.drop_zero,List.take_of_length_le (by simp;omega)]
    refine⟨WJ he ⟨true,l.take z++x::l.drop z,?_,s1,by simp;omega,s2⟩,AfA⟩
    show AV.BD [.sl true (sub (vs GR.av (l.take z++x::l.drop z)) 0 ((vs GR.av l).length+1)),.int .i64 0]=_
    rw[e]
theorem Akd {l:List GR} {nn:Bool} {x:GR} (hn:nn=false→l=[]) (hl:l.length<2^61) (hok:∀r∈l,r.ok) (hx:x.ok):Ae (Ad tab) 53 [.sl nn (vs GR.av l),x.av] (fun v=>Ab6 (Q7 l x) (fun y=>y∈l∧y≠x) v∧TV v):=by
 have hv:=Agi (nn:=nn) (l:=l) (by omega) hok
 have hr:=NQ hx
 by_cases h1:Du l
 case neg=>
  rw[decide_eq_false h1]at hv
  refine Ac rfl rfl ?_
  (conv=>whnf);repeat' (first|((first|apply kE hv|refine kA ?_|(apply Br.mk<;>intro hc))<;>first|exact hc.elim|conv=>whnf)|refine kB ?_)
  all_goals exact⟨Ll (by unfold Q7;simp[h1]) (by omega),PS⟩
 rw[decide_eq_true h1]at hv
 by_cases h2:Dt x=0
 case neg=>
  refine Ac rfl rfl ?_
  (conv=>whnf);repeat' (first|((first|apply kE hv|apply kE hr|refine kA ?_|(apply Br.mk<;>intro hc))<;>first|exact hc.elim|conv=>whnf)|refine kB ?_)
  all_goals first|exact⟨Ll (by unfold Q7;simp[h1,h2]) (by omega),PS⟩|omega
 rw[h2]at hr
 obtain⟨_,⟨z,b,rfl,hp,hb⟩,hbs⟩:=(bsR (nn:=nn) (x:=x) hl (AeY h1)).KI
 cases b with
 |false=>
  have h3:x∉l:=fun h=>Bool.noConfusion (hb.2 h)
  refine Ac rfl rfl ?_
  (conv=>whnf);repeat' (first|((first|apply kE hv|apply kE hr|apply kE hbs|refine kA ?_|(apply Br.mk<;>intro hc))<;>first|exact hc.elim|conv=>whnf)|refine kB ?_)
  all_goals first|exact⟨Ll (by unfold Q7;simp[h1,h2,h3]) (by omega),PS⟩|omega
 |true=>
  have h3:=hb.1 rfl
  obtain⟨hz,hz2⟩:=(hp.mem (AeY h1)).1 h3
  obtain⟨s1,s2⟩:=Acr (AeY h1) hz hz2
  have h40:=h1.1
  have he:Q7 l x=0:=by unfold Q7;simp[h1,h2,h3]
  obtain rfl:nn=true:=by
   cases nn with
   |true=>rfl
   |false=>rw[hn rfl]at hz;simp at hz
  refine Ac rfl rfl ?_
  (conv=>whnf);repeat' (first|((first|apply kE hv|apply kE hr|apply kE hbs|refine RY rfl (Afz (by omega)) ?_|refine kA ?_|(apply Br.mk<;>intro hc))<;>first|exact hc.elim|conv=>whnf)|refine kB ?_)
  refine Anw hz rfl (lV _) ?_
  (conv=>whnf);repeat' (first|((first|refine kA ?_|(apply Br.mk<;>intro hc))<;>first|exact hc.elim|conv=>whnf)|refine kB ?_)
  have e:sub (vs GR.av (l.take z++l.drop (z+1))) 0 ((vs GR.av l).length-1)=vs GR.av (l.take z++l.drop (z+1)):=by
   rw[JU,List.drop_zero,List.take_of_length_le (by simp;omega)]
  refine⟨WJ he ⟨true,l.take z++l.drop (z+1),?_,s1,by simp;omega,s2⟩,AfA⟩
  show AV.BD [.sl true (sub (vs GR.av (l.take z++l.drop (z+1))) 0 ((vs GR.av l).length-1)),.int .i64 0]=_
  rw[e]
def Jd (k:Int):Prop:=k=1∨k=2∨k=3
instance (k:Int):Decidable (Jd k):=by unfold Jd;infer_instance
def CS (s:List UInt8) (m:GM):List UInt8:=if s=m.fr then m.to else s
def D9 (r:GR) (m:GM):GR:=
 if m.k=1 then
    if Jd r.k then{r with name:=CS r.name m}
    else if r.k=6 then{r with fr:=CS r.fr m,to:=CS r.to m}else r
 else if m.k=2 then if Jd r.k then r else{r with name:=CS r.name m}
 else if m.k=3 then if Jd r.k∧r.name=m.label then{r with key:=CS r.key m}else r
 else r
def J5 (r:GR) (m:GM):Prop:=m.k=4∧Jd r.k∧r.name=m.label∧r.key=m.fr
instance (r:GR) (m:GM):Decidable (J5 r m):=by unfold J5;infer_instance
theorem AcG {r:GR}:Ae (Ad tab) 117 [r.av] (· =.bool (decide (Jd r.k))):=by
 refine Ac rfl rfl ?_
 (conv=>whnf);repeat' (first|((first|refine kA ?_|(apply Br.mk<;>intro hc))<;>first|exact hc.elim|conv=>whnf)|refine kB ?_)
 all_goals first|exact Bd (by unfold Jd;omega)|exact Au (by unfold Jd;omega)
theorem AlK {r:GR} {m:GM} {Qj N9:Obj} {g c:Nat} {K:AB→Am→Prop} (hK:∀YM c',K (.ok (.BD [])) ⟨[.arr g 6 true true [GR.av {r with name:=CS r.name m}],Qj,N9,YM],c'⟩):Ar (Ad tab) 118 [.ref 0 g 0 2,m.av] ⟨[.arr g 6 true true [r.av],Qj,N9],c⟩ K:=by
 refine Ai rfl rfl ?_
 by_cases h:r.name=m.fr
 ·have e:({r with name:=CS r.name m}:GR)={r with name:=m.to}:=by unfold CS;rw[if_pos h]
  rw[e]at hK
  (conv=>whnf);repeat' (first|((first|refine kA ?_|(apply Br.mk<;>intro hc))<;>first|exact hc.elim|conv=>whnf)|refine kB ?_)
  all_goals first|exact hK _ _|exact absurd h ‹_›
 ·have e:({r with name:=CS r.name m}:GR)=r:=by unfold CS;rw[if_neg h]
  rw[e]at hK
  (conv=>whnf);repeat' (first|((first|refine kA ?_|(apply Br.mk<;>intro hc))<;>first|exact hc.elim|conv=>whnf)|refine kB ?_)
  all_goals first|exact hK _ _|exact absurd ‹_› h
theorem An2 {r:GR} {m:GM} {Qj N9:Obj} {g c:Nat} {K:AB→Am→Prop} (hK:∀YM c',K (.ok (.BD [])) ⟨[.arr g 6 true true [GR.av {r with key:=CS r.key m}],Qj,N9,YM],c'⟩):Ar (Ad tab) 118 [.ref 0 g 0 3,m.av] ⟨[.arr g 6 true true [r.av],Qj,N9],c⟩ K:=by
 refine Ai rfl rfl ?_
 by_cases h:r.key=m.fr
 ·have e:({r with key:=CS r.key m}:GR)={r with key:=m.to}:=by unfold CS;rw[if_pos h]
  rw[e]at hK
  (conv=>whnf);repeat' (first|((first|refine kA ?_|(apply Br.mk<;>intro hc))<;>first|exact hc.elim|conv=>whnf)|refine kB ?_)
  all_goals first|exact hK _ _|exact absurd h ‹_›
 ·have e:({r with key:=CS r.key m}:GR)=r:=by unfold CS;rw[if_neg h]
  rw[e]at hK
  (conv=>whnf);repeat' (first|((first|refine kA ?_|(apply Br.mk<;>intro hc))<;>first|exact hc.elim|conv=>whnf)|refine kB ?_)
  all_goals first|exact hK _ _|exact absurd ‹_› h
theorem An3 {r:GR} {m:GM} {Qj N9:Obj} {g c:Nat} {K:AB→Am→Prop} (hK:∀YM c',K (.ok (.BD [])) ⟨[.arr g 6 true true [GR.av {r with fr:=CS r.fr m}],Qj,N9,YM],c'⟩):Ar (Ad tab) 118 [.ref 0 g 0 4,m.av] ⟨[.arr g 6 true true [r.av],Qj,N9],c⟩ K:=by
 refine Ai rfl rfl ?_
 by_cases h:r.fr=m.fr
 ·have e:({r with fr:=CS r.fr m}:GR)={r with fr:=m.to}:=by unfold CS;rw[if_pos h]
  rw[e]at hK
  (conv=>whnf);repeat' (first|((first|refine kA ?_|(apply Br.mk<;>intro hc))<;>first|exact hc.elim|conv=>whnf)|refine kB ?_)
  all_goals first|exact hK _ _|exact absurd h ‹_›
 ·have e:({r with fr:=CS r.fr m}:GR)=r:=by unfold CS;rw[if_neg h]
  rw[e]at hK
  (conv=>whnf);repeat' (first|((first|refine kA ?_|(apply Br.mk<;>intro hc))<;>first|exact hc.elim|conv=>whnf)|refine kB ?_)
  all_goals first|exact hK _ _|exact absurd ‹_› h
theorem An4 {r:GR} {m:GM} {Qj N9:Obj} {g c:Nat} {K:AB→Am→Prop} (hK:∀YM c',K (.ok (.BD [])) ⟨[.arr g 6 true true [GR.av {r with to:=CS r.to m}],Qj,N9,YM],c'⟩):Ar (Ad tab) 118 [.ref 0 g 0 5,m.av] ⟨[.arr g 6 true true [r.av],Qj,N9],c⟩ K:=by
 refine Ai rfl rfl ?_
 by_cases h:r.to=m.fr
 ·have e:({r with to:=CS r.to m}:GR)={r with to:=m.to}:=by unfold CS;rw[if_pos h]
  rw[e]at hK
  (conv=>whnf);repeat' (first|((first|refine kA ?_|(apply Br.mk<;>intro hc))<;>first|exact hc.elim|conv=>whnf)|refine kB ?_)
  all_goals first|exact hK _ _|exact absurd h ‹_›
 ·have e:({r with to:=CS r.to m}:GR)=r:=by unfold CS;rw[if_neg h]
  rw[e]at hK
  (conv=>whnf);repeat' (first|((first|refine kA ?_|(apply Br.mk<;>intro hc))<;>first|exact hc.elim|conv=>whnf)|refine kB ?_)
  all_goals first|exact hK _ _|exact absurd ‹_› h
def Aoo (r:GR) (b:Bool):AV:=.BD [r.av,.bool b]
theorem Pv {r:GR} {m:GM} (h:m.k≠4):decide (¬ J5 r m)=true:=decide_eq_true fun g=>h g.1
set_option maxHeartbeats 1000000 in
theorem Amm {r:GR} {m:GM}:Ae (Ad tab) 54 [r.av,m.av] (· =Aoo (D9 r m) (decide (¬ J5 r m))):=by
 have ho:=AcG (r:=r)
 by_cases k1:m.k=1
 ·rw[Pv (by omega)]
  by_cases hn:Jd r.k
  ·have e:D9 r m={r with name:=CS r.name m}:=by unfold D9;rw[if_pos k1,if_pos hn]
   rw[e]
   rw[decide_eq_true hn]at ho
   refine Ac rfl rfl ?_
   (conv=>whnf);repeat' (first|((first|apply kE ho|(refine AlK ?_;intro YM c')|refine kA ?_|(apply Br.mk<;>intro hc))<;>first|exact hc.elim|conv=>whnf)|refine kB ?_)
   all_goals first|rfl|exact absurd (show r.k=6 by assumption) (by unfold Jd at hn;omega)
  ·rw[decide_eq_false hn]at ho
   by_cases h6:r.k=6
   ·have e:D9 r m={r with fr:=CS r.fr m,to:=CS r.to m}:=by unfold D9;rw[if_pos k1,if_neg hn,if_pos h6]
    rw[e]
    refine Ac rfl rfl ?_
    (conv=>whnf);repeat' (first|((first|apply kE ho|(refine An3 (r:=r) ?_;intro YM c')|(refine An4 (r:={r with fr:=CS r.fr m}) ?_;intro YM c')|refine kA ?_|(apply Br.mk<;>intro hc))<;>first|exact hc.elim|conv=>whnf)|refine kB ?_)
    all_goals first|rfl|omega
   ·have e:D9 r m=r:=by unfold D9;rw[if_pos k1,if_neg hn,if_neg h6]
    rw[e]
    refine Ac rfl rfl ?_
    (conv=>whnf);repeat' (first|((first|apply kE ho|refine kA ?_|(apply Br.mk<;>intro hc))<;>first|exact hc.elim|conv=>whnf)|refine kB ?_)
    all_goals first|rfl|omega
 by_cases k2:m.k=2
 ·rw[Pv (by omega)]
  by_cases hn:Jd r.k
  ·have e:D9 r m=r:=by unfold D9;rw[if_neg k1,if_pos k2,if_pos hn]
   rw[e]
   rw[decide_eq_true hn]at ho
   refine Ac rfl rfl ?_
   (conv=>whnf);repeat' (first|((first|apply kE ho|refine kA ?_|(apply Br.mk<;>intro hc))<;>first|exact hc.elim|conv=>whnf)|refine kB ?_)
   all_goals first|rfl|omega
  ·have e:D9 r m={r with name:=CS r.name m}:=by unfold D9;rw[if_neg k1,if_pos k2,if_neg hn]
   rw[e]
   rw[decide_eq_false hn]at ho
   refine Ac rfl rfl ?_
   (conv=>whnf);repeat' (first|((first|apply kE ho|(refine AlK ?_;intro YM c')|refine kA ?_|(apply Br.mk<;>intro hc))<;>first|exact hc.elim|conv=>whnf)|refine kB ?_)
   all_goals first|rfl|omega
 by_cases k3:m.k=3
 ·rw[Pv (by omega)]
  by_cases hn:Jd r.k
  ·rw[decide_eq_true hn]at ho
   by_cases hl:r.name=m.label
   ·have e:D9 r m={r with key:=CS r.key m}:=by unfold D9;rw[if_neg k1,if_neg k2,if_pos k3,if_pos ⟨hn,hl⟩]
    rw[e]
    refine Ac rfl rfl ?_
    (conv=>whnf);repeat' (first|((first|apply kE ho|(refine An2 ?_;intro YM c')|refine kA ?_|(apply Br.mk<;>intro hc))<;>first|exact hc.elim|conv=>whnf)|refine kB ?_)
    all_goals first|rfl|omega|exact absurd hl ‹_›
   ·have e:D9 r m=r:=by unfold D9;rw[if_neg k1,if_neg k2,if_pos k3,if_neg fun h=>hl h.2]
    rw[e]
    refine Ac rfl rfl ?_
    (conv=>whnf);repeat' (first|((first|apply kE ho|refine kA ?_|(apply Br.mk<;>intro hc))<;>first|exact hc.elim|conv=>whnf)|refine kB ?_)
    all_goals first|rfl|omega|exact absurd ‹_› hl
  ·have e:D9 r m=r:=by unfold D9;rw[if_neg k1,if_neg k2,if_pos k3,if_neg fun h=>hn h.1]
   rw[e]
   rw[decide_eq_false hn]at ho
   refine Ac rfl rfl ?_
   (conv=>whnf);repeat' (first|((first|apply kE ho|refine kA ?_|(apply Br.mk<;>intro hc))<;>first|exact hc.elim|conv=>whnf)|refine kB ?_)
   all_goals first|rfl|omega
 have e:D9 r m=r:=by unfold D9;rw[if_neg k1,if_neg k2,if_neg k3]
 rw[e]
 by_cases k4:m.k=4
 ·by_cases hn:Jd r.k
  ·rw[decide_eq_true hn]at ho
   by_cases hl:r.name=m.label
   ·by_cases hf:r.key=m.fr
    ·rw[show decide (¬ J5 r m)=false from decide_eq_false fun h=>h ⟨k4,hn,hl,hf⟩]
     refine Ac rfl rfl ?_
     (conv=>whnf);repeat' (first|((first|apply kE ho|refine kA ?_|(apply Br.mk<;>intro hc))<;>first|exact hc.elim|conv=>whnf)|refine kB ?_)
     all_goals first|rfl|omega|(exfalso;simp_all;done)
    ·rw[show decide (¬ J5 r m)=true from decide_eq_true fun h=>hf h.2.2.2]
     refine Ac rfl rfl ?_
     (conv=>whnf);repeat' (first|((first|apply kE ho|refine kA ?_|(apply Br.mk<;>intro hc))<;>first|exact hc.elim|conv=>whnf)|refine kB ?_)
     all_goals first|rfl|omega|(exfalso;simp_all;done)
   ·rw[show decide (¬ J5 r m)=true from decide_eq_true fun h=>hl h.2.2.1]
    refine Ac rfl rfl ?_
    (conv=>whnf);repeat' (first|((first|apply kE ho|refine kA ?_|(apply Br.mk<;>intro hc))<;>first|exact hc.elim|conv=>whnf)|refine kB ?_)
    all_goals first|rfl|omega|(exfalso;simp_all;done)
  ·rw[decide_eq_false hn]at ho
   rw[show decide (¬ J5 r m)=true from decide_eq_true fun h=>hn h.2.1]
   refine Ac rfl rfl ?_
   (conv=>whnf);repeat' (first|((first|apply kE ho|refine kA ?_|(apply Br.mk<;>intro hc))<;>first|exact hc.elim|conv=>whnf)|refine kB ?_)
   all_goals first|rfl|omega|(exfalso;simp_all;done)
 ·rw[Pv k4]
  refine Ac rfl rfl ?_
  (conv=>whnf);repeat' (first|((first|apply kE ho|refine kA ?_|(apply Br.mk<;>intro hc))<;>first|exact hc.elim|conv=>whnf)|refine kB ?_)
  all_goals first|rfl|omega
end AI
end Go.Proofs.YtjijnamhalgamaaGreatDoor
