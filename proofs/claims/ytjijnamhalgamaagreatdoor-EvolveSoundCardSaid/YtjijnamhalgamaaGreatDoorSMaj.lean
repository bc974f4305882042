/- graph.Check, walked. The first violated rule, by the program. The null value. The program's order of a value and null. value.Null. What is wrong with a migration: the program's Check. -/
import Derived.Test.YtjijnamhalgamaaGreatDoorSMaf
import Derived.Test.YtjijnamhalgamaaGreatDoorSMai
import Derived.Test.YtjijnamhalgamaaGreatDoorSMad
import Derived.Test.YtjijnamhalgamaaGreatDoorSMag
set_option linter.unusedVariables false
set_option maxRecDepth 4000
namespace Go.Proofs.YtjijnamhalgamaaGreatDoor
namespace AI
theorem JK {f:Nat→Int} {i:Nat} (h:∀k,k<i→f k=0) (hi:f i=0):∀k,k<i+1→f k=0:=by
 intro k hk
 rcases Nat.lt_or_ge k i with h1|h1
 ·exact h k h1
 ·obtain rfl:k=i:=by omega
  exact hi
theorem Alh {n:GN} (h:n.ok):Ae (Ad tab) 103 [.sl n.ln (vs .str n.labels),.sl n.pn (vs GP.av n.props)] (· =.int .i64 (Dw n.labels n.props)):=
 Afy h.2.1 h.2.2.2.1 h.2.2.2.2.1 h.2.2.2.2.2.2
theorem Ah3 {n:GE} (h:n.ok):Ae (Ad tab) 103 [.sl false [],.sl n.pn (vs GP.av n.props)] (· =.int .i64 (Dw [] n.props)):=
 Afy (L:=[]) (by decide) (by simp) h.2.2.2.2.1 h.2.2.2.2.2.2
theorem Ali {g:GG} (hg:g.ok) (hf:Gv g) (hnx:Hg g) {c:Nat} {Q:AQ→Env→Am→Prop}
 (hret:∀r s,AV.int .i64 r=AV.int .i64 (AZ g)→Q .ret [(2,.int .i64 r)] s)
 (hend:(∀ k,k<g.nodes.length→Fg g.nodes g.Df k=0)→∀c i,Q (.exit 0) [(1,.ref 0 0 0 0),(38,.sl g.nn (vs GN.av g.nodes)),(39,.int .i64 g.nodes.length),(40,.int .i64 i),(41,.bool false)] ⟨[.arr 0 4 true true [g.av]],c⟩):
 Run (Ad tab) (.loop l47_0_h l47_0_b) [(1,.ref 0 0 0 0),(38,.sl g.nn (vs GN.av g.nodes)),(39,.int .i64 g.nodes.length),(40,.int .i64 0)] ⟨[.arr 0 4 true true [g.av]],c⟩ Q:=by
 obtain⟨g1,g2,g3,g4,g5,g6,g7,g8⟩:=hg
 unfold Ln at g1 g4
 have hf':g.nodes.length≤2000:=hf.1
 refine Ag (fun m env s=>∃i:Nat,m=g.nodes.length-i∧env=[(1,.ref 0 0 0 0),(38,.sl g.nn (vs GN.av g.nodes)),(39,.int .i64 g.nodes.length),(40,.int .i64 i)]∧(∃ c,s=⟨[.arr 0 4 true true [g.av]],c⟩)∧∀k,k<i→Fg g.nodes g.Df k=0) ?_ _ _ _ ⟨0,rfl,by simp,⟨_,rfl⟩,fun k h=>absurd h (by omega)⟩
 rintro _ _ _ ⟨i,rfl,rfl,⟨c,rfl⟩,hx⟩
 refine⟨rfl,?_⟩
 have hat:∀h:i<g.nodes.length,(g.nodes[i]).ok:=fun h=>g3 _ (List.getElem_mem _)
 (conv=>whnf);repeat' (first|((first|(apply Af;(· exact nVz (i-1) (by omega) (by omega)))|refine kE (Alh (n:=g.nodes[i]) (hat (by omega))) ?_|(refine hret _ _ ?_)|(refine hend (fun k hk=>hx k (by omega)) _ _)|refine kA ?_|(apply Br.mk<;>intro hc))<;>first|exact hc.elim|conv=>whnf)|refine kB ?_)
 all_goals first
  |exact again.mk ⟨_,by omega,i+1,rfl,rfl,⟨_,rfl⟩,JK hx ((XU (by omega) (fun h=>by first|assumption|omega) (by omega)).trans hc)⟩
  |exact checkN hf hnx (by omega) hx (Aaa (by omega) (by omega) (by assumption)) (by decide)
  |exact checkN hf hnx (by omega) hx (node1 (by omega) (fun h=>by first|assumption|omega) (by omega)) (by decide)
  |exact checkN hf hnx (by omega) hx (XU (by omega) (fun h=>by first|assumption|omega) (by omega)) hc
set_option maxHeartbeats 1000000 in
theorem Alj {g:GG} (hg:g.ok) (hf:Gv g) (hnx:Hg g) (hN:∀k,k<g.nodes.length→Fg g.nodes g.Df k=0) {c:Nat} {Q:AQ→Env→Am→Prop}
 (hret:∀r s,AV.int .i64 r=AV.int .i64 (AZ g)→Q .ret [(2,.int .i64 r)] s)
 (hend:(∀ k,k<g.edges.length→FM g.nodes g.edges g.DC k=0)→∀c i,Q (.exit 2) [(1,.ref 0 0 0 0),(79,.sl g.en (vs GE.av g.edges)),(80,.int .i64 g.edges.length),(81,.int .i64 i),(82,.bool false)] ⟨[.arr 0 4 true true [g.av]],c⟩):
 Run (Ad tab) (.loop l47_1_h l47_1_b) [(1,.ref 0 0 0 0),(79,.sl g.en (vs GE.av g.edges)),(80,.int .i64 g.edges.length),(81,.int .i64 0)] ⟨[.arr 0 4 true true [g.av]],c⟩ Q:=by
 obtain⟨g1,g2,g3,g4,g5,g6,g7,g8⟩:=hg
 unfold Ln at g1 g4
 have hf':g.edges.length≤4000:=hf.2
 have hI:=Aad hN
 have hl:g.nodes.length<2^62:=by have:=hf.1;omega
 refine Ag (fun m env s=>∃i:Nat,m=g.edges.length-i∧env=[(1,.ref 0 0 0 0),(79,.sl g.en (vs GE.av g.edges)),(80,.int .i64 g.edges.length),(81,.int .i64 i)]∧(∃ c,s=⟨[.arr 0 4 true true [g.av]],c⟩)∧∀k,k<i→FM g.nodes g.edges g.DC k=0) ?_ _ _ _ ⟨0,rfl,by simp,⟨_,rfl⟩,fun k h=>absurd h (by omega)⟩
 rintro _ _ _ ⟨i,rfl,rfl,⟨c,rfl⟩,hx⟩
 refine⟨rfl,?_⟩
 have hat:∀h:i<g.edges.length,(g.edges[i]).ok:=fun h=>g6 _ (List.getElem_mem _)
 (conv=>whnf);repeat' (first|((first|(apply Af;(· exact nVz (i-1) (by omega) (by omega)))|refine Aq (Aon hl hI) (fun hc=>?_) (fun hc=>?_)|refine Aq (name1 (s:=(g.edges[i]).ty) (hat (by omega)).2.2.2.1) (fun hnm=>?_) (fun hnm=>?_)|refine kE (Ah3 (n:=g.edges[i]) (hat (by omega))) ?_|(refine hret _ _ ?_)|(refine hend (fun k hk=>hx k (by omega)) _ _)|refine kA ?_|(apply Br.mk<;>intro hc))<;>first|exact hc.elim|conv=>whnf)|refine kB ?_)
 all_goals first
  |exact again.mk ⟨_,by omega,i+1,rfl,rfl,⟨_,rfl⟩,JK hx ((XV (by omega) (fun h=>by first|assumption|omega) (by omega) ⟨by assumption,by assumption⟩ hnm).trans hc)⟩
  |exact NG hf hnx hN (by omega) hx (Aab (by omega) (by omega) (by assumption)) (by decide)
  |exact NG hf hnx hN (by omega) hx (Afp (by omega) (fun h=>by first|assumption|omega) (by omega)) (by decide)
  |exact NG hf hnx hN (by omega) hx (Aac (by omega) (fun h=>by first|assumption|omega) (by omega) (fun h=>by first|exact absurd h.1 (by assumption)|exact absurd h.2 (by assumption))) (by decide)
  |exact NG hf hnx hN (by omega) hx (Afq (by omega) (fun h=>by first|assumption|omega) (by omega) ⟨by assumption,by assumption⟩ hnm) (by decide)
  |exact NG hf hnx hN (by omega) hx (XV (by omega) (fun h=>by first|assumption|omega) (by omega) ⟨by assumption,by assumption⟩ hnm) hc
theorem V6 {g:GG} (hg:g.ok):Ae (Ad tab) 47 [g.av] (· =.int .i64 (AZ g)):=by
 have hg0:=hg
 obtain⟨g1,g2,g3,g4,g5,g6,g7,g8⟩:=hg
 unfold Ln at g1 g4
 refine Ac rfl rfl ?_
 (conv=>whnf);repeat' (first|((first|refine kA ?_|(apply Br.mk<;>intro hc))<;>first|exact hc.elim|conv=>whnf)|refine kB ?_)
 all_goals first|exact Afr (by unfold Gv;omega)|exact Afs (by unfold Gv;omega) (by unfold Hg;omega)|skip
 have hf:Gv g:=by unfold Gv;omega
 have hnx:Hg g:=by unfold Hg;omega
 refine Ali hg0 hf hnx (fun r s h=>by(conv=>whnf);(apply Aj;(· rfl);conv=>whnf);(apply Aj;(· rfl);conv=>whnf);exact h) (fun hN c i=>?_)
 (conv=>whnf);repeat' (first|((first|refine kA ?_|(apply Br.mk<;>intro hc))<;>first|exact hc.elim|conv=>whnf)|refine kB ?_)
 refine Alj hg0 hf hnx hN (fun r s h=>by(conv=>whnf);(apply Aj;(· rfl);conv=>whnf);(apply Aj;(· rfl);conv=>whnf);exact h) (fun hE c i=>?_)
 (conv=>whnf);repeat' (first|((first|refine kA ?_|(apply Br.mk<;>intro hc))<;>first|exact hc.elim|conv=>whnf)|refine kB ?_)
 exact Zr hf hnx hN hE
structure Look (g:GG):Prop where
 nn:g.nodes.length≤4000
 en:g.edges.length≤4000
 nodes:∀n∈g.nodes,n.labels.length<2^62∧n.props.length<2^62∧∀p∈n.props,p.ok
 good:∀n∈g.nodes,Aal n
 edges:∀e∈g.edges,e.props.length<2^62
theorem ofV {r:GR} {g:GG} (h:Look g):Ae (Ad tab) 129 [r.av,g.av] (fun v=>∃nn L,v=.sl nn (vs KF L)∧L.length≤64000000∧(L=[]↔¬DZ r g)):=by
 by_cases h1:r.k=1
 ·obtain⟨_,⟨nn,L,rfl,hl,hL⟩,p⟩:=(Agh (r:=r) (g:=g) h.nn h.nodes).KI
  have e:L=[]↔¬DZ r g:=by unfold DZ;rw[if_pos h1,hL];exact Classical.not_not.symm
  refine Ac rfl rfl ?_
  (conv=>whnf);repeat' (first|((first|refine kE p ?_|refine kA ?_|(apply Br.mk<;>intro hc))<;>first|exact hc.elim|conv=>whnf)|refine kB ?_)
  all_goals first|exact⟨nn,L,rfl,hl,e⟩|(exfalso;omega)|exact absurd h1 (by assumption)
 ·by_cases h2:r.k=2∨r.k=3
  ·obtain⟨_,⟨nn,L,rfl,hl,hL⟩,p⟩:=(Ajj (r:=r) (g:=g) h.nn fun n hn=>⟨(h.nodes n hn).1,(h.nodes n hn).2.1⟩).KI
   have e:L=[]↔¬DZ r g:=by unfold DZ;rw[if_neg h1,if_pos h2,hL];simp
   refine Ac rfl rfl ?_
   (conv=>whnf);repeat' (first|((first|refine kE p ?_|refine kA ?_|(apply Br.mk<;>intro hc))<;>first|exact hc.elim|conv=>whnf)|refine kB ?_)
   all_goals first|exact⟨nn,L,rfl,by omega,e⟩|(exfalso;omega)|exact absurd (by assumption) h1
  ·by_cases h7:r.k=7
   ·obtain⟨_,⟨nn,L,rfl,hl,hL⟩,p⟩:=(Ac4 (r:=r) (g:=g) h.nn h.en).KI
    have e:L=[]↔¬DZ r g:=by unfold DZ;rw[if_neg h1,if_neg h2,if_pos h7,hL];simp
    refine Ac rfl rfl ?_
    (conv=>whnf);repeat' (first|((first|refine kE p ?_|refine kA ?_|(apply Br.mk<;>intro hc))<;>first|exact hc.elim|conv=>whnf)|refine kB ?_)
    all_goals first|exact⟨nn,L,rfl,by omega,e⟩|(exfalso;omega)|exact absurd (by assumption) h1
   ·obtain⟨_,⟨nn,L,rfl,hl,hL⟩,p⟩:=(Ajk (r:=r) (g:=g) h.en h.edges fun z lb=>Aji (by have:=h.nn;omega) h.good (fun n hn=>(h.nodes n hn).1)).KI
    have e:L=[]↔¬DZ r g:=by unfold DZ;rw[if_neg h1,if_neg h2,if_neg h7,hL];simp
    refine Ac rfl rfl ?_
    (conv=>whnf);repeat' (first|((first|refine kE p ?_|refine kA ?_|(apply Br.mk<;>intro hc))<;>first|exact hc.elim|conv=>whnf)|refine kB ?_)
    all_goals first|exact⟨nn,L,rfl,by omega,e⟩|(exfalso;omega)|exact absurd (by assumption) h1
def YR (p:Int×Int×Int):AV:=.agg [.int .i64 p.1,.int .i64 p.2.1,.int .i64 p.2.2]
theorem cells3 (x:Int×Int×Int):(YR x).cells.length=3:=rfl
structure VL (s:List GR) (g:GG) (n:Nat) (V:List (Int×Int×Int)):Prop where
 no:V=[]→∀r∈s.take n,¬DZ r g
 yes:∀p T,V=p::T→∃i:Nat,p.1=i∧∃h:i<s.length,i<n∧DZ s[i] g∧∀r∈s.take i,¬DZ r g
theorem VL.start (s:List GR) (g:GG):VL s g 0 []:=⟨fun _ r hr=>(by cases hr),fun p T h=>(by cases h)⟩
theorem VL.step {s:List GR} {g:GG} {n:Nat} {V:List (Int×Int×Int)} (h:VL s g n V) (hn:n<s.length) {L:List (Int×Int)} (hL:L=[]↔¬DZ s[n] g):VL s g (n+1) (V++L.map fun p=>((n:Int),p)) where
 no e r hr:=by
  obtain⟨e1,e2⟩:=List.append_eq_nil_iff.1 e
  rw[List.take_succ_eq_append_getElem hn,List.mem_append,List.mem_singleton]at hr
  rcases hr with hr|hr
  ·exact h.no e1 r hr
  ·subst hr;exact hL.1 (List.map_eq_nil_iff.1 e2)
 yes p T e:=by
  cases V with
  |cons q V'=>
   simp only[List.cons_append,List.cons.injEq]at e
   obtain⟨i,h1,h2,h3,h4,h5⟩:=h.yes q V' rfl
   exact⟨i,e.1▸h1,h2,by omega,h4,h5⟩
  |nil=>
   rw[List.nil_append]at e
   cases L with
   |nil=>cases e
   |cons q L'=>
    simp only[List.map_cons,List.cons.injEq]at e
    refine⟨n,by rw[← e.1],hn,by omega,Classical.not_not.1 fun hv=>?_,h.no rfl⟩
    have:=hL.2 hv
    cases this
set_option maxHeartbeats 4000000 in
theorem Aoe {s:List GR} {sn:Bool} {g:GG} (hs:s.length<2^62) (hok:∀r∈s,r.ok) (hg:g.ok) (h:AZ g=0→Look g):Ae (Ad tab) 61 [.sl sn (vs GR.av s),g.av] (fun v=>∃nn V,v=.sl nn (vs YR V)∧V.length<2^62∧(¬ (Du s∧AZ g=0)→V=[])∧(Du s∧AZ g=0→VL s g s.length V)):=by
 have p1:=Agi (l:=s) (nn:=sn) hs hok
 have p2:=V6 hg
 by_cases hv:Du s
 case neg=>
  rw[decide_eq_false hv]at p1
  refine Ac rfl rfl ?_
  (conv=>whnf);repeat' (first|((first|refine kE p1 ?_|refine kA ?_|(apply Br.mk<;>intro hc))<;>first|exact hc.elim|conv=>whnf)|refine kB ?_)
  all_goals first
   |exact⟨_,[],rfl,by simp,fun _=>rfl,fun k=>absurd k.1 hv⟩
   |(exfalso;omega)
   |exact absurd rfl (by assumption)
 rw[decide_eq_true hv]at p1
 by_cases hck:AZ g=0
 case neg=>
  refine Ac rfl rfl ?_
  (conv=>whnf);repeat' (first|((first|refine kE p1 ?_|refine kE p2 ?_|refine kA ?_|(apply Br.mk<;>intro hc))<;>first|exact hc.elim|conv=>whnf)|refine kB ?_)
  all_goals first
   |exact⟨_,[],rfl,by simp,fun _=>rfl,fun k=>absurd k.2 hck⟩
   |(exfalso;omega)
   |exact absurd rfl (by assumption)
   |exact absurd (by assumption) hck
 have hL:=h hck
 have An7:=hv.1
 rw[hck]at p2
 refine Ac rfl rfl ?_
 (conv=>whnf);repeat' (first|((first|refine kE p1 ?_|refine kE p2 ?_|refine kA ?_|(apply Br.mk<;>intro hc))<;>first|exact hc.elim|conv=>whnf)|refine kB ?_)
 all_goals first|(exfalso;omega)|exact absurd rfl (by assumption)|skip
 refine Ag (fun m env st=>∃(i go n1 c:Nat) (fo:Bool) (V:List (Int×Int×Int)),m=s.length-i∧i≤s.length∧n1=V.length∧V.length≤i*64000000∧VL s g i V∧env=[(3,.ref 0 0 0 0),(5,.own 1 go 0 n1),(18,.sl sn (vs GR.av s)),(19,.int .i64 s.length),(20,.int .i64 i)]∧st=⟨[.arr 0 4 true true [g.av],.arr go 3 fo true (vs YR V)],c⟩) ?_ _ _ _ ⟨0,_,_,_,_,[],rfl,by omega,rfl,by simp,VL.start s g,rfl,rfl⟩
 rintro _ _ _ ⟨i,go,n1,c,fo,V,rfl,hi,hn1,hVi,hV,rfl,rfl⟩
 refine⟨rfl,?_⟩
 by_cases hlt:i<s.length
 ·obtain⟨_,⟨ln,L,rfl,hLl,hL2⟩,q⟩:=(ofV (r:=s[i]) hL).KI
  have hst:=hV.step hlt hL2
  (conv=>whnf);repeat' (first|((first|refine kE q ?_|refine kA ?_|(apply Br.mk<;>intro hc))<;>first|exact hc.elim|conv=>whnf)|refine kB ?_)
  all_goals first|(exfalso;omega)|skip
  refine Ag (fun m env st=>∃(j go n1 c:Nat) (fo:Bool) (V2:List (Int×Int×Int)),m=L.length-j∧j≤L.length∧n1=V2.length∧V2=V++(L.take j).map (fun p=>((i:Int),p))∧env=[(3,.ref 0 0 0 0),(5,.own 1 go 0 n1),(6,.int .i64 i),(18,.sl sn (vs GR.av s)),(19,.int .i64 s.length),(20,.int .i64 i),(27,.sl ln (vs KF L)),(28,.int .i64 L.length),(29,.int .i64 j)]∧st=⟨[.arr 0 4 true true [g.av],.arr go 3 fo true (vs YR V2)],c⟩) ?_ _ _ _ ⟨0,_,_,_,_,V,rfl,by omega,hn1,by simp,rfl,rfl⟩
  rintro _ _ _ ⟨j,go2,n2,c2,fo2,V2,rfl,hj,hn2,hV2,rfl,rfl⟩
  refine⟨rfl,?_⟩
  have Ajf:V2.length=V.length+(L.take j).length:=by rw[hV2,List.length_append,List.length_map]
  have htl:(L.take j).length≤L.length:=List.length_take_le' ..
  by_cases hjl:j<L.length
  ·have e2:V2++[((i:Int),L[j])]=V++(L.take (j+1)).map (fun p=>((i:Int),p)):=by
        rw[hV2,List.take_succ_eq_append_getElem hjl,List.map_append,List.append_assoc];rfl
   (conv=>whnf);repeat' (first|((first|refine LU (f:=YR) (l:=V2) (x:=((i:Int),L[j])) rfl cells3 hn2 (by omega) ?_|refine kA ?_|(apply Br.mk<;>intro hc))<;>first|exact hc.elim|conv=>whnf)|refine kB ?_)
   all_goals first
        |(exfalso;omega)
        |exact again.mk ⟨_,by omega,j+1,_,_,_,_,V2++[((i:Int),L[j])],rfl,by omega,by simp,e2,rfl,rfl⟩
  ·rw[List.take_of_length_le (by omega)]at hV2 Ajf
   rw[← hV2]at hst
   (conv=>whnf);repeat' (first|((first|refine kA ?_|(apply Br.mk<;>intro hc))<;>first|exact hc.elim|conv=>whnf)|refine kB ?_)
   all_goals first
        |(exfalso;omega)
        |exact again.mk ⟨_,by omega,i+1,_,_,_,_,V2,rfl,by omega,hn2,by omega,hst,rfl,rfl⟩
 ·obtain rfl:i=s.length:=by omega
  (conv=>whnf);repeat' (first|((first|refine kA ?_|(apply Br.mk<;>intro hc))<;>first|exact hc.elim|conv=>whnf)|refine kB ?_)
  all_goals first
   |(exfalso;omega)
   |exact⟨_,V,by rw[hn1,uV],by omega,fun k=>absurd ⟨hv,hck⟩ k,fun _=>hV⟩
theorem Ajt {k:Int}:Ae (Ad tab) 62 [.int .i64 k] (· =.int .i64 (Oh k)):=by
 unfold Oh
 by_cases h1:k=1
 ·subst h1
  refine Ac rfl rfl ?_
  (conv=>whnf);repeat' (first|((first|refine kA ?_|(apply Br.mk<;>intro hc))<;>first|exact hc.elim|conv=>whnf)|refine kB ?_)
  all_goals first|rfl|(exfalso;omega)|exact absurd rfl (by assumption)
 rw[if_neg h1]
 by_cases h2:k=2∨k=4
 ·rw[if_pos h2]
  refine Ac rfl rfl ?_
  (conv=>whnf);repeat' (first|((first|refine kA ?_|(apply Br.mk<;>intro hc))<;>first|exact hc.elim|conv=>whnf)|refine kB ?_)
  all_goals first|rfl|(exfalso;omega)
 rw[if_neg h2]
 by_cases h3:k=3∨k=5
 ·rw[if_pos h3]
  refine Ac rfl rfl ?_
  (conv=>whnf);repeat' (first|((first|refine kA ?_|(apply Br.mk<;>intro hc))<;>first|exact hc.elim|conv=>whnf)|refine kB ?_)
  all_goals first|rfl|(exfalso;omega)
 rw[if_neg h3]
 by_cases h6:k=6
 ·rw[if_pos h6]
  refine Ac rfl rfl ?_
  (conv=>whnf);repeat' (first|((first|refine kA ?_|(apply Br.mk<;>intro hc))<;>first|exact hc.elim|conv=>whnf)|refine kB ?_)
  all_goals first|rfl|(exfalso;omega)
 rw[if_neg h6]
 by_cases h7:k=7
 ·rw[if_pos h7]
  refine Ac rfl rfl ?_
  (conv=>whnf);repeat' (first|((first|refine kA ?_|(apply Br.mk<;>intro hc))<;>first|exact hc.elim|conv=>whnf)|refine kB ?_)
  all_goals first|rfl|(exfalso;omega)
 rw[if_neg h7]
 refine Ac rfl rfl ?_
 (conv=>whnf);repeat' (first|((first|refine kA ?_|(apply Br.mk<;>intro hc))<;>first|exact hc.elim|conv=>whnf)|refine kB ?_)
 all_goals first|rfl|(exfalso;omega)
theorem VL.Xl {s:List GR} {g:GG} (h:VL s g s.length []):s.find? (fun r=>decide (DZ r g))=none:=by
 rw[List.find?_eq_none]
 intro r hr
 have:=h.no rfl r (by rwa [List.take_length])
 simpa using this
theorem Xm {s:List GR} {g:GG} {i:Nat} (hi:i<s.length) (hv:DZ s[i] g) (hn:∀r∈s.take i,¬DZ r g):s.find? (fun r=>decide (DZ r g))=some s[i]:=by
 exact O8 hi (fun r hr=>decide_eq_false (hn r hr)) (decide_eq_true hv)
set_option maxHeartbeats 2000000 in
theorem Aju {s:List GR} {sn:Bool} {g:GG} (hs:s.length<2^62) (hok:∀r∈s,r.ok) (hg:g.ok) (h:AZ g=0→Look g):Ae (Ad tab) 28 [.sl sn (vs GR.av s),g.av] (· =.int .i64 (Ea s g)):=by
 obtain⟨_,⟨nn,V,rfl,hl,h1,h2⟩,p⟩:=(Aoe (sn:=sn) hs hok hg h).KI
 by_cases hvc:Du s∧AZ g=0
 case neg=>
  have e:Ea s g=0:=by unfold Ea;rw[if_neg hvc]
  rw[e]
  have e2:=h1 hvc
  subst e2
  refine Ac rfl rfl ?_
  (conv=>whnf);repeat' (first|((first|refine kE p ?_|refine kA ?_|(apply Br.mk<;>intro hc))<;>first|exact hc.elim|conv=>whnf)|refine kB ?_)
  all_goals first|rfl|(exfalso;omega)|exact absurd rfl (by assumption)|(exfalso;simp_all;done)
 have hV:=h2 hvc
 cases V with
 |nil=>
  have e:Ea s g=0:=by unfold Ea;rw[if_pos hvc,hV.Xl]
  rw[e]
  refine Ac rfl rfl ?_
  (conv=>whnf);repeat' (first|((first|refine kE p ?_|refine kA ?_|(apply Br.mk<;>intro hc))<;>first|exact hc.elim|conv=>whnf)|refine kB ?_)
  all_goals first|rfl|(exfalso;omega)|exact absurd rfl (by assumption)|(exfalso;simp_all;done)
 |cons q T=>
  obtain⟨i,hi,hil,_,hv,hn⟩:=hV.yes q T rfl
  have e:Ea s g=Oh (s[i]).k:=by unfold Ea;rw[if_pos hvc,Xm hil hv hn]
  rw[e]
  obtain⟨q1,q2,q3⟩:=q
  replace hi:q1=(i:Int):=hi
  subst hi
  have hlen:(vs YR (((i:Int),q2,q3)::T)).length=T.length+1:=lV _
  have hn0:nth (vs YR (((i:Int),q2,q3)::T)) 0=some (.agg [.int .i64 (i:Int),.int .i64 q2,.int .i64 q3]):=rfl
  generalize vs YR (((i:Int),q2,q3)::T)=W at*
  refine Ac rfl rfl ?_
  (conv=>whnf);repeat' (first|((first|refine kE p ?_|(apply Af;(· exact hn0))|refine kE Ajt ?_|refine kA ?_|(apply Br.mk<;>intro hc))<;>first|exact hc.elim|conv=>whnf)|refine kB ?_)
  all_goals first|rfl|(exfalso;omega)|exact absurd rfl (by assumption)|(exfalso;simp_all;done)
def XO:GV:=⟨0,0,0,[],false,[]⟩
theorem AjL:XO.ok:=⟨by unfold I64 XO;dsimp only;omega,by unfold I64 XO;dsimp only;omega,by unfold I64 XO;dsimp only;omega,by simp[Ln,XO],by simp[Ln,XO],fun _=>rfl,by simp[XO]⟩
def isNull (v:GV):Prop:=v.k=0∧v.n=0∧v.d=0∧v.s=[]∧v.l.length=0
instance (v:GV):Decidable (isNull v):=by unfold isNull;infer_instance
theorem AdE:isNull XO:=⟨rfl,rfl,rfl,rfl,rfl⟩
theorem Ws {v:GV} (hk:v.k=0):VV 8 v↔isNull v:=by
 rw[Zh (by omega) (by omega)]
 unfold VB isNull
 constructor
 ·rintro⟨h1,h⟩
  rcases h with h|h|h|h|h|h<;>first|exact⟨hk,h.2.1,h.2.2.1,h.2.2.2,h1⟩|(exfalso;omega)
 ·rintro⟨_,h1,h2,h3,h4⟩
  exact⟨h4,.inl ⟨hk,h1,h2,h3⟩⟩
def Tz (k:Int):Int:=if k=3 then 2 else if k=7 then 9 else k
theorem Wu {v:GV}:Ae (Ad tab) 235 [v.av] (· =.int .i64 (Tz v.k)):=by
 refine Ac rfl rfl ?_
 (conv=>whnf);repeat' (first|((first|refine kA ?_|(apply Br.mk<;>intro hc))<;>first|exact hc.elim|conv=>whnf)|refine kB ?_)
 all_goals first|(unfold Tz;rw[if_pos (by assumption)];rfl)|(unfold Tz;rw[if_neg (by assumption),if_pos (by assumption)];rfl)|(unfold Tz;rw[if_neg (by assumption),if_neg (by assumption)];rfl)
theorem Amn {k:Int}:Tz k=0↔k=0:=by unfold Tz;split<;>(try split)<;>omega
theorem Amo:Ae (Ad tab) 123 [.str [],.str []] (· =.int .i64 0):=⟨_,⟨20,by kernel_rfl⟩,rfl⟩
theorem or3 {nn:Bool}:Ae (Ad tab) 121 [.sl nn [.int .i64 0,.int .i64 0,.int .i64 0]] (· =.int .i64 0):=by
 cases nn
 ·exact⟨_,⟨20,by kernel_rfl⟩,rfl⟩
 ·exact⟨_,⟨20,by kernel_rfl⟩,rfl⟩
theorem Amq {nn:Bool} {f:Nat}:Ae (Ad tab) 164 [.sl nn [],.sl false [],.fn f []] (· =.int .i64 0):=by
 refine Ac rfl rfl ?_
 (conv=>whnf);repeat' (first|((first|refine kA ?_|(apply Br.mk<;>intro hc))<;>first|exact hc.elim|conv=>whnf)|refine kB ?_)
 refine Ag (fun m env s=>m=0∧env=[(0,.sl nn []),(1,.sl false []),(2,.fn f []),(11,.sl nn []),(12,.int .i64 0),(13,.int .i64 0)]∧s=⟨[],0⟩) ?_ _ _ _ ⟨rfl,rfl,rfl⟩
 rintro _ _ _ ⟨rfl,rfl,rfl⟩
 refine⟨rfl,?_⟩
 (conv=>whnf);repeat' (first|((first|refine kA ?_|(apply Br.mk<;>intro hc))<;>first|exact hc.elim|conv=>whnf)|refine kB ?_)
 all_goals first|rfl|(exfalso;simp_all)
theorem AjR {v:GV} (h:isNull v):Ae (Ad tab) 163 [v.av,XO.av] (· =.int .i64 0):=by
 obtain⟨k,n,d,s,nn,l⟩:=v
 obtain⟨h1,h2,h3,h4,h5⟩:=h
 dsimp only at h1 h2 h3 h4 h5
 subst h1 h2 h3 h4
 obtain rfl:l=[]:=List.eq_nil_of_length_eq_zero h5
 have hc1:Ae (Ad tab) 235 [GV.av ⟨0,0,0,[],nn,[]⟩] (· =.int .i64 0):=Wu (v:=⟨0,0,0,[],nn,[]⟩)
 have hc2:Ae (Ad tab) 235 [XO.av] (· =.int .i64 0):=Wu (v:=XO)
 have hc3:Ae (Ad tab) 122 [.int .i64 0,.int .i64 0] (· =.int .i64 0):=compare
 refine Ac rfl rfl ?_
 (conv=>whnf);repeat' (first|((first|refine kE hc1 ?_|refine kE hc2 ?_|refine kE hc3 ?_|refine kE Amo ?_|refine kE Amq ?_|refine kE or3 ?_|refine kA ?_|(apply Br.mk<;>intro hc))<;>first|exact hc.elim|conv=>whnf)|refine kB ?_)
 all_goals first|rfl|(exfalso;simp_all)
theorem Agz {v:GV} (h:v.k≠0):Ae (Ad tab) 163 [v.av,XO.av] (fun w=>∃z,w=.int .i64 z∧z≠0):=by
 have hc2:Ae (Ad tab) 235 [XO.av] (· =.int .i64 0):=Wu (v:=XO)
 obtain⟨z,hz,hz0⟩:∃z,GK (Tz v.k) 0=z∧z≠0:=⟨_,rfl,fun h0=>h (Amn.1 (Gj.1 h0))⟩
 have hc3:Ae (Ad tab) 122 [.int .i64 (Tz v.k),.int .i64 0] (· =.int .i64 z):=hz▸compare
 refine Ac rfl rfl ?_
 (conv=>whnf);repeat' (first|((first|refine kE (Wu (v:=v)) ?_|refine kE hc2 ?_|refine kE hc3 ?_|refine kA ?_|(apply Br.mk<;>intro hc))<;>first|exact hc.elim|conv=>whnf)|refine kB ?_)
 all_goals first|exact⟨_,rfl,hz0⟩|(exfalso;omega)
theorem IJ {v:GV} (hv:v.ok):Ae (Ad tab) 98 [v.av,XO.av] (fun w=>∃z,w=.int .i64 z∧(z=0↔isNull v)):=by
 have hq:Ae (Ad tab) 162 [XO.av] (· =.bool true):=by
  have:=Wv AjL;rwa [decide_eq_true ((Ws rfl).2 AdE)]at this
 have hp:=Wv hv
 by_cases hVV:VV 8 v
 ·rw[decide_eq_true hVV]at hp
  by_cases hk:v.k=0
  ·have hn:=(Ws hk).1 hVV
   refine Ac rfl rfl ?_
   (conv=>whnf);repeat' (first|((first|refine kE hp ?_|refine kE hq ?_|refine kE (AjR hn) ?_|refine kA ?_|(apply Br.mk<;>intro hc))<;>first|exact hc.elim|conv=>whnf)|refine kB ?_)
   all_goals first|exact⟨_,rfl,fun _=>hn,fun _=>rfl⟩
  ·refine Ac rfl rfl ?_
   (conv=>whnf);repeat' (first|((first|refine kE hp ?_|refine kE hq ?_|(refine Aa (Agz hk) ?_;rintro _ ⟨z,rfl,hz⟩)|refine kA ?_|(apply Br.mk<;>intro hc))<;>first|exact hc.elim|conv=>whnf)|refine kB ?_)
   all_goals first|exact⟨_,rfl,fun h=>absurd h hz,fun h=>absurd h.1 hk⟩
 ·rw[decide_eq_false hVV]at hp
  have hn:¬isNull v:=fun h=>hVV ((Ws h.1).2 h)
  refine Ac rfl rfl ?_
  (conv=>whnf);repeat' (first|((first|refine kE hp ?_|refine kE hq ?_|refine kA ?_|(apply Br.mk<;>intro hc))<;>first|exact hc.elim|conv=>whnf)|refine kB ?_)
  all_goals first|exact⟨_,rfl,fun h=>absurd h (by decide),fun h=>absurd h hn⟩
theorem Og:Ae (Ad tab) 99 [] (· =XO.av):=by
 refine Ac rfl rfl ?_
 (conv=>whnf);repeat' (first|((first|refine kA ?_|(apply Br.mk<;>intro hc))<;>first|exact hc.elim|conv=>whnf)|refine kB ?_)
 rfl
def EC (k:Int):Prop:=k=1∨k=2∨k=3
def BP (k:Int):Prop:=k=3∨k=4∨k=5
def FP (k:Int):Prop:=k=1∨k=2∨k=3∨k=4
def ER (k:Int):Prop:=k=1∨k=2∨k=3∨k=5
def CV (k:Int):Prop:=k=6∨k=7
def RS (r:GR):Prop:=r.k=0∧r.n=0∧r.name=[]∧r.key=[]∧r.fr=[]∧r.to=[]
instance (k:Int):Decidable (EC k):=by unfold EC;infer_instance
instance (k:Int):Decidable (BP k):=by unfold BP;infer_instance
instance (k:Int):Decidable (FP k):=by unfold FP;infer_instance
instance (k:Int):Decidable (ER k):=by unfold ER;infer_instance
instance (k:Int):Decidable (CV k):=by unfold CV;infer_instance
instance (r:GR):Decidable (RS r):=by unfold RS;infer_instance
def badM (m:GM):Prop:=¬(1≤m.k∧m.k≤7)∨(EC m.k∧m.fr=m.to)∨(¬ BP m.k∧m.label≠[])∨(¬ FP m.k∧m.fr≠[])∨(¬ ER m.k∧m.to≠[])∨(¬ CV m.k∧¬RS m.r)∨(m.k≠5∧¬isNull m.v)
def Dc (m:GM):Prop:=(BP m.k∧¬isName m.label)∨(FP m.k∧¬isName m.fr)∨(ER m.k∧¬isName m.to)
instance (m:GM):Decidable (badM m):=by unfold badM;infer_instance
instance (m:GM):Decidable (Dc m):=by unfold Dc;infer_instance
def EW (m:GM):Int:=if badM m then 1 else if Dc m then 6 else if m.k=5∧¬Dx m.v then 8 else if CV m.k then Dt m.r else 0
theorem LQ {m:GM} (h:badM m):AV.int .i64 1=AV.int .i64 (EW m):=by rw[EW,if_pos h]
theorem Oa {m:GM} (h:¬badM m) (h1:Dc m):AV.int .i64 6=AV.int .i64 (EW m):=by rw[EW,if_neg h,if_pos h1]
theorem Ob {m:GM} (h:¬badM m) (h1:¬Dc m) (h2:m.k=5∧¬Dx m.v):AV.int .i64 8=AV.int .i64 (EW m):=by rw[EW,if_neg h,if_neg h1,if_pos h2]
theorem Oc {m:GM} (h:¬badM m) (h1:¬Dc m) (h2:CV m.k):AV.int .i64 (Dt m.r)=AV.int .i64 (EW m):=by rw[EW,if_neg h,if_neg h1,if_neg (by unfold CV at h2;omega),if_pos h2]
theorem Oe {m:GM} (h:¬badM m) (h1:¬Dc m) (h2:¬(m.k=5∧¬Dx m.v)) (h3:¬CV m.k):AV.int .i64 0=AV.int .i64 (EW m):=by rw[EW,if_neg h,if_neg h1,if_neg h2,if_neg h3]
theorem AfY {m:GM} (h:EW m=0):¬badM m∧¬Dc m∧¬(m.k=5∧¬Dx m.v):=by
 unfold EW at h
 split at h;· omega
 split at h;· omega
 split at h;· omega
 exact⟨by assumption,by assumption,by assumption⟩
theorem Jf (r:GR):bin .neq (.flat [.int,.int,.str,.str,.str,.str]) (.agg [.int .i64 r.k,.int .i64 r.n,.str r.name,.str r.key,.str r.fr,.str r.to]) (.agg [.int .i64 0,.int .i64 0,.str [],.str [],.str [],.str []])=some (.bool (decide (¬ RS r))):=by
 unfold RS
 obtain⟨k,n,nm,key,fr,to⟩:=r
 have e:∀z:Int,(z==0)=decide (z=0):=fun z=>by by_cases h:z=0<;>simp[h]
 by_cases h1:k=0<;>by_cases h2:n=0<;>cases nm<;>cases key<;>cases fr<;>cases to<;>simp[bin,Uy,Jg,Dh,e,h1,h2]
theorem AiX:Ae (Ad tab) 97 [.int .i64 1] (· =.BD [.agg [.bool false,.bool true,.bool true,.bool false,.bool false],.bool true]):=⟨_,⟨20,by kernel_rfl⟩,rfl⟩
theorem AiY:Ae (Ad tab) 97 [.int .i64 2] (· =.BD [.agg [.bool false,.bool true,.bool true,.bool false,.bool false],.bool true]):=⟨_,⟨20,by kernel_rfl⟩,rfl⟩
theorem AiZ:Ae (Ad tab) 97 [.int .i64 3] (· =.BD [.agg [.bool true,.bool true,.bool true,.bool false,.bool false],.bool true]):=⟨_,⟨20,by kernel_rfl⟩,rfl⟩
theorem Ai0:Ae (Ad tab) 97 [.int .i64 4] (· =.BD [.agg [.bool true,.bool true,.bool false,.bool false,.bool false],.bool true]):=⟨_,⟨20,by kernel_rfl⟩,rfl⟩
theorem Ai1:Ae (Ad tab) 97 [.int .i64 5] (· =.BD [.agg [.bool true,.bool false,.bool true,.bool true,.bool false],.bool true]):=⟨_,⟨20,by kernel_rfl⟩,rfl⟩
theorem Ai2:Ae (Ad tab) 97 [.int .i64 6] (· =.BD [.agg [.bool false,.bool false,.bool false,.bool false,.bool true],.bool true]):=⟨_,⟨20,by kernel_rfl⟩,rfl⟩
theorem Ai3:Ae (Ad tab) 97 [.int .i64 7] (· =.BD [.agg [.bool false,.bool false,.bool false,.bool false,.bool true],.bool true]):=⟨_,⟨20,by kernel_rfl⟩,rfl⟩
theorem Ai4 {k:Int} (h:¬(1≤k∧k≤7)):Ae (Ad tab) 97 [.int .i64 k] (· =.BD [.agg [.bool false,.bool false,.bool false,.bool false,.bool false],.bool false]):=by
 refine Ac rfl rfl ?_
 (conv=>whnf);repeat' (first|((first|refine kA ?_|(apply Br.mk<;>intro hc))<;>first|exact hc.elim|conv=>whnf)|refine kB ?_)
 all_goals first|rfl|(exfalso;omega)
theorem Ai5 {m:GM} (hm:m.ok) (hk:¬(1≤m.k∧m.k≤7)):Ae (Ad tab) 45 [m.av] (· =.int .i64 (EW m)):=by
 refine Ac rfl rfl ?_
 (conv=>whnf);repeat' (first|((first|refine kE (Ai4 hk) ?_|refine kA ?_|(apply Br.mk<;>intro hc))<;>first|exact hc.elim|conv=>whnf)|refine kB ?_)
 all_goals exact LQ (.inl hk)
set_option maxHeartbeats 4000000 in
theorem Ai6 {m:GM} (hm:m.ok) (hk:m.k=1):Ae (Ad tab) 45 [m.av] (· =.int .i64 (EW m)):=by
 obtain⟨k,lb,fr,to,v,r⟩:=m
 obtain⟨g1,g2,g3,g4,g5,g6⟩:=hm
 unfold Ln at g2 g3 g4
 dsimp only at g1 g2 g3 g4 g5 g6 hk
 subst hk
 refine Ac rfl rfl ?_
 (conv=>whnf);repeat' (first|((first|refine kE AiX ?_|refine kE Og ?_|(refine Aa (IJ g5) ?_;rintro _ ⟨z,rfl,hz⟩)|refine Aq (KH g5) (fun hp=>?_) (fun hp=>?_)|refine kE (NQ g6) ?_|refine Aq (name1 (s:=lb) g2) (fun ha=>?_) (fun ha=>?_)|refine Aq (name1 (s:=fr) g3) (fun he=>?_) (fun he=>?_)|refine Aq (name1 (s:=to) g4) (fun hf=>?_) (fun hf=>?_)|apply Aj (Jf r)|refine kA ?_|(apply Br.mk<;>intro hc))<;>first|exact hc.elim|conv=>whnf)|refine kB ?_)
 all_goals clear g1 g2 g3 g4 g5 g6
 all_goals first
  |exact LQ (by unfold badM EC BP FP ER CV;dsimp only;grind)
  |exact Oa (by unfold badM EC BP FP ER CV;dsimp only;grind) (by unfold Dc BP FP ER;dsimp only;grind)
  |exact Ob (by unfold badM EC BP FP ER CV;dsimp only;grind) (by unfold Dc BP FP ER;dsimp only;grind) (by dsimp only;grind)
  |exact Oe (by unfold badM EC BP FP ER CV;dsimp only;grind) (by unfold Dc BP FP ER;dsimp only;grind) (by dsimp only;grind) (by unfold CV;dsimp only;omega)
  |exact Oc (m:=⟨1,lb,fr,to,v,r⟩) (by unfold badM EC BP FP ER CV;dsimp only;grind) (by unfold Dc BP FP ER;dsimp only;grind) (by unfold CV;dsimp only;omega)
  |(exfalso;grind)
set_option maxHeartbeats 4000000 in
theorem Ai7 {m:GM} (hm:m.ok) (hk:m.k=2):Ae (Ad tab) 45 [m.av] (· =.int .i64 (EW m)):=by
 obtain⟨k,lb,fr,to,v,r⟩:=m
 obtain⟨g1,g2,g3,g4,g5,g6⟩:=hm
 unfold Ln at g2 g3 g4
 dsimp only at g1 g2 g3 g4 g5 g6 hk
 subst hk
 refine Ac rfl rfl ?_
 (conv=>whnf);repeat' (first|((first|refine kE AiY ?_|refine kE Og ?_|(refine Aa (IJ g5) ?_;rintro _ ⟨z,rfl,hz⟩)|refine Aq (KH g5) (fun hp=>?_) (fun hp=>?_)|refine kE (NQ g6) ?_|refine Aq (name1 (s:=lb) g2) (fun ha=>?_) (fun ha=>?_)|refine Aq (name1 (s:=fr) g3) (fun he=>?_) (fun he=>?_)|refine Aq (name1 (s:=to) g4) (fun hf=>?_) (fun hf=>?_)|apply Aj (Jf r)|refine kA ?_|(apply Br.mk<;>intro hc))<;>first|exact hc.elim|conv=>whnf)|refine kB ?_)
 all_goals clear g1 g2 g3 g4 g5 g6
 all_goals first
  |exact LQ (by unfold badM EC BP FP ER CV;dsimp only;grind)
  |exact Oa (by unfold badM EC BP FP ER CV;dsimp only;grind) (by unfold Dc BP FP ER;dsimp only;grind)
  |exact Ob (by unfold badM EC BP FP ER CV;dsimp only;grind) (by unfold Dc BP FP ER;dsimp only;grind) (by dsimp only;grind)
  |exact Oe (by unfold badM EC BP FP ER CV;dsimp only;grind) (by unfold Dc BP FP ER;dsimp only;grind) (by dsimp only;grind) (by unfold CV;dsimp only;omega)
  |exact Oc (m:=⟨2,lb,fr,to,v,r⟩) (by unfold badM EC BP FP ER CV;dsimp only;grind) (by unfold Dc BP FP ER;dsimp only;grind) (by unfold CV;dsimp only;omega)
  |(exfalso;grind)
set_option maxHeartbeats 4000000 in
theorem Ai8 {m:GM} (hm:m.ok) (hk:m.k=3):Ae (Ad tab) 45 [m.av] (· =.int .i64 (EW m)):=by
 obtain⟨k,lb,fr,to,v,r⟩:=m
 obtain⟨g1,g2,g3,g4,g5,g6⟩:=hm
 unfold Ln at g2 g3 g4
 dsimp only at g1 g2 g3 g4 g5 g6 hk
 subst hk
 refine Ac rfl rfl ?_
 (conv=>whnf);repeat' (first|((first|refine kE AiZ ?_|refine kE Og ?_|(refine Aa (IJ g5) ?_;rintro _ ⟨z,rfl,hz⟩)|refine Aq (KH g5) (fun hp=>?_) (fun hp=>?_)|refine kE (NQ g6) ?_|refine Aq (name1 (s:=lb) g2) (fun ha=>?_) (fun ha=>?_)|refine Aq (name1 (s:=fr) g3) (fun he=>?_) (fun he=>?_)|refine Aq (name1 (s:=to) g4) (fun hf=>?_) (fun hf=>?_)|apply Aj (Jf r)|refine kA ?_|(apply Br.mk<;>intro hc))<;>first|exact hc.elim|conv=>whnf)|refine kB ?_)
 all_goals clear g1 g2 g3 g4 g5 g6
 all_goals first
  |exact LQ (by unfold badM EC BP FP ER CV;dsimp only;grind)
  |exact Oa (by unfold badM EC BP FP ER CV;dsimp only;grind) (by unfold Dc BP FP ER;dsimp only;grind)
  |exact Ob (by unfold badM EC BP FP ER CV;dsimp only;grind) (by unfold Dc BP FP ER;dsimp only;grind) (by dsimp only;grind)
  |exact Oe (by unfold badM EC BP FP ER CV;dsimp only;grind) (by unfold Dc BP FP ER;dsimp only;grind) (by dsimp only;grind) (by unfold CV;dsimp only;omega)
  |exact Oc (m:=⟨3,lb,fr,to,v,r⟩) (by unfold badM EC BP FP ER CV;dsimp only;grind) (by unfold Dc BP FP ER;dsimp only;grind) (by unfold CV;dsimp only;omega)
  |(exfalso;grind)
set_option maxHeartbeats 4000000 in
theorem Ai9 {m:GM} (hm:m.ok) (hk:m.k=4):Ae (Ad tab) 45 [m.av] (· =.int .i64 (EW m)):=by
 obtain⟨k,lb,fr,to,v,r⟩:=m
 obtain⟨g1,g2,g3,g4,g5,g6⟩:=hm
 unfold Ln at g2 g3 g4
 dsimp only at g1 g2 g3 g4 g5 g6 hk
 subst hk
 refine Ac rfl rfl ?_
 (conv=>whnf);repeat' (first|((first|refine kE Ai0 ?_|refine kE Og ?_|(refine Aa (IJ g5) ?_;rintro _ ⟨z,rfl,hz⟩)|refine Aq (KH g5) (fun hp=>?_) (fun hp=>?_)|refine kE (NQ g6) ?_|refine Aq (name1 (s:=lb) g2) (fun ha=>?_) (fun ha=>?_)|refine Aq (name1 (s:=fr) g3) (fun he=>?_) (fun he=>?_)|refine Aq (name1 (s:=to) g4) (fun hf=>?_) (fun hf=>?_)|apply Aj (Jf r)|refine kA ?_|(apply Br.mk<;>intro hc))<;>first|exact hc.elim|conv=>whnf)|refine kB ?_)
 all_goals clear g1 g2 g3 g4 g5 g6
 all_goals first
  |exact LQ (by unfold badM EC BP FP ER CV;dsimp only;grind)
  |exact Oa (by unfold badM EC BP FP ER CV;dsimp only;grind) (by unfold Dc BP FP ER;dsimp only;grind)
  |exact Ob (by unfold badM EC BP FP ER CV;dsimp only;grind) (by unfold Dc BP FP ER;dsimp only;grind) (by dsimp only;grind)
  |exact Oe (by unfold badM EC BP FP ER CV;dsimp only;grind) (by unfold Dc BP FP ER;dsimp only;grind) (by dsimp only;grind) (by unfold CV;dsimp only;omega)
  |exact Oc (m:=⟨4,lb,fr,to,v,r⟩) (by unfold badM EC BP FP ER CV;dsimp only;grind) (by unfold Dc BP FP ER;dsimp only;grind) (by unfold CV;dsimp only;omega)
  |(exfalso;grind)
set_option maxHeartbeats 4000000 in
theorem Aja {m:GM} (hm:m.ok) (hk:m.k=5):Ae (Ad tab) 45 [m.av] (· =.int .i64 (EW m)):=by
 obtain⟨k,lb,fr,to,v,r⟩:=m
 obtain⟨g1,g2,g3,g4,g5,g6⟩:=hm
 unfold Ln at g2 g3 g4
 dsimp only at g1 g2 g3 g4 g5 g6 hk
 subst hk
 refine Ac rfl rfl ?_
 (conv=>whnf);repeat' (first|((first|refine kE Ai1 ?_|refine kE Og ?_|(refine Aa (IJ g5) ?_;rintro _ ⟨z,rfl,hz⟩)|refine Aq (KH g5) (fun hp=>?_) (fun hp=>?_)|refine kE (NQ g6) ?_|refine Aq (name1 (s:=lb) g2) (fun ha=>?_) (fun ha=>?_)|refine Aq (name1 (s:=fr) g3) (fun he=>?_) (fun he=>?_)|refine Aq (name1 (s:=to) g4) (fun hf=>?_) (fun hf=>?_)|apply Aj (Jf r)|refine kA ?_|(apply Br.mk<;>intro hc))<;>first|exact hc.elim|conv=>whnf)|refine kB ?_)
 all_goals clear g1 g2 g3 g4 g5 g6
 all_goals first
  |exact LQ (by unfold badM EC BP FP ER CV;dsimp only;grind)
  |exact Oa (by unfold badM EC BP FP ER CV;dsimp only;grind) (by unfold Dc BP FP ER;dsimp only;grind)
  |exact Ob (by unfold badM EC BP FP ER CV;dsimp only;grind) (by unfold Dc BP FP ER;dsimp only;grind) (by dsimp only;grind)
  |exact Oe (by unfold badM EC BP FP ER CV;dsimp only;grind) (by unfold Dc BP FP ER;dsimp only;grind) (by dsimp only;grind) (by unfold CV;dsimp only;omega)
  |exact Oc (m:=⟨5,lb,fr,to,v,r⟩) (by unfold badM EC BP FP ER CV;dsimp only;grind) (by unfold Dc BP FP ER;dsimp only;grind) (by unfold CV;dsimp only;omega)
  |(exfalso;grind)
set_option maxHeartbeats 4000000 in
theorem Ajb {m:GM} (hm:m.ok) (hk:m.k=6):Ae (Ad tab) 45 [m.av] (· =.int .i64 (EW m)):=by
 obtain⟨k,lb,fr,to,v,r⟩:=m
 obtain⟨g1,g2,g3,g4,g5,g6⟩:=hm
 unfold Ln at g2 g3 g4
 dsimp only at g1 g2 g3 g4 g5 g6 hk
 subst hk
 refine Ac rfl rfl ?_
 (conv=>whnf);repeat' (first|((first|refine kE Ai2 ?_|refine kE Og ?_|(refine Aa (IJ g5) ?_;rintro _ ⟨z,rfl,hz⟩)|refine Aq (KH g5) (fun hp=>?_) (fun hp=>?_)|refine kE (NQ g6) ?_|refine Aq (name1 (s:=lb) g2) (fun ha=>?_) (fun ha=>?_)|refine Aq (name1 (s:=fr) g3) (fun he=>?_) (fun he=>?_)|refine Aq (name1 (s:=to) g4) (fun hf=>?_) (fun hf=>?_)|apply Aj (Jf r)|refine kA ?_|(apply Br.mk<;>intro hc))<;>first|exact hc.elim|conv=>whnf)|refine kB ?_)
 all_goals clear g1 g2 g3 g4 g5 g6
 all_goals first
  |exact LQ (by unfold badM EC BP FP ER CV;dsimp only;grind)
  |exact Oa (by unfold badM EC BP FP ER CV;dsimp only;grind) (by unfold Dc BP FP ER;dsimp only;grind)
  |exact Ob (by unfold badM EC BP FP ER CV;dsimp only;grind) (by unfold Dc BP FP ER;dsimp only;grind) (by dsimp only;grind)
  |exact Oe (by unfold badM EC BP FP ER CV;dsimp only;grind) (by unfold Dc BP FP ER;dsimp only;grind) (by dsimp only;grind) (by unfold CV;dsimp only;omega)
  |exact Oc (m:=⟨6,lb,fr,to,v,r⟩) (by unfold badM EC BP FP ER CV;dsimp only;grind) (by unfold Dc BP FP ER;dsimp only;grind) (by unfold CV;dsimp only;omega)
  |(exfalso;grind)
set_option maxHeartbeats 4000000 in
theorem Ajc {m:GM} (hm:m.ok) (hk:m.k=7):Ae (Ad tab) 45 [m.av] (· =.int .i64 (EW m)):=by
 obtain⟨k,lb,fr,to,v,r⟩:=m
 obtain⟨g1,g2,g3,g4,g5,g6⟩:=hm
 unfold Ln at g2 g3 g4
 dsimp only at g1 g2 g3 g4 g5 g6 hk
 subst hk
 refine Ac rfl rfl ?_
 (conv=>whnf);repeat' (first|((first|refine kE Ai3 ?_|refine kE Og ?_|(refine Aa (IJ g5) ?_;rintro _ ⟨z,rfl,hz⟩)|refine Aq (KH g5) (fun hp=>?_) (fun hp=>?_)|refine kE (NQ g6) ?_|refine Aq (name1 (s:=lb) g2) (fun ha=>?_) (fun ha=>?_)|refine Aq (name1 (s:=fr) g3) (fun he=>?_) (fun he=>?_)|refine Aq (name1 (s:=to) g4) (fun hf=>?_) (fun hf=>?_)|apply Aj (Jf r)|refine kA ?_|(apply Br.mk<;>intro hc))<;>first|exact hc.elim|conv=>whnf)|refine kB ?_)
 all_goals clear g1 g2 g3 g4 g5 g6
 all_goals first
  |exact LQ (by unfold badM EC BP FP ER CV;dsimp only;grind)
  |exact Oa (by unfold badM EC BP FP ER CV;dsimp only;grind) (by unfold Dc BP FP ER;dsimp only;grind)
  |exact Ob (by unfold badM EC BP FP ER CV;dsimp only;grind) (by unfold Dc BP FP ER;dsimp only;grind) (by dsimp only;grind)
  |exact Oe (by unfold badM EC BP FP ER CV;dsimp only;grind) (by unfold Dc BP FP ER;dsimp only;grind) (by dsimp only;grind) (by unfold CV;dsimp only;omega)
  |exact Oc (m:=⟨7,lb,fr,to,v,r⟩) (by unfold badM EC BP FP ER CV;dsimp only;grind) (by unfold Dc BP FP ER;dsimp only;grind) (by unfold CV;dsimp only;omega)
  |(exfalso;grind)
theorem Ajd {m:GM} (hr:m.ok):Ae (Ad tab) 45 [m.av] (· =.int .i64 (EW m)):=by
 by_cases hk:1≤m.k∧m.k≤7
 case neg=>exact Ai5 hr hk
 have h:m.k=1∨m.k=2∨m.k=3∨m.k=4∨m.k=5∨m.k=6∨m.k=7:=by omega
 rcases h with h|h|h|h|h|h|h
 ·exact Ai6 hr h
 ·exact Ai7 hr h
 ·exact Ai8 hr h
 ·exact Ai9 hr h
 ·exact Aja hr h
 ·exact Ajb hr h
 ·exact Ajc hr h
end AI
end Go.Proofs.YtjijnamhalgamaaGreatDoor
