/- The reference's violations of a rule: looks at properties and labels, nodes and edges. -/
import Derived.Test.YtjijnamhalgamaaGreatDoorTMaq
set_option linter.unusedVariables false
set_option maxRecDepth 4000
namespace Go.Proofs.YtjijnamhalgamaaGreatDoor
namespace AI
set_option maxHeartbeats 2000000 in
theorem Aje {P:List GP} {nn:Bool} {key:List UInt8} (hl:P.length<2^62):Ae (Ad tab) 221 [.sl nn (vs GP.av P),.str key] (· =.BD [(ET P key).av,.bool (decide (AcA P key))]):=by
 refine Ac rfl rfl ?_
 (conv=>whnf);repeat' (first|((first|refine kA ?_|(apply Br.mk<;>intro hc))<;>first|exact hc.elim|conv=>whnf)|refine kB ?_)
 all_goals try omega
 refine Ag (fun m env s=>∃(i c:Nat),m=P.length-i∧i≤P.length∧(∀ p∈P.take i,p.key≠key)∧env=[(0,.sl nn (vs GP.av P)),(1,.str key),(4,.ref 0 0 0 0),(6,.int .i64 i)]∧s=⟨[.arr 0 5 true true [V0.av]],c⟩) ?_ _ _ _ ⟨0,_,rfl,by omega,by simp,rfl,rfl⟩
 rintro _ _ _ ⟨i,c,rfl,hi,hx,rfl,rfl⟩
 refine⟨rfl,?_⟩
 by_cases hlt:i<P.length
 ·by_cases he:(P[i]).key=key
  ·obtain⟨e1,e2⟩:=Vr hlt hx he
   rw[e1,decide_eq_true e2]
   (conv=>whnf);repeat' (first|((first|refine kA ?_|(apply Br.mk<;>intro hc))<;>first|exact hc.elim|conv=>whnf)|refine kB ?_)
   all_goals first
        |omega
        |exact absurd he ‹_›
        |rfl
  ·(conv=>whnf);repeat' (first|((first|refine kA ?_|(apply Br.mk<;>intro hc))<;>first|exact hc.elim|conv=>whnf)|refine kB ?_)
   all_goals first
        |omega
        |exact absurd ‹_› he
        |exact again.mk ⟨_,by omega,i+1,_,rfl,by omega,fun p hp=>by
          rw[List.take_succ_eq_append_getElem hlt,List.mem_append,List.mem_singleton]at hp
          rcases hp with k|k
          ·exact hx p k
          ·subst k;exact he,rfl,rfl⟩
 ·rw[List.take_of_length_le (by omega)]at hx
  obtain⟨e1,e2⟩:=Vs hx
  rw[e1,decide_eq_false e2]
  (conv=>whnf);repeat' (first|((first|refine kA ?_|(apply Br.mk<;>intro hc))<;>first|exact hc.elim|conv=>whnf)|refine kB ?_)
  all_goals first
   |omega
   |rfl
set_option maxHeartbeats 2000000 in
theorem AeQ {r:GR} {P:List GP} {nn:Bool} (hl:P.length<2^62):Ae (Ad tab) 223 [r.av,.sl nn (vs GP.av P)] (· =.bool (decide (Ql r P))):=by
 have p:=Aje (P:=P) (nn:=nn) (key:=r.key) hl
 unfold Ql
 by_cases hk:r.k=2∨r.k=4
 ·simp only[if_pos hk]
  by_cases hh:AcA P r.key
  ·rw[decide_eq_true hh]at p
   rw[decide_eq_false (not_not_intro hh)]
   refine Ac rfl rfl ?_
   (conv=>whnf);repeat' (first|((first|apply kE p|refine kA ?_|(apply Br.mk<;>intro hc))<;>first|exact hc.elim|conv=>whnf)|refine kB ?_)
   all_goals first|rfl|omega|contradiction
  ·rw[decide_eq_false hh]at p
   rw[decide_eq_true hh]
   refine Ac rfl rfl ?_
   (conv=>whnf);repeat' (first|((first|apply kE p|refine kA ?_|(apply Br.mk<;>intro hc))<;>first|exact hc.elim|conv=>whnf)|refine kB ?_)
   all_goals first|rfl|omega|contradiction
 ·simp only[if_neg hk]
  by_cases hh:AcA P r.key
  ·rw[decide_eq_true hh]at p
   by_cases hv:(ET P r.key).k=r.n
   ·rw[decide_eq_false fun h=>h.2 hv]
    refine Ac rfl rfl ?_
    (conv=>whnf);repeat' (first|((first|apply kE p|refine kA ?_|(apply Br.mk<;>intro hc))<;>first|exact hc.elim|conv=>whnf)|refine kB ?_)
    all_goals first|rfl|omega|contradiction|exact absurd hv ‹_› |exact Au (fun h=>h hv)
   ·rw[decide_eq_true (show AcA P r.key∧(ET P r.key).k≠r.n from⟨hh,hv⟩)]
    refine Ac rfl rfl ?_
    (conv=>whnf);repeat' (first|((first|apply kE p|refine kA ?_|(apply Br.mk<;>intro hc))<;>first|exact hc.elim|conv=>whnf)|refine kB ?_)
    all_goals first|rfl|omega|contradiction|exact absurd ‹_› hv
  ·rw[decide_eq_false hh]at p
   rw[decide_eq_false fun h=>hh h.1]
   refine Ac rfl rfl ?_
   (conv=>whnf);repeat' (first|((first|apply kE p|refine kA ?_|(apply Br.mk<;>intro hc))<;>first|exact hc.elim|conv=>whnf)|refine kB ?_)
   all_goals first|rfl|omega|contradiction
def Rh (g:GG) (z:Int) (lb:List UInt8):Prop:=(g.nodes.find? (VZ z)).isSome=true∧(lb=[]∨lb∈AmV g.nodes z)
noncomputable instance (g:GG) (z:Int) (lb:List UInt8):Decidable (Rh g z lb):=Classical.propDecidable _
set_option maxHeartbeats 2000000 in
theorem Abs {g:GG} (hl:g.nodes.length<2^62) (hlb:∀n∈g.nodes,n.labels.length<2^62) {z:Int} {lb:List UInt8}:Ae (Ad tab) 224 [g.av,.int .i64 z,.str lb] (· =.bool (decide (Rh g z lb))):=by
 have p:=AmW (g:=g) (by omega) (id:=z)
 rw[Xn]at p
 have hm:((g.nodes.find? (VZ z)).getD N0).labels.length<2^62:=by
  cases hf:g.nodes.find? (VZ z)with
  |none=>show([]:List (List UInt8)).length<_;simp
  |some n=>exact hlb n (List.mem_of_find?_eq_some hf)
 have q:=Nk (n:=(g.nodes.find? (VZ z)).getD N0) (s:=lb) (by omega)
 obtain⟨m,hme⟩:∃m,m=(g.nodes.find? (VZ z)).getD N0:=⟨_,rfl⟩
 obtain⟨b,hbe⟩:∃b,b=(g.nodes.find? (VZ z)).isSome:=⟨_,rfl⟩
 have hlk:Rh g z lb↔b=true∧(lb=[]∨lb∈m.labels):=by rw[hme,hbe];exact Iff.rfl
 rw[← hme,←hbe]at p
 rw[← hme]at hm q
 clear hbe
 cases b with
 |false=>
  rw[decide_eq_false fun h=>Bool.noConfusion (hlk.1 h).1]
  refine Ac rfl rfl ?_
  (conv=>whnf);repeat' (first|((first|apply kE p|apply kE q|refine kA ?_|(apply Br.mk<;>intro hc))<;>first|exact hc.elim|conv=>whnf)|refine kB ?_)
  all_goals first|rfl|contradiction|(exfalso;simp_all;done)
 |true=>
  by_cases h1:lb=[]
  ·subst h1
   rw[decide_eq_true (hlk.2 ⟨rfl,.inl rfl⟩)]
   refine Ac rfl rfl ?_
   (conv=>whnf);repeat' (first|((first|apply kE p|apply kE q|refine kA ?_|(apply Br.mk<;>intro hc))<;>first|exact hc.elim|conv=>whnf)|refine kB ?_)
   all_goals first|rfl|contradiction|(exfalso;simp_all;done)
  ·by_cases h2:lb∈m.labels
   ·rw[decide_eq_true h2]at q
    rw[decide_eq_true (hlk.2 ⟨rfl,.inr h2⟩)]
    refine Ac rfl rfl ?_
    (conv=>whnf);repeat' (first|((first|apply kE p|apply kE q|refine kA ?_|(apply Br.mk<;>intro hc))<;>first|exact hc.elim|conv=>whnf)|refine kB ?_)
    all_goals first|rfl|contradiction|exact absurd ‹_› h1|(exfalso;simp_all;done)
   ·rw[decide_eq_false h2]at q
    rw[decide_eq_false fun h=>(hlk.1 h).2.elim h1 h2]
    refine Ac rfl rfl ?_
    (conv=>whnf);repeat' (first|((first|apply kE p|apply kE q|refine kA ?_|(apply Br.mk<;>intro hc))<;>first|exact hc.elim|conv=>whnf)|refine kB ?_)
    all_goals first|rfl|contradiction|exact absurd ‹_› h1|(exfalso;simp_all;done)
theorem Vt {g:GG} {z:Int} {lb:List UInt8} (h:∃n∈g.nodes,n.id=z):¬Rh g z lb↔Jw g z lb:=by
 have hs:(g.nodes.find? (VZ z)).isSome=true:=by
  obtain⟨n,hn,e⟩:=h
  rw[List.find?_isSome]
  exact⟨n,hn,decide_eq_true e⟩
 unfold Rh Jw
 constructor
 ·intro k
  exact⟨fun e=>k ⟨hs,.inl e⟩,fun e=>k ⟨hs,.inr e⟩⟩
 ·rintro⟨k1,k2⟩ ⟨_,k|k⟩
  ·exact k1 k
  ·exact k2 k
def Jv (r:GR) (g:GG) (n:GN):Prop:=if r.k=7 then MW r g n else OX r n
noncomputable instance (r:GR) (g:GG) (n:GN):Decidable (Jv r g n):=Classical.propDecidable _
theorem AeR {E:List GE} {x:List UInt8} {z:Int} {i:Nat} (h:i<E.length):LM (E.take (i+1)) x z=LM (E.take i) x z+(if (E[i]).ty=x∧(E[i]).fr=z then 1 else 0):=by
 unfold LM
 rw[List.take_succ_eq_append_getElem h,List.filter_append,List.length_append]
 congr 1
 by_cases hc:(E[i]).ty=x∧(E[i]).fr=z
 ·simp[hc]
 ·simp[hc]
theorem AeS {E:List GE} {x:List UInt8} {z:Int}:LM E x z≤E.length:=List.length_filter_le ..
section
variable {r:GR} {g:GG} {n:GN} {go n1:Nat} {fo:Bool} {L:List (Int×Int)} {i:Nat} {gn:Nat} {b8:AV}
theorem Ahs (hE:g.edges.length≤4000) {c0:Nat} {Q:AQ→Env→Am→Prop}
 (hQ:∀c tl,Q (.exit 2) ([(2,.ref 0 0 0 0),(3,.ref 1 1 0 0),(5,.own 2 go 0 n1),(6,.int .i64 i),(7,.ref 3 gn 0 0),(9,.int .i64 (LM g.edges r.name n.id))]++tl) ⟨[.arr 0 6 true true [r.av],.arr 1 4 true true [g.av],.arr go 2 fo true (vs KF L),.arr gn 3 true true [n.av]],c⟩):
 Run (Ad tab) (.loop l153_0_h l153_0_b) [(2,.ref 0 0 0 0),(3,.ref 1 1 0 0),(5,.own 2 go 0 n1),(6,.int .i64 i),(7,.ref 3 gn 0 0),(9,.int .i64 0),(10,.int .i64 0)] ⟨[.arr 0 6 true true [r.av],.arr 1 4 true true [g.av],.arr go 2 fo true (vs KF L),.arr gn 3 true true [n.av]],c0⟩ Q:=by
 refine Ag (fun m env s=>∃(j c k:Nat),m=g.edges.length-j∧j≤g.edges.length∧k=LM (g.edges.take j) r.name n.id∧k≤j∧env=[(2,.ref 0 0 0 0),(3,.ref 1 1 0 0),(5,.own 2 go 0 n1),(6,.int .i64 i),(7,.ref 3 gn 0 0),(9,.int .i64 k),(10,.int .i64 j)]∧s=⟨[.arr 0 6 true true [r.av],.arr 1 4 true true [g.av],.arr go 2 fo true (vs KF L),.arr gn 3 true true [n.av]],c⟩) ?_ _ _ _ ⟨0,_,0,rfl,by omega,by simp[LM],by omega,rfl,rfl⟩
 rintro _ _ _ ⟨j,c,k,rfl,hj,hk,hkj,rfl,rfl⟩
 refine⟨rfl,?_⟩
 by_cases hlt:j<g.edges.length
 ·have hs:=AeR (x:=r.name) (z:=n.id) hlt
  rw[← hk]at hs
  by_cases h1:(g.edges[j]).fr=n.id
  ·by_cases h2:(g.edges[j]).ty=r.name
   ·rw[if_pos ⟨h2,h1⟩]at hs
    (conv=>whnf);repeat' (first|((first|refine kA ?_|(apply Br.mk<;>intro hc))<;>first|exact hc.elim|conv=>whnf)|refine kB ?_)
    all_goals first
     |omega
     |exact absurd h1 ‹_›
     |exact absurd h2 ‹_›
     |exact again.mk ⟨_,by omega,j+1,_,k+1,rfl,by omega,hs.symm,by omega,rfl,rfl⟩
     |(exfalso;simp_all;done)
   ·rw[if_neg fun h=>h2 h.1]at hs
    (conv=>whnf);repeat' (first|((first|refine kA ?_|(apply Br.mk<;>intro hc))<;>first|exact hc.elim|conv=>whnf)|refine kB ?_)
    all_goals first
     |omega
     |exact absurd h1 ‹_›
     |exact absurd ‹_› h2
     |exact again.mk ⟨_,by omega,j+1,_,k,rfl,by omega,hs.symm,by omega,rfl,rfl⟩
     |(exfalso;simp_all;done)
  ·rw[if_neg fun h=>h1 h.2]at hs
   (conv=>whnf);repeat' (first|((first|refine kA ?_|(apply Br.mk<;>intro hc))<;>first|exact hc.elim|conv=>whnf)|refine kB ?_)
   all_goals first
        |omega
        |exact absurd ‹_› h1
        |exact again.mk ⟨_,by omega,j+1,_,k,rfl,by omega,hs.symm,by omega,rfl,rfl⟩
        |(exfalso;simp_all;done)
 ·rw[List.take_of_length_le (by omega)]at hk
  subst hk
  (conv=>whnf);repeat' (first|((first|refine kA ?_|(apply Br.mk<;>intro hc))<;>first|exact hc.elim|conv=>whnf)|refine kB ?_)
  all_goals first
   |omega
   |exact hQ _ _
end
set_option maxHeartbeats 4000000 in
theorem Af0 {r:GR} {g:GG} (hl:g.nodes.length≤4000) (hE:g.edges.length≤4000) (hb:∀n∈g.nodes,n.labels.length<2^62∧n.props.length<2^62):Ae (Ad tab) 153 [r.av,g.av] (fun v=>∃nn L,v=.sl nn (vs KF L)∧L.length≤4000∧(L=[]↔∀n∈g.nodes,¬Jv r g n)):=by
 refine Ac rfl rfl ?_
 (conv=>whnf);repeat' (first|((first|refine kA ?_|(apply Br.mk<;>intro hc))<;>first|exact hc.elim|conv=>whnf)|refine kB ?_)
 all_goals try omega
 refine Ag (fun m env s=>∃(i go n1 c:Nat) (fo:Bool) (L:List (Int×Int)),m=g.nodes.length-i∧i≤g.nodes.length∧n1=L.length∧L.length≤i∧(L=[]↔∀n∈g.nodes.take i,¬Jv r g n)∧env=[(2,.ref 0 0 0 0),(3,.ref 1 1 0 0),(5,.own 2 go 0 n1),(6,.int .i64 i)]∧s=⟨[.arr 0 6 true true [r.av],.arr 1 4 true true [g.av],.arr go 2 fo true (vs KF L)],c⟩) ?_ _ _ _ ⟨0,_,_,_,_,[],rfl,by omega,rfl,by simp,by simp,rfl,rfl⟩
 rintro _ _ _ ⟨i,go,n1,c,fo,L,rfl,hi,hn1,hLi,hL,rfl,rfl⟩
 refine⟨rfl,?_⟩
 by_cases hlt:i<g.nodes.length
 ·obtain⟨b1,b2⟩:=hb _ (List.getElem_mem hlt)
  obtain⟨n,hne⟩:∃n,n=g.nodes[i]:=⟨_,rfl⟩
  have Gf:nth (vs GN.av g.nodes) i=some n.av:=by rw[hne];exact nVN hlt
  rw[← hne]at b1 b2
  have p1:=Nk (n:=n) (s:=r.name) (by omega)
  have p2:=AeQ (r:=r) (P:=n.props) (nn:=n.pn) b2
  have hst:∀{Q:GN→Prop},(∀ x∈g.nodes.take (i+1),Q x)↔(∀ x∈g.nodes.take i,Q x)∧Q n:=fun{Q}=>by
   rw[List.take_succ_eq_append_getElem hlt,←hne]
   simp only[List.mem_append,List.mem_singleton]
   exact⟨fun h=>⟨fun n hn=>h n (.inl hn),h _ (.inr rfl)⟩,fun h n hn=>hn.elim (h.1 n) fun e=>e▸h.2⟩
  have hmB:Jv r g n→(L++[(n.id,(0:Int))]=[]↔∀x∈g.nodes.take (i+1),¬Jv r g x):=fun hbad=>by rw[hst];simp[hbad]
  have YQ:¬Jv r g n→(L=[]↔∀x∈g.nodes.take (i+1),¬Jv r g x):=fun hbad=>by rw[hst,hL];exact⟨fun h=>⟨h,hbad⟩,fun h=>h.1⟩
  clear hne
  have hoD:=AeS (E:=g.edges) (x:=r.name) (z:=n.id)
  by_cases h7:r.k=7
  ·have hbd:Jv r g n↔r.n<LM g.edges r.name n.id:=by unfold Jv MW;rw[if_pos h7]
   obtain⟨o,ho⟩:∃o,o=LM g.edges r.name n.id:=⟨_,rfl⟩
   by_cases hbad:Jv r g n
   ·have hm:=hmB hbad
    have hb2:=hbd.1 hbad
    by_cases h1:r.name∈n.labels
    ·rw[decide_eq_true h1]at p1
     (conv=>whnf);repeat' (first|((first|refine Af Gf ?_|apply kE p1|apply kE p2|refine Ahs (r:=r) (g:=g) (n:=n) (by omega) (fun c tl=>?_)|refine LU (f:=KF) (l:=L) (x:=(n.id,(0:Int))) rfl AcC hn1 (by omega) ?_|refine kA ?_|(apply Br.mk<;>intro hc))<;>first|exact hc.elim|conv=>whnf)|refine kB ?_)
     all_goals first
         |omega
         |contradiction
         |exact absurd h7 ‹_›
         |exact again.mk ⟨_,by omega,i+1,_,_,_,_,L++[(n.id,0)],rfl,by omega,by simp,by simp;omega,hm,rfl,rfl⟩
    ·rw[decide_eq_false h1]at p1
     (conv=>whnf);repeat' (first|((first|refine Af Gf ?_|apply kE p1|apply kE p2|refine Ahs (r:=r) (g:=g) (n:=n) (by omega) (fun c tl=>?_)|refine LU (f:=KF) (l:=L) (x:=(n.id,(0:Int))) rfl AcC hn1 (by omega) ?_|refine kA ?_|(apply Br.mk<;>intro hc))<;>first|exact hc.elim|conv=>whnf)|refine kB ?_)
     all_goals first
         |omega
         |contradiction
         |exact absurd h7 ‹_›
         |exact again.mk ⟨_,by omega,i+1,_,_,_,_,L++[(n.id,0)],rfl,by omega,by simp,by simp;omega,hm,rfl,rfl⟩
   ·have hm:=YQ hbad
    have hb2:¬(r.n<LM g.edges r.name n.id):=fun h=>hbad (hbd.2 h)
    by_cases h1:r.name∈n.labels
    ·rw[decide_eq_true h1]at p1
     (conv=>whnf);repeat' (first|((first|refine Af Gf ?_|apply kE p1|apply kE p2|refine Ahs (r:=r) (g:=g) (n:=n) (by omega) (fun c tl=>?_)|refine kA ?_|(apply Br.mk<;>intro hc))<;>first|exact hc.elim|conv=>whnf)|refine kB ?_)
     all_goals first
         |omega
         |contradiction
         |exact absurd h7 ‹_›
         |exact again.mk ⟨_,by omega,i+1,_,_,_,_,L,rfl,by omega,hn1,by omega,hm,rfl,rfl⟩
    ·rw[decide_eq_false h1]at p1
     (conv=>whnf);repeat' (first|((first|refine Af Gf ?_|apply kE p1|apply kE p2|refine Ahs (r:=r) (g:=g) (n:=n) (by omega) (fun c tl=>?_)|refine kA ?_|(apply Br.mk<;>intro hc))<;>first|exact hc.elim|conv=>whnf)|refine kB ?_)
     all_goals first
         |omega
         |contradiction
         |exact absurd h7 ‹_›
         |exact again.mk ⟨_,by omega,i+1,_,_,_,_,L,rfl,by omega,hn1,by omega,hm,rfl,rfl⟩
  ·have hbd:Jv r g n↔OX r n:=by unfold Jv;rw[if_neg h7]
   by_cases h1:r.name∈n.labels
   ·rw[decide_eq_true h1]at p1
    by_cases h2:Ql r n.props
    ·rw[decide_eq_true h2]at p2
     have hm:=hmB (hbd.2 ⟨h1,h2⟩)
     (conv=>whnf);repeat' (first|((first|refine Af Gf ?_|apply kE p1|apply kE p2|refine LU (f:=KF) (l:=L) (x:=(n.id,(0:Int))) rfl AcC hn1 (by omega) ?_|refine kA ?_|(apply Br.mk<;>intro hc))<;>first|exact hc.elim|conv=>whnf)|refine kB ?_)
     all_goals first
       |omega
       |contradiction
       |exact absurd ‹_› h7
       |exact again.mk ⟨_,by omega,i+1,_,_,_,_,L++[(n.id,0)],rfl,by omega,by simp,by simp;omega,hm,rfl,rfl⟩
    ·rw[decide_eq_false h2]at p2
     have hm:=YQ fun h=>h2 (hbd.1 h).2
     (conv=>whnf);repeat' (first|((first|refine Af Gf ?_|apply kE p1|apply kE p2|refine kA ?_|(apply Br.mk<;>intro hc))<;>first|exact hc.elim|conv=>whnf)|refine kB ?_)
     all_goals first
       |omega
       |contradiction
       |exact absurd ‹_› h7
       |exact again.mk ⟨_,by omega,i+1,_,_,_,_,L,rfl,by omega,hn1,by omega,hm,rfl,rfl⟩
   ·rw[decide_eq_false h1]at p1
    have hm:=YQ fun h=>h1 (hbd.1 h).1
    (conv=>whnf);repeat' (first|((first|refine Af Gf ?_|apply kE p1|refine kA ?_|(apply Br.mk<;>intro hc))<;>first|exact hc.elim|conv=>whnf)|refine kB ?_)
    all_goals first
     |omega
     |contradiction
     |exact absurd ‹_› h7
     |exact again.mk ⟨_,by omega,i+1,_,_,_,_,L,rfl,by omega,hn1,by omega,hm,rfl,rfl⟩
 ·rw[List.take_of_length_le (by omega)]at hL
  (conv=>whnf);repeat' (first|((first|refine kA ?_|(apply Br.mk<;>intro hc))<;>first|exact hc.elim|conv=>whnf)|refine kB ?_)
  all_goals first
   |omega
   |exact⟨_,L,by rw[hn1,uV],by omega,hL⟩
set_option maxHeartbeats 4000000 in
theorem Af1 {r:GR} {g:GG} (hl:g.edges.length≤4000) (hb:∀e∈g.edges,e.props.length<2^62) (NR:∀e∈g.edges,(∃ n∈g.nodes,n.id=e.fr)∧∃n∈g.nodes,n.id=e.to) (hk:∀z lb,Ae (Ad tab) 224 [g.av,.int .i64 z,.str lb] (· =.bool (decide (Rh g z lb)))):Ae (Ad tab) 152 [r.av,g.av] (fun v=>∃nn L,v=.sl nn (vs KF L)∧L.length≤4000∧(L=[]↔∀e∈g.edges,¬DU r g e)):=by
 refine Ac rfl rfl ?_
 (conv=>whnf);repeat' (first|((first|refine kA ?_|(apply Br.mk<;>intro hc))<;>first|exact hc.elim|conv=>whnf)|refine kB ?_)
 all_goals try omega
 refine Ag (fun m env s=>∃(i go n1 c:Nat) (fo:Bool) (L:List (Int×Int)),m=g.edges.length-i∧i≤g.edges.length∧n1=L.length∧L.length≤i∧(L=[]↔∀e∈g.edges.take i,¬DU r g e)∧env=[(2,.ref 0 0 0 0),(3,.ref 1 1 0 0),(5,.own 2 go 0 n1),(6,.int .i64 i)]∧s=⟨[.arr 0 6 true true [r.av],.arr 1 4 true true [g.av],.arr go 2 fo true (vs KF L)],c⟩) ?_ _ _ _ ⟨0,_,_,_,_,[],rfl,by omega,rfl,by simp,by simp,rfl,rfl⟩
 rintro _ _ _ ⟨i,go,n1,c,fo,L,rfl,hi,hn1,hLi,hL,rfl,rfl⟩
 refine⟨rfl,?_⟩
 by_cases hlt:i<g.edges.length
 ·have b2:=hb _ (List.getElem_mem hlt)
  obtain⟨x1,x2⟩:=NR _ (List.getElem_mem hlt)
  obtain⟨e,hne⟩:∃e,e=g.edges[i]:=⟨_,rfl⟩
  have Gf:nth (vs GE.av g.edges) i=some e.av:=by rw[hne];exact nVN hlt
  rw[← hne]at b2 x1 x2
  have p2:=AeQ (r:=r) (P:=e.props) (nn:=e.pn) b2
  have q1:=hk e.fr r.fr
  have q2:=hk e.to r.to
  have y1:=Vt (lb:=r.fr) x1
  have y2:=Vt (lb:=r.to) x2
  have hst:∀{Q:GE→Prop},(∀ x∈g.edges.take (i+1),Q x)↔(∀ x∈g.edges.take i,Q x)∧Q e:=fun{Q}=>by
   rw[List.take_succ_eq_append_getElem hlt,←hne]
   simp only[List.mem_append,List.mem_singleton]
   exact⟨fun h=>⟨fun n hn=>h n (.inl hn),h _ (.inr rfl)⟩,fun h n hn=>hn.elim (h.1 n) fun e=>e▸h.2⟩
  have hmB:DU r g e→(L++[(e.id,(0:Int))]=[]↔∀x∈g.edges.take (i+1),¬DU r g x):=fun hbad=>by rw[hst];simp[hbad]
  have YQ:¬DU r g e→(L=[]↔∀x∈g.edges.take (i+1),¬DU r g x):=fun hbad=>by rw[hst,hL];exact⟨fun h=>⟨h,hbad⟩,fun h=>h.1⟩
  clear hne
  obtain⟨bw,hbw⟩:∃bw:Bool,bw=decide (Ql r e.props):=⟨_,rfl⟩
  rw[← hbw]at p2
  by_cases h6:r.k=6
  ·have hiff:DU r g e↔e.ty=r.name∧(Jw g e.fr r.fr∨Jw g e.to r.to):=by unfold DU;rw[if_pos h6]
   by_cases h1:Rh g e.fr r.fr
   ·rw[decide_eq_true h1]at q1
    by_cases h2:Rh g e.to r.to
    ·rw[decide_eq_true h2]at q2
     have hm:=YQ fun h=>(hiff.1 h).2.elim (fun k=>y1.2 k h1) fun k=>y2.2 k h2
     (conv=>whnf);repeat' (first|((first|refine Af Gf ?_|apply kE p2|apply kE q1|apply kE q2|refine kA ?_|(apply Br.mk<;>intro hc))<;>first|exact hc.elim|conv=>whnf)|refine kB ?_)
     all_goals first
       |omega
       |contradiction
       |exact absurd h6 ‹_›
       |exact again.mk ⟨_,by omega,i+1,_,_,_,_,L,rfl,by omega,hn1,by omega,hm,rfl,rfl⟩
       |(exfalso;simp_all;done)
    ·rw[decide_eq_false h2]at q2
     have hbad:e.ty=r.name→DU r g e:=fun h=>hiff.2 ⟨h,.inr (y2.1 h2)⟩
     by_cases hty:e.ty=r.name
     ·have hm:=hmB (hbad hty)
      (conv=>whnf);repeat' (first|((first|refine Af Gf ?_|apply kE p2|apply kE q1|apply kE q2|refine LU (f:=KF) (l:=L) (x:=(e.id,(0:Int))) rfl AcC hn1 (by omega) ?_|refine kA ?_|(apply Br.mk<;>intro hc))<;>first|exact hc.elim|conv=>whnf)|refine kB ?_)
      all_goals first
        |omega
        |contradiction
        |exact absurd h6 ‹_›
        |exact absurd hty ‹_›
        |exact again.mk ⟨_,by omega,i+1,_,_,_,_,L++[(e.id,0)],rfl,by omega,by simp,by simp;omega,hm,rfl,rfl⟩
        |(exfalso;simp_all;done)
     ·have hm:=YQ fun h=>hty (hiff.1 h).1
      (conv=>whnf);repeat' (first|((first|refine Af Gf ?_|apply kE p2|apply kE q1|apply kE q2|refine kA ?_|(apply Br.mk<;>intro hc))<;>first|exact hc.elim|conv=>whnf)|refine kB ?_)
      all_goals first
        |omega
        |contradiction
        |exact absurd h6 ‹_›
        |exact absurd ‹_› hty
        |exact again.mk ⟨_,by omega,i+1,_,_,_,_,L,rfl,by omega,hn1,by omega,hm,rfl,rfl⟩
        |(exfalso;simp_all;done)
   ·rw[decide_eq_false h1]at q1
    have hbad:e.ty=r.name→DU r g e:=fun h=>hiff.2 ⟨h,.inl (y1.1 h1)⟩
    by_cases hty:e.ty=r.name
    ·have hm:=hmB (hbad hty)
     (conv=>whnf);repeat' (first|((first|refine Af Gf ?_|apply kE p2|apply kE q1|apply kE q2|refine LU (f:=KF) (l:=L) (x:=(e.id,(0:Int))) rfl AcC hn1 (by omega) ?_|refine kA ?_|(apply Br.mk<;>intro hc))<;>first|exact hc.elim|conv=>whnf)|refine kB ?_)
     all_goals first
       |omega
       |contradiction
       |exact absurd h6 ‹_›
       |exact absurd hty ‹_›
       |exact again.mk ⟨_,by omega,i+1,_,_,_,_,L++[(e.id,0)],rfl,by omega,by simp,by simp;omega,hm,rfl,rfl⟩
       |(exfalso;simp_all;done)
    ·have hm:=YQ fun h=>hty (hiff.1 h).1
     (conv=>whnf);repeat' (first|((first|refine Af Gf ?_|apply kE p2|apply kE q1|apply kE q2|refine kA ?_|(apply Br.mk<;>intro hc))<;>first|exact hc.elim|conv=>whnf)|refine kB ?_)
     all_goals first
       |omega
       |contradiction
       |exact absurd h6 ‹_›
       |exact absurd ‹_› hty
       |exact again.mk ⟨_,by omega,i+1,_,_,_,_,L,rfl,by omega,hn1,by omega,hm,rfl,rfl⟩
       |(exfalso;simp_all;done)
  ·have hiff:DU r g e↔e.ty=r.name∧Ql r e.props:=by unfold DU;rw[if_neg h6]
   by_cases hty:e.ty=r.name
   ·by_cases h1:Ql r e.props
    ·rw[decide_eq_true h1]at hbw
     subst hbw
     have hm:=hmB (hiff.2 ⟨hty,h1⟩)
     (conv=>whnf);repeat' (first|((first|refine Af Gf ?_|apply kE p2|refine LU (f:=KF) (l:=L) (x:=(e.id,(0:Int))) rfl AcC hn1 (by omega) ?_|refine kA ?_|(apply Br.mk<;>intro hc))<;>first|exact hc.elim|conv=>whnf)|refine kB ?_)
     all_goals first
         |omega
         |contradiction
         |exact absurd ‹_› h6
         |exact absurd hty ‹_›
         |exact again.mk ⟨_,by omega,i+1,_,_,_,_,L++[(e.id,0)],rfl,by omega,by simp,by simp;omega,hm,rfl,rfl⟩
         |(exfalso;simp_all;done)
    ·rw[decide_eq_false h1]at hbw
     subst hbw
     have hm:=YQ fun h=>h1 (hiff.1 h).2
     (conv=>whnf);repeat' (first|((first|refine Af Gf ?_|apply kE p2|refine kA ?_|(apply Br.mk<;>intro hc))<;>first|exact hc.elim|conv=>whnf)|refine kB ?_)
     all_goals first
         |omega
         |contradiction
         |exact absurd ‹_› h6
         |exact absurd hty ‹_›
         |exact again.mk ⟨_,by omega,i+1,_,_,_,_,L,rfl,by omega,hn1,by omega,hm,rfl,rfl⟩
         |(exfalso;simp_all;done)
   ·have hm:=YQ fun h=>hty (hiff.1 h).1
    (conv=>whnf);repeat' (first|((first|refine Af Gf ?_|apply kE p2|refine kA ?_|(apply Br.mk<;>intro hc))<;>first|exact hc.elim|conv=>whnf)|refine kB ?_)
    all_goals first
     |omega
     |contradiction
     |exact absurd ‹_› h6
     |exact absurd ‹_› hty
     |exact again.mk ⟨_,by omega,i+1,_,_,_,_,L,rfl,by omega,hn1,by omega,hm,rfl,rfl⟩
     |(exfalso;simp_all;done)
 ·rw[List.take_of_length_le (by omega)]at hL
  (conv=>whnf);repeat' (first|((first|refine kA ?_|(apply Br.mk<;>intro hc))<;>first|exact hc.elim|conv=>whnf)|refine kB ?_)
  all_goals first
   |omega
   |exact⟨_,L,by rw[hn1,uV],by omega,hL⟩
end AI
end Go.Proofs.YtjijnamhalgamaaGreatDoor
