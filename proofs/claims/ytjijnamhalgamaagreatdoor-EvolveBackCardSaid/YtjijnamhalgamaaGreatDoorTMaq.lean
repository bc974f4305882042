/- Which rules a graph violates; the program's looks at properties, labels, nodes and edges. The program's violations of a rule: nodes, edges, degrees. The program's violations of a rule: degrees, equal values. -/
import Derived.Test.YtjijnamhalgamaaGreatDoorTMap
import Derived.Test.YtjijnamhalgamaaGreatDoorTMam
import Derived.Test.YtjijnamhalgamaaGreatDoorTMad
set_option linter.unusedVariables false
set_option maxRecDepth 4000
namespace Go.Proofs.YtjijnamhalgamaaGreatDoor
namespace AI
noncomputable def VX (a b:GV):Int:=by
 classical exact if h:∃e:Int,Ae (Ad tab) 263 [a.av,b.av] (· =.int .i64 e)∧Ae (Ad tab) 222 [a.av,b.av] (· =.int .i64 e)then Classical.choose h else 0
theorem AiU {a b:GV} (ha:a.ok∧Dx a) (hb:b.ok∧Dx b):Ae (Ad tab) 263 [a.av,b.av] (· =.int .i64 (VX a b))∧Ae (Ad tab) 222 [a.av,b.av] (· =.int .i64 (VX a b)):=by
 have hx:=EqualF ha.1 hb.1 ha.2 hb.2
 unfold VX
 rw[dif_pos hx]
 exact Classical.choose_spec hx
theorem Ant {a b:GV} (ha:a.ok∧Dx a) (hb:b.ok∧Dx b):Ae (Ad tab) 263 [a.av,b.av] (· =.int .i64 (VX a b)):=(AiU ha hb).1
theorem AlO {a b:GV} (ha:a.ok∧Dx a) (hb:b.ok∧Dx b):Ae (Ad tab) 222 [a.av,b.av] (· =.int .i64 (VX a b)):=(AiU ha hb).2
def Ql (r:GR) (P:List GP):Prop:=if r.k=2∨r.k=4 then¬AcA P r.key else AcA P r.key∧(ET P r.key).k≠r.n
noncomputable instance (r:GR) (P:List GP):Decidable (Ql r P):=Classical.propDecidable _
def J7 (r:GR) (n:GN):Prop:=AcA n.props r.key∧r.name∈n.labels
noncomputable instance (r:GR) (n:GN):Decidable (J7 r n):=Classical.propDecidable _
def LM (E:List GE) (x:List UInt8) (z:Int):Nat:=(E.filter fun e=>decide (e.ty=x∧e.fr=z)).length
def AmV (N:List GN) (z:Int):List (List UInt8):=((N.find? (VZ z)).getD N0).labels
def Jw (g:GG) (z:Int) (lb:List UInt8):Prop:=lb≠[]∧lb∉AmV g.nodes z
noncomputable instance (g:GG) (z:Int) (lb:List UInt8):Decidable (Jw g z lb):=Classical.propDecidable _
def OX (r:GR) (n:GN):Prop:=r.name∈n.labels∧Ql r n.props
def MW (r:GR) (g:GG) (n:GN):Prop:=r.n<LM g.edges r.name n.id
def DU (r:GR) (g:GG) (e:GE):Prop:=e.ty=r.name∧if r.k=6 then Jw g e.fr r.fr∨Jw g e.to r.to else Ql r e.props
noncomputable instance (r:GR) (n:GN):Decidable (OX r n):=Classical.propDecidable _
noncomputable instance (r:GR) (g:GG) (n:GN):Decidable (MW r g n):=Classical.propDecidable _
noncomputable instance (r:GR) (g:GG) (n:GE):Decidable (DU r g n):=Classical.propDecidable _
def lone (r:GR) (N:List GN):Prop:=(N.filter fun n=>decide (J7 r n)).Pairwise fun a b=>VX (ET a.props r.key) (ET b.props r.key)≠2
def DZ (r:GR) (g:GG):Prop:=if r.k=1 then¬lone r g.nodes else if r.k=2∨r.k=3 then∃n∈g.nodes,OX r n else if r.k=7 then∃n∈g.nodes,MW r g n else∃e∈g.edges,DU r g e
noncomputable instance (r:GR) (g:GG):Decidable (DZ r g):=Classical.propDecidable _
def Oh (k:Int):Int:=if k=1 then 13 else if k=2∨k=4 then 14 else if k=3∨k=5 then 15 else if k=6 then 16 else if k=7 then 17 else 0
noncomputable def Ea (s:List GR) (g:GG):Int:=by
 classical exact if Du s∧AZ g=0 then(match s.find? fun r=>decide (DZ r g)with
  |some r=>Oh r.k
  |none=>0)else 0
def KF (p:Int×Int):AV:=.agg [.int .i64 p.1,.int .i64 p.2]
theorem AcC (x:Int×Int):(KF x).cells.length=2:=rfl
theorem LU {es g len:Nat} {nn cl:Bool} {α:Type} {f:α→AV} {l:List α} {x:α} {y:AV} {bytes:Nat} {K:Nat→Bool→Bool→List AV→Prop} (he:f x=y) (hf:∀x,(f x).cells.length=es) (hl:len=l.length) (hr:(l.length+1)*bytes≤2 ^ 46) (h:K (l.length+1) true cl (vs f (l++[x]))):
 IW g g es es len nn cl true (vs f l) [y] bytes K:=by
 subst he
 exact AdD hf hl hr h
theorem Vs {P:List GP} {key:List UInt8} (h:∀p∈P,p.key≠key):ET P key=V0∧¬AcA P key:=by
 refine⟨?_,fun⟨p,hp,e⟩=>h p hp e⟩
 unfold ET
 rw[List.find?_eq_none.2 fun p hp=>by simpa[isK]using h p hp]
theorem Vr {P:List GP} {key:List UInt8} {i:Nat} (hi:i<P.length) (h:∀p∈P.take i,p.key≠key) (he:(P[i]).key=key):ET P key=(P[i]).v∧AcA P key:=by
 refine⟨?_,_,List.getElem_mem hi,he⟩
 unfold ET
 have h2:P.find? (isK key)=some P[i]:=O8 hi (fun p hp=>decide_eq_false (h p hp)) (decide_eq_true he)
 rw[h2]
set_option maxHeartbeats 2000000 in
theorem AiV {P:List GP} {nn:Bool} {key:List UInt8} (hl:P.length<2^62):Ae (Ad tab) 262 [.sl nn (vs GP.av P),.str key] (· =.BD [(ET P key).av,.bool (decide (AcA P key))]):=by
 refine Ac rfl rfl ?_
 (conv=>whnf);repeat' (first|((first|refine kA ?_|(apply Br.mk<;>intro hc))<;>first|exact hc.elim|conv=>whnf)|refine kB ?_)
 all_goals try omega
 refine Ag (fun m env s=>∃(i c:Nat),m=P.length-i∧i≤P.length∧(∀ p∈P.take i,p.key≠key)∧env=[(1,.str key),(4,.ref 0 0 0 0),(8,.sl nn (vs GP.av P)),(9,.int .i64 P.length),(10,.int .i64 i)]∧s=⟨[.arr 0 5 true true [V0.av]],c⟩) ?_ _ _ _ ⟨0,_,rfl,by omega,by simp,rfl,rfl⟩
 rintro _ _ _ ⟨i,c,rfl,hi,hx,rfl,rfl⟩
 refine⟨rfl,?_⟩
 by_cases hlt:i<P.length
 ·by_cases he:(P[i]).key=key
  ·obtain⟨e1,e2⟩:=Vr hlt hx he
   rw[e1,decide_eq_true e2]
   (conv=>whnf);repeat' (first|((first|refine kA ?_|(apply Br.mk<;>intro hc))<;>first|exact hc.elim|conv=>whnf)|refine kB ?_)
   all_goals first
        |omega
        |exact absurd he ‹_›
        |rfl
  ·(conv=>whnf);repeat' (first|((first|refine kA ?_|(apply Br.mk<;>intro hc))<;>first|exact hc.elim|conv=>whnf)|refine kB ?_)
   all_goals first
        |omega
        |exact absurd ‹_› he
        |exact again.mk ⟨_,by omega,i+1,_,rfl,by omega,fun p hp=>by
          rw[List.take_succ_eq_append_getElem hlt,List.mem_append,List.mem_singleton]at hp
          rcases hp with k|k
          ·exact hx p k
          ·subst k;exact he,rfl,rfl⟩
 ·rw[List.take_of_length_le (by omega)]at hx
  obtain⟨e1,e2⟩:=Vs hx
  rw[e1,decide_eq_false e2]
  (conv=>whnf);repeat' (first|((first|refine kA ?_|(apply Br.mk<;>intro hc))<;>first|exact hc.elim|conv=>whnf)|refine kB ?_)
  all_goals first
   |omega
   |rfl
set_option maxHeartbeats 2000000 in
theorem Aam {r:GR} {P:List GP} {nn:Bool} (hl:P.length<2^62):Ae (Ad tab) 264 [r.av,.sl nn (vs GP.av P)] (· =.bool (decide (Ql r P))):=by
 have p:=AiV (P:=P) (nn:=nn) (key:=r.key) hl
 unfold Ql
 by_cases hk:r.k=2∨r.k=4
 ·simp only[if_pos hk]
  by_cases hh:AcA P r.key
  ·rw[decide_eq_true hh]at p
   rw[decide_eq_false (not_not_intro hh)]
   refine Ac rfl rfl ?_
   (conv=>whnf);repeat' (first|((first|apply kE p|refine kA ?_|(apply Br.mk<;>intro hc))<;>first|exact hc.elim|conv=>whnf)|refine kB ?_)
   all_goals first|rfl|omega|contradiction
  ·rw[decide_eq_false hh]at p
   rw[decide_eq_true hh]
   refine Ac rfl rfl ?_
   (conv=>whnf);repeat' (first|((first|apply kE p|refine kA ?_|(apply Br.mk<;>intro hc))<;>first|exact hc.elim|conv=>whnf)|refine kB ?_)
   all_goals first|rfl|omega|contradiction
 ·simp only[if_neg hk]
  by_cases hh:AcA P r.key
  ·rw[decide_eq_true hh]at p
   by_cases hv:(ET P r.key).k=r.n
   ·rw[decide_eq_false fun h=>h.2 hv]
    refine Ac rfl rfl ?_
    (conv=>whnf);repeat' (first|((first|apply kE p|refine kA ?_|(apply Br.mk<;>intro hc))<;>first|exact hc.elim|conv=>whnf)|refine kB ?_)
    all_goals first|rfl|omega|contradiction|exact absurd hv ‹_›
   ·rw[decide_eq_true (show AcA P r.key∧(ET P r.key).k≠r.n from⟨hh,hv⟩)]
    refine Ac rfl rfl ?_
    (conv=>whnf);repeat' (first|((first|apply kE p|refine kA ?_|(apply Br.mk<;>intro hc))<;>first|exact hc.elim|conv=>whnf)|refine kB ?_)
    all_goals first|rfl|omega|contradiction|exact absurd ‹_› hv
  ·rw[decide_eq_false hh]at p
   rw[decide_eq_false fun h=>hh h.1]
   refine Ac rfl rfl ?_
   (conv=>whnf);repeat' (first|((first|apply kE p|refine kA ?_|(apply Br.mk<;>intro hc))<;>first|exact hc.elim|conv=>whnf)|refine kB ?_)
   all_goals first|rfl|omega|contradiction
theorem Xn (N:List GN) (z:Int):QJ N z=.BD [((N.find? (VZ z)).getD N0).av,.bool (N.find? (VZ z)).isSome]:=by
 unfold QJ
 cases N.find? (VZ z)<;>rfl
theorem Aji {g:GG} (hl:g.nodes.length<2^62) (hg:∀n∈g.nodes,Aal n) (hlb:∀n∈g.nodes,n.labels.length<2^62) {z:Int} {lb:List UInt8}:Ae (Ad tab) 265 [g.av,.int .i64 z,.str lb] (· =.bool (decide (Jw g z lb))):=by
 have p:=AlQ (g:=g) (by omega) hg (id:=z)
 rw[Xn]at p
 have hm:((g.nodes.find? (VZ z)).getD N0).labels.length<2^62:=by
  cases hf:g.nodes.find? (VZ z)with
  |none=>show([]:List (List UInt8)).length<_;simp
  |some n=>exact hlb n (List.mem_of_find?_eq_some hf)
 have q:=I8 (n:=(g.nodes.find? (VZ z)).getD N0) (s:=lb) (by omega)
 obtain⟨m,hme⟩:∃m,m=(g.nodes.find? (VZ z)).getD N0:=⟨_,rfl⟩
 have hlk:Jw g z lb↔lb≠[]∧lb∉m.labels:=by rw[hme];exact Iff.rfl
 rw[← hme]at p hm q
 generalize (g.nodes.find? (VZ z)).isSome=b at p
 by_cases h1:lb=[]
 ·subst h1
  rw[decide_eq_false fun h=>(hlk.1 h).1 rfl]
  refine Ac rfl rfl ?_
  (conv=>whnf);repeat' (first|((first|apply kE p|apply kE q|refine kA ?_|(apply Br.mk<;>intro hc))<;>first|exact hc.elim|conv=>whnf)|refine kB ?_)
  all_goals first|rfl|contradiction|(exfalso;simp_all;done)
 ·by_cases h2:lb∈m.labels
  ·rw[decide_eq_true h2]at q
   rw[decide_eq_false fun h=>(hlk.1 h).2 h2]
   refine Ac rfl rfl ?_
   (conv=>whnf);repeat' (first|((first|apply kE p|apply kE q|refine kA ?_|(apply Br.mk<;>intro hc))<;>first|exact hc.elim|conv=>whnf)|refine kB ?_)
   all_goals first|rfl|contradiction|exact absurd ‹_› h1|(exfalso;simp_all;done)
  ·rw[decide_eq_false h2]at q
   rw[decide_eq_true (hlk.2 ⟨h1,h2⟩)]
   refine Ac rfl rfl ?_
   (conv=>whnf);repeat' (first|((first|apply kE p|apply kE q|refine kA ?_|(apply Br.mk<;>intro hc))<;>first|exact hc.elim|conv=>whnf)|refine kB ?_)
   all_goals first|rfl|contradiction|exact absurd ‹_› h1|(exfalso;simp_all;done)
set_option maxHeartbeats 2000000 in
theorem Ajj {r:GR} {g:GG} (hl:g.nodes.length≤4000) (hb:∀n∈g.nodes,n.labels.length<2^62∧n.props.length<2^62):Ae (Ad tab) 207 [r.av,g.av] (fun v=>∃nn L,v=.sl nn (vs KF L)∧L.length≤4000∧(L=[]↔∀n∈g.nodes,¬OX r n)):=by
 refine Ac rfl rfl ?_
 (conv=>whnf);repeat' (first|((first|refine kA ?_|(apply Br.mk<;>intro hc))<;>first|exact hc.elim|conv=>whnf)|refine kB ?_)
 all_goals try omega
 refine Ag (fun m env s=>∃(i go n1 c:Nat) (fo:Bool) (L:List (Int×Int)),m=g.nodes.length-i∧i≤g.nodes.length∧n1=L.length∧L.length≤i∧(L=[]↔∀n∈g.nodes.take i,¬OX r n)∧env=[(2,.ref 0 0 0 0),(5,.own 2 go 0 n1),(9,.sl g.nn (vs GN.av g.nodes)),(10,.int .i64 g.nodes.length),(11,.int .i64 i)]∧s=⟨[.arr 0 6 true true [r.av],.arr 1 4 true true [g.av],.arr go 2 fo true (vs KF L)],c⟩) ?_ _ _ _ ⟨0,_,_,_,_,[],rfl,by omega,rfl,by simp,by simp,rfl,rfl⟩
 rintro _ _ _ ⟨i,go,n1,c,fo,L,rfl,hi,hn1,hLi,hL,rfl,rfl⟩
 refine⟨rfl,?_⟩
 by_cases hlt:i<g.nodes.length
 ·obtain⟨b1,b2⟩:=hb _ (List.getElem_mem hlt)
  have p1:=I8 (n:=g.nodes[i]) (s:=r.name) (by omega)
  have p2:=Aam (r:=r) (P:=(g.nodes[i]).props) (nn:=(g.nodes[i]).pn) b2
  have hst:∀{Q:GN→Prop},(∀ n∈g.nodes.take (i+1),Q n)↔(∀ n∈g.nodes.take i,Q n)∧Q g.nodes[i]:=fun{Q}=>by
   rw[List.take_succ_eq_append_getElem hlt]
   simp only[List.mem_append,List.mem_singleton]
   exact⟨fun h=>⟨fun n hn=>h n (.inl hn),h _ (.inr rfl)⟩,fun h n hn=>hn.elim (h.1 n) fun e=>e▸h.2⟩
  by_cases hbad:OX r g.nodes[i]
  ·rw[decide_eq_true hbad.1]at p1
   rw[decide_eq_true hbad.2]at p2
   have hm:L++[((g.nodes[i]).id,(0:Int))]=[]↔∀n∈g.nodes.take (i+1),¬OX r n:=by
        rw[hst];simp[hbad]
   (conv=>whnf);repeat' (first|((first|apply kE p1|apply kE p2|refine LU (f:=KF) (l:=L) (x:=((g.nodes[i]).id,(0:Int))) rfl AcC hn1 (by omega) ?_|refine kA ?_|(apply Br.mk<;>intro hc))<;>first|exact hc.elim|conv=>whnf)|refine kB ?_)
   all_goals first
        |omega
        |contradiction
        |exact again.mk ⟨_,by omega,i+1,_,_,_,_,L++[((g.nodes[i]).id,0)],rfl,by omega,by simp,by simp;omega,hm,rfl,rfl⟩
  ·have hm:L=[]↔∀n∈g.nodes.take (i+1),¬OX r n:=by rw[hst,hL];exact⟨fun h=>⟨h,hbad⟩,fun h=>h.1⟩
   by_cases h1:r.name∈(g.nodes[i]).labels
   ·rw[decide_eq_true h1]at p1
    rw[decide_eq_false fun h=>hbad ⟨h1,h⟩]at p2
    (conv=>whnf);repeat' (first|((first|apply kE p1|apply kE p2|refine kA ?_|(apply Br.mk<;>intro hc))<;>first|exact hc.elim|conv=>whnf)|refine kB ?_)
    all_goals first
     |omega
     |contradiction
     |exact again.mk ⟨_,by omega,i+1,_,_,_,_,L,rfl,by omega,hn1,by omega,hm,rfl,rfl⟩
   ·rw[decide_eq_false h1]at p1
    (conv=>whnf);repeat' (first|((first|apply kE p1|refine kA ?_|(apply Br.mk<;>intro hc))<;>first|exact hc.elim|conv=>whnf)|refine kB ?_)
    all_goals first
     |omega
     |contradiction
     |exact again.mk ⟨_,by omega,i+1,_,_,_,_,L,rfl,by omega,hn1,by omega,hm,rfl,rfl⟩
 ·rw[List.take_of_length_le (by omega)]at hL
  (conv=>whnf);repeat' (first|((first|refine kA ?_|(apply Br.mk<;>intro hc))<;>first|exact hc.elim|conv=>whnf)|refine kB ?_)
  all_goals first
   |omega
   |exact⟨_,L,by rw[hn1,uV],by omega,hL⟩
set_option maxHeartbeats 2000000 in
theorem Ajk {r:GR} {g:GG} (hl:g.edges.length≤4000) (hb:∀e∈g.edges,e.props.length<2^62) (hk:∀z lb,Ae (Ad tab) 265 [g.av,.int .i64 z,.str lb] (· =.bool (decide (Jw g z lb)))):Ae (Ad tab) 209 [r.av,g.av] (fun v=>∃nn L,v=.sl nn (vs KF L)∧L.length≤4000∧(L=[]↔∀e∈g.edges,¬DU r g e)):=by
 refine Ac rfl rfl ?_
 (conv=>whnf);repeat' (first|((first|refine kA ?_|(apply Br.mk<;>intro hc))<;>first|exact hc.elim|conv=>whnf)|refine kB ?_)
 all_goals try omega
 refine Ag (fun m env s=>∃(i go n1 c:Nat) (fo:Bool) (L:List (Int×Int)),m=g.edges.length-i∧i≤g.edges.length∧n1=L.length∧L.length≤i∧(L=[]↔∀e∈g.edges.take i,¬DU r g e)∧env=[(2,.ref 0 0 0 0),(3,.ref 1 1 0 0),(5,.own 2 go 0 n1),(10,.sl g.en (vs GE.av g.edges)),(11,.int .i64 g.edges.length),(12,.int .i64 i)]∧s=⟨[.arr 0 6 true true [r.av],.arr 1 4 true true [g.av],.arr go 2 fo true (vs KF L)],c⟩) ?_ _ _ _ ⟨0,_,_,_,_,[],rfl,by omega,rfl,by simp,by simp,rfl,rfl⟩
 rintro _ _ _ ⟨i,go,n1,c,fo,L,rfl,hi,hn1,hLi,hL,rfl,rfl⟩
 refine⟨rfl,?_⟩
 by_cases hlt:i<g.edges.length
 ·have b2:=hb _ (List.getElem_mem hlt)
  have p2:=Aam (r:=r) (P:=(g.edges[i]).props) (nn:=(g.edges[i]).pn) b2
  have q1:=hk (g.edges[i]).fr r.fr
  have q2:=hk (g.edges[i]).to r.to
  have hst:∀{Q:GE→Prop},(∀ n∈g.edges.take (i+1),Q n)↔(∀ n∈g.edges.take i,Q n)∧Q g.edges[i]:=fun{Q}=>by
   rw[List.take_succ_eq_append_getElem hlt]
   simp only[List.mem_append,List.mem_singleton]
   exact⟨fun h=>⟨fun n hn=>h n (.inl hn),h _ (.inr rfl)⟩,fun h n hn=>hn.elim (h.1 n) fun e=>e▸h.2⟩
  by_cases hty:(g.edges[i]).ty=r.name
  case neg=>
   have hbad:¬DU r g g.edges[i]:=fun h=>hty h.1
   have hm:L=[]↔∀n∈g.edges.take (i+1),¬DU r g n:=by rw[hst,hL];exact⟨fun h=>⟨h,hbad⟩,fun h=>h.1⟩
   (conv=>whnf);repeat' (first|((first|refine kA ?_|(apply Br.mk<;>intro hc))<;>first|exact hc.elim|conv=>whnf)|refine kB ?_)
   all_goals first
        |omega
        |exact absurd ‹_› hty
        |exact again.mk ⟨_,by omega,i+1,_,_,_,_,L,rfl,by omega,hn1,by omega,hm,rfl,rfl⟩
  by_cases h6:r.k=6
  ·have hiff:DU r g g.edges[i]↔Jw g (g.edges[i]).fr r.fr∨Jw g (g.edges[i]).to r.to:=by unfold DU;rw[if_pos h6];exact⟨fun h=>h.2,fun h=>⟨hty,h⟩⟩
   by_cases h1:Jw g (g.edges[i]).fr r.fr
   ·have hbad:=hiff.2 (.inl h1)
    have hm:L++[((g.edges[i]).id,(0:Int))]=[]↔∀n∈g.edges.take (i+1),¬DU r g n:=by rw[hst];simp[hbad]
    rw[decide_eq_true h1]at q1
    (conv=>whnf);repeat' (first|((first|apply kE q1|refine LU (f:=KF) (l:=L) (x:=((g.edges[i]).id,(0:Int))) rfl AcC hn1 (by omega) ?_|refine kA ?_|(apply Br.mk<;>intro hc))<;>first|exact hc.elim|conv=>whnf)|refine kB ?_)
    all_goals first
     |omega
     |contradiction
     |exact absurd hty ‹_›
     |exact absurd h6 ‹_›
     |exact again.mk ⟨_,by omega,i+1,_,_,_,_,L++[((g.edges[i]).id,0)],rfl,by omega,by simp,by simp;omega,hm,rfl,rfl⟩
   ·rw[decide_eq_false h1]at q1
    by_cases h2:Jw g (g.edges[i]).to r.to
    ·have hbad:=hiff.2 (.inr h2)
     have hm:L++[((g.edges[i]).id,(0:Int))]=[]↔∀n∈g.edges.take (i+1),¬DU r g n:=by rw[hst];simp[hbad]
     rw[decide_eq_true h2]at q2
     (conv=>whnf);repeat' (first|((first|apply kE q1|apply kE q2|refine LU (f:=KF) (l:=L) (x:=((g.edges[i]).id,(0:Int))) rfl AcC hn1 (by omega) ?_|refine kA ?_|(apply Br.mk<;>intro hc))<;>first|exact hc.elim|conv=>whnf)|refine kB ?_)
     all_goals first
       |omega
       |contradiction
       |exact absurd hty ‹_›
       |exact absurd h6 ‹_›
       |exact again.mk ⟨_,by omega,i+1,_,_,_,_,L++[((g.edges[i]).id,0)],rfl,by omega,by simp,by simp;omega,hm,rfl,rfl⟩
    ·have hbad:¬DU r g g.edges[i]:=fun h=>(hiff.1 h).elim h1 h2
     have hm:L=[]↔∀n∈g.edges.take (i+1),¬DU r g n:=by rw[hst,hL];exact⟨fun h=>⟨h,hbad⟩,fun h=>h.1⟩
     rw[decide_eq_false h2]at q2
     (conv=>whnf);repeat' (first|((first|apply kE q1|apply kE q2|refine kA ?_|(apply Br.mk<;>intro hc))<;>first|exact hc.elim|conv=>whnf)|refine kB ?_)
     all_goals first
       |omega
       |contradiction
       |exact absurd hty ‹_›
       |exact absurd h6 ‹_›
       |exact again.mk ⟨_,by omega,i+1,_,_,_,_,L,rfl,by omega,hn1,by omega,hm,rfl,rfl⟩
  ·have hiff:DU r g g.edges[i]↔Ql r (g.edges[i]).props:=by unfold DU;rw[if_neg h6];exact⟨fun h=>h.2,fun h=>⟨hty,h⟩⟩
   by_cases h1:Ql r (g.edges[i]).props
   ·have hbad:=hiff.2 h1
    have hm:L++[((g.edges[i]).id,(0:Int))]=[]↔∀n∈g.edges.take (i+1),¬DU r g n:=by rw[hst];simp[hbad]
    rw[decide_eq_true h1]at p2
    (conv=>whnf);repeat' (first|((first|apply kE p2|refine LU (f:=KF) (l:=L) (x:=((g.edges[i]).id,(0:Int))) rfl AcC hn1 (by omega) ?_|refine kA ?_|(apply Br.mk<;>intro hc))<;>first|exact hc.elim|conv=>whnf)|refine kB ?_)
    all_goals first
     |omega
     |contradiction
     |exact absurd hty ‹_›
     |exact absurd ‹_› h6
     |exact again.mk ⟨_,by omega,i+1,_,_,_,_,L++[((g.edges[i]).id,0)],rfl,by omega,by simp,by simp;omega,hm,rfl,rfl⟩
   ·have hbad:¬DU r g g.edges[i]:=fun h=>h1 (hiff.1 h)
    have hm:L=[]↔∀n∈g.edges.take (i+1),¬DU r g n:=by rw[hst,hL];exact⟨fun h=>⟨h,hbad⟩,fun h=>h.1⟩
    rw[decide_eq_false h1]at p2
    (conv=>whnf);repeat' (first|((first|apply kE p2|refine kA ?_|(apply Br.mk<;>intro hc))<;>first|exact hc.elim|conv=>whnf)|refine kB ?_)
    all_goals first
     |omega
     |contradiction
     |exact absurd hty ‹_›
     |exact absurd ‹_› h6
     |exact again.mk ⟨_,by omega,i+1,_,_,_,_,L,rfl,by omega,hn1,by omega,hm,rfl,rfl⟩
 ·rw[List.take_of_length_le (by omega)]at hL
  (conv=>whnf);repeat' (first|((first|refine kA ?_|(apply Br.mk<;>intro hc))<;>first|exact hc.elim|conv=>whnf)|refine kB ?_)
  all_goals first
   |omega
   |exact⟨_,L,by rw[hn1,uV],by omega,hL⟩
theorem Aif {α:Type} {f:α→AV} {L:List α} {a n:Nat} {K:List AV→Prop} (h:K (vs f ((L.drop a).take n))):eqK (sub (vs f L) a n) K:=Cb (JU L a n) h
theorem fkN {M:List (Int×Int)} {k:Int} {K:Option (Nat×AV)→Prop} (hm:Jr M k=none) (h:K none):SX .int (.int .i64 k) (Tn M) K:=fkI (fun _=>h) fun i v e=>by rw[hm]at e;cases e
theorem fkS {M:List (Int×Int)} {k v:Int} {K:Option (Nat×AV)→Prop} (hm:Jr M k=some v) (h:∀i,K (some (i,.int .i64 v))):SX .int (.int .i64 k) (Tn M) K:=fkI (fun e=>by rw[hm]at e;cases e) fun i w e=>by rw[hm]at e;cases e;exact h i
def GI (M:List (Int×Int)) (z:Int):Int:=(Jr M z).getD 0
theorem Acx {E:List GE} {x:List UInt8} {z:Int} {i:Nat} (h:i<E.length):LM (E.take (i+1)) x z=LM (E.take i) x z+(if (E[i]).ty=x∧(E[i]).fr=z then 1 else 0):=by
 unfold LM
 rw[List.take_succ_eq_append_getElem h,List.filter_append,List.length_append]
 congr 1
 by_cases hc:(E[i]).ty=x∧(E[i]).fr=z
 ·simp[hc]
 ·simp[hc]
set_option maxHeartbeats 4000000 in
theorem Ac4 {r:GR} {g:GG} (hN:g.nodes.length≤4000) (hE:g.edges.length≤4000):Ae (Ad tab) 208 [r.av,g.av] (fun v=>∃nn L,v=.sl nn (vs KF L)∧L.length≤4000∧(L=[]↔∀n∈g.nodes,¬MW r g n)):=by
 refine Ac rfl rfl ?_
 (conv=>whnf);repeat' (first|((first|refine kA ?_|(apply Br.mk<;>intro hc))<;>first|exact hc.elim|conv=>whnf)|refine kB ?_)
 all_goals try omega
 refine Ag (fun m env s=>∃(i gm c:Nat) (M:List (Int×Int)),m=g.edges.length-i∧i≤g.edges.length∧(∀ z,GI M z=LM (g.edges.take i) r.name z)∧(∀ z,GI M z≤i)∧env=[(2,.ref 0 0 0 0),(3,.ref 1 1 0 0),(5,.map 2 gm),(13,.sl g.en (vs GE.av g.edges)),(14,.int .i64 g.edges.length),(15,.int .i64 i)]∧s=⟨[.arr 0 6 true true [r.av],.arr 1 4 true true [g.av],.mp gm true (Tn M)],c⟩) ?_ _ _ _ ⟨0,_,_,[],rfl,by omega,fun z=>(by simp[GI,Jr,LM]),fun z=>(by simp[GI,Jr]),rfl,rfl⟩
 rintro _ _ _ ⟨i,gm,c,M,rfl,hi,hM,hMl,rfl,rfl⟩
 refine⟨rfl,?_⟩
 by_cases hlt:i<g.edges.length
 ·have hs:=fun z=>@Acx g.edges r.name z i hlt
  by_cases hty:(g.edges[i]).ty=r.name
  ·have h0:0≤GI M (g.edges[i]).fr:=by rw[hM];omega
   have h1:=hMl (g.edges[i]).fr
   have hM2:∀z,GI (Qx M (g.edges[i]).fr (GI M (g.edges[i]).fr+1)) z=LM (g.edges.take (i+1)) r.name z:=fun z=>by
        rw[hs z]
        unfold GI
        rw[U7]
        by_cases hz:z=(g.edges[i]).fr
        ·rw[if_pos hz,if_pos ⟨hty,hz.symm⟩]
         have:=hM z
         rw[hz]at this ⊢
         unfold GI at this
         simp only[Option.getD_some]
         omega
        ·rw[if_neg hz,if_neg fun h=>hz h.2.symm]
         have:=hM z
         unfold GI at this
         rw[this];simp
   have hM3:∀z,GI (Qx M (g.edges[i]).fr (GI M (g.edges[i]).fr+1)) z≤(i+1:Nat):=fun z=>by
        unfold GI
        rw[U7]
        have q1:=hMl z
        have q2:=hMl (g.edges[i]).fr
        unfold GI at q1 q2
        split
        ·simp only[Option.getD_some];omega
        ·omega
   cases hg:Jr M (g.edges[i]).fr with
   |none=>
    have hc0:GI M (g.edges[i]).fr=0:=by unfold GI;rw[hg];rfl
    rw[hc0]at hM2 hM3
    (conv=>whnf);repeat' (first|((first|refine fkN hg ?_|apply msI|refine kA ?_|(apply Br.mk<;>intro hc))<;>first|exact hc.elim|conv=>whnf)|refine kB ?_)
    all_goals first
     |omega
     |exact absurd hty ‹_›
     |exact again.mk ⟨_,by omega,i+1,_,_,_,rfl,by omega,hM2,hM3,rfl,rfl⟩
   |some v0=>
    have hc0:GI M (g.edges[i]).fr=v0:=by unfold GI;rw[hg];rfl
    rw[hc0]at hM2 hM3 h0 h1
    (conv=>whnf);repeat' (first|((first|refine fkS hg (fun _=>?_)|apply msI|refine kA ?_|(apply Br.mk<;>intro hc))<;>first|exact hc.elim|conv=>whnf)|refine kB ?_)
    all_goals first
     |omega
     |exact absurd hty ‹_›
     |exact again.mk ⟨_,by omega,i+1,_,_,_,rfl,by omega,hM2,hM3,rfl,rfl⟩
  ·have hM2:∀z,GI M z=LM (g.edges.take (i+1)) r.name z:=fun z=>by rw[hs z,if_neg fun h=>hty h.1,hM];simp
   have hM3:∀z,GI M z≤(i+1:Nat):=fun z=>by have:=hMl z;omega
   (conv=>whnf);repeat' (first|((first|refine kA ?_|(apply Br.mk<;>intro hc))<;>first|exact hc.elim|conv=>whnf)|refine kB ?_)
   all_goals first
        |omega
        |exact absurd ‹_› hty
        |exact again.mk ⟨_,by omega,i+1,_,_,_,rfl,by omega,hM2,hM3,rfl,rfl⟩
 ·rw[List.take_of_length_le (by omega)]at hM
  clear hMl
  (conv=>whnf);repeat' (first|((first|refine kA ?_|(apply Br.mk<;>intro hc))<;>first|exact hc.elim|conv=>whnf)|refine kB ?_)
  all_goals try omega
  refine Ag (fun m env s=>∃(i go n1 c:Nat) (fo:Bool) (L:List (Int×Int)),m=g.nodes.length-i∧i≤g.nodes.length∧n1=L.length∧L.length≤i∧(L=[]↔∀n∈g.nodes.take i,¬MW r g n)∧env=[(2,.ref 0 0 0 0),(5,.map 2 gm),(8,.own 3 go 0 n1),(31,.sl g.nn (vs GN.av g.nodes)),(32,.int .i64 g.nodes.length),(33,.int .i64 i)]∧s=⟨[.arr 0 6 true true [r.av],.arr 1 4 true true [g.av],.mp gm true (Tn M),.arr go 2 fo true (vs KF L)],c⟩) ?_ _ _ _ ⟨0,_,_,_,_,[],rfl,by omega,rfl,by simp,by simp,rfl,rfl⟩
  rintro _ _ _ ⟨j,go,n1,c,fo,L,rfl,hj,hn1,hLj,hL,rfl,rfl⟩
  refine⟨rfl,?_⟩
  by_cases hlt2:j<g.nodes.length
  ·have hst:∀{Q:GN→Prop},(∀ n∈g.nodes.take (j+1),Q n)↔(∀ n∈g.nodes.take j,Q n)∧Q g.nodes[j]:=fun{Q}=>by
     rw[List.take_succ_eq_append_getElem hlt2]
     simp only[List.mem_append,List.mem_singleton]
     exact⟨fun h=>⟨fun n hn=>h n (.inl hn),h _ (.inr rfl)⟩,fun h n hn=>hn.elim (h.1 n) fun e=>e▸h.2⟩
   have hc:=hM (g.nodes[j]).id
   have hbd:MW r g g.nodes[j]↔r.n<GI M (g.nodes[j]).id:=by unfold MW;rw[hc]
   by_cases hbad:MW r g g.nodes[j]
   ·have hb2:=hbd.1 hbad
    have hm2:L++[((g.nodes[j]).id,(0:Int))]=[]↔∀n∈g.nodes.take (j+1),¬MW r g n:=by rw[hst];simp[hbad]
    cases hg:Jr M (g.nodes[j]).id with
    |none=>
     have hc0:GI M (g.nodes[j]).id=0:=by unfold GI;rw[hg];rfl
     rw[hc0]at hb2
     (conv=>whnf);repeat' (first|((first|refine fkN hg ?_|refine LU (f:=KF) (l:=L) (x:=((g.nodes[j]).id,(0:Int))) rfl AcC hn1 (by omega) ?_|refine kA ?_|(apply Br.mk<;>intro hc))<;>first|exact hc.elim|conv=>whnf)|refine kB ?_)
     all_goals first
      |omega
      |exact again.mk ⟨_,by omega,j+1,_,_,_,_,L++[((g.nodes[j]).id,0)],rfl,by omega,by simp,by simp;omega,hm2,rfl,rfl⟩
    |some v0=>
     have hc0:GI M (g.nodes[j]).id=v0:=by unfold GI;rw[hg];rfl
     rw[hc0]at hb2
     (conv=>whnf);repeat' (first|((first|refine fkS hg (fun _=>?_)|refine LU (f:=KF) (l:=L) (x:=((g.nodes[j]).id,(0:Int))) rfl AcC hn1 (by omega) ?_|refine kA ?_|(apply Br.mk<;>intro hc))<;>first|exact hc.elim|conv=>whnf)|refine kB ?_)
     all_goals first
      |omega
      |exact again.mk ⟨_,by omega,j+1,_,_,_,_,L++[((g.nodes[j]).id,0)],rfl,by omega,by simp,by simp;omega,hm2,rfl,rfl⟩
   ·have hb2:¬(r.n<GI M (g.nodes[j]).id):=fun h=>hbad (hbd.2 h)
    have hm2:L=[]↔∀n∈g.nodes.take (j+1),¬MW r g n:=by rw[hst,hL];exact⟨fun h=>⟨h,hbad⟩,fun h=>h.1⟩
    cases hg:Jr M (g.nodes[j]).id with
    |none=>
     have hc0:GI M (g.nodes[j]).id=0:=by unfold GI;rw[hg];rfl
     rw[hc0]at hb2
     (conv=>whnf);repeat' (first|((first|refine fkN hg ?_|refine kA ?_|(apply Br.mk<;>intro hc))<;>first|exact hc.elim|conv=>whnf)|refine kB ?_)
     all_goals first
      |omega
      |exact again.mk ⟨_,by omega,j+1,_,_,_,_,L,rfl,by omega,hn1,by omega,hm2,rfl,rfl⟩
    |some v0=>
     have hc0:GI M (g.nodes[j]).id=v0:=by unfold GI;rw[hg];rfl
     rw[hc0]at hb2
     (conv=>whnf);repeat' (first|((first|refine fkS hg (fun _=>?_)|refine kA ?_|(apply Br.mk<;>intro hc))<;>first|exact hc.elim|conv=>whnf)|refine kB ?_)
     all_goals first
      |omega
      |exact again.mk ⟨_,by omega,j+1,_,_,_,_,L,rfl,by omega,hn1,by omega,hm2,rfl,rfl⟩
  ·rw[List.take_of_length_le (by omega)]at hL
   (conv=>whnf);repeat' (first|((first|refine kA ?_|(apply Br.mk<;>intro hc))<;>first|exact hc.elim|conv=>whnf)|refine kB ?_)
   all_goals first
     |omega
     |exact⟨_,L,by rw[hn1,uV],by omega,hL⟩
def hav (p:Int×GV):AV:=.agg [.int .i64 p.1,.int .i64 p.2.k,.int .i64 p.2.n,.int .i64 p.2.d,.str p.2.s,.sl p.2.nn p.2.l]
theorem YL (p:Int×GV):(hav p).cells.length=6:=rfl
noncomputable def AlS (r:GR) (N:List GN):List (Int×GV):=(N.filter fun n=>decide (J7 r n)).map fun n=>(n.id,ET n.props r.key)
theorem Aah {r:GR} {N:List GN} {i:Nat} (h:i<N.length):AlS r (N.take (i+1))=AlS r (N.take i)++if J7 r N[i]then[((N[i]).id,ET (N[i]).props r.key)]else[]:=by
 unfold AlS
 rw[List.take_succ_eq_append_getElem h,List.filter_append,List.map_append]
 by_cases hc:J7 r N[i]
 ·simp[hc]
 ·simp[hc]
theorem AfN {r:GR} {N:List GN}:lone r N↔(AlS r N).Pairwise fun a b=>VX a.2 b.2≠2:=by
 unfold lone AlS
 rw[List.pairwise_map]
theorem VY {P:List GP} {key:List UInt8} (h:∀p∈P,p.ok):(ET P key).ok:=by
 unfold ET
 cases hf:P.find? (isK key)with
 |none=>unfold GV.ok V0 I64 Ln;dsimp only;refine⟨by omega,by omega,by omega,by simp,by simp,fun _=>rfl,by simp⟩
 |some p=>exact(h p (List.mem_of_find?_eq_some hf)).2
theorem Aga {P:List GP} {key:List UInt8} (hk:AcA P key) (h:∀p∈P,p.ok∧Dx p.v):(ET P key).ok∧Dx (ET P key):=by
 obtain⟨p,hp,e⟩:=hk
 unfold ET
 cases hf:P.find? (isK key)with
 |none=>exact absurd (decide_eq_true e) (List.find?_eq_none.1 hf p hp)
 |some q=>exact⟨(h q (List.mem_of_find?_eq_some hf)).1.2,(h q (List.mem_of_find?_eq_some hf)).2⟩
set_option maxHeartbeats 4000000 in
set_option maxRecDepth 10000 in
theorem Agh {r:GR} {g:GG} (hN:g.nodes.length≤4000) (hb:∀n∈g.nodes,n.labels.length<2^62∧n.props.length<2^62∧∀p∈n.props,p.ok∧Dx p.v):Ae (Ad tab) 206 [r.av,g.av] (fun v=>∃nn L,v=.sl nn (vs KF L)∧L.length≤64000000∧(L=[]↔lone r g.nodes)):=by
 refine Ac rfl rfl ?_
 (conv=>whnf);repeat' (first|((first|refine kA ?_|(apply Br.mk<;>intro hc))<;>first|exact hc.elim|conv=>whnf)|refine kB ?_)
 all_goals try omega
 refine Ag (fun m env s=>∃(i go n1 c:Nat) (fo:Bool) (H:List (Int×GV)),m=g.nodes.length-i∧i≤g.nodes.length∧n1=H.length∧H.length≤i∧H=AlS r (g.nodes.take i)∧env=[(2,.ref 0 0 0 0),(5,.own 2 go 0 n1),(16,.sl g.nn (vs GN.av g.nodes)),(17,.int .i64 g.nodes.length),(18,.int .i64 i)]∧s=⟨[.arr 0 6 true true [r.av],.arr 1 4 true true [g.av],.arr go 6 fo true (vs hav H)],c⟩) ?_ _ _ _ ⟨0,_,_,_,_,[],rfl,by omega,rfl,by simp,rfl,rfl,rfl⟩
 rintro _ _ _ ⟨i,go,n1,c,fo,H,rfl,hi,hn1,hHi,hH,rfl,rfl⟩
 refine⟨rfl,?_⟩
 by_cases hlt:i<g.nodes.length
 ·obtain⟨b1,b2,b3⟩:=hb _ (List.getElem_mem hlt)
  have p1:=AiV (P:=(g.nodes[i]).props) (nn:=(g.nodes[i]).pn) (key:=r.key) b2
  have p2:=I8 (n:=g.nodes[i]) (s:=r.name) (by omega)
  have hs:=Aah (r:=r) hlt
  rw[← hH]at hs
  by_cases hk:AcA (g.nodes[i]).props r.key
  ·rw[decide_eq_true hk]at p1
   by_cases hn:r.name∈(g.nodes[i]).labels
   ·rw[decide_eq_true hn]at p2
    rw[if_pos (show J7 r g.nodes[i] from⟨hk,hn⟩)]at hs
    (conv=>whnf);repeat' (first|((first|apply kE p1|apply kE p2|refine LU (f:=hav) (l:=H) (x:=((g.nodes[i]).id,ET (g.nodes[i]).props r.key)) rfl YL hn1 (by omega) ?_|refine kA ?_|(apply Br.mk<;>intro hc))<;>first|exact hc.elim|conv=>whnf)|refine kB ?_)
    all_goals first
      |omega
      |contradiction
      |exact again.mk ⟨_,by omega,i+1,_,_,_,_,H++[((g.nodes[i]).id,ET (g.nodes[i]).props r.key)],rfl,by omega,by simp,by simp;omega,hs.symm,rfl,rfl⟩
   ·rw[decide_eq_false hn]at p2
    rw[if_neg (show ¬J7 r g.nodes[i] from fun h=>hn h.2),List.append_nil]at hs
    (conv=>whnf);repeat' (first|((first|apply kE p1|apply kE p2|refine kA ?_|(apply Br.mk<;>intro hc))<;>first|exact hc.elim|conv=>whnf)|refine kB ?_)
    all_goals first
      |omega
      |contradiction
      |exact again.mk ⟨_,by omega,i+1,_,_,_,_,H,rfl,by omega,hn1,by omega,hs.symm,rfl,rfl⟩
  ·rw[decide_eq_false hk]at p1
   rw[if_neg (show ¬J7 r g.nodes[i] from fun h=>hk h.1),List.append_nil]at hs
   (conv=>whnf);repeat' (first|((first|apply kE p1|refine kA ?_|(apply Br.mk<;>intro hc))<;>first|exact hc.elim|conv=>whnf)|refine kB ?_)
   all_goals first
        |omega
        |contradiction
        |exact again.mk ⟨_,by omega,i+1,_,_,_,_,H,rfl,by omega,hn1,by omega,hs.symm,rfl,rfl⟩
 ·rw[List.take_of_length_le (by omega)]at hH
  have hHo:∀p∈H,p.2.ok∧Dx p.2:=fun p hp=>by
   rw[hH]at hp
   obtain⟨n,hn,rfl⟩:=List.mem_map.1 hp
   obtain⟨h1,h2⟩:=List.mem_filter.1 hn
   exact Aga (of_decide_eq_true h2).1 (hb n h1).2.2
  have hl2:=@AfN r g.nodes
  rw[← hH]at hl2
  rw[hl2]
  clear hH hl2
  have hHl:H.length≤4000:=by omega
  subst hn1
  clear hHi
  (conv=>whnf);repeat' (first|((first|refine kA ?_|(apply Br.mk<;>intro hc))<;>first|exact hc.elim|conv=>whnf)|refine kB ?_)
  all_goals try omega
  try simp only
  refine Ag (fun m env s=>∃(i go n1 c:Nat) (f2:Bool) (L:List (Int×Int)),m=H.length-i∧i≤H.length∧n1=L.length∧L.length≤i*4000∧(L=[]↔∀a b,∀h1:a<b,∀h2:b<H.length,a<i→VX (H[a]'(by omega)).2 H[b].2≠2)∧env=[(5,.sl fo (vs hav H)),(10,.own 3 go 0 n1),(45,.sl fo (vs hav H)),(46,.int .i64 H.length),(47,.int .i64 i)]∧s=⟨[.arr 0 6 true true [r.av],.arr 1 4 true true [g.av],.dead,.arr go 2 f2 true (vs KF L)],c⟩) ?_ _ _ _ ⟨0,_,_,_,_,[],rfl,by omega,rfl,by simp,by simp,rfl,rfl⟩
  rintro _ _ _ ⟨i,go2,n1,c2,f2,L,rfl,hi,hn1,hLi,hL,rfl,rfl⟩
  refine⟨rfl,?_⟩
  by_cases hlt:i<H.length
  ·have Yg:List.take ((vs hav H).length-((i:Int)+1).toNat) (List.drop ((i:Int)+1).toNat H)=H.drop (i+1):=by
     rw[lV,show((i:Int)+1).toNat=i+1 by omega];exact List.take_of_length_le (by simp)
   obtain⟨T,hT⟩:∃T,T=H.drop (i+1):=⟨_,rfl⟩
   rw[← hT]at Yg
   have hTl:T.length=H.length-(i+1):=by rw[hT,List.length_drop]
   have hTo:∀p∈T,p.2.ok∧Dx p.2:=fun p hp=>hHo p (List.mem_of_mem_drop (hT▸hp))
   have hpi:=hHo _ (List.getElem_mem hlt)
   have hTe:∀b,∀h:b<H.length,i<b→H[b]∈T:=fun b h hb=>by
     rw[hT,List.mem_iff_getElem]
     exact⟨b-(i+1),by rw[List.length_drop];omega,by simp only[List.getElem_drop];congr 1;omega⟩
   have hTf:∀x∈T,∃b,∃h:b<H.length,i<b∧H[b]=x:=fun x hx=>by
     rw[hT,List.mem_iff_getElem]at hx
     obtain⟨k,hk,e⟩:=hx
     rw[List.length_drop]at hk
     exact⟨i+1+k,by omega,by omega,by rw[← e,List.getElem_drop]⟩
   (conv=>whnf);repeat' (first|((first|refine need.mk (Cj YL H) ?_|refine Aif (f:=hav) (L:=H) ?_|refine kA ?_|(apply Br.mk<;>intro hc))<;>first|exact hc.elim|conv=>whnf)|refine kB ?_)
   all_goals try omega
   rw[Yg]
   refine Ag (fun m env s=>∃(j go n2 c:Nat) (f3:Bool) (L2:List (Int×Int)),m=T.length-j∧j≤T.length∧n2=L2.length∧L2.length≤i*4000+j∧(L2=[]↔L=[]∧∀x∈T.take j,VX (H[i]).2 x.2≠2)∧env=[(5,.sl fo (vs hav H)),(10,.own 3 go 0 n2),(12,.ref 4 c2 0 0),(45,.sl fo (vs hav H)),(46,.int .i64 H.length),(47,.int .i64 i),(55,.sl fo (vs hav T)),(56,.int .i64 T.length),(57,.int .i64 j)]∧s=⟨[.arr 0 6 true true [r.av],.arr 1 4 true true [g.av],.dead,.arr go 2 f3 true (vs KF L2),.arr c2 6 true true [hav H[i]]],c⟩) ?_ _ _ _ ⟨0,_,_,_,_,L,rfl,by omega,hn1,by omega,by simp,rfl,rfl⟩
   rintro _ _ _ ⟨j,go3,n2,c3,f3,L2,rfl,hj,hn2,hLj,hL2,rfl,rfl⟩
   refine⟨rfl,?_⟩
   by_cases hjl:j<T.length
   ·have pE:=Ant hpi (hTo _ (List.getElem_mem hjl))
    have hst:∀{Q:Int×GV→Prop},(∀ x∈T.take (j+1),Q x)↔(∀ x∈T.take j,Q x)∧Q T[j]:=fun{Q}=>by
     rw[List.take_succ_eq_append_getElem hjl]
     simp only[List.mem_append,List.mem_singleton]
     exact⟨fun h=>⟨fun x hx=>h x (.inl hx),h _ (.inr rfl)⟩,fun h x hx=>hx.elim (h.1 x) fun e=>e▸h.2⟩
    by_cases h2:VX (H[i]).2 (T[j]).2=2
    ·have hm:L2++[((H[i]).1,(T[j]).1)]=[]↔L=[]∧∀x∈T.take (j+1),VX (H[i]).2 x.2≠2:=by
      rw[hst]
      exact⟨fun h=>by simp at h,fun h=>absurd h2 h.2.2⟩
     rw[h2]at pE
     (conv=>whnf);repeat' (first|((first|apply kE pE|refine LU (f:=KF) (l:=L2) (x:=((H[i]).1,(T[j]).1)) rfl AcC hn2 (by omega) ?_|refine kA ?_|(apply Br.mk<;>intro hc))<;>first|exact hc.elim|conv=>whnf)|refine kB ?_)
     all_goals first
      |omega
      |contradiction
      |exact again.mk ⟨_,by omega,j+1,_,_,_,_,L2++[((H[i]).1,(T[j]).1)],rfl,by omega,by simp,by simp;omega,hm,rfl,rfl⟩
    ·have hm:L2=[]↔L=[]∧∀x∈T.take (j+1),VX (H[i]).2 x.2≠2:=by
      rw[hst,hL2]
      exact⟨fun h=>⟨h.1,h.2,h2⟩,fun h=>⟨h.1,h.2.1⟩⟩
     generalize VX (H[i]).2 (T[j]).2=q at pE h2
     (conv=>whnf);repeat' (first|((first|apply kE pE|refine kA ?_|(apply Br.mk<;>intro hc))<;>first|exact hc.elim|conv=>whnf)|refine kB ?_)
     all_goals first
      |omega
      |exact absurd ‹_› h2
      |exact again.mk ⟨_,by omega,j+1,_,_,_,_,L2,rfl,by omega,hn2,by omega,hm,rfl,rfl⟩
   ·rw[List.take_of_length_le (by omega)]at hL2
    have hm:L2=[]↔∀a b,∀h1:a<b,∀h2:b<H.length,a<i+1→VX (H[a]'(by omega)).2 H[b].2≠2:=by
     rw[hL2,hL]
     constructor
     ·rintro⟨h1,h2⟩ a b hab hb ha
      by_cases e:a=i
      ·subst e;exact h2 _ (hTe b hb hab)
      ·exact h1 a b hab hb (by omega)
     ·intro h
      refine⟨fun a b hab hb ha=>h a b hab hb (by omega),fun x hx=>?_⟩
      obtain⟨b,hb,hib,rfl⟩:=hTf x hx
      exact h i b hib hb (by omega)
    (conv=>whnf);repeat' (first|((first|refine kA ?_|(apply Br.mk<;>intro hc))<;>first|exact hc.elim|conv=>whnf)|refine kB ?_)
    all_goals first
     |omega
     |exact again.mk ⟨_,by omega,i+1,_,_,_,_,L2,rfl,by omega,hn2,by omega,hm,rfl,rfl⟩
  ·obtain rfl:i=H.length:=by omega
   have e:L=[]↔H.Pairwise fun a b=>VX a.2 b.2≠2:=by
     rw[hL,List.pairwise_iff_getElem]
     exact⟨fun k a b ha hb hab=>k a b hab hb ha,fun k a b h1 h2 h3=>k a b h3 h2 h1⟩
   (conv=>whnf);repeat' (first|((first|refine kA ?_|(apply Br.mk<;>intro hc))<;>first|exact hc.elim|conv=>whnf)|refine kB ?_)
   all_goals first
     |omega
     |exact⟨_,L,by rw[hn1,uV],by omega,e⟩
end AI
end Go.Proofs.YtjijnamhalgamaaGreatDoor
