/- graph.Check: the first error of a graph. Small graphs, few strings. Properties looked up. Scripts between graphs: what they are, in plain lists. The reference's order of a value and null. The order of values: the program's walks. The order of values: the reference's walks. Graphs alike: the program's way and the reference's. -/
import Derived.Test.YthnehejdkajjhaaGreatDoorKMag
import Derived.Test.YthnehejdkajjhaaGreatDoorKMae
import Derived.Test.YthnehejdkajjhaaGreatDoorKMaf
set_option linter.unusedVariables false
set_option maxRecDepth 4000
namespace Go.Proofs.YthnehejdkajjhaaGreatDoor
namespace AI
def KG (f:Nat→Int):Nat→Int
 |0=>0
 |n+1=>if KG f n=0 then f n else KG f n
theorem FD {f:Nat→Int}:∀{n:Nat},KG f n=0↔∀k,k<n→f k=0
 |0=>by simp[KG]
 |n+1=>by
  unfold KG
  split
  ·rename_i h
   have:=FD.1 h
   refine⟨fun h0 k hk=>?_,fun h0=>h0 n (by omega)⟩
   rcases Nat.lt_or_ge k n with h1|h1
   ·exact this k h1
   ·obtain rfl:k=n:=by omega
    exact h0
  ·rename_i h
   exact⟨fun h0=>absurd h0 h,fun h0=>absurd (FD.2 fun k hk=>h0 k (by omega)) h⟩
theorem Uh {f:Nat→Int} {i:Nat} (h:∀k,k<i→f k=0) (hi:f i≠0):∀{n:Nat},i<n→KG f n=f i
 |0,hn=>absurd hn (by omega)
 |n+1,hn=>by
  unfold KG
  rcases Nat.lt_or_ge i n with h1|h1
  ·rw[Uh h hi h1,if_neg hi]
  ·obtain rfl:i=n:=by omega
   rw[if_pos (FD.2 h)]
noncomputable def ER (N:List GN) (nx:Int) (i:Nat):Int:=
 match N[i]? with
 |none=>0
 |some n=>if 0<i∧(∃ m,N[i-1]?=some m∧n.id≤m.id)then 26 else if n.id<1∨nx≤n.id then 1 else DV n.labels n.props
noncomputable def EX (N:List GN) (E:List GE) (nx:Int) (i:Nat):Int:=
 match E[i]? with
 |none=>0
 |some e=>if 0<i∧(∃ m,E[i-1]?=some m∧e.id≤m.id)then 26 else if e.id<1∨nx≤e.id then 1 else if¬(e.fr∈Hw N∧e.to∈Hw N)then 10 else if¬isName e.ty then 6 else DV [] e.props
theorem AcT {N:List GN} {nx:Int} {i:Nat} (h:i<N.length) (h0:0<i) (h1:(N[i]).id≤(N[i-1]).id):ER N nx i=26:=by
 unfold ER;rw[List.getElem?_eq_getElem h];exact if_pos ⟨h0,_,List.getElem?_eq_getElem (by omega),h1⟩
theorem Aeu {N:List GN} {i:Nat} (h:i<N.length) (h1:0<i→¬(N[i]).id≤(N[i-1]).id):¬(0<i∧∃m,N[i-1]?=some m∧(N[i]).id≤m.id):=by
 rintro⟨a,m,b,c⟩;rw[List.getElem?_eq_getElem (by omega)]at b;rw[← Option.some.inj b]at c;exact h1 a c
theorem node1 {N:List GN} {nx:Int} {i:Nat} (h:i<N.length) (h1:0<i→¬(N[i]).id≤(N[i-1]).id) (h2:(N[i]).id<1∨nx≤(N[i]).id):ER N nx i=1:=by
 unfold ER;rw[List.getElem?_eq_getElem h];dsimp only;rw[if_neg (Aeu h h1),if_pos h2]
theorem AaB {N:List GN} {nx:Int} {i:Nat} (h:i<N.length) (h1:0<i→¬(N[i]).id≤(N[i-1]).id) (h2:¬((N[i]).id<1∨nx≤(N[i]).id)):ER N nx i=DV (N[i]).labels (N[i]).props:=by
 unfold ER;rw[List.getElem?_eq_getElem h];dsimp only;rw[if_neg (Aeu h h1),if_neg h2]
theorem KP {N:List GN} {nx:Int} {i:Nat} (h:i<N.length) (h0:ER N nx i=0):(0<i→(N[i-1]).id<(N[i]).id)∧1≤(N[i]).id∧(N[i]).id<nx∧DV (N[i]).labels (N[i]).props=0:=by
 by_cases h1:0<i∧(N[i]).id≤(N[i-1]).id
 ·rw[AcT h h1.1 h1.2]at h0;omega
 have h1':0<i→¬(N[i]).id≤(N[i-1]).id:=fun a b=>h1 ⟨a,b⟩
 by_cases h2:(N[i]).id<1∨nx≤(N[i]).id
 ·rw[node1 h h1' h2]at h0;omega
 rw[AaB h h1' h2]at h0
 exact⟨fun a=>by have:=h1' a;omega,by omega,by omega,h0⟩
theorem AcV {N:List GN} {E:List GE} {nx:Int} {i:Nat} (h:i<E.length) (h0:0<i) (h1:(E[i]).id≤(E[i-1]).id):EX N E nx i=26:=by
 unfold EX;rw[List.getElem?_eq_getElem h];exact if_pos ⟨h0,_,List.getElem?_eq_getElem (by omega),h1⟩
theorem Vt {E:List GE} {i:Nat} (h:i<E.length) (h1:0<i→¬(E[i]).id≤(E[i-1]).id):¬(0<i∧∃m,E[i-1]?=some m∧(E[i]).id≤m.id):=by
 rintro⟨a,m,b,c⟩;rw[List.getElem?_eq_getElem (by omega)]at b;rw[← Option.some.inj b]at c;exact h1 a c
theorem AhS {N:List GN} {E:List GE} {nx:Int} {i:Nat} (h:i<E.length) (h1:0<i→¬(E[i]).id≤(E[i-1]).id) (h2:(E[i]).id<1∨nx≤(E[i]).id):EX N E nx i=1:=by
 unfold EX;rw[List.getElem?_eq_getElem h];dsimp only;rw[if_neg (Vt h h1),if_pos h2]
theorem AcW {N:List GN} {E:List GE} {nx:Int} {i:Nat} (h:i<E.length) (h1:0<i→¬(E[i]).id≤(E[i-1]).id) (h2:¬((E[i]).id<1∨nx≤(E[i]).id)) (h3:¬((E[i]).fr∈Hw N∧(E[i]).to∈Hw N)):EX N E nx i=10:=by
 unfold EX;rw[List.getElem?_eq_getElem h];dsimp only;rw[if_neg (Vt h h1),if_neg h2,if_pos h3]
theorem AhT {N:List GN} {E:List GE} {nx:Int} {i:Nat} (h:i<E.length) (h1:0<i→¬(E[i]).id≤(E[i-1]).id) (h2:¬((E[i]).id<1∨nx≤(E[i]).id)) (h3:(E[i]).fr∈Hw N∧(E[i]).to∈Hw N) (h4:¬isName (E[i]).ty):EX N E nx i=6:=by
 unfold EX;rw[List.getElem?_eq_getElem h];dsimp only;rw[if_neg (Vt h h1),if_neg h2,if_neg (not_not_intro h3),if_pos h4]
theorem AaC {N:List GN} {E:List GE} {nx:Int} {i:Nat} (h:i<E.length) (h1:0<i→¬(E[i]).id≤(E[i-1]).id) (h2:¬((E[i]).id<1∨nx≤(E[i]).id)) (h3:(E[i]).fr∈Hw N∧(E[i]).to∈Hw N) (h4:isName (E[i]).ty):EX N E nx i=DV [] (E[i]).props:=by
 unfold EX;rw[List.getElem?_eq_getElem h];dsimp only;rw[if_neg (Vt h h1),if_neg h2,if_neg (not_not_intro h3),if_neg (not_not_intro h4)]
theorem MZ {N:List GN} {E:List GE} {nx:Int} {i:Nat} (h:i<E.length) (h0:EX N E nx i=0):(0<i→(E[i-1]).id<(E[i]).id)∧1≤(E[i]).id∧(E[i]).id<nx∧(E[i]).fr∈Hw N∧(E[i]).to∈Hw N∧isName (E[i]).ty∧DV [] (E[i]).props=0:=by
 by_cases h1:0<i∧(E[i]).id≤(E[i-1]).id
 ·rw[AcV h h1.1 h1.2]at h0;omega
 have h1':0<i→¬(E[i]).id≤(E[i-1]).id:=fun a b=>h1 ⟨a,b⟩
 by_cases h2:(E[i]).id<1∨nx≤(E[i]).id
 ·rw[AhS h h1' h2]at h0;omega
 by_cases h3:(E[i]).fr∈Hw N∧(E[i]).to∈Hw N
 case neg=>rw[AcW h h1' h2 h3]at h0;omega
 by_cases h4:isName (E[i]).ty
 case neg=>rw[AhT h h1' h2 h3 h4]at h0;omega
 rw[AaC h h1' h2 h3 h4]at h0
 exact⟨fun a=>by have:=h1' a;omega,by omega,by omega,h3.1,h3.2,h4,h0⟩
def Gs (g:GG):Prop:=g.nodes.length≤2000∧g.edges.length≤4000
def Hy (g:GG):Prop:=1≤g.BF∧g.BF≤1000001∧1≤g.BA∧g.BA≤1000001
instance (g:GG):Decidable (Gs g):=by unfold Gs;infer_instance
instance (g:GG):Decidable (Hy g):=by unfold Hy;infer_instance
noncomputable def AZ (g:GG):Int:=
 if¬Gs g then 4 else if¬Hy g then 1 else
  if KG (ER g.nodes g.BF) g.nodes.length=0 then KG (EX g.nodes g.edges g.BA) g.edges.length else KG (ER g.nodes g.BF) g.nodes.length
theorem AhU {g:GG} (h:¬Gs g):AV.int .i64 4=AV.int .i64 (AZ g):=by unfold AZ;rw[if_pos h]
theorem AhV {g:GG} (h:Gs g) (h1:¬Hy g):AV.int .i64 1=AV.int .i64 (AZ g):=by unfold AZ;rw[if_neg (not_not_intro h),if_pos h1]
theorem checkN {g:GG} (h:Gs g) (h1:Hy g) {i:Nat} (hi:i<g.nodes.length) (h2:∀k,k<i→ER g.nodes g.BF k=0) {r:Int} (h3:ER g.nodes g.BF i=r) (hr:r≠0):AV.int .i64 r=AV.int .i64 (AZ g):=by
 subst h3
 unfold AZ
 rw[if_neg (not_not_intro h),if_neg (not_not_intro h1),Uh h2 hr hi,if_neg hr]
theorem PV {g:GG} (h:Gs g) (h1:Hy g) (hn:∀k,k<g.nodes.length→ER g.nodes g.BF k=0) {i:Nat} (hi:i<g.edges.length) (h2:∀k,k<i→EX g.nodes g.edges g.BA k=0) {r:Int} (h3:EX g.nodes g.edges g.BA i=r) (hr:r≠0):AV.int .i64 r=AV.int .i64 (AZ g):=by
 subst h3
 unfold AZ
 rw[if_neg (not_not_intro h),if_neg (not_not_intro h1),if_pos (FD.2 hn),Uh h2 hr hi]
theorem Ack {g:GG} (h:Gs g) (h1:Hy g) (hn:∀k,k<g.nodes.length→ER g.nodes g.BF k=0) (h2:∀k,k<g.edges.length→EX g.nodes g.edges g.BA k=0):AV.int .i64 0=AV.int .i64 (AZ g):=by
 unfold AZ
 rw[if_neg (not_not_intro h),if_neg (not_not_intro h1),if_pos (FD.2 hn),FD.2 h2]
theorem AcU {N:List GN} {nx:Int} (h:∀k,k<N.length→ER N nx k=0):incr (Hw N):=by
 intro j hj
 have hj':j+1<N.length:=by simpa using hj
 rw[PW (by omega),PW hj']
 exact(KP hj' (h _ hj')).1 (by omega)
theorem LU {g:GG} (h:AZ g=0):Gs g∧Hy g∧(∀ k,k<g.nodes.length→ER g.nodes g.BF k=0)∧∀k,k<g.edges.length→EX g.nodes g.edges g.BA k=0:=by
 unfold AZ at h
 by_cases h1:Gs g
 case neg=>rw[if_pos h1]at h;omega
 by_cases h2:Hy g
 case neg=>rw[if_neg (not_not_intro h1),if_pos h2]at h;omega
 rw[if_neg (not_not_intro h1),if_neg (not_not_intro h2)]at h
 split at h
 ·rename_i h3
  exact⟨h1,h2,FD.1 h3,FD.1 h⟩
 ·rename_i h3;exact absurd h h3
attribute [irreducible] ER EX AZ KG
theorem weigh {ps:List GP} {nn:Bool} (hl:Ln ps) (hp:∀p∈ps,p.ok) {left:Int} (h1:-9223372036854775808≤left) (h2:left≤2000):
 Ag (Ac tab) 64 [.sl nn (vs GP.av ps),.int .i64 left] (fun v=>∃r,v=.int .i64 r∧-9223372036854775808≤r∧r≤2000∧(0≤r→r+ps.length≤left∧∀p∈ps,p.key.length≤101000∧GY 12 p.v.av)):=by
 unfold Ln at hl
 refine Ad rfl rfl ?_
 (conv=>whnf);repeat' (first|refine kA ?_;conv=>whnf|(apply Br.mk<;>intro hc<;>first|exact hc.elim|conv=>whnf)  |refine kB ?_)
 refine Af (fun m env s=>∃(i:Nat) (cur:Int),m=ps.length-i∧env=[(0,.sl nn (vs GP.av ps)),(1,.int .i64 cur),(5,.int .i64 i)]∧s=⟨[],0⟩∧
  -9223372036854775808≤cur∧cur≤2000∧(0≤cur→cur+i≤left∧∀p∈ps.take i,p.key.length≤101000∧GY 12 p.v.av)) ?_ _ _ _ ⟨0,_,rfl,rfl,rfl,by omega,by omega,fun h=>⟨by omega,by simp⟩⟩
 rintro _ _ _ ⟨i,cur,rfl,rfl,rfl,b1,b2,hx⟩
 refine⟨rfl,?_⟩
 have hat:∀(h:i<ps.length),(ps[i]).ok:=fun h=>hp _ (List.getElem_mem _)
 have hk:∀(h:i<ps.length),(ps[i]).key.length<2^63:=fun h=>(hat h).1
 (conv=>whnf);repeat' (first|refine kA ?_;conv=>whnf|(apply Br.mk<;>intro hc<;>first|exact hc.elim|conv=>whnf)|(refine WB (hk (by omega)) ?_;conv=>whnf)|(have hwr:=hk (by omega);apply BI;(· exact wrap_i64 (by omega) (by omega));clear hwr;conv=>whnf)|refine kB ?_)
 ·refine Aa (wei 12 (by omega) (hat (by omega)).2 (by have:=hk (by omega);omega) (by omega)) ?_
  rintro _ ⟨r,rfl,r1,r2,r3⟩
  (conv=>whnf);repeat' (first|refine kA ?_;conv=>whnf|(apply Br.mk<;>intro hc<;>first|exact hc.elim|conv=>whnf)  |refine kB ?_)
  exact again.mk ⟨_,by omega,i+1,r,rfl,rfl,rfl,by omega,by omega,fun h=>⟨by have:=hx (by omega);have:=r3 h;omega,Cb (by omega) (hx (by omega)).2 ⟨by have:=r3 h;omega,(r3 h).2⟩⟩⟩
 ·exact⟨_,rfl,by omega,by omega,fun h=>absurd h (by omega)⟩
 ·refine⟨_,rfl,by omega,by omega,fun h=>?_⟩
  obtain⟨x1,x2⟩:=hx h
  rw[CQ hc]at x2
  exact⟨by omega,x2⟩
def SmP (ps:List GP):Prop:=ps.length≤2000∧∀p∈ps,p.key.length≤101000∧GY 12 p.v.av
def SmN (n:GN):Prop:=n.labels.length≤2000∧(∀ s∈n.labels,s.length≤101000)∧SmP n.props
def SmE (e:GE):Prop:=e.ty.length≤101000∧SmP e.props
def SmG (g:GG) (n e:Int):Prop:=g.nodes.length≤n∧g.edges.length≤e∧(∀ n∈g.nodes,SmN n)∧∀e∈g.edges,SmE e
theorem small {g:GG} (hg:g.ok) {n e:Int}:Ag (Ac tab) 30 [g.av,.int .i64 n,.int .i64 e] (fun v=>∃b,v=.bool b∧(b=true→SmG g n e)):=by
 obtain⟨g1,g2,g3,g4,g5,g6,g7,g8⟩:=hg
 unfold Ln at g1 g4
 refine Ad rfl rfl ?_
 (conv=>whnf);repeat' (first|refine kA ?_;conv=>whnf|(apply Br.mk<;>intro hc<;>first|exact hc.elim|conv=>whnf)  |refine kB ?_)
 ·exact⟨_,rfl,fun h=>by cases h⟩
 ·exact⟨_,rfl,fun h=>by cases h⟩
 refine Af (fun m env s=>∃(i c:Nat) (left:Int),m=g.nodes.length-i∧env=[(3,.ref 0 0 0 0),(7,.int .i64 left),(8,.int .i64 i)]∧s=⟨[.arr 0 4 true true [g.av]],c⟩∧-9223372036854775808≤left∧left≤2000∧(0≤left→∀n∈g.nodes.take i,SmN n)) ?_ _ _ _ ⟨0,1,2000,rfl,rfl,rfl,by omega,by omega,fun _=>by simp⟩
 rintro _ _ _ ⟨i,c,left,rfl,rfl,rfl,b1,b2,hx⟩
 refine⟨rfl,?_⟩
 have hat:∀h:i<g.nodes.length,(g.nodes[i]).ok:=fun h=>g3 _ (List.getElem_mem _)
 have hk:∀h:i<g.nodes.length,(g.nodes[i]).labels.length<2^63:=fun h=>(hat h).2.1
 (conv=>whnf);repeat' (first|refine kA ?_;conv=>whnf|(apply Br.mk<;>intro hc<;>first|exact hc.elim|conv=>whnf)|(have hwr:=hk (by omega);apply BI;(· exact wrap_i64 (by omega) (by omega));clear hwr;conv=>whnf)|refine kB ?_)
 rotate_left
 ·have hN:0≤left→∀n∈g.nodes,SmN n:=fun h=>absurd h (by omega)
  refine Af (fun m env s=>∃(i c:Nat) (left:Int),m=g.edges.length-i∧env=[(3,.ref 0 0 0 0),(7,.int .i64 left),(11,.int .i64 i)]∧s=⟨[.arr 0 4 true true [g.av]],c⟩∧-9223372036854775808≤left∧left≤2000∧(0≤left→(∀ n∈g.nodes,SmN n)∧∀n∈g.edges.take i,SmE n)) ?_ _ _ _ ⟨0,_,left,rfl,rfl,rfl,by omega,by omega,fun h=>⟨hN h,by simp⟩⟩
  clear hN hx hat hk b1 b2 hc
  rintro _ _ _ ⟨i,c,left,rfl,rfl,rfl,b1,b2,hx⟩
  refine⟨rfl,?_⟩
  have hat:∀h:i<g.edges.length,(g.edges[i]).ok:=fun h=>g6 _ (List.getElem_mem _)
  have hk:∀h:i<g.edges.length,(g.edges[i]).ty.length<2^63:=fun h=>(hat h).2.2.2.1
  (conv=>whnf);repeat' (first|refine kA ?_;conv=>whnf|(apply Br.mk<;>intro hc<;>first|exact hc.elim|conv=>whnf)|(refine WB (hk (by omega)) ?_;conv=>whnf)|(have hwr:=hk (by omega);apply BI;(· exact wrap_i64 (by omega) (by omega));clear hwr;conv=>whnf)|refine kB ?_)
  ·refine Aa (weigh (hat (by omega)).2.2.2.2.1 (hat (by omega)).2.2.2.2.2.2 (by have:=hk (by omega);omega) (by omega)) ?_
   rintro _ ⟨r,rfl,r1,r2,r3⟩
   (conv=>whnf);repeat' (first|refine kA ?_;conv=>whnf|(apply Br.mk<;>intro hc<;>first|exact hc.elim|conv=>whnf)  |refine kB ?_)
   have hk1:=hk (by omega)
   exact again.mk ⟨_,by omega,i+1,_,r,rfl,rfl,rfl,by omega,by omega,fun h=>⟨(hx (by omega)).1,Cb (by omega) (hx (by omega)).2 ⟨by have:=r3 h;omega,by have:=r3 h;omega,(r3 h).2⟩⟩⟩
  all_goals first
   |exact⟨_,rfl,fun h=>absurd h Bool.false_ne_true⟩
   |(refine ⟨_,rfl,fun h=>?_⟩
     rename_i hc1
     obtain⟨x1,x2⟩:=hx hc
     rw[CQ hc1]at x2
     exact⟨by omega,by omega,x1,x2⟩)
 ·have hN:0≤left→∀n∈g.nodes,SmN n:=by rw[CQ hc]at hx;exact hx
  refine Af (fun m env s=>∃(i c:Nat) (left:Int),m=g.edges.length-i∧env=[(3,.ref 0 0 0 0),(7,.int .i64 left),(11,.int .i64 i)]∧s=⟨[.arr 0 4 true true [g.av]],c⟩∧-9223372036854775808≤left∧left≤2000∧(0≤left→(∀ n∈g.nodes,SmN n)∧∀n∈g.edges.take i,SmE n)) ?_ _ _ _ ⟨0,_,left,rfl,rfl,rfl,by omega,by omega,fun h=>⟨hN h,by simp⟩⟩
  clear hN hx hat hk b1 b2 hc
  rintro _ _ _ ⟨i,c,left,rfl,rfl,rfl,b1,b2,hx⟩
  refine⟨rfl,?_⟩
  have hat:∀h:i<g.edges.length,(g.edges[i]).ok:=fun h=>g6 _ (List.getElem_mem _)
  have hk:∀h:i<g.edges.length,(g.edges[i]).ty.length<2^63:=fun h=>(hat h).2.2.2.1
  (conv=>whnf);repeat' (first|refine kA ?_;conv=>whnf|(apply Br.mk<;>intro hc<;>first|exact hc.elim|conv=>whnf)|(refine WB (hk (by omega)) ?_;conv=>whnf)|(have hwr:=hk (by omega);apply BI;(· exact wrap_i64 (by omega) (by omega));clear hwr;conv=>whnf)|refine kB ?_)
  ·refine Aa (weigh (hat (by omega)).2.2.2.2.1 (hat (by omega)).2.2.2.2.2.2 (by have:=hk (by omega);omega) (by omega)) ?_
   rintro _ ⟨r,rfl,r1,r2,r3⟩
   (conv=>whnf);repeat' (first|refine kA ?_;conv=>whnf|(apply Br.mk<;>intro hc<;>first|exact hc.elim|conv=>whnf)  |refine kB ?_)
   have hk1:=hk (by omega)
   exact again.mk ⟨_,by omega,i+1,_,r,rfl,rfl,rfl,by omega,by omega,fun h=>⟨(hx (by omega)).1,Cb (by omega) (hx (by omega)).2 ⟨by have:=r3 h;omega,by have:=r3 h;omega,(r3 h).2⟩⟩⟩
  all_goals first
   |exact⟨_,rfl,fun h=>absurd h Bool.false_ne_true⟩
   |(refine ⟨_,rfl,fun h=>?_⟩
     rename_i hc1
     obtain⟨x1,x2⟩:=hx hc
     rw[CQ hc1]at x2
     exact⟨by omega,by omega,x1,x2⟩)
 refine Aa (weigh (hat (by omega)).2.2.2.2.1 (hat (by omega)).2.2.2.2.2.2 (by have:=hk (by omega);omega) (by omega)) ?_
 rintro _ ⟨r,rfl,r1,r2,r3⟩
 (conv=>whnf);repeat' (first|refine kA ?_;conv=>whnf|(apply Br.mk<;>intro hc<;>first|exact hc.elim|conv=>whnf)  |refine kB ?_)
 refine Af (fun m env s=>∃(j:Nat) (l2:Int),m=(g.nodes[i]).labels.length-j∧env=[(3,.ref 0 0 0 0),(7,.int .i64 l2),(8,.int .i64 i),(9,.ref 1 c 0 0),(10,.int .i64 j)]∧s=⟨[.arr 0 4 true true [g.av],.arr c 3 true true [(g.nodes[i]).av]],c+1⟩∧-9223372036854775808≤l2∧l2≤2000∧(0≤l2→0≤r∧∀s∈(g.nodes[i]).labels.take j,s.length≤101000)) ?_ _ _ _ ⟨0,r,rfl,rfl,rfl,by omega,by omega,fun h=>⟨h,by simp⟩⟩
 rintro _ _ _ ⟨j,l2,rfl,rfl,rfl,d1,d2,hy⟩
 refine⟨rfl,?_⟩
 have hlb:∀h:j<(g.nodes[i]).labels.length,((g.nodes[i]).labels[j]).length<2^63:=fun h=>(hat (by omega)).2.2.2.1 _ (List.getElem_mem _)
 have hk1:=hk (by omega)
 (conv=>whnf);repeat' (first|refine kA ?_;conv=>whnf|(apply Br.mk<;>intro hc<;>first|exact hc.elim|conv=>whnf)|(refine WB (hlb (by omega)) ?_;conv=>whnf)|(have hwr:=hlb (by omega);apply BI;(· exact wrap_i64 (by omega) (by omega));clear hwr;conv=>whnf)|refine kB ?_)
 ·have:=hlb (by omega)
  exact again.mk ⟨_,by omega,j+1,_,rfl,rfl,rfl,by omega,by omega,fun h=>⟨(hy (by omega)).1,Cb (by omega) (hy (by omega)).2 (by omega)⟩⟩
 ·exact again.mk ⟨_,by omega,i+1,_,l2,rfl,rfl,rfl,by omega,by omega,fun h=>absurd h (by omega)⟩
 ·refine again.mk ⟨_,by omega,i+1,_,l2,rfl,rfl,rfl,by omega,by omega,fun h=>?_⟩
  obtain⟨y1,y2⟩:=hy h
  rw[CQ hc]at y2
  have:=r3 y1
  exact Cb (by omega) (hx (by omega)) ⟨by omega,y2,by omega,this.2⟩
def V0:GV:=⟨0,0,0,[],false,[]⟩
def isK (k:List UInt8) (p:GP):Bool:=decide (p.key=k)
def Qi (l:List GP) (k:List UInt8):AV:=match l.find? (isK k)with
 |some n=>n.v.av
 |none=>V0.av
theorem Aq7 {l:List GP} {nn:Bool} (hl:l.length<2^63) {k:List UInt8}:Ag (Ac tab) 220 [.sl nn (vs GP.av l),.str k] (· =Qi l k):=by
 refine Ad rfl rfl ?_
 (conv=>whnf);repeat' (first|refine kA ?_;conv=>whnf|(apply Br.mk<;>intro hc<;>first|exact hc.elim|conv=>whnf)  |refine kB ?_)
 refine Af (fun m env s=>∃i:Nat,m=l.length-i∧(∀ x∈l.take i,isK k x=false)∧env=[(0,.sl nn (vs GP.av l)),(1,.str k),(4,.ref 0 0 0 0),(5,.int .i64 i)]∧s=⟨[.arr 0 5 true true [.agg [.int .i64 0,.int .i64 0,.int .i64 0,.str [],.sl false []]]],1⟩) ?_ _ _ _ ⟨0,rfl,by simp,rfl,rfl⟩
 rintro _ _ _ ⟨i,rfl,hx,rfl,rfl⟩
 refine⟨rfl,?_⟩
 (conv=>whnf);repeat' (first|refine kA ?_;conv=>whnf|(apply Br.mk<;>intro hc<;>first|exact hc.elim|conv=>whnf)  |refine kB ?_)
 ·rw[Qi,Pg (by omega) hx (decide_eq_true hc)];rfl
 ·exact again.mk ⟨_,by omega,i+1,rfl,Ph (by omega) hx (decide_eq_false hc),rfl,rfl⟩
 ·rw[CQ hc]at hx
  rw[Qi,Pj hx];rfl
theorem AsX:Ag (Ac tab) 246 [] (· =V0.av):=by
 refine Ad rfl rfl ?_
 (conv=>whnf);repeat' (first|refine kA ?_;conv=>whnf|(apply Br.mk<;>intro hc<;>first|exact hc.elim|conv=>whnf)  |refine kB ?_)
 rfl
theorem Ari {l:List GP} {nn:Bool} (hl:l.length<2^63) (hg:∀p∈l,p.ok∧GY 12 p.v.av) {k:List UInt8}:Ag (Ac tab) 185 [.sl nn (vs GP.av l),.str k] (· =Qi l k):=by
 refine Ad rfl rfl ?_
 (conv=>whnf);repeat' (first|refine kA ?_;conv=>whnf|(apply Br.mk<;>intro hc<;>first|exact hc.elim|conv=>whnf)  |refine kB ?_)
 refine Af (fun m env s=>∃i c:Nat,m=l.length-i∧(∀ x∈l.take i,isK k x=false)∧env=[(1,.str k),(4,.ref 0 0 0 0),(7,.sl nn (vs GP.av l)),(8,.int .i64 l.length),(9,.int .i64 i)]∧s=⟨[.arr 0 5 true true [.agg [.int .i64 0,.int .i64 0,.int .i64 0,.str [],.sl false []]]],c⟩) ?_ _ _ _ ⟨0,_,rfl,by simp,by rw[← lV (f:=GP.av) l];rfl,rfl⟩
 rintro _ _ _ ⟨i,c,rfl,hx,rfl,rfl⟩
 refine⟨rfl,?_⟩
 have ho:∀h:i<l.length,(l[i]).v.ok∧GY 12 (l[i]).v.av:=fun h=>⟨(hg _ (List.getElem_mem h)).1.2,(hg _ (List.getElem_mem h)).2⟩
 (conv=>whnf);repeat' (first|refine kA ?_;conv=>whnf|(apply Br.mk<;>intro hc<;>first|exact hc.elim|conv=>whnf)|((first|refine Aa (Xk 12 (g:=l[i].v) (ho (by omega)).1 (ho (by omega)).2) ?_|refine Aa AsX ?_);rintro _ rfl;conv=>whnf)|refine kB ?_)
 ·rw[Qi,Pg (by omega) hx (decide_eq_true hc)];rfl
 ·exact again.mk ⟨_,by omega,i+1,_,rfl,Ph (by omega) hx (decide_eq_false hc),rfl,rfl⟩
 ·rw[CQ hc]at hx
  rw[Qi,Pj hx];rfl
def Z0:GV:=⟨0,0,0,[],false,[]⟩
def DU (op id:Int) (name:List UInt8):GC:=⟨op,id,0,0,name,Z0⟩
def Zx (k:List UInt8) (p:GP):Bool:=decide (p.key=k)
def DX (l:List GP) (k:List UInt8):GV:=match l.find? (Zx k)with
 |some q=>q.v
 |none=>Z0
def Ci (x y:GE):Bool:=decide (¬ (x.fr=y.fr∧x.to=y.to∧x.ty=y.ty))
def BZ (E:List GE) (x:GE):Bool:=match E.find? (XI x.id)with
 |none=>true
 |some y=>Ci x y
def Ej (N:List GN) (n:GN):Bool:=(N.find? (X9 n.id)).isNone
def H8 (a b:GG):List GC:=(a.edges.filter (BZ b.edges)).map (fun x=>DU 7 x.id [])++(a.nodes.filter (Ej b.nodes)).map (fun n=>DU 2 n.id [])
def AQ (op id:Int) (l m:List (List UInt8)):List GC:=(l.filter fun x=>decide (x∉m)).map (DU op id)
noncomputable def valuesL (op id:Int) (a b:List GP):List GC:=(b.filter fun p=>decide (EL 12 (DX a p.key) p.v≠0)).map fun p=>⟨op,id,0,0,p.key,p.v⟩
def Fg (N:List GN) (n:GN):GN:=match N.find? (X9 n.id)with
 |some m=>m
 |none=>N0
noncomputable def H9 (N:List GN) (n:GN):List GC:=AQ 4 n.id (Fg N n).labels n.labels++(AQ 5 n.id (keysOf (Fg N n).props) (keysOf n.props)++(AQ 3 n.id n.labels (Fg N n).labels++valuesL 5 n.id (Fg N n).props n.props))
noncomputable def P7 (a b:GG):List GC:=(b.nodes.filter (Ej a.nodes)).map (fun n=>DU 1 n.id [])++b.nodes.flatMap (H9 a.nodes)
def KO (E:List GE) (x:GE):List GP:=match E.find? (XI x.id)with
 |none=>[]
 |some y=>if Ci x y=true then[]else y.props
noncomputable def D8 (E:List GE) (x:GE):List GC:=AQ 8 x.id (keysOf (KO E x)) (keysOf x.props)++valuesL 8 x.id (KO E x) x.props
def newE (x:GE):GC:=⟨6,x.id,x.fr,x.to,x.ty,Z0⟩
noncomputable def Ro (a b:GG):List GC:=(b.edges.filter (BZ a.edges)).map newE++b.edges.flatMap (D8 a.edges)
noncomputable def DT (a b:GG):List GC:=H8 a b++(P7 a b++Ro a b)
def cl (b:Bool) (x:AV):AV:=bif b then .agg [x]else x
theorem Dv (c:GC):c.av.cells.length=10:=rfl
theorem DK {α β:Type} {p:α→Bool} {f:α→β} {l:List α} {i:Nat} (h:i<l.length):((l.take (i+1)).filter p).map f=((l.take i).filter p).map f++if p l[i]=true then[f l[i]]else[]:=by
 rw[TM h,List.map_append]
 congr 1
 split<;>rfl
theorem Rq {α β:Type} {f:α→List β} {l:List α} {i:Nat} (h:i<l.length):(l.take (i+1)).flatMap f=(l.take i).flatMap f++f l[i]:=by
 rw[List.take_succ_eq_append_getElem h,List.flatMap_append];simp
structure CX (g:GG):Prop where
 ok:g.ok
 nn:g.nodes.length≤100
 en:g.edges.length≤100
 nodes:∀n∈g.nodes,n.ok∧n.labels.length≤8∧n.props.length≤16∧IK n.props∧allPlain n.props
 edges:∀e∈g.edges,e.ok∧e.props.length≤16∧IK e.props∧allPlain e.props
theorem Uu {L:List (List UInt8)} {P:List GP} (h:DV L P=0):L.length≤8∧P.length≤16∧allPlain P:=by
 by_cases h1:8<L.length∨16<P.length
 ·have:=PD h1;rw[h]at this;cases this
 by_cases h2:allNames L∧allNames (keysOf P)
 case neg=>have:=PE h1 h2;rw[h]at this;cases this
 by_cases h3:rises L∧rises (keysOf P)
 case neg=>have:=Md h1 h2 h3;rw[h]at this;cases this
 by_cases h4:allPlain P
 case neg=>have:=Vh h1 h2 h3 h4;rw[h]at this;cases this
 exact⟨by omega,by omega,h4⟩
theorem WC {g:GG} (hg:g.ok) (hs:SmG g 24 30) (h:AZ g=0):CX g:=by
 obtain⟨c1,c2,c3,c4⟩:=LU h
 have hg':=hg
 obtain⟨g1,g2,g3,g4,g5,g6,g7,g8⟩:=hg'
 have s1:=hs.1
 have s2:=hs.2.1
 refine⟨hg,by omega,by omega,fun x hx=>?_,fun x hx=>?_⟩
 ·obtain⟨s1,s2,s3⟩:=hs.2.2.1 x hx
  obtain⟨i,hi,e⟩:=List.mem_iff_getElem.1 hx
  have hp:=(KP hi (c3 i hi)).2.2.2
  rw[e]at hp
  obtain⟨p1,p2,p3⟩:=Uu hp
  exact⟨g3 x hx,p1,p2,⟨s3.1,fun p hp=>⟨(g3 x hx).2.2.2.2.2.2 p hp,(s3.2 p hp).2⟩⟩,p3⟩
 ·obtain⟨s1,s3⟩:=hs.2.2.2 x hx
  obtain⟨i,hi,e⟩:=List.mem_iff_getElem.1 hx
  have hp:=(MZ hi (c4 i hi)).2.2.2.2.2.2
  rw[e]at hp
  obtain⟨p1,p2,p3⟩:=Uu hp
  exact⟨g6 x hx,p2,⟨s3.1,fun p hp=>⟨(g6 x hx).2.2.2.2.2.2 p hp,(s3.2 p hp).2⟩⟩,p3⟩
theorem Ku:∀{d:Nat} {v:GV},GY d v.av→dep d v
 |0,_,h=>h.elim
 |d+1,v,h=>fun x hx=>by
  obtain⟨g,e,h1,_,_,h2⟩:=h
  have e2:v.l=g.l:=by
   have:=congrArg JO e
   rw[AdP,AdP]at this
   rw[this]
  rw[e2]at hx
  have h3:=h2 x hx
  cases d with
  |zero=>exact h3.elim
  |succ d=>
   have h4:=h3
   obtain⟨g',e',k1,_⟩:=h4
   exact⟨g',e',k1,Ku (e'▸h3)⟩
def UU (l:List GP) (i:Nat):List (List UInt8):=(keysOf l).take i++List.replicate (l.length-i) []
theorem AgZ {l:List GP} {i:Nat} (h:i≤l.length):(UU l i).length=l.length:=by unfold UU;simp;omega
theorem Afc {l:List GP} {i:Nat} (h:i<l.length):(UU l i).set i l[i].key=UU l (i+1):=by
 have h0:i<(keysOf l).length:=by simpa using h
 have h2:((keysOf l).take i).length=i:=by simp;omega
 unfold UU
 rw[List.set_append_right _ _ (by omega),h2,Nat.sub_self,show l.length-i=(l.length-(i+1))+1 by omega,List.replicate_succ,List.set_cons_zero,List.take_succ_eq_append_getElem h0,List.append_assoc]
 simp[keysOf]
theorem Ag0 {l:List GP}:UU l l.length=keysOf l:=by unfold UU;rw[Nat.sub_self,List.replicate_zero,List.append_nil];exact List.take_of_length_le (by simp)
theorem Ag1 {l:List GP}:vs AV.str (UU l 0)=List.replicate l.length (.str []):=by simp[UU,vs]
theorem AdQ:Z0.ok∧GY 12 Z0.av:=by
 have h0:Z0.ok:=⟨⟨by decide,by decide⟩,⟨by decide,by decide⟩,⟨by decide,by decide⟩,by unfold Ln;decide,by unfold Ln;decide,fun _=>rfl,fun x hx=>by cases hx⟩
 exact⟨h0,Z0,rfl,h0,by decide,by decide,fun x hx=>by cases hx⟩
theorem Qz {l:List GP} (hg:∀p∈l,p.ok∧GY 12 p.v.av) (k:List UInt8):(DX l k).ok∧GY 12 (DX l k).av:=by
 unfold DX
 cases h:l.find? (Zx k)with
 |none=>exact AdQ
 |some q=>exact⟨(hg q (List.mem_of_find?_eq_some h)).1.2,(hg q (List.mem_of_find?_eq_some h)).2⟩
theorem Aa2 {l:List GP} {k:List UInt8} (h:k∉keysOf l):DX l k=Z0:=by
 unfold DX
 cases e:l.find? (Zx k)with
 |none=>rfl
 |some q=>exact absurd (List.mem_map.2 ⟨q,List.mem_of_find?_eq_some e,of_decide_eq_true (show decide (q.key=k)=true from List.find?_some (p:=Zx k) e)⟩) h
theorem Akr {v:GV} (h:DW v):VV 8 v:=by
 obtain⟨h1,h2,h3⟩:=h
 refine .inl ⟨h2,?_⟩
 rcases h3 with⟨a,b,c⟩|⟨a,b,c⟩|⟨a,b,c⟩
 ·exact .inr (.inl ⟨a,c,h1,b⟩)
 ·exact .inr (.inr (.inl ⟨a,c,h1,b⟩))
 ·exact .inr (.inr (.inr (.inr (.inl ⟨a,b,h1,c⟩))))
theorem Aa3 {v:GV} (h:DW v):EL 12 Z0 v≠0:=by
 have h0:VV 8 Z0:=.inl ⟨rfl,.inl ⟨rfl,rfl,rfl,rfl⟩⟩
 have h1:Dq (EY Z0.k) (EY v.k)≠0:=by
  intro e
  rw[D6]at e
  have e0:EY Z0.k=0:=rfl
  rw[e0]at e
  unfold EY at e
  rcases h.2.2 with⟨a,_⟩|⟨a,_⟩|⟨a,_⟩<;>rw[a]at e<;>revert e<;>decide
 unfold EL
 rw[if_pos h0,if_pos (Akr h)]
 unfold Tz
 rw[show Eh (Dq (EY Z0.k) (EY v.k)) _=_ from if_neg h1]
 exact h1
def VU (k:Int):Int:=if k=0 then 0 else if k=1 then 1 else if k=2∨k=3 then 2 else if k=4 then 3 else if k=5 then 4 else if k=6 then 5 else if k=8 then 6 else 7
theorem AqY {k:Int}:VU k=0↔k=0:=by
 unfold VU
 constructor
 ·intro h
  repeat' split at h
  all_goals first|assumption|(exfalso;omega)
 ·intro h;rw[if_pos h]
theorem Tv {k:Int}:Ag (Ac tab) 157 [.int .i64 k] (· =.int .i64 (VU k)):=by
 refine Ad rfl rfl ?_
 (conv=>whnf);repeat' (first  |refine kA ?_;conv=>whnf|(apply Br.mk<;>intro hc<;>first|exact hc.elim|conv=>whnf)|refine kB ?_)
 all_goals first
  |rfl
  |(unfold VU;repeat' split
    all_goals first|rfl|(exfalso;omega))
theorem Aks {v:GV} (hv:v.ok) (hk:v.k=0) {n:Int}:Ag (Ac tab) 209 [v.av,.int .i64 n] (· =.bool (decide (isNull v))):=by
 have hl:=hv.2.2.2.2.1
 unfold Ln at hl
 refine Ad rfl rfl ?_
 (conv=>whnf);repeat' (first|(refine Bo (Aa4 (v:=v) (n:=false) (d:=false) (s:=false) (l:=false) hl) (fun hb=>?_) (fun hb=>?_)<;>conv=>whnf)|refine kA ?_;conv=>whnf|(apply Br.mk<;>intro hc<;>first|exact hc.elim|conv=>whnf)|refine kB ?_)
 ·unfold OD at hb
  exact Bh ⟨hk,hb.1.resolve_left (by decide),hb.2.1.resolve_left (by decide),hb.2.2.1.resolve_left (by decide),hb.2.2.2.resolve_left (by decide)⟩
 ·unfold OD at hb
  exact Ar fun h=>hb ⟨.inr h.2.1,.inr h.2.2.1,.inr h.2.2.2.1,.inr h.2.2.2.2⟩
theorem AdR {v:GV} (hv:v.ok):Ag (Ac tab) 153 [v.av] (fun w=>∃b,w=.bool b∧(isNull v→b=true)∧(b=true→v.k=0→isNull v)):=by
 by_cases hk:v.k=0
 ·refine Ad rfl rfl ?_
  (conv=>whnf);repeat' (first|(refine Bo (Aks hv hk) (fun hb=>?_) (fun hb=>?_)<;>conv=>whnf)|refine kA ?_;conv=>whnf|(apply Br.mk<;>intro hc<;>first|exact hc.elim|conv=>whnf)|refine kB ?_)
  ·exact⟨_,rfl,fun _=>rfl,fun _ _=>hb⟩
  ·exact⟨_,rfl,fun h=>absurd h hb,fun h=>Bool.noConfusion h⟩
 ·obtain⟨_,⟨b,rfl⟩,h⟩:=(Valid hv).IJ
  refine Ad rfl rfl ?_
  (conv=>whnf);repeat' (first|(refine Aa (valid (n:=8) (by omega) hv) ?_;rintro _ ⟨b,rfl⟩;conv=>whnf)|refine kA ?_;conv=>whnf|(apply Br.mk<;>intro hc<;>first|exact hc.elim|conv=>whnf)|refine kB ?_)
  all_goals exact⟨_,rfl,fun h=>absurd h.1 hk,fun _ h=>absurd h hk⟩
theorem AqZ {a b:Int}:Ag (Ac tab) 156 [.int .i64 a,.int .i64 b] (fun v=>∃z,v=.int .i64 z∧(z=0↔a=b)):=by
 refine Ad rfl rfl ?_
 (conv=>whnf);repeat' (first  |refine kA ?_;conv=>whnf|(apply Br.mk<;>intro hc<;>first|exact hc.elim|conv=>whnf)|refine kB ?_)
 all_goals exact⟨_,rfl,by omega⟩
theorem Akt {v:GV} (h:isNull v):Ag (Ac tab) 155 [v.av,XK.av] (· =.int .i64 0):=by
 obtain⟨k,n,d,s,nn,l⟩:=v
 obtain⟨h1,h2,h3,h4,h5⟩:=h
 dsimp only at h1 h2 h3 h4 h5
 subst h1 h2 h3 h4
 obtain rfl:l=[]:=List.eq_nil_of_length_eq_zero h5
 have hl:Ag (Ac tab) 211 [.sl nn [],.sl false []] (· =.int .i64 0):=by
  refine Ad rfl rfl ?_
  (conv=>whnf);repeat' (first  |refine kA ?_;conv=>whnf|(apply Br.mk<;>intro hc<;>first|exact hc.elim|conv=>whnf)|refine kB ?_)
  refine Af (fun m env s=>m=0∧env=[(0,.sl nn []),(1,.sl false []),(5,.int .i64 0)]∧s=⟨[],0⟩) ?_ _ _ _ ⟨rfl,rfl,rfl⟩
  rintro _ _ _ ⟨rfl,rfl,rfl⟩
  refine⟨rfl,?_⟩
  (conv=>whnf);repeat' (first|(refine Aa AmC ?_;rintro _ rfl;conv=>whnf)|refine kA ?_;conv=>whnf|(apply Br.mk<;>intro hc<;>first|exact hc.elim|conv=>whnf)|refine kB ?_)
  all_goals rfl
 refine Ad rfl rfl ?_
 (conv=>whnf);repeat' (first|((first|refine Aa AmC ?_|refine Aa Aq0 ?_|refine Aa hl ?_);rintro _ rfl;conv=>whnf)|refine kA ?_;conv=>whnf|(apply Br.mk<;>intro hc<;>first|exact hc.elim|conv=>whnf)|refine kB ?_)
 all_goals rfl
theorem AdS {g:GV} (hg:g.ok):Ag (Ac tab) 158 [g.av] (fun v=>∃n d b,v=.BG [.agg [.int .i64 n,.int .i64 d],.bool b]∧(b=true→g.k=2∨g.k=3)):=by
 refine Ad rfl rfl ?_
 (conv=>whnf);repeat' (first|(refine Aa (Valid hg) ?_;rintro _ ⟨b,rfl⟩;conv=>whnf)|refine kA ?_;conv=>whnf|(apply Br.mk<;>intro hc<;>first|exact hc.elim|conv=>whnf)|refine kB ?_)
 all_goals first|exact⟨_,_,_,rfl,fun h=>Bool.noConfusion h⟩|exact⟨_,_,_,rfl,fun _=>by omega⟩
theorem AuI:Ag (Ac tab) 154 [.bool false] (· =.int .i64 0):=by
 refine Ad rfl rfl ?_
 (conv=>whnf);repeat' (first  |refine kA ?_;conv=>whnf|(apply Br.mk<;>intro hc<;>first|exact hc.elim|conv=>whnf)|refine kB ?_)
 rfl
theorem Aku {v:GV} (hv:v.ok):Ag (Ac tab) 88 [v.av,XK.av] (fun w=>∃z,w=.int .i64 z∧(z=0↔isNull v)):=by
 obtain⟨_,⟨b,rfl,v1,v2⟩,hV⟩:=(AdR hv).IJ
 obtain⟨_,⟨b0,rfl,w1,_⟩,hV0⟩:=(AdR AcA).IJ
 obtain rfl:=w1 Aa5
 obtain⟨_,⟨n,d,b2,rfl,h2⟩,hN⟩:=(AdS hv).IJ
 obtain⟨_,⟨n0,d0,b3,rfl,h3⟩,hN0⟩:=(AdS AcA).IJ
 obtain⟨_,⟨z,rfl,hz⟩,hI⟩:=(AqZ (a:=VU v.k) (b:=VU XK.k)).IJ
 have h0:VU XK.k=0:=rfl
 have hzk:z=0↔v.k=0:=by rw[hz,h0];exact AqY
 cases b with
 |false=>
  have hnn:¬isNull v:=fun h=>by have:=v1 h;cases this
  refine Ad rfl rfl ?_
  (conv=>whnf);repeat' (first|((first|refine Aa hV ?_|refine Aa hV0 ?_|refine Aa AuI ?_);rintro _ rfl;conv=>whnf)|refine kA ?_;conv=>whnf|(apply Br.mk<;>intro hc<;>first|exact hc.elim|conv=>whnf)|refine kB ?_)
  all_goals exact⟨_,rfl,fun h=>absurd h (by decide),fun h=>absurd h hnn⟩
 |true=>
  by_cases hk:v.k=0
  ·have hnl:=v2 rfl hk
   have hz0:=hzk.2 hk
   have hb2:b2=false:=by cases b2 with
        |false=>rfl
        |true=>have:=h2 rfl;omega
   subst hb2
   refine Ad rfl rfl ?_
   (conv=>whnf);repeat' (first|((first|refine Aa hV ?_|refine Aa hV0 ?_|refine Aa (Tv (k:=v.k)) ?_|refine Aa (Tv (k:=XK.k)) ?_|refine Aa hI ?_|refine Aa hN ?_|refine Aa hN0 ?_|refine Aa (Akt hnl) ?_);rintro _ rfl;conv=>whnf)|refine kA ?_;conv=>whnf|(apply Br.mk<;>intro hc<;>first|exact hc.elim|conv=>whnf)|refine kB ?_)
   all_goals exact⟨_,rfl,fun _=>hnl,fun _=>rfl⟩
  ·have hz0:=mt hzk.1 hk
   refine Ad rfl rfl ?_
   (conv=>whnf);repeat' (first|((first|refine Aa hV ?_|refine Aa hV0 ?_|refine Aa (Tv (k:=v.k)) ?_|refine Aa (Tv (k:=XK.k)) ?_|refine Aa hI ?_);rintro _ rfl;conv=>whnf)|refine kA ?_;conv=>whnf|(apply Br.mk<;>intro hc<;>first|exact hc.elim|conv=>whnf)|refine kB ?_)
   all_goals exact⟨_,rfl,fun h=>absurd h hz0,fun h=>absurd h.1 hk⟩
section
open Go.Sort
theorem Ou {b:Int}:Eh 0 b=b:=if_pos rfl
theorem Acn {a b:Int} (h:a≠0):Eh a b=a:=if_neg h
def ElP (f:Nat) (c:AV→AV→Int) (x y:AV):Prop:=∃g h:GV,x=g.av∧y=h.av∧Ag (Ac tab) f [g.av,h.av] (· =.int .i64 (c x y))
theorem RJ {f:Nat} {c:AV→AV→Int} {l l':List AV} {nn nn':Bool} (hl:l.length<2^63) (hl':l'.length<2^63) (h0:∀i (h:i<l.length),∃g:GV,l[i]=g.av) (hel:∀i (h:i<l.length) (h':i<l'.length),ElP f c l[i] l'[i]):
 Ag (Ac tab) 245 [.sl nn l,.sl nn' l',.fn f []] (· =.int .i64 (Eu c l l')):=by
 refine Ad rfl rfl ?_
 (conv=>whnf);repeat' (first  |refine kA ?_;conv=>whnf|(apply Br.mk<;>intro hc<;>first|exact hc.elim|conv=>whnf)|refine kB ?_)
 refine Af (fun m env s=>∃i k:Nat,m=l.length-i∧i≤l.length∧i≤l'.length∧Eu c (l.drop i) (l'.drop i)=Eu c l l'∧env=[(0,.sl nn l),(1,.sl nn' l'),(2,.fn f []),(11,.sl nn l),(12,.int .i64 l.length),(13,.int .i64 i)]∧s=⟨[],k⟩) ?_ _ _ _ ⟨0,_,rfl,by omega,by omega,by simp,rfl,rfl⟩
 rintro _ _ _ ⟨i,k,rfl,hi,hj,hc0,rfl,rfl⟩
 refine⟨rfl,?_⟩
 by_cases hlt:i<l.length
 ·by_cases hly:i<l'.length
  ·rw[VT hlt hly]at hc0
   obtain⟨gx,gy,e1,e2,hp⟩:=hel i hlt hly
   have n1:nth l (Int.toNat (Nat.cast i))=some gx.av:=by rw[← e1];exact nRN hlt
   have n2:nth l' (Int.toNat (Nat.cast i))=some gy.av:=by rw[← e2];exact nRN hly
   generalize c l[i] l'[i]=z at*
   unfold Eh at hc0
   (conv=>whnf);repeat' (first|(apply Au;(· exact n1);conv=>whnf)|(apply Au;(· exact n2);conv=>whnf)|(refine Aa hp ?_;rintro _ rfl;conv=>whnf)|refine kA ?_;conv=>whnf|(apply Br.mk<;>intro hc<;>first|exact hc.elim|conv=>whnf)|refine kB ?_)
   all_goals first
        |(rw [if_neg (by assumption)]at hc0;rw[← hc0];rfl)
        |(rw [if_pos (by assumption)]at hc0;exact again.mk ⟨_,by omega,i+1,_,rfl,by omega,by omega,hc0,rfl,rfl⟩)
        |(exfalso;omega)
  ·have e2:l'.drop i=[]:=List.drop_eq_nil_of_le (by omega)
   obtain⟨gx,hx⟩:=h0 i hlt
   have n1:nth l (Int.toNat (Nat.cast i))=some gx.av:=by rw[← hx];exact nRN hlt
   rw[List.drop_eq_getElem_cons hlt,e2,Eu]at hc0
   (conv=>whnf);repeat' (first|(apply Au;(· exact n1);conv=>whnf)|refine kA ?_;conv=>whnf|(apply Br.mk<;>intro hc<;>first|exact hc.elim|conv=>whnf)|refine kB ?_)
   all_goals first|(rw [← hc0];rfl)|(exfalso;omega)
 ·have e1:l.drop i=[]:=List.drop_eq_nil_of_le (by omega)
  rw[e1]at hc0
  by_cases hly:i<l'.length
  ·rw[List.drop_eq_getElem_cons hly,Eu]at hc0
   (conv=>whnf);repeat' (first  |refine kA ?_;conv=>whnf|(apply Br.mk<;>intro hc<;>first|exact hc.elim|conv=>whnf)|refine kB ?_)
   all_goals first|(rw [← hc0];rfl)|(exfalso;omega)
  ·have e2:l'.drop i=[]:=List.drop_eq_nil_of_le (by omega)
   rw[e2,Eu]at hc0
   (conv=>whnf);repeat' (first  |refine kA ?_;conv=>whnf|(apply Br.mk<;>intro hc<;>first|exact hc.elim|conv=>whnf)|refine kB ?_)
   all_goals first|(rw [← hc0];rfl)|(exfalso;omega)
theorem okN {v:GV} (hv:v.ok):v.l.length<2^63:=hv.2.2.2.2.1
theorem U9 {g:GV} (h:TA g):pd g=dn g:=by
 have:=(Q7 h).1
 unfold pd;rw[if_neg (by omega)]
theorem AaI {k:Int}:EY k=2↔k=2∨k=3:=by unfold EY;split<;>(try split)<;>omega
theorem elemV {a g:GV} {i:Nat} (h:VV 8 a) (hi:i<a.l.length) (e:a.l[i]=g.av):VV 8 g:=by
 by_cases h7:a.k=7
 ·obtain⟨x,e1,_,x2⟩:=((Ae5 h7).1 h).2.2.2.2.2 i hi
  rw[e1]at e
  obtain rfl:=GV.TS e
  exact Ahr (m:=0) (by omega) (.inl x2)
 ·by_cases h8:a.k=8
  ·obtain⟨x,e1,x2⟩:=((Aj7 (m:=7) h8).1 h).2.2.2.2 i hi
   rw[e1]at e
   obtain rfl:=GV.TS e
   exact Ahr (m:=7) (by omega) x2
  ·rw[XO h7 h8]at h
   have:=h.1
   omega
theorem LC {m:Nat} {v:GV} {i:Nat} (h:dep (m+1) v) (hi:i<v.l.length):∃g:GV,v.l[i]=g.av∧g.ok∧dep m g:=h _ (List.getElem_mem hi)
theorem AuT {a b c:Int}:fnz [a,b,c]=Eh a (Eh b c):=by
 simp only[fnz];congr 1;congr 1;unfold Eh;split<;>omega
theorem AuU {a b c d e:Int}:fnz [a,b,c,d,e]=Eh a (Eh b (Eh c (Eh d e))):=by
 simp only[fnz];congr 1;congr 1;congr 1;congr 1;unfold Eh;split<;>omega
theorem AuV {a b c:Int}:Ag (Ac tab) 244 [.sl true [.int .i64 a,.int .i64 b,.int .i64 c]] (· =.int .i64 (Eh a (Eh b c))):=by
 have h:=orV (l:=[a,b,c]) (nn:=true) (by simp)
 rw[AuT]at h
 exact h
theorem AuW {a b c d e:Int}:Ag (Ac tab) 244 [.sl true [.int .i64 a,.int .i64 b,.int .i64 c,.int .i64 d,.int .i64 e]] (· =.int .i64 (Eh a (Eh b (Eh c (Eh d e))))):=by
 have h:=orV (l:=[a,b,c,d,e]) (nn:=true) (by simp)
 rw[AuU]at h
 exact h
theorem AuX {k k':Int}:Ag (Ac tab) 135 [.int .i64 (EY k),.int .i64 (EY k')] (· =.int .i64 (Dq (EY k) (EY k'))):=compare
theorem Ad5:∀(m:Nat) {a b:GV},a.ok→b.ok→dep m a→dep m b→VV 8 a→VV 8 b→Ag (Ac tab) 243 [a.av,b.av] (· =.int .i64 (Tz m a b))
 |0,a,b,ha,hb,da,db,va,vb=>absurd da id
 |m+1,a,b,ha,hb,da,db,va,vb=>by
  have k1:=TU (v:=a)
  have k2:=TU (v:=b)
  have k3:=AuX (k:=a.k) (k':=b.k)
  unfold Tz
  by_cases h0:Dq (EY a.k) (EY b.k)=0
  ·rw[h0,Ou]
   rw[h0]at k3
   have he:=D6.1 h0
   by_cases h2:EY a.k=2
   ·rw[if_pos h2]
    have na:TA a:=⟨va,AaI.1 h2⟩
    have nb:TA b:=⟨vb,AaI.1 (by omega)⟩
    have p1:=nP1 ha na
    have p2:=nP1 hb nb
    have p3:=AuY (Q7 na) (Q7 nb)
    unfold VW
    rw[U9 na,U9 nb]
    refine Ad rfl rfl ?_
    (conv=>whnf);repeat' (first|((first|refine Aa k1 ?_|refine Aa k2 ?_|refine Aa k3 ?_|refine Aa p1 ?_|refine Aa p2 ?_|refine Aa p3 ?_);rintro _ rfl;conv=>whnf)|refine kA ?_;conv=>whnf|(apply Br.mk<;>intro hc<;>first|exact hc.elim|conv=>whnf)|refine kB ?_)
    all_goals first|rfl|(exfalso;omega)
   ·rw[if_neg h2]
    have p1:=WV (x:=a.s) (y:=b.s)
    have p2:Ag (Ac tab) 135 [.int .i64 a.n,.int .i64 b.n] (· =.int .i64 (Dq a.n b.n)):=compare
    have p3:=RJ (f:=243) (c:=fun x y=>Tz m (JO x) (JO y)) (nn:=a.nn) (nn':=b.nn) (okN ha) (okN hb) (fun i hi=>by
      obtain⟨g,e,_⟩:=LC da hi
      exact⟨g,e⟩) (fun i hi hi'=>by
      obtain⟨g,e1,g1,g2⟩:=LC da hi
      obtain⟨h,e2,h1,h2⟩:=LC db hi'
      refine⟨g,h,e1,e2,?_⟩
      rw[e1,e2]
      exact Ad5 m g1 h1 g2 h2 (elemV va hi e1) (elemV vb hi' e2))
    have p4:=AuV (a:=cS a.s b.s) (b:=Dq a.n b.n) (c:=Eu (fun x y=>Tz m (JO x) (JO y)) a.l b.l)
    refine Ad rfl rfl ?_
    (conv=>whnf);repeat' (first|((first|refine Aa k1 ?_|refine Aa k2 ?_|refine Aa k3 ?_|refine Aa p1 ?_|refine Aa p2 ?_|refine Aa p3 ?_|refine Aa p4 ?_);rintro _ rfl;conv=>whnf)|refine kA ?_;conv=>whnf|(apply Br.mk<;>intro hc<;>first|exact hc.elim|conv=>whnf)|refine kB ?_)
    all_goals first|rfl|(exfalso;omega)
  ·rw[Acn h0]
   refine Ad rfl rfl ?_
   (conv=>whnf);repeat' (first|((first|refine Aa k1 ?_|refine Aa k2 ?_|refine Aa k3 ?_);rintro _ rfl;conv=>whnf)|refine kA ?_;conv=>whnf|(apply Br.mk<;>intro hc<;>first|exact hc.elim|conv=>whnf)|refine kB ?_)
   all_goals first|rfl|(exfalso;omega)
theorem Ad2:∀(m:Nat) {a b:GV},a.ok→b.ok→dep m a→dep m b→Ag (Ac tab) 184 [a.av,b.av] (· =.int .i64 (EL m a b))
 |0,a,b,ha,hb,da,db=>absurd da id
 |m+1,a,b,ha,hb,da,db=>by
  unfold EL
  by_cases va:VV 8 a
  ·have p1:=vP ha va
   rw[if_pos va]
   by_cases vb:VV 8 b
   ·have p2:=vP hb vb
    have p3:=Ad5 (m+1) ha hb da db va vb
    rw[if_pos vb]
    refine Ad rfl rfl ?_
    (conv=>whnf);repeat' (first|((first|refine Aa p1 ?_|refine Aa p2 ?_|refine Aa p3 ?_);rintro _ rfl;conv=>whnf)|refine kA ?_;conv=>whnf|(apply Br.mk<;>intro hc<;>first|exact hc.elim|conv=>whnf)|refine kB ?_)
    all_goals first|rfl
   ·have p2:=vPn hb vb
    rw[if_neg vb]
    refine Ad rfl rfl ?_
    (conv=>whnf);repeat' (first|((first|refine Aa p1 ?_|refine Aa p2 ?_);rintro _ rfl;conv=>whnf)|refine kA ?_;conv=>whnf|(apply Br.mk<;>intro hc<;>first|exact hc.elim|conv=>whnf)|refine kB ?_)
    all_goals first|rfl
  ·have p1:=vPn ha va
   rw[if_neg va]
   by_cases vb:VV 8 b
   ·have p2:=vP hb vb
    rw[if_pos vb]
    refine Ad rfl rfl ?_
    (conv=>whnf);repeat' (first|((first|refine Aa p1 ?_|refine Aa p2 ?_);rintro _ rfl;conv=>whnf)|refine kA ?_;conv=>whnf|(apply Br.mk<;>intro hc<;>first|exact hc.elim|conv=>whnf)|refine kB ?_)
    all_goals first|rfl
   ·have p2:=vPn hb vb
    rw[if_neg vb]
    have q1:Ag (Ac tab) 135 [.int .i64 a.k,.int .i64 b.k] (· =.int .i64 (Dq a.k b.k)):=compare
    have q2:Ag (Ac tab) 135 [.int .i64 a.n,.int .i64 b.n] (· =.int .i64 (Dq a.n b.n)):=compare
    have q3:Ag (Ac tab) 135 [.int .i64 a.d,.int .i64 b.d] (· =.int .i64 (Dq a.d b.d)):=compare
    have q4:=WV (x:=a.s) (y:=b.s)
    have q5:=RJ (f:=184) (c:=fun x y=>EL m (JO x) (JO y)) (nn:=a.nn) (nn':=b.nn) (okN ha) (okN hb) (fun i hi=>by
     obtain⟨g,e,_⟩:=LC da hi
     exact⟨g,e⟩) (fun i hi hi'=>by
     obtain⟨g,e1,g1,g2⟩:=LC da hi
     obtain⟨h,e2,h1,h2⟩:=LC db hi'
     refine⟨g,h,e1,e2,?_⟩
     rw[e1,e2]
     exact Ad2 m g1 h1 g2 h2)
    have q6:=AuW (a:=Dq a.k b.k) (b:=Dq a.n b.n) (c:=Dq a.d b.d) (d:=cS a.s b.s) (e:=Eu (fun x y=>EL m (JO x) (JO y)) a.l b.l)
    refine Ad rfl rfl ?_
    (conv=>whnf);repeat' (first|((first|refine Aa p1 ?_|refine Aa p2 ?_|refine Aa q1 ?_|refine Aa q2 ?_|refine Aa q3 ?_|refine Aa q4 ?_|refine Aa q5 ?_|refine Aa q6 ?_);rintro _ rfl;conv=>whnf)|refine kA ?_;conv=>whnf|(apply Br.mk<;>intro hc<;>first|exact hc.elim|conv=>whnf)|refine kB ?_)
    all_goals first|rfl
end
section
open Go.Sort
theorem VR {a b:Int}:Ag (Ac tab) 156 [.int .i64 a,.int .i64 b] (· =.int .i64 (Dq a b)):=by
 refine Ad rfl rfl ?_
 (conv=>whnf);repeat' (first  |refine kA ?_;conv=>whnf|(apply Br.mk<;>intro hc<;>first|exact hc.elim|conv=>whnf)|refine kB ?_)
 all_goals exact congrArg (AV.int .i64) (by unfold Dq;repeat' split
                                            all_goals omega)
theorem Ano {x y:List UInt8}:Ag (Ac tab) 210 [.str x,.str y] (· =.int .i64 (cS x y)):=by
 refine Ad rfl rfl ?_
 (conv=>whnf);repeat' (first  |refine kA ?_;conv=>whnf|(apply Br.mk<;>intro hc<;>first|exact hc.elim|conv=>whnf)|refine kB ?_)
 all_goals first|exact Amj hc|exact Amk (by assumption) hc|exact Aml hc
theorem AdF {c:AV→AV→Int} {l l':List AV} {nn nn':Bool} (hl:l.length<2^63) (hl':l'.length<2^63) (hel:∀i (h:i<l.length) (h':i<l'.length),ElP 88 c l[i] l'[i]):
 Ag (Ac tab) 211 [.sl nn l,.sl nn' l'] (· =.int .i64 (Eu c l l')):=by
 refine Ad rfl rfl ?_
 (conv=>whnf);repeat' (first  |refine kA ?_;conv=>whnf|(apply Br.mk<;>intro hc<;>first|exact hc.elim|conv=>whnf)|refine kB ?_)
 refine Af (fun m env s=>∃i k:Nat,m=l.length-i∧i≤l.length∧i≤l'.length∧Eu c (l.drop i) (l'.drop i)=Eu c l l'∧env=[(0,.sl nn l),(1,.sl nn' l'),(5,.int .i64 i)]∧s=⟨[],k⟩) ?_ _ _ _ ⟨0,_,rfl,by omega,by omega,by simp,rfl,rfl⟩
 rintro _ _ _ ⟨i,k,rfl,hi,hj,hc0,rfl,rfl⟩
 refine⟨rfl,?_⟩
 have hfin:(¬ i<l.length∨¬i<l'.length)→Dq l.length l'.length=Eu c l l':=fun h=>by
  rw[← hc0]
  by_cases h1:i<l.length
  ·have e2:l'.drop i=[]:=List.drop_eq_nil_of_le (by omega)
   rw[List.drop_eq_getElem_cons h1,e2,Eu]
   unfold Dq;repeat' split
   all_goals omega
  ·have e1:l.drop i=[]:=List.drop_eq_nil_of_le (by omega)
   rw[e1]
   by_cases h2:i<l'.length
   ·rw[List.drop_eq_getElem_cons h2,Eu]
    unfold Dq;repeat' split
    all_goals omega
   ·have e2:l'.drop i=[]:=List.drop_eq_nil_of_le (by omega)
    rw[e2,Eu]
    unfold Dq;repeat' split
    all_goals omega
 have hin:Ag (Ac tab) 156 [.int .i64 l.length,.int .i64 l'.length] (· =.int .i64 (Dq l.length l'.length)):=VR
 by_cases hlt:i<l.length
 ·by_cases hly:i<l'.length
  ·rw[VT hlt hly]at hc0
   obtain⟨gx,gy,e1,e2,hp⟩:=hel i hlt hly
   have n1:nth l (Int.toNat (Nat.cast i))=some gx.av:=by rw[← e1];exact nRN hlt
   have n2:nth l' (Int.toNat (Nat.cast i))=some gy.av:=by rw[← e2];exact nRN hly
   generalize c l[i] l'[i]=z at*
   unfold Eh at hc0
   clear hfin hin
   (conv=>whnf);repeat' (first|(apply Au;(· exact n1);conv=>whnf)|(apply Au;(· exact n2);conv=>whnf)|(refine Aa hp ?_;rintro _ rfl;conv=>whnf)|refine kA ?_;conv=>whnf|(apply Br.mk<;>intro hc<;>first|exact hc.elim|conv=>whnf)|refine kB ?_)
   all_goals first
        |(rw [if_neg (by assumption)]at hc0;rw[← hc0];rfl)
        |(rw [if_pos (by assumption)]at hc0;exact again.mk ⟨_,by omega,i+1,_,rfl,by omega,by omega,hc0,rfl,rfl⟩)
        |(exfalso;omega)
  ·rw[hfin (.inr hly)]at hin
   (conv=>whnf);repeat' (first|(refine Aa hin ?_;rintro _ rfl;conv=>whnf)|refine kA ?_;conv=>whnf|(apply Br.mk<;>intro hc<;>first|exact hc.elim|conv=>whnf)|refine kB ?_)
   all_goals first|rfl|(exfalso;omega)
 ·rw[hfin (.inl hlt)]at hin
  (conv=>whnf);repeat' (first|(refine Aa hin ?_;rintro _ rfl;conv=>whnf)|refine kA ?_;conv=>whnf|(apply Br.mk<;>intro hc<;>first|exact hc.elim|conv=>whnf)|refine kB ?_)
  all_goals first|rfl|(exfalso;omega)
theorem AaH {a b:GV} {L:Int} (hL:Ag (Ac tab) 211 [.sl a.nn a.l,.sl b.nn b.l] (· =.int .i64 L)):
 Ag (Ac tab) 155 [a.av,b.av] (· =.int .i64 (Eh (Dq a.k b.k) (Eh (Dq a.n b.n) (Eh (Dq a.d b.d) (Eh (cS a.s b.s) L))))):=by
 have q1:Ag (Ac tab) 156 [.int .i64 a.k,.int .i64 b.k] (· =.int .i64 (Dq a.k b.k)):=VR
 have q2:Ag (Ac tab) 156 [.int .i64 a.n,.int .i64 b.n] (· =.int .i64 (Dq a.n b.n)):=VR
 have q3:Ag (Ac tab) 156 [.int .i64 a.d,.int .i64 b.d] (· =.int .i64 (Dq a.d b.d)):=VR
 have q4:=Ano (x:=a.s) (y:=b.s)
 generalize Dq a.k b.k=z1 at*
 generalize Dq a.n b.n=z2 at*
 generalize Dq a.d b.d=z3 at*
 generalize cS a.s b.s=z4 at*
 have e:∀x y:Int,x=y→AV.int .i64 x=.int .i64 y:=fun x y h=>by rw[h]
 refine Ad rfl rfl ?_
 (conv=>whnf);repeat' (first|((first|refine Aa q1 ?_|refine Aa q2 ?_|refine Aa q3 ?_|refine Aa q4 ?_|refine Aa hL ?_);rintro _ rfl;conv=>whnf)|refine kA ?_;conv=>whnf|(apply Br.mk<;>intro hc<;>first|exact hc.elim|conv=>whnf)|refine kB ?_)
 all_goals first
  |exact e _ _ (by rw[Acn (by assumption)])
  |exact e _ _ (by unfold Eh;repeat' split
                   all_goals omega)
theorem Q5 {a:GV} (h:VV 8 a):0≤a.k∧a.k≤8:=by
 by_cases h7:a.k=7
 ·omega
 ·by_cases h8:a.k=8
  ·omega
  ·rw[XO h7 h8]at h
   obtain⟨_,h⟩:=h
   omega
theorem Aj6 {k k':Int} (h:0≤k∧k≤8) (h':0≤k'∧k'≤8):Dq (VU k) (VU k')=Dq (EY k) (EY k'):=by
 have h1:k=0∨k=1∨k=2∨k=3∨k=4∨k=5∨k=6∨k=7∨k=8:=by omega
 have h2:k'=0∨k'=1∨k'=2∨k'=3∨k'=4∨k'=5∨k'=6∨k'=7∨k'=8:=by omega
 rcases h1 with rfl|rfl|rfl|rfl|rfl|rfl|rfl|rfl|rfl<;>rcases h2 with rfl|rfl|rfl|rfl|rfl|rfl|rfl|rfl|rfl<;>decide
theorem AgA {a:GV} (h:VV 8 a) (h2:¬EY a.k=2):a.d=0∧(a.k=4→a.n=0)∧(a.k≠4→a.s=[]):=by
 rw[AaI]at h2
 by_cases h7:a.k=7
 ·have:=(Ae5 h7).1 h
  exact⟨this.2.1,fun h=>by omega,fun _=>this.2.2.1⟩
 ·by_cases h8:a.k=8
  ·have:=(Aj7 (m:=7) h8).1 h
   exact⟨this.2.1,fun h=>by omega,fun _=>this.2.2.1⟩
  ·obtain⟨k1,k2⟩:=Aqv h h7 h8
   rw[XO h7 h8]at h
   obtain⟨_,h⟩:=h
   refine⟨?_,k1,k2⟩
   rcases h with h|h|h|h|h|h<;>first|exact h.2.2.1|exact h.2.2.2.1|(exfalso;omega)
set_option maxHeartbeats 1000000 in
theorem U8:∀(m:Nat) {a b:GV},a.ok→b.ok→dep m a→dep m b→Ag (Ac tab) 88 [a.av,b.av] (· =.int .i64 (EL m a b))
 |0,a,b,ha,hb,da,db=>absurd da id
 |m+1,a,b,ha,hb,da,db=>by
  unfold EL
  by_cases va:VV 8 a
  ·have p1:=vR ha va
   rw[if_pos va]
   by_cases vb:VV 8 b
   ·have p2:=vR hb vb
    rw[if_pos vb]
    have k1:=Tv (k:=a.k)
    have k2:=Tv (k:=b.k)
    have k3:Ag (Ac tab) 156 [.int .i64 (VU a.k),.int .i64 (VU b.k)] (· =.int .i64 (Dq (EY a.k) (EY b.k))):=by
     rw[← Aj6 (Q5 va) (Q5 vb)];exact VR
    unfold Tz
    by_cases h0:Dq (EY a.k) (EY b.k)=0
    ·rw[h0,Ou]
     rw[h0]at k3
     have he:=D6.1 h0
     by_cases h2:EY a.k=2
     ·rw[if_pos h2]
      have na:TA a:=⟨va,AaI.1 h2⟩
      have nb:TA b:=⟨vb,AaI.1 (by omega)⟩
      have q1:=nR1 ha na
      have q2:=nR1 hb nb
      have q3:=Aqw (Q7 na) (Q7 nb)
      unfold VW
      rw[U9 na,U9 nb]
      refine Ad rfl rfl ?_
      (conv=>whnf);repeat' (first|((first|refine Aa p1 ?_|refine Aa p2 ?_|refine Aa k1 ?_|refine Aa k2 ?_|refine Aa k3 ?_|refine Aa q1 ?_|refine Aa q2 ?_|refine Aa q3 ?_);rintro _ rfl;conv=>whnf)|refine kA ?_;conv=>whnf|(apply Br.mk<;>intro hc<;>first|exact hc.elim|conv=>whnf)|refine kB ?_)
      all_goals first|rfl|(exfalso;omega)
     ·rw[if_neg h2]
      have na:¬TA a:=fun h=>h2 (AaI.2 h.2)
      have nb:¬TA b:=fun h=>h2 (by rw[he];exact AaI.2 h.2)
      have q1:=nR0 ha na
      have q2:=nR0 hb nb
      have hkk:a.k=b.k:=by
        have:=Q5 va
        have:=Q5 vb
        rw[AaI]at h2
        unfold EY at he
        repeat' split at he
        all_goals omega
      obtain⟨f1,f2,f3⟩:=AgA va h2
      obtain⟨g1,g2,g3⟩:=AgA vb (by rw[← he];exact h2)
      have q3:=AaH (a:=a) (b:=b) (AdF (c:=fun x y=>Tz m (JO x) (JO y)) (nn:=a.nn) (nn':=b.nn) (okN ha) (okN hb) (fun i hi hi'=>by
        obtain⟨g,e1,g1,g2⟩:=LC da hi
        obtain⟨h,e2,h1,h2⟩:=LC db hi'
        refine⟨g,h,e1,e2,?_⟩
        rw[e1,e2]
        have:=U8 m g1 h1 g2 h2
        have e:EL m g h=Tz m g h:=by
         cases m with
         |zero=>exact absurd g2 id
         |succ m=>unfold EL;rw[if_pos (elemV va hi e1),if_pos (elemV vb hi' e2)]
        rw[e]at this
        exact this))
      have e:Eh (Dq a.k b.k) (Eh (Dq a.n b.n) (Eh (Dq a.d b.d) (Eh (cS a.s b.s) (Eu (fun x y=>Tz m (JO x) (JO y)) a.l b.l))))=Eh (cS a.s b.s) (Eh (Dq a.n b.n) (Eu (fun x y=>Tz m (JO x) (JO y)) a.l b.l)):=by
        rw[D6.2 hkk,Ou,f1,g1,D6.2 rfl,Ou]
        by_cases h4:a.k=4
        ·rw[f2 h4,g2 (by omega),D6.2 rfl,Ou,Ou]
        ·rw[f3 h4,g3 (by omega),Va.2 rfl,Ou,Ou]
      rw[e]at q3
      refine Ad rfl rfl ?_
      (conv=>whnf);repeat' (first|((first|refine Aa p1 ?_|refine Aa p2 ?_|refine Aa k1 ?_|refine Aa k2 ?_|refine Aa k3 ?_|refine Aa q1 ?_|refine Aa q2 ?_|refine Aa q3 ?_);rintro _ rfl;conv=>whnf)|refine kA ?_;conv=>whnf|(apply Br.mk<;>intro hc<;>first|exact hc.elim|conv=>whnf)|refine kB ?_)
      all_goals first|rfl|(exfalso;omega)
    ·rw[Acn h0]
     refine Ad rfl rfl ?_
     (conv=>whnf);repeat' (first|((first|refine Aa p1 ?_|refine Aa p2 ?_|refine Aa k1 ?_|refine Aa k2 ?_|refine Aa k3 ?_);rintro _ rfl;conv=>whnf)|refine kA ?_;conv=>whnf|(apply Br.mk<;>intro hc<;>first|exact hc.elim|conv=>whnf)|refine kB ?_)
     all_goals first|rfl|(exfalso;omega)
   ·have p2:=vRn hb vb
    rw[if_neg vb]
    refine Ad rfl rfl ?_
    (conv=>whnf);repeat' (first|((first|refine Aa p1 ?_|refine Aa p2 ?_|refine Aa Aqx ?_|refine Aa Amm ?_);rintro _ rfl;conv=>whnf)|refine kA ?_;conv=>whnf|(apply Br.mk<;>intro hc<;>first|exact hc.elim|conv=>whnf)|refine kB ?_)
    all_goals first|rfl|(exfalso;simp_all;done)
  ·have p1:=vRn ha va
   rw[if_neg va]
   by_cases vb:VV 8 b
   ·have p2:=vR hb vb
    rw[if_pos vb]
    refine Ad rfl rfl ?_
    (conv=>whnf);repeat' (first|((first|refine Aa p1 ?_|refine Aa p2 ?_|refine Aa Aqx ?_|refine Aa Amm ?_);rintro _ rfl;conv=>whnf)|refine kA ?_;conv=>whnf|(apply Br.mk<;>intro hc<;>first|exact hc.elim|conv=>whnf)|refine kB ?_)
    all_goals first|rfl|(exfalso;simp_all;done)
   ·have p2:=vRn hb vb
    rw[if_neg vb]
    have q3:=AaH (a:=a) (b:=b) (AdF (c:=fun x y=>EL m (JO x) (JO y)) (nn:=a.nn) (nn':=b.nn) (okN ha) (okN hb) (fun i hi hi'=>by
     obtain⟨g,e1,g1,g2⟩:=LC da hi
     obtain⟨h,e2,h1,h2⟩:=LC db hi'
     refine⟨g,h,e1,e2,?_⟩
     rw[e1,e2]
     exact U8 m g1 h1 g2 h2))
    refine Ad rfl rfl ?_
    (conv=>whnf);repeat' (first|((first|refine Aa p1 ?_|refine Aa p2 ?_|refine Aa q3 ?_);rintro _ rfl;conv=>whnf)|refine kA ?_;conv=>whnf|(apply Br.mk<;>intro hc<;>first|exact hc.elim|conv=>whnf)|refine kB ?_)
    all_goals first|rfl|(exfalso;simp_all;done)
end
def QI {α:Type} (R:α→α→Prop) (l m:List α):Prop:=l.length=m.length∧∀k (h:k<l.length) (h':k<m.length),R l[k] m[k]
noncomputable instance {α:Type} (R:α→α→Prop) (l m:List α):Decidable (QI R l m):=Classical.propDecidable _
section
variable {α:Type} {R:α→α→Prop} {l m:List α} {i:Nat}
end
def SP (x y:GP):Prop:=x.key=y.key∧EL 12 x.v y.v=0
def SN (x y:GN):Prop:=x.id=y.id∧x.labels=y.labels∧QI SP x.props y.props
def SE (x y:GE):Prop:=x.id=y.id∧x.fr=y.fr∧x.to=y.to∧x.ty=y.ty∧QI SP x.props y.props
def SG (a b:GG):Prop:=QI SN a.nodes b.nodes∧QI SE a.edges b.edges
noncomputable instance (x y:GP):Decidable (SP x y):=Classical.propDecidable _
noncomputable instance (x y:GN):Decidable (SN x y):=Classical.propDecidable _
noncomputable instance (x y:GE):Decidable (SE x y):=Classical.propDecidable _
noncomputable instance (x y:GG):Decidable (SG x y):=Classical.propDecidable _
def Ld (v:GV):Prop:=v.ok∧GY 12 v.av
def AbD (l:List GP):Prop:=l.length≤4000∧∀p∈l,Ld p.v
def AmW (n:GN):Prop:=n.labels.length≤4000∧AbD n.props
def RX (g:GG):Prop:=g.nodes.length≤4000∧g.edges.length≤4000∧(∀ n∈g.nodes,AmW n)∧∀e∈g.edges,AbD e.props
theorem ZF {g:GG} (hg:g.ok) (hs:SmG g 24 30):RX g:=by
 have h1:=hs.1
 have h2:=hs.2.1
 refine⟨by omega,by omega,fun n hn=>⟨by have:=(hs.2.2.1 n hn).1;omega,by have:=(hs.2.2.1 n hn).2.2.1;omega,fun p hp=>⟨((hg.2.2.1 n hn).2.2.2.2.2.2 p hp).2,((hs.2.2.1 n hn).2.2.2 p hp).2⟩⟩,fun e he=>⟨by have:=(hs.2.2.2 e he).2.1;omega,fun p hp=>⟨((hg.2.2.2.2.2.1 e he).2.2.2.2.2.2 p hp).2,((hs.2.2.2 e he).2.2 p hp).2⟩⟩⟩
theorem Arf {a b:GV} (ha:Ld a) (hb:Ld b):Ag (Ac tab) 88 [a.av,b.av] (· =.int .i64 (EL 12 a b)):=U8 12 ha.1 hb.1 (Ku ha.2) (Ku hb.2)
end AI
end Go.Proofs.YthnehejdkajjhaaGreatDoor
