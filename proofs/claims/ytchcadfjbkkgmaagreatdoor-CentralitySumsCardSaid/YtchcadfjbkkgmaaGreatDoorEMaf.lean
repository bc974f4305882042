/- Comparing two numbers. Looking for a node among increasing ids. graph.Check: the first error of a graph. graph.Check, walked. Components as data: lists of labels, and a forest of sets whose representatives are their least elements. Plain. Lists of labels: Find, Join (both), Same. The reference's triangles: who is joined, the table, who is near. The reference's Steps outwards: to whom they lead. Sorting in place: lists of a store against arrays of the library's plain sort. math/bits.Len and the next power of two. Orders: lexicographic, of numbers, of strings; the first that is not 0. -/
import Derived.Test.YtchcadfjbkkgmaaGreatDoorEGrCode
import Derived.Test.YtchcadfjbkkgmaaGreatDoorEMaa
import Derived.Test.YtchcadfjbkkgmaaGreatDoorECk3
import GoSem.Dispatch
import Derived.Test.YtchcadfjbkkgmaaGreatDoorEMae
import Derived.Sort.AssemblyPlain
set_option linter.unusedVariables false
set_option maxRecDepth 4000
namespace Go.Proofs.YtchcadfjbkkgmaaGreatDoor
namespace AI
theorem nan {x:Int}:Ah (Ac tab) 106 [.int .i64 x] (· =.bool (decide False)):=by
 refine Ae rfl rfl ?_
 (conv=>whnf);repeat' (first  |(refine kA ?_;conv=>whnf)|(refine Br.mk (fun hc=>?_) fun hc=>?_<;>first|exact hc.elim|conv=>whnf)|(refine kB ?_))
 all_goals first|exact absurd rfl hc|rfl
def MR (x y:Int):Int:=if x<y then -1 else if y<x then 1 else 0
theorem compare {x y:Int}:Ah (Ac tab) 101 [.int .i64 x,.int .i64 y] (· =.int .i64 (MR x y)):=by
 refine Ae rfl rfl ?_
 (conv=>whnf);repeat' (first|(refine CU nan (fun hc=>absurd hc id) (fun _=>?_);conv=>whnf)|(refine kA ?_;conv=>whnf)|(refine Br.mk (fun hc=>?_) fun hc=>?_<;>first|exact hc.elim|conv=>whnf)|(refine kB ?_))
 all_goals unfold MR;first|(rw [if_pos (by omega)];rfl)|(rw [if_neg (by omega),if_pos (by omega)];rfl)|(rw [if_neg (by omega),if_neg (by omega)];rfl)
theorem Ov {x y:Int}:MR x y<0↔x<y:=by unfold MR;split<;>(try split)<;>omega
theorem Me {x y:Int}:MR x y=0↔x=y:=by unfold MR;split<;>(try split)<;>omega
def incr (l:List Int):Prop:=∀j (h:j+1<l.length),l[j]<l[j+1]
noncomputable instance (l:List Int):Decidable (incr l):=Classical.propDecidable _
theorem Aab {l:List Int} (h:incr l) {i:Nat}:∀d (hd:i+d+1<l.length),l[i]<l[i+d+1]
 |0,hd=>h i hd
 |d+1,hd=>Int.lt_trans (Aab h d (by omega)) (h (i+d+1) hd)
theorem Abb {l:List Int} (h:incr l) {i j:Nat} (hij:i<j) (hj:j<l.length):l[i]<l[j]:=by
 obtain⟨d,rfl⟩:∃d,j=i+d+1:=⟨j-i-1,by omega⟩
 exact Aab h d hj
def Gn (N:List GN):List Int:=N.map GN.id
def Ai3 (E:List GE):List Int:=E.map GE.id
@[simp] theorem Ai4 (N:List GN):(Gn N).length=N.length:=by simp[Gn]
@[simp] theorem Ai5 (N:List GE):(Ai3 N).length=N.length:=by simp[Ai3]
theorem Md {N:List GN} {i:Nat} (h:i<N.length):(Gn N)[i]'(by simpa using h)=(N[i]).id:=by simp[Gn]
theorem YR {N:List GN} (h:incr (Gn N)) {i j:Nat} (hij:i<j) (hj:j<N.length):(N[i]).id<(N[j]).id:=by
 have:=Abb h hij (by simpa using hj)
 rwa [Md (by omega),Md hj]at this
theorem Ali {n:GN} {x:Int}:Ah (Ac tab) 100 [n.av,.int .i64 x] (· =.int .i64 (MR n.id x)):=by
 refine Ae rfl rfl ?_
 (conv=>whnf);repeat' (first|(refine kA ?_;conv=>whnf)|(refine Br.mk (fun hc=>?_) fun hc=>?_<;>first|exact hc.elim|conv=>whnf)|(refine Aa compare ?_;rintro _ rfl;conv=>whnf)|(refine kB ?_))
 rfl
theorem bsearch {N:List GN} {nn:Bool} {x:Int} (hN:N.length<2^62) (hi:incr (Gn N)):Ah (Ac tab) 99 [.sl nn (vs GN.av N),.int .i64 x,.fn 100 []] (fun v=>∃z b,v=.CP [.int .i64 z,.bool b]∧(b=true↔x∈Gn N)):=by
 have fin:∀i:Nat,i≤N.length→(∀ k (h:k<N.length),k<i→(N[k]).id<x)→(∀ k (h:k<N.length),i≤k→x≤(N[k]).id)→(x∈Gn N↔∃h:i<N.length,(N[i]).id=x):=by
  intro i h0 h1 h2
  constructor
  ·intro h
   obtain⟨k,hk,e⟩:=List.getElem_of_mem h
   have hk':k<N.length:=by simpa using hk
   rw[Md hk']at e
   have a1:=h1 k hk'
   have:i≤k:=by
        rcases Nat.lt_or_ge k i with h|h
        ·have:=a1 h;omega
        ·exact h
   rcases Nat.lt_or_ge i k with h|h
   ·have:=YR hi h hk'
    have:=h2 i (by omega) (Nat.le_refl _)
    omega
   ·obtain rfl:i=k:=by omega
    exact⟨hk',e⟩
  ·rintro⟨h,e⟩
   rw[← e,←Md h]
   exact List.getElem_mem _
 refine Ae rfl rfl ?_
 (conv=>whnf);repeat' (first|(refine kA ?_;conv=>whnf)|(refine Br.mk (fun hc=>?_) fun hc=>?_<;>first|exact hc.elim|conv=>whnf)  |(refine kB ?_))
 refine Aj (fun m env s=>∃(i j:Nat),m=j-i∧i≤j∧j≤N.length∧env=[(0,.sl nn (vs GN.av N)),(1,.int .i64 x),(2,.fn 100 []),(8,.int .i64 N.length),(9,.int .i64 i),(10,.int .i64 j)]∧s=⟨[],0⟩∧
  (∀ k (h:k<N.length),k<i→(N[k]).id<x)∧(∀ k (h:k<N.length),j≤k→x≤(N[k]).id)) ?_ _ _ _ ⟨0,N.length,rfl,by omega,by omega,by simp,rfl,fun k _ h=>absurd h (by omega),fun k h1 h=>absurd h (by omega)⟩
 rintro _ _ _ ⟨i,j,rfl,hij,hj,rfl,rfl,h1,h2⟩
 refine⟨rfl,?_⟩
 (conv=>whnf);repeat' (first|(refine Agf (i+j) (by omega) (by omega) ?_;conv=>whnf)|(apply A8;(· exact Ai6 _);conv=>whnf)|(refine Aa Ali ?_;rintro _ rfl;conv=>whnf)|(refine kA ?_;conv=>whnf)|(refine Br.mk (fun hc=>?_) fun hc=>?_<;>first|exact hc.elim|conv=>whnf)|(refine kB ?_))
 ·have hm:=Ov.1 hc
  exact again.mk ⟨_,by omega,(i+j) / 2+1,j,rfl,by omega,hj,rfl,rfl,fun k hk hlt=>by
   rcases Nat.lt_or_ge k ((i+j) / 2)with h|h
   ·exact Int.lt_trans (YR hi h (by omega)) hm
   ·obtain rfl:k=(i+j) / 2:=by omega
    exact hm,h2⟩
 ·have hm:=mt Ov.2 hc
  exact again.mk ⟨_,by omega,i,(i+j) / 2,rfl,by omega,by omega,rfl,rfl,h1,fun k hk hle=>by
   rcases Nat.lt_or_ge ((i+j) / 2) k with h|h
   ·have:=YR hi h hk;omega
   ·obtain rfl:k=(i+j) / 2:=by omega
    omega⟩
 all_goals have hf:=fin i (by omega) h1 (fun k hk h=>h2 k hk (by omega))
 ·exact⟨_,_,rfl,fun _=>hf.2 ⟨by omega,Me.1 hc⟩,fun _=>rfl⟩
 ·exact⟨_,_,rfl,fun h=>(Bool.noConfusion h),fun h=>absurd (Me.2 (hf.1 h).2) hc⟩
 ·exact⟨_,_,rfl,fun h=>(Bool.noConfusion h),fun h=>absurd (hf.1 h).1 (by omega)⟩
theorem Ala {N:List GN} {nn:Bool} {x:Int} (hN:N.length<2^62) (hi:incr (Gn N)):Ah (Ac tab) 61 [.sl nn (vs GN.av N),.int .i64 x] (· =.bool (decide (x∈Gn N))):=by
 refine Ae rfl rfl ?_
 (conv=>whnf);repeat' (first|(refine kA ?_;conv=>whnf)|(refine Br.mk (fun hc=>?_) fun hc=>?_<;>first|exact hc.elim|conv=>whnf)  |(refine kB ?_))
 refine Aa (bsearch hN hi) ?_
 rintro _ ⟨z,b,rfl,hb⟩
 (conv=>whnf);repeat' (first|(refine kA ?_;conv=>whnf)|(refine Br.mk (fun hc=>?_) fun hc=>?_<;>first|exact hc.elim|conv=>whnf)  |(refine kB ?_))
 ·exact BP (hb.1 hc)
 ·exact Bf fun h=>by rw[hb.2 h]at hc;cases hc
def I9 (f:Nat→Int):Nat→Int
 |0=>0
 |n+1=>if I9 f n=0 then f n else I9 f n
theorem D5 {f:Nat→Int}:∀{n:Nat},I9 f n=0↔∀k,k<n→f k=0
 |0=>by simp[I9]
 |n+1=>by
  unfold I9
  split
  ·rename_i h
   have:=D5.1 h
   refine⟨fun h0 k hk=>?_,fun h0=>h0 n (by omega)⟩
   rcases Nat.lt_or_ge k n with h1|h1
   ·exact this k h1
   ·obtain rfl:k=n:=by omega
    exact h0
  ·rename_i h
   exact⟨fun h0=>absurd h0 h,fun h0=>absurd (D5.2 fun k hk=>h0 k (by omega)) h⟩
theorem Qe {f:Nat→Int} {i:Nat} (h:∀k,k<i→f k=0) (hi:f i≠0):∀{n:Nat},i<n→I9 f n=f i
 |0,hn=>absurd hn (by omega)
 |n+1,hn=>by
  unfold I9
  rcases Nat.lt_or_ge i n with h1|h1
  ·rw[Qe h hi h1,if_neg hi]
  ·obtain rfl:i=n:=by omega
   rw[if_pos (D5.2 h)]
noncomputable def EZ (N:List GN) (nx:Int) (i:Nat):Int:=
 match N[i]? with
 |none=>0
 |some n=>if 0<i∧(∃ m,N[i-1]?=some m∧n.id≤m.id)then 26 else if n.id<1∨nx≤n.id then 1 else DC n.labels n.props
noncomputable def Fg (N:List GN) (E:List GE) (nx:Int) (i:Nat):Int:=
 match E[i]? with
 |none=>0
 |some e=>if 0<i∧(∃ m,E[i-1]?=some m∧e.id≤m.id)then 26 else if e.id<1∨nx≤e.id then 1 else if¬(e.fr∈Gn N∧e.to∈Gn N)then 10 else if¬isName e.ty then 6 else DC [] e.props
theorem YI {N:List GN} {nx:Int} {i:Nat} (h:i<N.length) (h0:0<i) (h1:(N[i]).id≤(N[i-1]).id):EZ N nx i=26:=by
 unfold EZ;rw[List.getElem?_eq_getElem h];exact if_pos ⟨h0,_,List.getElem?_eq_getElem (by omega),h1⟩
theorem AaW {N:List GN} {i:Nat} (h:i<N.length) (h1:0<i→¬(N[i]).id≤(N[i-1]).id):¬(0<i∧∃m,N[i-1]?=some m∧(N[i]).id≤m.id):=by
 rintro⟨a,m,b,c⟩;rw[List.getElem?_eq_getElem (by omega)]at b;rw[← Option.some.inj b]at c;exact h1 a c
theorem node1 {N:List GN} {nx:Int} {i:Nat} (h:i<N.length) (h1:0<i→¬(N[i]).id≤(N[i-1]).id) (h2:(N[i]).id<1∨nx≤(N[i]).id):EZ N nx i=1:=by
 unfold EZ;rw[List.getElem?_eq_getElem h];dsimp only;rw[if_neg (AaW h h1),if_pos h2]
theorem Z9 {N:List GN} {nx:Int} {i:Nat} (h:i<N.length) (h1:0<i→¬(N[i]).id≤(N[i-1]).id) (h2:¬((N[i]).id<1∨nx≤(N[i]).id)):EZ N nx i=DC (N[i]).labels (N[i]).props:=by
 unfold EZ;rw[List.getElem?_eq_getElem h];dsimp only;rw[if_neg (AaW h h1),if_neg h2]
theorem ZR {N:List GN} {nx:Int} {i:Nat} (h:i<N.length) (h0:EZ N nx i=0):(0<i→(N[i-1]).id<(N[i]).id)∧1≤(N[i]).id∧(N[i]).id<nx∧DC (N[i]).labels (N[i]).props=0:=by
 by_cases h1:0<i∧(N[i]).id≤(N[i-1]).id
 ·rw[YI h h1.1 h1.2]at h0;omega
 have h1':0<i→¬(N[i]).id≤(N[i-1]).id:=fun a b=>h1 ⟨a,b⟩
 by_cases h2:(N[i]).id<1∨nx≤(N[i]).id
 ·rw[node1 h h1' h2]at h0;omega
 rw[Z9 h h1' h2]at h0
 exact⟨fun a=>by have:=h1' a;omega,by omega,by omega,h0⟩
theorem YK {N:List GN} {E:List GE} {nx:Int} {i:Nat} (h:i<E.length) (h0:0<i) (h1:(E[i]).id≤(E[i-1]).id):Fg N E nx i=26:=by
 unfold Fg;rw[List.getElem?_eq_getElem h];exact if_pos ⟨h0,_,List.getElem?_eq_getElem (by omega),h1⟩
theorem Rw {E:List GE} {i:Nat} (h:i<E.length) (h1:0<i→¬(E[i]).id≤(E[i-1]).id):¬(0<i∧∃m,E[i-1]?=some m∧(E[i]).id≤m.id):=by
 rintro⟨a,m,b,c⟩;rw[List.getElem?_eq_getElem (by omega)]at b;rw[← Option.some.inj b]at c;exact h1 a c
theorem Acu {N:List GN} {E:List GE} {nx:Int} {i:Nat} (h:i<E.length) (h1:0<i→¬(E[i]).id≤(E[i-1]).id) (h2:(E[i]).id<1∨nx≤(E[i]).id):Fg N E nx i=1:=by
 unfold Fg;rw[List.getElem?_eq_getElem h];dsimp only;rw[if_neg (Rw h h1),if_pos h2]
theorem YL {N:List GN} {E:List GE} {nx:Int} {i:Nat} (h:i<E.length) (h1:0<i→¬(E[i]).id≤(E[i-1]).id) (h2:¬((E[i]).id<1∨nx≤(E[i]).id)) (h3:¬((E[i]).fr∈Gn N∧(E[i]).to∈Gn N)):Fg N E nx i=10:=by
 unfold Fg;rw[List.getElem?_eq_getElem h];dsimp only;rw[if_neg (Rw h h1),if_neg h2,if_pos h3]
theorem Acv {N:List GN} {E:List GE} {nx:Int} {i:Nat} (h:i<E.length) (h1:0<i→¬(E[i]).id≤(E[i-1]).id) (h2:¬((E[i]).id<1∨nx≤(E[i]).id)) (h3:(E[i]).fr∈Gn N∧(E[i]).to∈Gn N) (h4:¬isName (E[i]).ty):Fg N E nx i=6:=by
 unfold Fg;rw[List.getElem?_eq_getElem h];dsimp only;rw[if_neg (Rw h h1),if_neg h2,if_neg (not_not_intro h3),if_pos h4]
theorem Aaa {N:List GN} {E:List GE} {nx:Int} {i:Nat} (h:i<E.length) (h1:0<i→¬(E[i]).id≤(E[i-1]).id) (h2:¬((E[i]).id<1∨nx≤(E[i]).id)) (h3:(E[i]).fr∈Gn N∧(E[i]).to∈Gn N) (h4:isName (E[i]).ty):Fg N E nx i=DC [] (E[i]).props:=by
 unfold Fg;rw[List.getElem?_eq_getElem h];dsimp only;rw[if_neg (Rw h h1),if_neg h2,if_neg (not_not_intro h3),if_neg (not_not_intro h4)]
theorem AeE {N:List GN} {E:List GE} {nx:Int} {i:Nat} (h:i<E.length) (h0:Fg N E nx i=0):(0<i→(E[i-1]).id<(E[i]).id)∧1≤(E[i]).id∧(E[i]).id<nx∧(E[i]).fr∈Gn N∧(E[i]).to∈Gn N∧isName (E[i]).ty∧DC [] (E[i]).props=0:=by
 by_cases h1:0<i∧(E[i]).id≤(E[i-1]).id
 ·rw[YK h h1.1 h1.2]at h0;omega
 have h1':0<i→¬(E[i]).id≤(E[i-1]).id:=fun a b=>h1 ⟨a,b⟩
 by_cases h2:(E[i]).id<1∨nx≤(E[i]).id
 ·rw[Acu h h1' h2]at h0;omega
 by_cases h3:(E[i]).fr∈Gn N∧(E[i]).to∈Gn N
 case neg=>rw[YL h h1' h2 h3]at h0;omega
 by_cases h4:isName (E[i]).ty
 case neg=>rw[Acv h h1' h2 h3 h4]at h0;omega
 rw[Aaa h h1' h2 h3 h4]at h0
 exact⟨fun a=>by have:=h1' a;omega,by omega,by omega,h3.1,h3.2,h4,h0⟩
def FP (g:GG):Prop:=g.nodes.length≤2000∧g.edges.length≤4000
def Gq (g:GG):Prop:=1≤g.Dn∧g.Dn≤1000001∧1≤g.DJ∧g.DJ≤1000001
instance (g:GG):Decidable (FP g):=by unfold FP;infer_instance
instance (g:GG):Decidable (Gq g):=by unfold Gq;infer_instance
noncomputable def Bo (g:GG):Int:=
 if¬FP g then 4 else if¬Gq g then 1 else
  if I9 (EZ g.nodes g.Dn) g.nodes.length=0 then I9 (Fg g.nodes g.edges g.DJ) g.edges.length else I9 (EZ g.nodes g.Dn) g.nodes.length
theorem Acw {g:GG} (h:¬FP g):AV.int .i64 4=AV.int .i64 (Bo g):=by unfold Bo;rw[if_pos h]
theorem Acx {g:GG} (h:FP g) (h1:¬Gq g):AV.int .i64 1=AV.int .i64 (Bo g):=by unfold Bo;rw[if_neg (not_not_intro h),if_pos h1]
theorem checkN {g:GG} (h:FP g) (h1:Gq g) {i:Nat} (hi:i<g.nodes.length) (h2:∀k,k<i→EZ g.nodes g.Dn k=0) {r:Int} (h3:EZ g.nodes g.Dn i=r) (hr:r≠0):AV.int .i64 r=AV.int .i64 (Bo g):=by
 subst h3
 unfold Bo
 rw[if_neg (not_not_intro h),if_neg (not_not_intro h1),Qe h2 hr hi,if_neg hr]
theorem L9 {g:GG} (h:FP g) (h1:Gq g) (hn:∀k,k<g.nodes.length→EZ g.nodes g.Dn k=0) {i:Nat} (hi:i<g.edges.length) (h2:∀k,k<i→Fg g.nodes g.edges g.DJ k=0) {r:Int} (h3:Fg g.nodes g.edges g.DJ i=r) (hr:r≠0):AV.int .i64 r=AV.int .i64 (Bo g):=by
 subst h3
 unfold Bo
 rw[if_neg (not_not_intro h),if_neg (not_not_intro h1),if_pos (D5.2 hn),Qe h2 hr hi]
theorem Acy {g:GG} (h:FP g) (h1:Gq g) (hn:∀k,k<g.nodes.length→EZ g.nodes g.Dn k=0) (h2:∀k,k<g.edges.length→Fg g.nodes g.edges g.DJ k=0):AV.int .i64 0=AV.int .i64 (Bo g):=by
 unfold Bo
 rw[if_neg (not_not_intro h),if_neg (not_not_intro h1),if_pos (D5.2 hn),D5.2 h2]
theorem YJ {N:List GN} {nx:Int} (h:∀k,k<N.length→EZ N nx k=0):incr (Gn N):=by
 intro j hj
 have hj':j+1<N.length:=by simpa using hj
 rw[Md (by omega),Md hj']
 exact(ZR hj' (h _ hj')).1 (by omega)
theorem WZ {g:GG} (h:Bo g=0):FP g∧Gq g∧(∀ k,k<g.nodes.length→EZ g.nodes g.Dn k=0)∧∀k,k<g.edges.length→Fg g.nodes g.edges g.DJ k=0:=by
 unfold Bo at h
 by_cases h1:FP g
 case neg=>rw[if_pos h1]at h;omega
 by_cases h2:Gq g
 case neg=>rw[if_neg (not_not_intro h1),if_pos h2]at h;omega
 rw[if_neg (not_not_intro h1),if_neg (not_not_intro h2)]at h
 split at h
 ·rename_i h3
  exact⟨h1,h2,D5.1 h3,D5.1 h⟩
 ·rename_i h3;exact absurd h h3
attribute [irreducible] EZ Fg Bo I9
theorem Jd {f:Nat→Int} {i:Nat} (h:∀k,k<i→f k=0) (hi:f i=0):∀k,k<i+1→f k=0:=by
 intro k hk
 rcases Nat.lt_or_ge k i with h1|h1
 ·exact h k h1
 ·obtain rfl:k=i:=by omega
  exact hi
theorem AgR {n:GN} (h:n.ok):Ah (Ac tab) 60 [.sl n.ln (vs .str n.labels),.sl n.pn (vs GP.av n.props)] (· =.int .i64 (DC n.labels n.props)):=
 Acs h.2.1 h.2.2.2.1 h.2.2.2.2.1 h.2.2.2.2.2.2
theorem AeO {n:GE} (h:n.ok):Ah (Ac tab) 60 [.sl false [],.sl n.pn (vs GP.av n.props)] (· =.int .i64 (DC [] n.props)):=
 Acs (L:=[]) (by decide) (by simp) h.2.2.2.2.1 h.2.2.2.2.2.2
theorem AgS {g:GG} (hg:g.ok) (hf:FP g) (hnx:Gq g) {c:Nat} {Q:AL→Env→Ai→Prop}
 (hret:∀r s,AV.int .i64 r=AV.int .i64 (Bo g)→Q .ret [(2,.int .i64 r)] s)
 (hend:(∀ k,k<g.nodes.length→EZ g.nodes g.Dn k=0)→∀c i,Q (.exit 0) [(1,.ref 0 0 0 0),(38,.sl g.nn (vs GN.av g.nodes)),(39,.int .i64 g.nodes.length),(40,.int .i64 i),(41,.bool false)] ⟨[.arr 0 4 true true [g.av]],c⟩):
 Run (Ac tab) (.loop l27_0_h l27_0_b) [(1,.ref 0 0 0 0),(38,.sl g.nn (vs GN.av g.nodes)),(39,.int .i64 g.nodes.length),(40,.int .i64 0)] ⟨[.arr 0 4 true true [g.av]],c⟩ Q:=by
 obtain⟨g1,g2,g3,g4,g5,g6,g7,g8⟩:=hg
 unfold Ln at g1 g4
 have hf':g.nodes.length≤2000:=hf.1
 refine Aj (fun m env s=>∃i:Nat,m=g.nodes.length-i∧env=[(1,.ref 0 0 0 0),(38,.sl g.nn (vs GN.av g.nodes)),(39,.int .i64 g.nodes.length),(40,.int .i64 i)]∧(∃ c,s=⟨[.arr 0 4 true true [g.av]],c⟩)∧∀k,k<i→EZ g.nodes g.Dn k=0) ?_ _ _ _ ⟨0,rfl,by simp,⟨_,rfl⟩,fun k h=>absurd h (by omega)⟩
 rintro _ _ _ ⟨i,rfl,rfl,⟨c,rfl⟩,hx⟩
 refine⟨rfl,?_⟩
 have hat:∀h:i<g.nodes.length,(g.nodes[i]).ok:=fun h=>g3 _ (List.getElem_mem _)
 (conv=>whnf);repeat' (first|(apply Au;(· exact nVz (i-1) (by omega) (by omega));conv=>whnf)|(refine Aa (AgR (n:=g.nodes[i]) (hat (by omega))) ?_;rintro _ rfl;conv=>whnf)|(refine hret _ _ ?_)|(refine hend (fun k hk=>hx k (by omega)) _ _)|(refine kA ?_;conv=>whnf)|(refine Br.mk (fun hc=>?_) fun hc=>?_<;>first|exact hc.elim|conv=>whnf)|(refine kB ?_))
 all_goals first
  |exact again.mk ⟨_,by omega,i+1,rfl,rfl,⟨_,rfl⟩,Jd hx ((Z9 (by omega) (fun h=>by first|assumption|omega) (by omega)).trans hc)⟩
  |exact checkN hf hnx (by omega) hx (YI (by omega) (by omega) (by assumption)) (by decide)
  |exact checkN hf hnx (by omega) hx (node1 (by omega) (fun h=>by first|assumption|omega) (by omega)) (by decide)
  |exact checkN hf hnx (by omega) hx (Z9 (by omega) (fun h=>by first|assumption|omega) (by omega)) hc
set_option maxHeartbeats 1000000 in
theorem AgU {g:GG} (hg:g.ok) (hf:FP g) (hnx:Gq g) (hN:∀k,k<g.nodes.length→EZ g.nodes g.Dn k=0) {c:Nat} {Q:AL→Env→Ai→Prop}
 (hret:∀r s,AV.int .i64 r=AV.int .i64 (Bo g)→Q .ret [(2,.int .i64 r)] s)
 (hend:(∀ k,k<g.edges.length→Fg g.nodes g.edges g.DJ k=0)→∀c i,Q (.exit 2) [(1,.ref 0 0 0 0),(79,.sl g.en (vs GE.av g.edges)),(80,.int .i64 g.edges.length),(81,.int .i64 i),(82,.bool false)] ⟨[.arr 0 4 true true [g.av]],c⟩):
 Run (Ac tab) (.loop l27_1_h l27_1_b) [(1,.ref 0 0 0 0),(79,.sl g.en (vs GE.av g.edges)),(80,.int .i64 g.edges.length),(81,.int .i64 0)] ⟨[.arr 0 4 true true [g.av]],c⟩ Q:=by
 obtain⟨g1,g2,g3,g4,g5,g6,g7,g8⟩:=hg
 unfold Ln at g1 g4
 have hf':g.edges.length≤4000:=hf.2
 have hI:=YJ hN
 have hl:g.nodes.length<2^62:=by have:=hf.1;omega
 refine Aj (fun m env s=>∃i:Nat,m=g.edges.length-i∧env=[(1,.ref 0 0 0 0),(79,.sl g.en (vs GE.av g.edges)),(80,.int .i64 g.edges.length),(81,.int .i64 i)]∧(∃ c,s=⟨[.arr 0 4 true true [g.av]],c⟩)∧∀k,k<i→Fg g.nodes g.edges g.DJ k=0) ?_ _ _ _ ⟨0,rfl,by simp,⟨_,rfl⟩,fun k h=>absurd h (by omega)⟩
 rintro _ _ _ ⟨i,rfl,rfl,⟨c,rfl⟩,hx⟩
 refine⟨rfl,?_⟩
 have hat:∀h:i<g.edges.length,(g.edges[i]).ok:=fun h=>g6 _ (List.getElem_mem _)
 (conv=>whnf);repeat' (first|(apply Au;(· exact nVz (i-1) (by omega) (by omega));conv=>whnf)|(refine CU (Ala hl hI) (fun hc=>?_) (fun hc=>?_)<;>conv=>whnf)|(refine CU (name1 (s:=(g.edges[i]).ty) (hat (by omega)).2.2.2.1) (fun hnm=>?_) (fun hnm=>?_)<;>conv=>whnf)|(refine Aa (AeO (n:=g.edges[i]) (hat (by omega))) ?_;rintro _ rfl;conv=>whnf)|(refine hret _ _ ?_)|(refine hend (fun k hk=>hx k (by omega)) _ _)|(refine kA ?_;conv=>whnf)|(refine Br.mk (fun hc=>?_) fun hc=>?_<;>first|exact hc.elim|conv=>whnf)|(refine kB ?_))
 all_goals first
  |exact again.mk ⟨_,by omega,i+1,rfl,rfl,⟨_,rfl⟩,Jd hx ((Aaa (by omega) (fun h=>by first|assumption|omega) (by omega) ⟨by assumption,by assumption⟩ hnm).trans hc)⟩
  |exact L9 hf hnx hN (by omega) hx (YK (by omega) (by omega) (by assumption)) (by decide)
  |exact L9 hf hnx hN (by omega) hx (Acu (by omega) (fun h=>by first|assumption|omega) (by omega)) (by decide)
  |exact L9 hf hnx hN (by omega) hx (YL (by omega) (fun h=>by first|assumption|omega) (by omega) (fun h=>by first|exact absurd h.1 (by assumption)|exact absurd h.2 (by assumption))) (by decide)
  |exact L9 hf hnx hN (by omega) hx (Acv (by omega) (fun h=>by first|assumption|omega) (by omega) ⟨by assumption,by assumption⟩ hnm) (by decide)
  |exact L9 hf hnx hN (by omega) hx (Aaa (by omega) (fun h=>by first|assumption|omega) (by omega) ⟨by assumption,by assumption⟩ hnm) hc
theorem YM {g:GG} (hg:g.ok):Ah (Ac tab) 27 [g.av] (· =.int .i64 (Bo g)):=by
 have hg0:=hg
 obtain⟨g1,g2,g3,g4,g5,g6,g7,g8⟩:=hg
 unfold Ln at g1 g4
 refine Ae rfl rfl ?_
 (conv=>whnf);repeat' (first|(refine kA ?_;conv=>whnf)|(refine Br.mk (fun hc=>?_) fun hc=>?_<;>first|exact hc.elim|conv=>whnf)  |(refine kB ?_))
 all_goals first|exact Acw (by unfold FP;omega)|exact Acx (by unfold FP;omega) (by unfold Gq;omega)|skip
 have hf:FP g:=by unfold FP;omega
 have hnx:Gq g:=by unfold Gq;omega
 refine AgS hg0 hf hnx (fun r s h=>by(conv=>whnf);(apply Dl;(· rfl);conv=>whnf);(apply Dl;(· rfl);conv=>whnf);exact h) (fun hN c i=>?_)
 (conv=>whnf);repeat' (first|(refine kA ?_;conv=>whnf)|(refine Br.mk (fun hc=>?_) fun hc=>?_<;>first|exact hc.elim|conv=>whnf)  |(refine kB ?_))
 refine AgU hg0 hf hnx hN (fun r s h=>by(conv=>whnf);(apply Dl;(· rfl);conv=>whnf);(apply Dl;(· rfl);conv=>whnf);exact h) (fun hE c i=>?_)
 (conv=>whnf);repeat' (first|(refine kA ?_;conv=>whnf)|(refine Br.mk (fun hc=>?_) fun hc=>?_<;>first|exact hc.elim|conv=>whnf)  |(refine kB ?_))
 exact Acy hf hnx hN hE
def Abf (x y:Int):Int:=if y<x then y else x
def Sr (x y:Int) (p:Int×Int):Int×Int:=if p.2=x∨p.2=y then(p.1,Abf x y)else p
inductive Root (p:Int→Int):Int→Int→Prop where
 |here {x:Int} (h:p x=x):Root p x x
 |up {x c:Int} (h:p x≠x) (k:Root p (p x) c):Root p x c
theorem Root.fix {p:Int→Int} {x c:Int} (h:Root p x c):p c=c:=by
 induction h with
 |here h=>exact h
 |up _ _ ih=>exact ih
theorem Root.YO {p:Int→Int} {x c d:Int} (h:Root p x c) (k:Root p x d):c=d:=by
 induction h with
 |here h=>cases k with
  |here _=>rfl
  |up h' _=>exact absurd h h'
 |up h _ ih=>cases k with
  |here h'=>exact absurd h' h
  |up _ k'=>exact ih k'
def Abk (p:Int→Int) (x y:Int):Int→Int:=fun z=>if z=x then y else p z
theorem JD (p:Int→Int) (x y:Int):Abk p x y x=y:=if_pos rfl
theorem FD {p:Int→Int} {x y z:Int} (h:z≠x):Abk p x y z=p z:=if_neg h
theorem Root.union {p:Int→Int} {M m:Int} (hM:p M=M) (hm:p m=m) (hne:m≠M) {a d:Int} (h:Root p a d):Root (Abk p M m) a (if d=M then m else d):=by
 have hmm:Abk p M m m=m:=by rw[FD hne,hm]
 induction h with
 |@here a h=>
  by_cases e:a=M
  ·subst e
   rw[if_pos rfl]
   exact .up (by rw[JD];exact hne) (by rw[JD];exact .here hmm)
  ·rw[if_neg e]
   exact .here (by rw[FD e,h])
 |@up a d h k ih=>
  by_cases e:a=M
  ·subst e;exact absurd hM h
  ·exact .up (by rw[FD e];exact h) (by rw[FD e];exact ih)
structure IJ (S:List Int) (p r:Int→Int):Prop where
 mem:∀x∈S,p x∈S
 le:∀x∈S,p x≤x
 root:∀x∈S,Root p x (r x)
section
variable {S:List Int} {p r:Int→Int}
theorem IJ.Ajj (h:IJ S p r) {x:Int} (hx:x∈S):r x∈S:=by
 have k:=h.root x hx
 generalize r x=c at k
 induction k with
 |here _=>exact hx
 |up _ _ ih=>exact ih (h.mem _ hx)
theorem IJ.Ajk (h:IJ S p r) {x:Int} (hx:x∈S):p (r x)=r x:=(h.root x hx).fix
theorem IJ.step (h:IJ S p r) {x:Int} (hx:x∈S):r (p x)=r x:=by
 have k:=h.root x hx
 by_cases e:p x=x
 ·rw[e]
 ·generalize r x=c at k
  cases k with
  |here h'=>exact absurd h' e
  |up _ k'=>exact(h.root _ (h.mem x hx)).YO k'
theorem IJ.start (S:List Int):IJ S (fun x=>x) (fun x=>x):=⟨fun _ h=>h,fun _ _=>Int.le_refl _,fun _ _=>.here rfl⟩
theorem IJ.union (h:IJ S p r) {a b:Int} (ha:a∈S) (hb:b∈S):
 IJ S (Abk p (if r b>r a then r b else r a) (if r b<r a then r b else r a)) (fun c=>(Sr (r a) (r b) (c,r c)).2):=by
 obtain⟨M,hM⟩:∃M,(if r b>r a then r b else r a)=M:=⟨_,rfl⟩
 obtain⟨m,hm⟩:∃m,(if r b<r a then r b else r a)=m:=⟨_,rfl⟩
 rw[hM,hm]
 have fa:=h.Ajk ha
 have fb:=h.Ajk hb
 have ma:=h.Ajj ha
 have mb:=h.Ajj hb
 have hMr:M=r a∨M=r b:=by rw[← hM];split<;>simp
 have hmr:m=r a∨m=r b:=by rw[← hm];split<;>simp
 have hle:m≤M:=by rw[← hM,←hm];split<;>split<;>omega
 have hMS:M∈S:=by rcases hMr with e|e<;>rw[e]<;>assumption
 have hmS:m∈S:=by rcases hmr with e|e<;>rw[e]<;>assumption
 have hMf:p M=M:=by rcases hMr with e|e<;>rw[e]<;>assumption
 have hmf:p m=m:=by rcases hmr with e|e<;>rw[e]<;>assumption
 have hmin:Abf (r a) (r b)=m:=by rw[← hm];rfl
 refine⟨fun y hy=>?_,fun y hy=>?_,fun y hy=>?_⟩
 ·by_cases e:y=M
  ·subst e;rw[JD];exact hmS
  ·rw[FD e];exact h.mem y hy
 ·by_cases e:y=M
  ·subst e;rw[JD];exact hle
  ·rw[FD e];exact h.le y hy
 ·by_cases e:m=M
  ·have hab:r a=r b:=by
        rw[← hM,←hm]at e
        split at e<;>split at e<;>omega
   have hself:Abk p M m=p:=by
        funext z
        by_cases ez:z=M
        ·subst ez;rw[JD,hMf];exact e
        ·exact FD ez
   rw[hself]
   have:(Sr (r a) (r b) (y,r y)).2=r y:=by
        unfold Sr
        split
        ·rename_i hc
         show Abf (r a) (r b)=r y
         unfold Abf
         simp only at hc
         split<;>omega
        ·rfl
   rw[this]
   exact h.root y hy
  ·have k:=(h.root y hy).union hMf hmf e
   have:(Sr (r a) (r b) (y,r y)).2=if r y=M then m else r y:=by
        unfold Sr
        rw[hmin]
        simp only
        by_cases c1:r y=r a∨r y=r b
        ·rw[if_pos c1]
         show m=_
         by_cases c2:r y=M
         ·rw[if_pos c2]
         ·rw[if_neg c2]
          rcases c1 with c|c
          ·rw[c]at c2 ⊢
           rw[← hM]at c2
           rw[← hm]
           split at c2<;>split<;>omega
          ·rw[c]at c2 ⊢
           rw[← hM]at c2
           rw[← hm]
           split at c2<;>split<;>omega
        ·rw[if_neg c1]
         have:r y≠M:=fun e=>c1 (by rcases hMr with k|k<;>omega)
         rw[if_neg this]
   rw[this]
   exact k
def Fp (S:List Int) (r:Int→Int):List (Int×Int):=S.map fun i=>(i,r i)
end
def pv (p:Int×Int):AV:=.agg [.int .i64 p.1,.int .i64 p.2]
theorem AfF (x:Int×Int):(pv x).cells.length=2:=rfl
structure Half (f:Int×Int→Int×Int) (l W:List (Int×Int)) (i:Nat):Prop where
 len:W.length=l.length
 old:∀j,i≤j→W[j]?=l[j]?
 new:∀j,j<i→W[j]?=(l.map f)[j]?
theorem Half.start (f:Int×Int→Int×Int) (l:List (Int×Int)):Half f l l 0:=⟨rfl,fun _ _=>rfl,fun _ h=>absurd h (by omega)⟩
theorem Half.at {f:Int×Int→Int×Int} {l W:List (Int×Int)} {i:Nat} (h:Half f l W i) (hi:i<l.length):W[i]'(by rw[h.len];exact hi)=l[i]:=by
 have:=h.old i (Nat.le_refl _)
 rw[List.getElem?_eq_getElem hi,List.getElem?_eq_getElem (by rw[h.len];exact hi)]at this
 simpa using this
theorem Half.put {f:Int×Int→Int×Int} {l W:List (Int×Int)} {i:Nat} (h:Half f l W i) (hi:i<l.length):Half f l (W.set i (f (l[i]))) (i+1):=by
 refine⟨by simp[h.len],fun j hj=>?_,fun j hj=>?_⟩
 ·rw[List.getElem?_set_ne (by omega)];exact h.old j (by omega)
 ·by_cases e:j=i
  ·subst e
   rw[List.getElem?_set_self (by rw[h.len];exact hi),List.getElem?_map,List.getElem?_eq_getElem hi];rfl
  ·rw[List.getElem?_set_ne (by omega)];exact h.new j (by omega)
theorem Half.skip {f:Int×Int→Int×Int} {l W:List (Int×Int)} {i:Nat} (h:Half f l W i) (hi:i<l.length) (he:f (l[i])=l[i]):Half f l W (i+1):=by
 refine⟨h.len,fun j hj=>h.old j (by omega),fun j hj=>?_⟩
 by_cases e:j=i
 ·subst e
  rw[h.old j (Nat.le_refl _),List.getElem?_map,List.getElem?_eq_getElem hi,Option.map_some,he]
 ·exact h.new j (by omega)
theorem Half.all {f:Int×Int→Int×Int} {l W:List (Int×Int)} {i:Nat} (h:Half f l W i) (hi:¬i<l.length):W=l.map f:=by
 apply List.ext_getElem?
 intro j
 by_cases hj:j<i
 ·exact h.new j hj
 ·rw[List.getElem?_eq_none (by rw[h.len];omega),List.getElem?_eq_none (by simp;omega)]
def JP (types:List (List UInt8)) (a b:Int) (e:GE):Prop:=e.fr=a∧e.to=b∧HT types e
instance (types:List (List UInt8)) (a b:Int) (e:GE):Decidable (JP types a b e):=by unfold JP;infer_instance
def JN (types:List (List UInt8)) (es:List GE) (a b:Int):Prop:=∃i,∃h:i<es.length,JP types a b es[i]
noncomputable instance (types:List (List UInt8)) (es:List GE) (a b:Int):Decidable (JN types es a b):=Classical.propDecidable _
noncomputable def adj (types:List (List UInt8)) (g:GG) (m n:GN):Bool:=decide (JN types g.edges m.id n.id)
noncomputable def Aj8 (types:List (List UInt8)) (g:GG):List (List Bool):=g.nodes.map fun m=>g.nodes.map (adj types g m)
structure Aw where
 fr:Int
 to:Int
 ed:Int
 deriving Inhabited
def Aw.av (a:Aw):AV:=.agg [.int .i64 a.fr,.int .i64 a.to,.int .i64 a.ed]
theorem Ae0 (a:Aw):a.av.cells.length=3:=rfl
theorem Ag4 {e:GE} {id:Int}:Ah (Ac tab) 85 [e.av,.int .i64 id,.int .i64 1] (fun v=>v=if e.fr=id then .CP [(⟨id,e.to,e.id⟩:Aw).av,.bool true]else .CP [.agg [.int .i64 0,.int .i64 0,.int .i64 0],.bool false]):=by
 by_cases h:e.fr=id
 ·rw[if_pos h]
  refine Ae rfl rfl ?_
  (conv=>whnf);repeat' (first  |(refine kA ?_;conv=>whnf)|(refine Br.mk (fun hc=>?_) fun hc=>?_<;>first|exact hc.elim|conv=>whnf)|(refine kB ?_))
  all_goals first|rfl|(exfalso;omega)
 ·rw[if_neg h]
  refine Ae rfl rfl ?_
  (conv=>whnf);repeat' (first  |(refine kA ?_;conv=>whnf)|(refine Br.mk (fun hc=>?_) fun hc=>?_<;>first|exact hc.elim|conv=>whnf)|(refine kB ?_))
  all_goals first|rfl|(exfalso;omega)
theorem Aba {L:List Aw} {x:Aw} {t:Nat} (h0:0<t) (ht:t<L.length):((L.set t (L[t-1]'(by omega))).set (t-1) x).Perm (L.set t x):=by
 obtain⟨k,rfl⟩:∃k,t=k+1:=⟨t-1,by omega⟩
 have hk:k<L.length:=by omega
 have e:L=L.take k++L[k]::L[k+1]::L.drop (k+2):=by
  rw[← List.drop_eq_getElem_cons ht,←List.drop_eq_getElem_cons hk,List.take_append_drop]
 generalize ha:L[k]=a at*
 have ha2:L[k+1-1]'(by omega)=a:=ha
 rw[ha2]
 generalize L[k+1]=b at*
 have hp:(L.take k).length=k:=by rw[List.length_take];omega
 generalize L.take k=P at*
 generalize L.drop (k+2)=S at*
 subst e
 have s1:∀y,(P++a::b::S).set (k+1) y=P++a::y::S:=fun y=>by
  rw[List.set_append_right _ _ (by omega),hp,Nat.add_sub_cancel_left];rfl
 have s2:∀y z,(P++z::y::S).set (k+1-1) x=P++x::y::S:=fun y z=>by
  rw[Nat.add_sub_cancel,List.set_append_right _ _ (by omega),hp,Nat.sub_self];rfl
 rw[s1,s1,s2]
 exact List.Perm.append_left P (List.Perm.swap a x S)
set_option maxHeartbeats 4000000 in
theorem Ag5 {g:GG} (hg:g.ok) (hE:g.edges.length≤1000) {types:List (List UInt8)} {tn:Bool} (ht:types.length<2^63) {id:Int}:
 Ah (Ac tab) 48 [g.av,.int .i64 id,.sl tn (vs .str types),.int .i64 1] (fun v=>∃nn W,v=.sl nn (vs Aw.av W)∧W.length≤g.edges.length∧∀y,(∃ a∈W,a.to=y)↔∃e∈g.edges,JP types id y e):=by
 have hle:=hg.2.2.2.1
 unfold Ln at hle
 refine Ae rfl rfl ?_
 (conv=>whnf);repeat' (first  |(refine kA ?_;conv=>whnf)|(refine Br.mk (fun hc=>?_) fun hc=>?_<;>first|exact hc.elim|conv=>whnf)|(refine kB ?_))
 refine Aj (fun m env s=>∃(i c go:Nat) (nn:Bool) (W:List Aw),m=g.edges.length-i∧i≤g.edges.length∧W.length≤i∧(∀ y,(∃ a∈W,a.to=y)↔∃e∈g.edges.take i,JP types id y e)∧env=[(1,.int .i64 id),(2,.sl tn (vs .str types)),(3,.int .i64 1),(4,.ref 0 0 0 0),(9,.own 1 go 0 W.length),(10,.int .i64 i)]∧s=⟨[.arr 0 4 true true [g.av],.arr go 3 nn true (vs Aw.av W)],c⟩) ?_ _ _ _ ⟨0,_,_,_,[],rfl,by omega,by simp,fun y=>by simp,rfl,rfl⟩
 rintro _ _ _ ⟨i,c,go,nn,W,rfl,hi,hWl,hW,rfl,rfl⟩
 refine⟨rfl,?_⟩
 by_cases hlt:i<g.edges.length
 case neg=>
  obtain rfl:i=g.edges.length:=by omega
  rw[List.take_of_length_le (Nat.le_refl _)]at hW
  (conv=>whnf);repeat' (first  |(refine kA ?_;conv=>whnf)|(refine Br.mk (fun hc=>?_) fun hc=>?_<;>first|exact hc.elim|conv=>whnf)|(refine kB ?_))
  all_goals first
   |(exfalso;omega)
   |exact⟨nn,W,rfl,hWl,hW⟩
 have htk:g.edges.take (i+1)=g.edges.take i++[g.edges[i]]:=List.take_succ_eq_append_getElem hlt
 have hst:=Ag4 (e:=g.edges[i]) (id:=id)
 have hT:=AcP (nn:=tn) (e:=g.edges[i]) ht
 by_cases hh:(g.edges[i]).fr=id∧HT types g.edges[i]
 case neg=>
  have hW':∀y,(∃ a∈W,a.to=y)↔∃e∈g.edges.take (i+1),JP types id y e:=fun y=>by
   rw[hW,htk]
   constructor
   ·rintro⟨e,he,hp⟩;exact⟨e,List.mem_append_left _ he,hp⟩
   ·rintro⟨e,he,hp⟩
    rcases List.mem_append.1 he with he|he
    ·exact⟨e,he,hp⟩
    ·rw[List.mem_singleton.1 he]at hp
     exact absurd ⟨hp.1,hp.2.2⟩ hh
  by_cases h1:(g.edges[i]).fr=id
  ·have h2:¬HT types g.edges[i]:=fun h=>hh ⟨h1,h⟩
   rw[if_pos h1]at hst
   rw[decide_eq_false h2]at hT
   unfold Aw.av at hst
   (conv=>whnf);repeat' (first|((first|refine Aa hst ?_|refine Aa hT ?_);rintro _ rfl;conv=>whnf)|(refine kA ?_;conv=>whnf)|(refine Br.mk (fun hc=>?_) fun hc=>?_<;>first|exact hc.elim|conv=>whnf)|(refine kB ?_))
   all_goals first
        |(exfalso;omega)
        |exact again.mk ⟨_,by omega,i+1,_,_,_,W,rfl,by omega,by omega,hW',rfl,rfl⟩
  ·rw[if_neg h1]at hst
   (conv=>whnf);repeat' (first|(refine Aa hst ?_;rintro _ rfl;conv=>whnf)|(refine kA ?_;conv=>whnf)|(refine Br.mk (fun hc=>?_) fun hc=>?_<;>first|exact hc.elim|conv=>whnf)|(refine kB ?_))
   all_goals first
        |(exfalso;omega)
        |exact again.mk ⟨_,by omega,i+1,_,_,_,W,rfl,by omega,by omega,hW',rfl,rfl⟩
 obtain⟨h1,h2⟩:=hh
 rw[if_pos h1]at hst
 rw[decide_eq_true h2]at hT
 obtain⟨x,hx⟩:∃x:Aw,x=⟨id,(g.edges[i]).to,(g.edges[i]).id⟩:=⟨_,rfl⟩
 rw[← hx]at hst
 have hxt:x.to=(g.edges[i]).to:=by rw[hx]
 have hW':∀{W2:List Aw},W2.Perm (W++[x])→∀y,(∃ a∈W2,a.to=y)↔∃e∈g.edges.take (i+1),JP types id y e:=fun{W2} hp y=>by
  rw[htk]
  constructor
  ·rintro⟨a,ha,e⟩
   rcases List.mem_append.1 (hp.mem_iff.1 ha)with ha|ha
   ·obtain⟨e2,he2,hp2⟩:=(hW y).1 ⟨a,ha,e⟩
    exact⟨e2,List.mem_append_left _ he2,hp2⟩
   ·rw[List.mem_singleton.1 ha,hxt]at e
    exact⟨_,List.mem_append_right _ (List.mem_singleton.2 rfl),h1,e,h2⟩
  ·rintro⟨e2,he2,hp2⟩
   rcases List.mem_append.1 he2 with he2|he2
   ·obtain⟨a,ha,e⟩:=(hW y).2 ⟨e2,he2,hp2⟩
    exact⟨a,hp.mem_iff.2 (List.mem_append_left _ ha),e⟩
   ·rw[List.mem_singleton.1 he2]at hp2
    exact⟨x,hp.mem_iff.2 (List.mem_append_right _ (List.mem_singleton.2 rfl)),by rw[hxt];exact hp2.2.1⟩
 have hst':Ah (Ac tab) 85 [(g.edges[i]).av,.int .i64 id,.int .i64 1] (· =.CP [.agg [.int .i64 x.fr,.int .i64 x.to,.int .i64 x.ed],.bool true]):=hst
 clear hst hx hxt
 (conv=>whnf);repeat' (first|((first|refine Aa hst' ?_|refine Aa hT ?_);rintro _ rfl;conv=>whnf)|(refine Um (f:=Aw.av) (l:=W) (x:=x) Ae0 rfl (by omega) ?_;conv=>whnf)|(refine kA ?_;conv=>whnf)|(refine Br.mk (fun hc=>?_) fun hc=>?_<;>first|exact hc.elim|conv=>whnf)|(refine kB ?_))
 all_goals first|(exfalso;omega)|skip
 refine Aj (fun m env s=>∃(t c go gx:Nat) (L:List Aw),m=t∧L.length=W.length+1∧t<L.length∧(L.set t x).Perm (W++[x])∧env=[(1,.int .i64 id),(2,.sl tn (vs .str types)),(3,.int .i64 1),(4,.ref 0 0 0 0),(9,.own 1 go 0 (W.length+1)),(10,.int .i64 i),(11,.ref 2 gx 0 0),(13,.int .i64 t)]∧s=⟨[.arr 0 4 true true [g.av],.arr go 3 true true (vs Aw.av L),.arr gx 3 true true [x.av]],c⟩) ?_ _ _ _ ⟨W.length,_,_,_,W++[x],rfl,by simp,by simp,by simp,rfl,rfl⟩
 rintro t _ _ ⟨_,c,go,gx,L,rfl,hLl,htl,hp,rfl,rfl⟩
 refine⟨rfl,?_⟩
 have nT:nth (vs Aw.av L) (Int.toNat (Nat.cast t))=some (Aw.av L[t]):=nVN htl
 have Ai2:∀a b:Aw,(vs Aw.av L).set (Int.toNat (Nat.cast t)) (Bz (Aw.av a) 0 (Aw.av b))=vs Aw.av (L.set t b):=fun a b=>by
  show(vs Aw.av L).set t (Aw.av b)=_
  simp[vs,List.map_set]
 have e0:=Ai2 L[t] x
 unfold Aw.av at nT e0
 by_cases ht0:t=0
 ·subst ht0
  (conv=>whnf);repeat' (first|(refine Au nT ?_;conv=>whnf)|(refine A8 e0 ?_;conv=>whnf)|(refine kA ?_;conv=>whnf)|(refine Br.mk (fun hc=>?_) fun hc=>?_<;>first|exact hc.elim|conv=>whnf)|(refine kB ?_))
  all_goals first
   |(exfalso;omega)
   |exact again.mk ⟨_,by omega,i+1,_,_,_,L.set 0 x,rfl,by omega,by rw[List.length_set];omega,hW' hp,by rw[List.length_set,hLl];rfl,rfl⟩
 ·have ht1:t-1<L.length:=by omega
  have hcast:((t:Int)-1).toNat=t-1:=by omega
  have nP:nth (vs Aw.av L) (((t:Int)-1).toNat)=some (Aw.av (L[t-1]'ht1)):=by rw[hcast];exact nVN ht1
  have e1:=Ai2 L[t] (L[t-1]'ht1)
  have hp':=(Aba (x:=x) (by omega) htl).trans hp
  have hct:((t:Int)-1)=((t-1:Nat):Int):=by omega
  unfold Aw.av at nP e1
  (conv=>whnf);repeat' (first|(refine Au nT ?_;conv=>whnf)|(refine Au nP ?_;conv=>whnf)|(refine A8 e0 ?_;conv=>whnf)|(refine A8 e1 ?_;conv=>whnf)|(refine kA ?_;conv=>whnf)|(refine Br.mk (fun hc=>?_) fun hc=>?_<;>first|exact hc.elim|conv=>whnf)|(refine kB ?_))
  all_goals first
   |(exfalso;omega)
   |exact again.mk ⟨_,by omega,i+1,_,_,_,L.set t x,rfl,by omega,by rw[List.length_set];omega,hW' hp,by rw[List.length_set,hLl];rfl,rfl⟩
   |exact again.mk ⟨_,by omega,t-1,_,_,_,L.set t (L[t-1]'ht1),rfl,by rw[List.length_set];exact hLl,by rw[List.length_set];omega,hp',by rw[hct],rfl⟩
section
open Go.Sort
section
variable {α:Type} [Inhabited α] {f:α→AV}
theorem nP {d:Array α} {z:Int} (i:Nat) (hz:z=i) (h:i<d.size):nth (vs f d.toList) (Int.toNat z)=some (f d[i]!):=by
 rw[nVz i hz (by simpa using h)]
 simp[h]
omit [Inhabited α]in
theorem tP {es:Nat} (hf:∀x,(f x).cells.length=es) {d:Array α} {z:Int} (i:Nat) (hz:z=i) {x y:α}:(vs f d.toList).set (Int.toNat z) (Bz (f y) 0 (f x))=vs f (d.setIfInBounds i x).toList:=by
 subst hz
 have e:Bz (f y) 0 (f x)=f x:=by
  unfold Bz
  rw[if_pos ⟨rfl,by rw[hf,hf]⟩]
 rw[e]
 show(vs f d.toList).set i (f x)=_
 simp[vs,List.map_set]
theorem nPK {d:Array α} {z:Int} {K:AV→Prop} (i:Nat) (k:K (f d[i]!)) (hz:z=i:=by omega) (h:i<d.size:=by first|omega|(simp;omega)):QJ (vs f d.toList) (Int.toNat z) K:=Au (nP i hz h) k
omit [Inhabited α]in
theorem tPK {es:Nat} (hf:∀x,(f x).cells.length=es) {d:Array α} {z:Int} {x y:α} {K:List AV→Prop} (i:Nat) (k:K (vs f (d.setIfInBounds i x).toList)) (hz:z=i:=by omega):eqK ((vs f d.toList).set (Int.toNat z) (Bz (f y) 0 (f x))) K:=A8 (tP hf i hz) k
@[simp] theorem Tn (d:Array α) (i j:Nat):(swp d i j).size=d.size:=by simp[swp]
variable {lt:α→α→Bool} {a b i j hi first root:Nat} {d:Array α}
@[simp] theorem XI:∀{j:Nat} {d:Array α},(insInner lt a j d).size=d.size
 |0,d=>rfl
 |j+1,d=>by
  rw[insInner]
  split
  ·rw[XI,Tn]
  ·rfl
theorem AdB (h:hi≤2*root+1):siftDown lt hi first root d=d:=by
 rw[siftDown,dif_pos h]
theorem XJ {lt:α→α→Bool} {hi first:Nat}:∀(n root:Nat) (d:Array α),hi-root≤n→(siftDown lt hi first root d).size=d.size:=by
 intro n
 induction n with
 |zero=>intro root d h;rw[AdB (by omega)]
 |succ n ih=>
  intro root d h
  rw[siftDown]
  split
  ·rfl
  ·split
   ·split
    ·rfl
    ·split
     ·rw[ih _ _ (by omega),Tn]
     ·rfl
   ·split
    ·rfl
    ·rw[ih _ _ (by omega),Tn]
@[simp] theorem Afu:(siftDown lt hi first root d).size=d.size:=XJ (hi-root) root d (Nat.le_refl _)
@[simp] theorem Wj:∀{k:Nat} {d:Array α},(heapBuild lt hi first k d).size=d.size
 |0,d=>rfl
 |k+1,d=>by rw[heapBuild,Wj,Afu]
end
theorem AjE {z:Int} {K:AV→Prop} (n k:Nat) (hz:z=n) (h:n<2^63) (h2:K (.int .i64 ((n / k:Nat):Int))):Jh .i64 (z.tdiv k) K:=by
 subst hz
 have e:(n:Int).tdiv k=((n / k:Nat):Int):=by
  rw[Int.tdiv_eq_ediv_of_nonneg (by omega)];rfl
 rw[e]
 have h3:n / k≤n:=Nat.div_le_self ..
 revert h2 h3 e
 generalize n / k=m
 intro h2 e h3
 exact CW (wrap_i64 (by omega) (by omega)) h2
end
section
open Go.Sort
section
variable {α:Type} [Inhabited α] {lt:α→α→Bool} {a b i j:Nat} {d:Array α}
@[simp] theorem AhW:∀{j:Nat} {d:Array α},(shiftDown lt j d).size=d.size
 |0,d=>rfl
 |j+1,d=>by
  rw[shiftDown]
  split
  ·rfl
  ·rw[AhW,Tn]
theorem AaF:∀(n j:Nat) (d:Array α),b-j≤n→(shiftUp lt b j d).size=d.size
 |0,j,d,h=>by rw[shiftUp,if_neg (by omega)]
 |n+1,j,d,h=>by
  rw[shiftUp]
  split
  ·split
   ·rfl
   ·rw[AaF n _ _ (by omega),Tn]
  ·rfl
@[simp] theorem Al1:(shiftUp lt b j d).size=d.size:=AaF (b-j) j d (Nat.le_refl _)
@[simp] theorem AkG:(fixDown lt a i d).size=d.size:=by unfold fixDown;split<;>simp
@[simp] theorem AkH:(fixUp lt b i d).size=d.size:=by unfold fixUp;split<;>simp
variable {p:α→Bool}
end
end
section
open Go.Sort
def Tq (a b:Int):Int:=if a=0 then b else a
def cS (x y:List UInt8):Int:=if Op.bytesLess x y=true then -1 else if Op.bytesLess y x=true then 1 else 0
structure PC {α:Type} (c:α→α→Int):Prop where
 anti:∀x y,c y x=-c x y
 trans:∀x y z,c x y≤0→c y z≤0→c x z≤0
theorem PC.on {α β:Type} {c:β→β→Int} (h:PC c) (p:α→β):PC fun x y=>c (p x) (p y):=⟨fun x y=>h.anti _ _,fun x y z=>h.trans _ _ _⟩
theorem Rn:∀(x y:List UInt8),Op.bytesLess x y=decide (x<y)
 |[],[]=>by simp[Op.bytesLess]
 |_::_,[]=>by simp[Op.bytesLess]
 |[],_::_=>by simp[Op.bytesLess]
 |a::x,b::y=>by
  rw[Op.bytesLess,Rn x y]
  simp only[List.cons_lt_cons_iff]
  by_cases h1:a<b<;>by_cases h2:a=b<;>by_cases h3:x<y<;>simp[h1,h2,h3]
theorem Aki (x y:List UInt8):Op.bytesLess x y=ltStr x y:=Rn x y
theorem AhX {x y:List UInt8} (h1:Op.bytesLess x y=false) (h2:Op.bytesLess y x=false):x=y:=by
 rw[Aki]at h1 h2
 simp only[ltStr,decide_eq_false_iff_not]at h1 h2
 exact List.le_antisymm (List.not_lt.1 h2) (List.not_lt.1 h1)
end
end AI
end Go.Proofs.YtchcadfjbkkgmaaGreatDoor
