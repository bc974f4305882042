/- Comparing two numbers. Looking for a node among increasing ids. graph.Check: the first error of a graph. graph.Check, walked. Components as data: lists of labels, and a forest of sets whose representatives are their least elements. Plain. Lists of labels: Find, Join (both), Same. The reference's triangles: who is joined, the table, who is near. Maps of the call's own: entries struck out; maps to truth values. -/
import Derived.Test.YtchcadfjbkkgmaaGreatDoorCGrCode
import Derived.Test.YtchcadfjbkkgmaaGreatDoorCMaa
import Derived.Test.YtchcadfjbkkgmaaGreatDoorCCk3
import GoSem.Dispatch
import Derived.Test.YtchcadfjbkkgmaaGreatDoorCMae
import Derived.Test.YtchcadfjbkkgmaaGreatDoorCVa
set_option linter.unusedVariables false
set_option maxRecDepth 4000
namespace Go.Proofs.YtchcadfjbkkgmaaGreatDoor
namespace AI
theorem nan {x:Int}:Af (Ad tab) 106 [.int .i64 x] (· =.bool (decide False)):=by
 refine Ac rfl rfl ?_
 (conv=>whnf);repeat' (first  |(refine kA ?_;conv=>whnf)|(refine Br.mk (fun hc=>?_) fun hc=>?_<;>first|exact hc.elim|conv=>whnf)|(refine kB ?_))
 all_goals first|exact absurd rfl hc|rfl
def LV (x y:Int):Int:=if x<y then -1 else if y<x then 1 else 0
theorem compare {x y:Int}:Af (Ad tab) 101 [.int .i64 x,.int .i64 y] (· =.int .i64 (LV x y)):=by
 refine Ac rfl rfl ?_
 (conv=>whnf);repeat' (first|(refine BX nan (fun hc=>absurd hc id) (fun _=>?_);conv=>whnf)|(refine kA ?_;conv=>whnf)|(refine Br.mk (fun hc=>?_) fun hc=>?_<;>first|exact hc.elim|conv=>whnf)|(refine kB ?_))
 all_goals unfold LV;first|(rw [if_pos (by omega)];rfl)|(rw [if_neg (by omega),if_pos (by omega)];rfl)|(rw [if_neg (by omega),if_neg (by omega)];rfl)
theorem Qr {x y:Int}:LV x y<0↔x<y:=by unfold LV;split<;>(try split)<;>omega
theorem Hy {x y:Int}:LV x y=0↔x=y:=by unfold LV;split<;>(try split)<;>omega
def incr (l:List Int):Prop:=∀j (h:j+1<l.length),l[j]<l[j+1]
noncomputable instance (l:List Int):Decidable (incr l):=Classical.propDecidable _
theorem Ab3 {l:List Int} (h:incr l) {i:Nat}:∀d (hd:i+d+1<l.length),l[i]<l[i+d+1]
 |0,hd=>h i hd
 |d+1,hd=>Int.lt_trans (Ab3 h d (by omega)) (h (i+d+1) hd)
theorem Adj {l:List Int} (h:incr l) {i j:Nat} (hij:i<j) (hj:j<l.length):l[i]<l[j]:=by
 obtain⟨d,rfl⟩:∃d,j=i+d+1:=⟨j-i-1,by omega⟩
 exact Ab3 h d hj
def Gv (N:List GN):List Int:=N.map GN.id
def Amu (E:List GE):List Int:=E.map GE.id
@[simp] theorem Amv (N:List GN):(Gv N).length=N.length:=by simp[Gv]
@[simp] theorem Amw (N:List GE):(Amu N).length=N.length:=by simp[Amu]
theorem NT {N:List GN} {i:Nat} (h:i<N.length):(Gv N)[i]'(by simpa using h)=(N[i]).id:=by simp[Gv]
theorem Aa1 {N:List GN} (h:incr (Gv N)) {i j:Nat} (hij:i<j) (hj:j<N.length):(N[i]).id<(N[j]).id:=by
 have:=Adj h hij (by simpa using hj)
 rwa [NT (by omega),NT hj]at this
theorem AoY {n:GN} {x:Int}:Af (Ad tab) 100 [n.av,.int .i64 x] (· =.int .i64 (LV n.id x)):=by
 refine Ac rfl rfl ?_
 (conv=>whnf);repeat' (first|(refine kA ?_;conv=>whnf)|(refine Br.mk (fun hc=>?_) fun hc=>?_<;>first|exact hc.elim|conv=>whnf)|(refine Aa compare ?_;rintro _ rfl;conv=>whnf)|(refine kB ?_))
 rfl
theorem bsearch {N:List GN} {nn:Bool} {x:Int} (hN:N.length<2^62) (hi:incr (Gv N)):Af (Ad tab) 99 [.sl nn (vs GN.av N),.int .i64 x,.fn 100 []] (fun v=>∃z b,v=.Cb [.int .i64 z,.bool b]∧(b=true↔x∈Gv N)):=by
 have fin:∀i:Nat,i≤N.length→(∀ k (h:k<N.length),k<i→(N[k]).id<x)→(∀ k (h:k<N.length),i≤k→x≤(N[k]).id)→(x∈Gv N↔∃h:i<N.length,(N[i]).id=x):=by
  intro i h0 h1 h2
  constructor
  ·intro h
   obtain⟨k,hk,e⟩:=List.getElem_of_mem h
   have hk':k<N.length:=by simpa using hk
   rw[NT hk']at e
   have a1:=h1 k hk'
   have:i≤k:=by
        rcases Nat.lt_or_ge k i with h|h
        ·have:=a1 h;omega
        ·exact h
   rcases Nat.lt_or_ge i k with h|h
   ·have:=Aa1 hi h hk'
    have:=h2 i (by omega) (Nat.le_refl _)
    omega
   ·obtain rfl:i=k:=by omega
    exact⟨hk',e⟩
  ·rintro⟨h,e⟩
   rw[← e,←NT h]
   exact List.getElem_mem _
 refine Ac rfl rfl ?_
 (conv=>whnf);repeat' (first|(refine kA ?_;conv=>whnf)|(refine Br.mk (fun hc=>?_) fun hc=>?_<;>first|exact hc.elim|conv=>whnf)  |(refine kB ?_))
 refine Ap (fun m env s=>∃(i j:Nat),m=j-i∧i≤j∧j≤N.length∧env=[(0,.sl nn (vs GN.av N)),(1,.int .i64 x),(2,.fn 100 []),(8,.int .i64 N.length),(9,.int .i64 i),(10,.int .i64 j)]∧s=⟨[],0⟩∧
  (∀ k (h:k<N.length),k<i→(N[k]).id<x)∧(∀ k (h:k<N.length),j≤k→x≤(N[k]).id)) ?_ _ _ _ ⟨0,N.length,rfl,by omega,by omega,by simp,rfl,fun k _ h=>absurd h (by omega),fun k h1 h=>absurd h (by omega)⟩
 rintro _ _ _ ⟨i,j,rfl,hij,hj,rfl,rfl,h1,h2⟩
 refine⟨rfl,?_⟩
 (conv=>whnf);repeat' (first|(refine Ua (i+j) (by omega) (by omega) ?_;conv=>whnf)|(apply CB;(· exact Aaj _);conv=>whnf)|(refine Aa AoY ?_;rintro _ rfl;conv=>whnf)|(refine kA ?_;conv=>whnf)|(refine Br.mk (fun hc=>?_) fun hc=>?_<;>first|exact hc.elim|conv=>whnf)|(refine kB ?_))
 ·have hm:=Qr.1 hc
  exact again.mk ⟨_,by omega,(i+j) / 2+1,j,rfl,by omega,hj,rfl,rfl,fun k hk hlt=>by
   rcases Nat.lt_or_ge k ((i+j) / 2)with h|h
   ·exact Int.lt_trans (Aa1 hi h (by omega)) hm
   ·obtain rfl:k=(i+j) / 2:=by omega
    exact hm,h2⟩
 ·have hm:=mt Qr.2 hc
  exact again.mk ⟨_,by omega,i,(i+j) / 2,rfl,by omega,by omega,rfl,rfl,h1,fun k hk hle=>by
   rcases Nat.lt_or_ge ((i+j) / 2) k with h|h
   ·have:=Aa1 hi h hk;omega
   ·obtain rfl:k=(i+j) / 2:=by omega
    omega⟩
 all_goals have hf:=fin i (by omega) h1 (fun k hk h=>h2 k hk (by omega))
 ·exact⟨_,_,rfl,fun _=>hf.2 ⟨by omega,Hy.1 hc⟩,fun _=>rfl⟩
 ·exact⟨_,_,rfl,fun h=>(Bool.noConfusion h),fun h=>absurd (Hy.2 (hf.1 h).2) hc⟩
 ·exact⟨_,_,rfl,fun h=>(Bool.noConfusion h),fun h=>absurd (hf.1 h).1 (by omega)⟩
theorem AoV {N:List GN} {nn:Bool} {x:Int} (hN:N.length<2^62) (hi:incr (Gv N)):Af (Ad tab) 61 [.sl nn (vs GN.av N),.int .i64 x] (· =.bool (decide (x∈Gv N))):=by
 refine Ac rfl rfl ?_
 (conv=>whnf);repeat' (first|(refine kA ?_;conv=>whnf)|(refine Br.mk (fun hc=>?_) fun hc=>?_<;>first|exact hc.elim|conv=>whnf)  |(refine kB ?_))
 refine Aa (bsearch hN hi) ?_
 rintro _ ⟨z,b,rfl,hb⟩
 (conv=>whnf);repeat' (first|(refine kA ?_;conv=>whnf)|(refine Br.mk (fun hc=>?_) fun hc=>?_<;>first|exact hc.elim|conv=>whnf)  |(refine kB ?_))
 ·exact BD (hb.1 hc)
 ·exact AY fun h=>by rw[hb.2 h]at hc;cases hc
def Jl (f:Nat→Int):Nat→Int
 |0=>0
 |n+1=>if Jl f n=0 then f n else Jl f n
theorem EC {f:Nat→Int}:∀{n:Nat},Jl f n=0↔∀k,k<n→f k=0
 |0=>by simp[Jl]
 |n+1=>by
  unfold Jl
  split
  ·rename_i h
   have:=EC.1 h
   refine⟨fun h0 k hk=>?_,fun h0=>h0 n (by omega)⟩
   rcases Nat.lt_or_ge k n with h1|h1
   ·exact this k h1
   ·obtain rfl:k=n:=by omega
    exact h0
  ·rename_i h
   exact⟨fun h0=>absurd h0 h,fun h0=>absurd (EC.2 fun k hk=>h0 k (by omega)) h⟩
theorem QU {f:Nat→Int} {i:Nat} (h:∀k,k<i→f k=0) (hi:f i≠0):∀{n:Nat},i<n→Jl f n=f i
 |0,hn=>absurd hn (by omega)
 |n+1,hn=>by
  unfold Jl
  rcases Nat.lt_or_ge i n with h1|h1
  ·rw[QU h hi h1,if_neg hi]
  ·obtain rfl:i=n:=by omega
   rw[if_pos (EC.2 h)]
noncomputable def Ef (N:List GN) (nx:Int) (i:Nat):Int:=
 match N[i]? with
 |none=>0
 |some n=>if 0<i∧(∃ m,N[i-1]?=some m∧n.id≤m.id)then 26 else if n.id<1∨nx≤n.id then 1 else DU n.labels n.props
noncomputable def Eo (N:List GN) (E:List GE) (nx:Int) (i:Nat):Int:=
 match E[i]? with
 |none=>0
 |some e=>if 0<i∧(∃ m,E[i-1]?=some m∧e.id≤m.id)then 26 else if e.id<1∨nx≤e.id then 1 else if¬(e.fr∈Gv N∧e.to∈Gv N)then 10 else if¬isName e.ty then 6 else DU [] e.props
theorem Aas {N:List GN} {nx:Int} {i:Nat} (h:i<N.length) (h0:0<i) (h1:(N[i]).id≤(N[i-1]).id):Ef N nx i=26:=by
 unfold Ef;rw[List.getElem?_eq_getElem h];exact if_pos ⟨h0,_,List.getElem?_eq_getElem (by omega),h1⟩
theorem AbG {N:List GN} {i:Nat} (h:i<N.length) (h1:0<i→¬(N[i]).id≤(N[i-1]).id):¬(0<i∧∃m,N[i-1]?=some m∧(N[i]).id≤m.id):=by
 rintro⟨a,m,b,c⟩;rw[List.getElem?_eq_getElem (by omega)]at b;rw[← Option.some.inj b]at c;exact h1 a c
theorem node1 {N:List GN} {nx:Int} {i:Nat} (h:i<N.length) (h1:0<i→¬(N[i]).id≤(N[i-1]).id) (h2:(N[i]).id<1∨nx≤(N[i]).id):Ef N nx i=1:=by
 unfold Ef;rw[List.getElem?_eq_getElem h];dsimp only;rw[if_neg (AbG h h1),if_pos h2]
theorem Yk {N:List GN} {nx:Int} {i:Nat} (h:i<N.length) (h1:0<i→¬(N[i]).id≤(N[i-1]).id) (h2:¬((N[i]).id<1∨nx≤(N[i]).id)):Ef N nx i=DU (N[i]).labels (N[i]).props:=by
 unfold Ef;rw[List.getElem?_eq_getElem h];dsimp only;rw[if_neg (AbG h h1),if_neg h2]
theorem KO {N:List GN} {nx:Int} {i:Nat} (h:i<N.length) (h0:Ef N nx i=0):(0<i→(N[i-1]).id<(N[i]).id)∧1≤(N[i]).id∧(N[i]).id<nx∧DU (N[i]).labels (N[i]).props=0:=by
 by_cases h1:0<i∧(N[i]).id≤(N[i-1]).id
 ·rw[Aas h h1.1 h1.2]at h0;omega
 have h1':0<i→¬(N[i]).id≤(N[i-1]).id:=fun a b=>h1 ⟨a,b⟩
 by_cases h2:(N[i]).id<1∨nx≤(N[i]).id
 ·rw[node1 h h1' h2]at h0;omega
 rw[Yk h h1' h2]at h0
 exact⟨fun a=>by have:=h1' a;omega,by omega,by omega,h0⟩
theorem Aat {N:List GN} {E:List GE} {nx:Int} {i:Nat} (h:i<E.length) (h0:0<i) (h1:(E[i]).id≤(E[i-1]).id):Eo N E nx i=26:=by
 unfold Eo;rw[List.getElem?_eq_getElem h];exact if_pos ⟨h0,_,List.getElem?_eq_getElem (by omega),h1⟩
theorem SS {E:List GE} {i:Nat} (h:i<E.length) (h1:0<i→¬(E[i]).id≤(E[i-1]).id):¬(0<i∧∃m,E[i-1]?=some m∧(E[i]).id≤m.id):=by
 rintro⟨a,m,b,c⟩;rw[List.getElem?_eq_getElem (by omega)]at b;rw[← Option.some.inj b]at c;exact h1 a c
theorem AeT {N:List GN} {E:List GE} {nx:Int} {i:Nat} (h:i<E.length) (h1:0<i→¬(E[i]).id≤(E[i-1]).id) (h2:(E[i]).id<1∨nx≤(E[i]).id):Eo N E nx i=1:=by
 unfold Eo;rw[List.getElem?_eq_getElem h];dsimp only;rw[if_neg (SS h h1),if_pos h2]
theorem Aau {N:List GN} {E:List GE} {nx:Int} {i:Nat} (h:i<E.length) (h1:0<i→¬(E[i]).id≤(E[i-1]).id) (h2:¬((E[i]).id<1∨nx≤(E[i]).id)) (h3:¬((E[i]).fr∈Gv N∧(E[i]).to∈Gv N)):Eo N E nx i=10:=by
 unfold Eo;rw[List.getElem?_eq_getElem h];dsimp only;rw[if_neg (SS h h1),if_neg h2,if_pos h3]
theorem AeU {N:List GN} {E:List GE} {nx:Int} {i:Nat} (h:i<E.length) (h1:0<i→¬(E[i]).id≤(E[i-1]).id) (h2:¬((E[i]).id<1∨nx≤(E[i]).id)) (h3:(E[i]).fr∈Gv N∧(E[i]).to∈Gv N) (h4:¬isName (E[i]).ty):Eo N E nx i=6:=by
 unfold Eo;rw[List.getElem?_eq_getElem h];dsimp only;rw[if_neg (SS h h1),if_neg h2,if_neg (not_not_intro h3),if_pos h4]
theorem Yl {N:List GN} {E:List GE} {nx:Int} {i:Nat} (h:i<E.length) (h1:0<i→¬(E[i]).id≤(E[i-1]).id) (h2:¬((E[i]).id<1∨nx≤(E[i]).id)) (h3:(E[i]).fr∈Gv N∧(E[i]).to∈Gv N) (h4:isName (E[i]).ty):Eo N E nx i=DU [] (E[i]).props:=by
 unfold Eo;rw[List.getElem?_eq_getElem h];dsimp only;rw[if_neg (SS h h1),if_neg h2,if_neg (not_not_intro h3),if_neg (not_not_intro h4)]
theorem JG {N:List GN} {E:List GE} {nx:Int} {i:Nat} (h:i<E.length) (h0:Eo N E nx i=0):(0<i→(E[i-1]).id<(E[i]).id)∧1≤(E[i]).id∧(E[i]).id<nx∧(E[i]).fr∈Gv N∧(E[i]).to∈Gv N∧isName (E[i]).ty∧DU [] (E[i]).props=0:=by
 by_cases h1:0<i∧(E[i]).id≤(E[i-1]).id
 ·rw[Aat h h1.1 h1.2]at h0;omega
 have h1':0<i→¬(E[i]).id≤(E[i-1]).id:=fun a b=>h1 ⟨a,b⟩
 by_cases h2:(E[i]).id<1∨nx≤(E[i]).id
 ·rw[AeT h h1' h2]at h0;omega
 by_cases h3:(E[i]).fr∈Gv N∧(E[i]).to∈Gv N
 case neg=>rw[Aau h h1' h2 h3]at h0;omega
 by_cases h4:isName (E[i]).ty
 case neg=>rw[AeU h h1' h2 h3 h4]at h0;omega
 rw[Yl h h1' h2 h3 h4]at h0
 exact⟨fun a=>by have:=h1' a;omega,by omega,by omega,h3.1,h3.2,h4,h0⟩
def FP (g:GG):Prop:=g.nodes.length≤2000∧g.edges.length≤4000
def GH (g:GG):Prop:=1≤g.BA∧g.BA≤1000001∧1≤g.BJ∧g.BJ≤1000001
instance (g:GG):Decidable (FP g):=by unfold FP;infer_instance
instance (g:GG):Decidable (GH g):=by unfold GH;infer_instance
noncomputable def AB (g:GG):Int:=
 if¬FP g then 4 else if¬GH g then 1 else
  if Jl (Ef g.nodes g.BA) g.nodes.length=0 then Jl (Eo g.nodes g.edges g.BJ) g.edges.length else Jl (Ef g.nodes g.BA) g.nodes.length
theorem AeV {g:GG} (h:¬FP g):AV.int .i64 4=AV.int .i64 (AB g):=by unfold AB;rw[if_pos h]
theorem AeW {g:GG} (h:FP g) (h1:¬GH g):AV.int .i64 1=AV.int .i64 (AB g):=by unfold AB;rw[if_neg (not_not_intro h),if_pos h1]
theorem checkN {g:GG} (h:FP g) (h1:GH g) {i:Nat} (hi:i<g.nodes.length) (h2:∀k,k<i→Ef g.nodes g.BA k=0) {r:Int} (h3:Ef g.nodes g.BA i=r) (hr:r≠0):AV.int .i64 r=AV.int .i64 (AB g):=by
 subst h3
 unfold AB
 rw[if_neg (not_not_intro h),if_neg (not_not_intro h1),QU h2 hr hi,if_neg hr]
theorem NS {g:GG} (h:FP g) (h1:GH g) (hn:∀k,k<g.nodes.length→Ef g.nodes g.BA k=0) {i:Nat} (hi:i<g.edges.length) (h2:∀k,k<i→Eo g.nodes g.edges g.BJ k=0) {r:Int} (h3:Eo g.nodes g.edges g.BJ i=r) (hr:r≠0):AV.int .i64 r=AV.int .i64 (AB g):=by
 subst h3
 unfold AB
 rw[if_neg (not_not_intro h),if_neg (not_not_intro h1),if_pos (EC.2 hn),QU h2 hr hi]
theorem Aai {g:GG} (h:FP g) (h1:GH g) (hn:∀k,k<g.nodes.length→Ef g.nodes g.BA k=0) (h2:∀k,k<g.edges.length→Eo g.nodes g.edges g.BJ k=0):AV.int .i64 0=AV.int .i64 (AB g):=by
 unfold AB
 rw[if_neg (not_not_intro h),if_neg (not_not_intro h1),if_pos (EC.2 hn),EC.2 h2]
theorem Aav {N:List GN} {nx:Int} (h:∀k,k<N.length→Ef N nx k=0):incr (Gv N):=by
 intro j hj
 have hj':j+1<N.length:=by simpa using hj
 rw[NT (by omega),NT hj']
 exact(KO hj' (h _ hj')).1 (by omega)
theorem Jg {g:GG} (h:AB g=0):FP g∧GH g∧(∀ k,k<g.nodes.length→Ef g.nodes g.BA k=0)∧∀k,k<g.edges.length→Eo g.nodes g.edges g.BJ k=0:=by
 unfold AB at h
 by_cases h1:FP g
 case neg=>rw[if_pos h1]at h;omega
 by_cases h2:GH g
 case neg=>rw[if_neg (not_not_intro h1),if_pos h2]at h;omega
 rw[if_neg (not_not_intro h1),if_neg (not_not_intro h2)]at h
 split at h
 ·rename_i h3
  exact⟨h1,h2,EC.1 h3,EC.1 h⟩
 ·rename_i h3;exact absurd h h3
attribute [irreducible] Ef Eo AB Jl
theorem JR {f:Nat→Int} {i:Nat} (h:∀k,k<i→f k=0) (hi:f i=0):∀k,k<i+1→f k=0:=by
 intro k hk
 rcases Nat.lt_or_ge k i with h1|h1
 ·exact h k h1
 ·obtain rfl:k=i:=by omega
  exact hi
theorem Ako {n:GN} (h:n.ok):Af (Ad tab) 60 [.sl n.ln (vs .str n.labels),.sl n.pn (vs GP.av n.props)] (· =.int .i64 (DU n.labels n.props)):=
 Aex h.2.1 h.2.2.2.1 h.2.2.2.2.1 h.2.2.2.2.2.2
theorem AhU {n:GE} (h:n.ok):Af (Ad tab) 60 [.sl false [],.sl n.pn (vs GP.av n.props)] (· =.int .i64 (DU [] n.props)):=
 Aex (L:=[]) (by decide) (by simp) h.2.2.2.2.1 h.2.2.2.2.2.2
theorem Akp {g:GG} (hg:g.ok) (hf:FP g) (hnx:GH g) {c:Nat} {Q:AZ→Env→Am→Prop}
 (hret:∀r s,AV.int .i64 r=AV.int .i64 (AB g)→Q .ret [(2,.int .i64 r)] s)
 (hend:(∀ k,k<g.nodes.length→Ef g.nodes g.BA k=0)→∀c i,Q (.exit 0) [(1,.ref 0 0 0 0),(38,.sl g.nn (vs GN.av g.nodes)),(39,.int .i64 g.nodes.length),(40,.int .i64 i),(41,.bool false)] ⟨[.arr 0 4 true true [g.av]],c⟩):
 Run (Ad tab) (.loop l27_0_h l27_0_b) [(1,.ref 0 0 0 0),(38,.sl g.nn (vs GN.av g.nodes)),(39,.int .i64 g.nodes.length),(40,.int .i64 0)] ⟨[.arr 0 4 true true [g.av]],c⟩ Q:=by
 obtain⟨g1,g2,g3,g4,g5,g6,g7,g8⟩:=hg
 unfold Ln at g1 g4
 have hf':g.nodes.length≤2000:=hf.1
 refine Ap (fun m env s=>∃i:Nat,m=g.nodes.length-i∧env=[(1,.ref 0 0 0 0),(38,.sl g.nn (vs GN.av g.nodes)),(39,.int .i64 g.nodes.length),(40,.int .i64 i)]∧(∃ c,s=⟨[.arr 0 4 true true [g.av]],c⟩)∧∀k,k<i→Ef g.nodes g.BA k=0) ?_ _ _ _ ⟨0,rfl,by simp,⟨_,rfl⟩,fun k h=>absurd h (by omega)⟩
 rintro _ _ _ ⟨i,rfl,rfl,⟨c,rfl⟩,hx⟩
 refine⟨rfl,?_⟩
 have hat:∀h:i<g.nodes.length,(g.nodes[i]).ok:=fun h=>g3 _ (List.getElem_mem _)
 (conv=>whnf);repeat' (first|(apply Ah;(· exact nVz (i-1) (by omega) (by omega));conv=>whnf)|(refine Aa (Ako (n:=g.nodes[i]) (hat (by omega))) ?_;rintro _ rfl;conv=>whnf)|(refine hret _ _ ?_)|(refine hend (fun k hk=>hx k (by omega)) _ _)|(refine kA ?_;conv=>whnf)|(refine Br.mk (fun hc=>?_) fun hc=>?_<;>first|exact hc.elim|conv=>whnf)|(refine kB ?_))
 all_goals first
  |exact again.mk ⟨_,by omega,i+1,rfl,rfl,⟨_,rfl⟩,JR hx ((Yk (by omega) (fun h=>by first|assumption|omega) (by omega)).trans hc)⟩
  |exact checkN hf hnx (by omega) hx (Aas (by omega) (by omega) (by assumption)) (by decide)
  |exact checkN hf hnx (by omega) hx (node1 (by omega) (fun h=>by first|assumption|omega) (by omega)) (by decide)
  |exact checkN hf hnx (by omega) hx (Yk (by omega) (fun h=>by first|assumption|omega) (by omega)) hc
set_option maxHeartbeats 1000000 in
theorem Akq {g:GG} (hg:g.ok) (hf:FP g) (hnx:GH g) (hN:∀k,k<g.nodes.length→Ef g.nodes g.BA k=0) {c:Nat} {Q:AZ→Env→Am→Prop}
 (hret:∀r s,AV.int .i64 r=AV.int .i64 (AB g)→Q .ret [(2,.int .i64 r)] s)
 (hend:(∀ k,k<g.edges.length→Eo g.nodes g.edges g.BJ k=0)→∀c i,Q (.exit 2) [(1,.ref 0 0 0 0),(79,.sl g.en (vs GE.av g.edges)),(80,.int .i64 g.edges.length),(81,.int .i64 i),(82,.bool false)] ⟨[.arr 0 4 true true [g.av]],c⟩):
 Run (Ad tab) (.loop l27_1_h l27_1_b) [(1,.ref 0 0 0 0),(79,.sl g.en (vs GE.av g.edges)),(80,.int .i64 g.edges.length),(81,.int .i64 0)] ⟨[.arr 0 4 true true [g.av]],c⟩ Q:=by
 obtain⟨g1,g2,g3,g4,g5,g6,g7,g8⟩:=hg
 unfold Ln at g1 g4
 have hf':g.edges.length≤4000:=hf.2
 have hI:=Aav hN
 have hl:g.nodes.length<2^62:=by have:=hf.1;omega
 refine Ap (fun m env s=>∃i:Nat,m=g.edges.length-i∧env=[(1,.ref 0 0 0 0),(79,.sl g.en (vs GE.av g.edges)),(80,.int .i64 g.edges.length),(81,.int .i64 i)]∧(∃ c,s=⟨[.arr 0 4 true true [g.av]],c⟩)∧∀k,k<i→Eo g.nodes g.edges g.BJ k=0) ?_ _ _ _ ⟨0,rfl,by simp,⟨_,rfl⟩,fun k h=>absurd h (by omega)⟩
 rintro _ _ _ ⟨i,rfl,rfl,⟨c,rfl⟩,hx⟩
 refine⟨rfl,?_⟩
 have hat:∀h:i<g.edges.length,(g.edges[i]).ok:=fun h=>g6 _ (List.getElem_mem _)
 (conv=>whnf);repeat' (first|(apply Ah;(· exact nVz (i-1) (by omega) (by omega));conv=>whnf)|(refine BX (AoV hl hI) (fun hc=>?_) (fun hc=>?_)<;>conv=>whnf)|(refine BX (name1 (s:=(g.edges[i]).ty) (hat (by omega)).2.2.2.1) (fun hnm=>?_) (fun hnm=>?_)<;>conv=>whnf)|(refine Aa (AhU (n:=g.edges[i]) (hat (by omega))) ?_;rintro _ rfl;conv=>whnf)|(refine hret _ _ ?_)|(refine hend (fun k hk=>hx k (by omega)) _ _)|(refine kA ?_;conv=>whnf)|(refine Br.mk (fun hc=>?_) fun hc=>?_<;>first|exact hc.elim|conv=>whnf)|(refine kB ?_))
 all_goals first
  |exact again.mk ⟨_,by omega,i+1,rfl,rfl,⟨_,rfl⟩,JR hx ((Yl (by omega) (fun h=>by first|assumption|omega) (by omega) ⟨by assumption,by assumption⟩ hnm).trans hc)⟩
  |exact NS hf hnx hN (by omega) hx (Aat (by omega) (by omega) (by assumption)) (by decide)
  |exact NS hf hnx hN (by omega) hx (AeT (by omega) (fun h=>by first|assumption|omega) (by omega)) (by decide)
  |exact NS hf hnx hN (by omega) hx (Aau (by omega) (fun h=>by first|assumption|omega) (by omega) (fun h=>by first|exact absurd h.1 (by assumption)|exact absurd h.2 (by assumption))) (by decide)
  |exact NS hf hnx hN (by omega) hx (AeU (by omega) (fun h=>by first|assumption|omega) (by omega) ⟨by assumption,by assumption⟩ hnm) (by decide)
  |exact NS hf hnx hN (by omega) hx (Yl (by omega) (fun h=>by first|assumption|omega) (by omega) ⟨by assumption,by assumption⟩ hnm) hc
theorem Aad {g:GG} (hg:g.ok):Af (Ad tab) 27 [g.av] (· =.int .i64 (AB g)):=by
 have hg0:=hg
 obtain⟨g1,g2,g3,g4,g5,g6,g7,g8⟩:=hg
 unfold Ln at g1 g4
 refine Ac rfl rfl ?_
 (conv=>whnf);repeat' (first|(refine kA ?_;conv=>whnf)|(refine Br.mk (fun hc=>?_) fun hc=>?_<;>first|exact hc.elim|conv=>whnf)  |(refine kB ?_))
 all_goals first|exact AeV (by unfold FP;omega)|exact AeW (by unfold FP;omega) (by unfold GH;omega)|skip
 have hf:FP g:=by unfold FP;omega
 have hnx:GH g:=by unfold GH;omega
 refine Akp hg0 hf hnx (fun r s h=>by(conv=>whnf);(apply AL;(· rfl);conv=>whnf);(apply AL;(· rfl);conv=>whnf);exact h) (fun hN c i=>?_)
 (conv=>whnf);repeat' (first|(refine kA ?_;conv=>whnf)|(refine Br.mk (fun hc=>?_) fun hc=>?_<;>first|exact hc.elim|conv=>whnf)  |(refine kB ?_))
 refine Akq hg0 hf hnx hN (fun r s h=>by(conv=>whnf);(apply AL;(· rfl);conv=>whnf);(apply AL;(· rfl);conv=>whnf);exact h) (fun hE c i=>?_)
 (conv=>whnf);repeat' (first|(refine kA ?_;conv=>whnf)|(refine Br.mk (fun hc=>?_) fun hc=>?_<;>first|exact hc.elim|conv=>whnf)  |(refine kB ?_))
 exact Aai hf hnx hN hE
def AcU (x y:Int):Int:=if y<x then y else x
def Vd (x y:Int) (p:Int×Int):Int×Int:=if p.2=x∨p.2=y then(p.1,AcU x y)else p
inductive Root (p:Int→Int):Int→Int→Prop where
 |here {x:Int} (h:p x=x):Root p x x
 |up {x c:Int} (h:p x≠x) (k:Root p (p x) c):Root p x c
theorem Root.fix {p:Int→Int} {x c:Int} (h:Root p x c):p c=c:=by
 induction h with
 |here h=>exact h
 |up _ _ ih=>exact ih
theorem Root.JF {p:Int→Int} {x c d:Int} (h:Root p x c) (k:Root p x d):c=d:=by
 induction h with
 |here h=>cases k with
  |here _=>rfl
  |up h' _=>exact absurd h h'
 |up h _ ih=>cases k with
  |here h'=>exact absurd h' h
  |up _ k'=>exact ih k'
def AdG (p:Int→Int) (x y:Int):Int→Int:=fun z=>if z=x then y else p z
theorem KF (p:Int→Int) (x y:Int):AdG p x y x=y:=if_pos rfl
theorem Gz {p:Int→Int} {x y z:Int} (h:z≠x):AdG p x y z=p z:=if_neg h
theorem Root.union {p:Int→Int} {M m:Int} (hM:p M=M) (hm:p m=m) (hne:m≠M) {a d:Int} (h:Root p a d):Root (AdG p M m) a (if d=M then m else d):=by
 have hmm:AdG p M m m=m:=by rw[Gz hne,hm]
 induction h with
 |@here a h=>
  by_cases e:a=M
  ·subst e
   rw[if_pos rfl]
   exact .up (by rw[KF];exact hne) (by rw[KF];exact .here hmm)
  ·rw[if_neg e]
   exact .here (by rw[Gz e,h])
 |@up a d h k ih=>
  by_cases e:a=M
  ·subst e;exact absurd hM h
  ·exact .up (by rw[Gz e];exact h) (by rw[Gz e];exact ih)
structure Jz (S:List Int) (p r:Int→Int):Prop where
 mem:∀x∈S,p x∈S
 le:∀x∈S,p x≤x
 root:∀x∈S,Root p x (r x)
section
variable {S:List Int} {p r:Int→Int}
theorem Jz.Anb (h:Jz S p r) {x:Int} (hx:x∈S):r x∈S:=by
 have k:=h.root x hx
 generalize r x=c at k
 induction k with
 |here _=>exact hx
 |up _ _ ih=>exact ih (h.mem _ hx)
theorem Jz.Anc (h:Jz S p r) {x:Int} (hx:x∈S):p (r x)=r x:=(h.root x hx).fix
theorem Jz.step (h:Jz S p r) {x:Int} (hx:x∈S):r (p x)=r x:=by
 have k:=h.root x hx
 by_cases e:p x=x
 ·rw[e]
 ·generalize r x=c at k
  cases k with
  |here h'=>exact absurd h' e
  |up _ k'=>exact(h.root _ (h.mem x hx)).JF k'
theorem Jz.start (S:List Int):Jz S (fun x=>x) (fun x=>x):=⟨fun _ h=>h,fun _ _=>Int.le_refl _,fun _ _=>.here rfl⟩
theorem Jz.union (h:Jz S p r) {a b:Int} (ha:a∈S) (hb:b∈S):
 Jz S (AdG p (if r b>r a then r b else r a) (if r b<r a then r b else r a)) (fun c=>(Vd (r a) (r b) (c,r c)).2):=by
 obtain⟨M,hM⟩:∃M,(if r b>r a then r b else r a)=M:=⟨_,rfl⟩
 obtain⟨m,hm⟩:∃m,(if r b<r a then r b else r a)=m:=⟨_,rfl⟩
 rw[hM,hm]
 have fa:=h.Anc ha
 have fb:=h.Anc hb
 have ma:=h.Anb ha
 have mb:=h.Anb hb
 have hMr:M=r a∨M=r b:=by rw[← hM];split<;>simp
 have hmr:m=r a∨m=r b:=by rw[← hm];split<;>simp
 have hle:m≤M:=by rw[← hM,←hm];split<;>split<;>omega
 have hMS:M∈S:=by rcases hMr with e|e<;>rw[e]<;>assumption
 have hmS:m∈S:=by rcases hmr with e|e<;>rw[e]<;>assumption
 have hMf:p M=M:=by rcases hMr with e|e<;>rw[e]<;>assumption
 have hmf:p m=m:=by rcases hmr with e|e<;>rw[e]<;>assumption
 have hmin:AcU (r a) (r b)=m:=by rw[← hm];rfl
 refine⟨fun y hy=>?_,fun y hy=>?_,fun y hy=>?_⟩
 ·by_cases e:y=M
  ·subst e;rw[KF];exact hmS
  ·rw[Gz e];exact h.mem y hy
 ·by_cases e:y=M
  ·subst e;rw[KF];exact hle
  ·rw[Gz e];exact h.le y hy
 ·by_cases e:m=M
  ·have hab:r a=r b:=by
        rw[← hM,←hm]at e
        split at e<;>split at e<;>omega
   have hself:AdG p M m=p:=by
        funext z
        by_cases ez:z=M
        ·subst ez;rw[KF,hMf];exact e
        ·exact Gz ez
   rw[hself]
   have:(Vd (r a) (r b) (y,r y)).2=r y:=by
        unfold Vd
        split
        ·rename_i hc
         show AcU (r a) (r b)=r y
         unfold AcU
         simp only at hc
         split<;>omega
        ·rfl
   rw[this]
   exact h.root y hy
  ·have k:=(h.root y hy).union hMf hmf e
   have:(Vd (r a) (r b) (y,r y)).2=if r y=M then m else r y:=by
        unfold Vd
        rw[hmin]
        simp only
        by_cases c1:r y=r a∨r y=r b
        ·rw[if_pos c1]
         show m=_
         by_cases c2:r y=M
         ·rw[if_pos c2]
         ·rw[if_neg c2]
          rcases c1 with c|c
          ·rw[c]at c2 ⊢
           rw[← hM]at c2
           rw[← hm]
           split at c2<;>split<;>omega
          ·rw[c]at c2 ⊢
           rw[← hM]at c2
           rw[← hm]
           split at c2<;>split<;>omega
        ·rw[if_neg c1]
         have:r y≠M:=fun e=>c1 (by rcases hMr with k|k<;>omega)
         rw[if_neg this]
   rw[this]
   exact k
end
def pv (p:Int×Int):AV:=.agg [.int .i64 p.1,.int .i64 p.2]
theorem WY (x:Int×Int):(pv x).cells.length=2:=rfl
theorem tPv {l:List (Int×Int)} {i:Nat} {y:Int×Int} {v:Int} {K:List AV→Prop} (k:K (vs pv (l.set i (y.1,v)))):eqK ((vs pv l).set (Int.toNat (i:Int)) (BQ (pv y) (0+1) (.int .i64 v))) K:=by
 refine CB ?_ k
 show(vs pv l).set i (pv (y.1,v))=_
 simp[vs,List.map_set]
structure Half (f:Int×Int→Int×Int) (l W:List (Int×Int)) (i:Nat):Prop where
 len:W.length=l.length
 old:∀j,i≤j→W[j]?=l[j]?
 new:∀j,j<i→W[j]?=(l.map f)[j]?
theorem Half.start (f:Int×Int→Int×Int) (l:List (Int×Int)):Half f l l 0:=⟨rfl,fun _ _=>rfl,fun _ h=>absurd h (by omega)⟩
theorem Half.at {f:Int×Int→Int×Int} {l W:List (Int×Int)} {i:Nat} (h:Half f l W i) (hi:i<l.length):W[i]'(by rw[h.len];exact hi)=l[i]:=by
 have:=h.old i (Nat.le_refl _)
 rw[List.getElem?_eq_getElem hi,List.getElem?_eq_getElem (by rw[h.len];exact hi)]at this
 simpa using this
theorem Half.put {f:Int×Int→Int×Int} {l W:List (Int×Int)} {i:Nat} (h:Half f l W i) (hi:i<l.length):Half f l (W.set i (f (l[i]))) (i+1):=by
 refine⟨by simp[h.len],fun j hj=>?_,fun j hj=>?_⟩
 ·rw[List.getElem?_set_ne (by omega)];exact h.old j (by omega)
 ·by_cases e:j=i
  ·subst e
   rw[List.getElem?_set_self (by rw[h.len];exact hi),List.getElem?_map,List.getElem?_eq_getElem hi];rfl
  ·rw[List.getElem?_set_ne (by omega)];exact h.new j (by omega)
theorem Half.skip {f:Int×Int→Int×Int} {l W:List (Int×Int)} {i:Nat} (h:Half f l W i) (hi:i<l.length) (he:f (l[i])=l[i]):Half f l W (i+1):=by
 refine⟨h.len,fun j hj=>h.old j (by omega),fun j hj=>?_⟩
 by_cases e:j=i
 ·subst e
  rw[h.old j (Nat.le_refl _),List.getElem?_map,List.getElem?_eq_getElem hi,Option.map_some,he]
 ·exact h.new j (by omega)
theorem Half.all {f:Int×Int→Int×Int} {l W:List (Int×Int)} {i:Nat} (h:Half f l W i) (hi:¬i<l.length):W=l.map f:=by
 apply List.ext_getElem?
 intro j
 by_cases hj:j<i
 ·exact h.new j hj
 ·rw[List.getElem?_eq_none (by rw[h.len];omega),List.getElem?_eq_none (by simp;omega)]
def JP (types:List (List UInt8)) (a b:Int) (e:GE):Prop:=e.fr=a∧e.to=b∧HT types e
instance (types:List (List UInt8)) (a b:Int) (e:GE):Decidable (JP types a b e):=by unfold JP;infer_instance
def JN (types:List (List UInt8)) (es:List GE) (a b:Int):Prop:=∃i,∃h:i<es.length,JP types a b es[i]
noncomputable instance (types:List (List UInt8)) (es:List GE) (a b:Int):Decidable (JN types es a b):=Classical.propDecidable _
set_option maxHeartbeats 1000000 in
theorem Ahp {g:GG} (hg:g.ok) {types:List (List UInt8)} {tn:Bool} {a b:Int} (ht:types.length<2^63):Af (Ad tab) 70 [g.av,.sl tn (vs .str types),.int .i64 a,.int .i64 b] (· =.bool (decide (JN types g.edges a b))):=by
 have hl:=hg.2.2.2.1
 unfold Ln at hl
 refine Ac rfl rfl ?_
 (conv=>whnf);repeat' (first  |(refine kA ?_;conv=>whnf)|(refine Br.mk (fun hc=>?_) fun hc=>?_<;>first|exact hc.elim|conv=>whnf)|(refine kB ?_))
 refine Ap (fun m env s=>∃(i c:Nat),m=g.edges.length-i∧(∀ k,∀h:k<g.edges.length,k<i→¬JP types a b g.edges[k])∧env=[(1,.sl tn (vs .str types)),(2,.int .i64 a),(3,.int .i64 b),(4,.ref 0 0 0 0),(9,.int .i64 i)]∧s=⟨[.arr 0 4 true true [g.av]],c⟩) ?_ _ _ _ ⟨0,_,rfl,fun k h hk=>by omega,rfl,rfl⟩
 rintro _ _ _ ⟨i,c,rfl,hno,rfl,rfl⟩
 refine⟨rfl,?_⟩
 by_cases hlt:i<g.edges.length
 ·have hnext:¬JP types a b g.edges[i]→∀k,∀h:k<g.edges.length,k<i+1→¬JP types a b g.edges[k]:=fun hn k h hk=>by
   by_cases e:k=i
   ·subst e;exact hn
   ·exact hno k h (by omega)
  by_cases h1:(g.edges[i]).fr=a<;>by_cases h2:(g.edges[i]).to=b<;>by_cases h3:HT types g.edges[i]
  all_goals (
   have hT:=Ae9 (nn:=tn) (e:=g.edges[i]) ht
   first|rw[decide_eq_true h3]at hT|rw[decide_eq_false h3]at hT
   (conv=>whnf);repeat' (first|(refine Aa hT ?_;rintro _ rfl;conv=>whnf)|(refine kA ?_;conv=>whnf)|(refine Br.mk (fun hc=>?_) fun hc=>?_<;>first|exact hc.elim|conv=>whnf)|(refine kB ?_)))
  all_goals first
   |(exfalso;omega)
   |(exfalso;contradiction)
   |exact again.mk ⟨_,by omega,i+1,_,rfl,hnext (fun h=>by first|exact h1 h.1|exact h2 h.2.1|exact h3 h.2.2),rfl,rfl⟩
   |exact BD ⟨i,hlt,h1,h2,h3⟩
 ·(conv=>whnf);repeat' (first  |(refine kA ?_;conv=>whnf)|(refine Br.mk (fun hc=>?_) fun hc=>?_<;>first|exact hc.elim|conv=>whnf)|(refine kB ?_))
  all_goals first
   |(exfalso;omega)
   |exact AY (fun ⟨k,h,hk⟩=>hno k h (by omega) hk)
noncomputable def adj (types:List (List UInt8)) (g:GG) (m n:GN):Bool:=decide (JN types g.edges m.id n.id)
noncomputable def F5 (types:List (List UInt8)) (g:GG):List (List Bool):=g.nodes.map fun m=>g.nodes.map (adj types g m)
def slB (r:List Bool):AV:=.sl true (vs .bool r)
theorem cellsB (b:Bool):(AV.bool b).cells.length=1:=rfl
theorem Ahq (r:List Bool):(slB r).cells.length=1:=rfl
set_option maxHeartbeats 1000000 in
theorem Aj2 {g:GG} (hg:g.ok) (hN:g.nodes.length≤1000) {types:List (List UInt8)} {tn:Bool} (ht:types.length<2^63):Af (Ad tab) 34 [g.av,.sl tn (vs .str types)] (· =.sl (decide (0<g.nodes.length)) (vs slB (F5 types g))):=by
 refine Ac rfl rfl ?_
 (conv=>whnf);repeat' (first  |(refine kA ?_;conv=>whnf)|(refine Br.mk (fun hc=>?_) fun hc=>?_<;>first|exact hc.elim|conv=>whnf)|(refine kB ?_))
 refine Ap (fun m env s=>∃(i c gg:Nat) (nn:Bool),m=g.nodes.length-i∧i≤g.nodes.length∧nn=decide (0<i)∧env=[(1,.sl tn (vs .str types)),(2,.ref 0 0 0 0),(5,.own 1 gg 0 i),(6,.int .i64 i)]∧s=⟨[.arr 0 4 true true [g.av],.arr gg 1 nn true (vs slB ((F5 types g).take i))],c⟩) ?_ _ _ _ ⟨0,_,_,_,rfl,by omega,rfl,rfl,rfl⟩
 rintro _ _ _ ⟨i,c,gg,nn,rfl,hi,hnn,rfl,rfl⟩
 refine⟨rfl,?_⟩
 by_cases hlt:i<g.nodes.length
 ·have hrl:(g.nodes.map (adj types g g.nodes[i])).length=g.nodes.length:=List.length_map _
  (conv=>whnf);repeat' (first  |(refine kA ?_;conv=>whnf)|(refine Br.mk (fun hc=>?_) fun hc=>?_<;>first|exact hc.elim|conv=>whnf)|(refine kB ?_))
  refine Ap (fun m env s=>∃(j c g2:Nat) (n2:Bool),m=g.nodes.length-j∧j≤g.nodes.length∧(0<j→n2=true)∧env=[(1,.sl tn (vs .str types)),(2,.ref 0 0 0 0),(5,.own 1 gg 0 i),(6,.int .i64 i),(7,.own 2 g2 0 j),(8,.int .i64 j)]∧s=⟨[.arr 0 4 true true [g.av],.arr gg 1 nn true (vs slB ((F5 types g).take i)),.arr g2 1 n2 true (vs .bool ((g.nodes.map (adj types g g.nodes[i])).take j))],c⟩) ?_ _ _ _ ⟨0,_,_,_,rfl,by omega,fun h=>by omega,rfl,rfl⟩
  rintro _ _ _ ⟨j,c2,g2,n2,rfl,hj,hn2,rfl,rfl⟩
  refine⟨rfl,?_⟩
  by_cases hjlt:j<g.nodes.length
  ·have pj:=Ahp (a:=(g.nodes[i]).id) (b:=(g.nodes[j]).id) (tn:=tn) hg ht
   have htk:((g.nodes.map (adj types g g.nodes[i])).take j).length=j:=by rw[List.length_take,hrl];omega
   have hsn:(g.nodes.map (adj types g g.nodes[i])).take (j+1)=(g.nodes.map (adj types g g.nodes[i])).take j++[decide (JN types g.edges (g.nodes[i]).id (g.nodes[j]).id)]:=by
        rw[List.take_succ_eq_append_getElem (by rw[hrl];exact hjlt),List.getElem_map];rfl
   generalize decide (JN types g.edges (g.nodes[i]).id (g.nodes[j]).id)=bb at pj hsn
   cases bb
   all_goals (
        (conv=>whnf);repeat' (first|(refine Aa pj ?_;rintro _ rfl;conv=>whnf)|(refine Ij (f:=.bool) (l:=(g.nodes.map (adj types g g.nodes[i])).take j) cellsB (by rw[htk]) (by rw[htk];omega) ?_;conv=>whnf)|(refine kA ?_;conv=>whnf)|(refine Br.mk (fun hc=>?_) fun hc=>?_<;>first|exact hc.elim|conv=>whnf)|(refine kB ?_)))
   all_goals first
        |(exfalso;omega)
        |(rw [htk,←hsn];exact again.mk ⟨_,by omega,j+1,_,_,_,rfl,by omega,fun _=>rfl,rfl,rfl⟩)
  ·have hje:j=g.nodes.length:=by omega
   subst hje
   have hrt:(g.nodes.map (adj types g g.nodes[i])).take g.nodes.length=g.nodes.map (adj types g g.nodes[i]):=List.take_of_length_le (by rw[hrl];exact Nat.le_refl _)
   rw[hrt]
   have hsub:sub (vs AV.bool (g.nodes.map (adj types g g.nodes[i]))) 0 g.nodes.length=vs AV.bool (g.nodes.map (adj types g g.nodes[i])):=by
        have:sub (vs AV.bool (g.nodes.map (adj types g g.nodes[i]))) 0 (g.nodes.map (adj types g g.nodes[i])).length=vs AV.bool (g.nodes.map (adj types g g.nodes[i])):=uV
        rwa [hrl]at this
   obtain rfl:=hn2 (by omega)
   have hti:((F5 types g).take i).length=i:=by rw[List.length_take];unfold F5;rw[List.length_map];omega
   have hsn:(F5 types g).take (i+1)=(F5 types g).take i++[g.nodes.map (adj types g g.nodes[i])]:=by
        rw[List.take_succ_eq_append_getElem (by unfold F5;rw[List.length_map];exact hlt)];unfold F5;rw[List.getElem_map]
   (conv=>whnf);repeat' (first|(rw [hsub];conv=>whnf)|(refine Ij (f:=slB) (l:=(F5 types g).take i) (x:=g.nodes.map (adj types g g.nodes[i])) Ahq (by rw[hti]) (by rw[hti];omega) ?_;conv=>whnf)|(refine kA ?_;conv=>whnf)|(refine Br.mk (fun hc=>?_) fun hc=>?_<;>first|exact hc.elim|conv=>whnf)|(refine kB ?_))
   all_goals first
        |(exfalso;omega)
        |(rw [hti,←hsn];exact again.mk ⟨_,by omega,i+1,_,_,_,rfl,by omega,(decide_eq_true (by omega)).symm,rfl,rfl⟩)
        |(rw [hti,←hsn];exact again.mk ⟨_,by omega,i+1,_,_,_,rfl,by omega,(decide_eq_true (by omega)).symm,rfl,rfl⟩)
 ·have hie:i=g.nodes.length:=by omega
  subst hie
  have htl:(F5 types g).length=g.nodes.length:=by unfold F5;rw[List.length_map]
  rw[List.take_of_length_le (by rw[htl];exact Nat.le_refl _)]
  have VH:sub (vs slB (F5 types g)) 0 g.nodes.length=vs slB (F5 types g):=by
   have:sub (vs slB (F5 types g)) 0 (F5 types g).length=vs slB (F5 types g):=uV
   rwa [htl]at this
  (conv=>whnf);repeat' (first|(refine CB (by rw[← htl];exact uV) ?_;conv=>whnf)|(refine FD ⟨rfl,by simp[htl]⟩ ?_;conv=>whnf)|(refine kA ?_;conv=>whnf)|(refine Br.mk (fun hc=>?_) fun hc=>?_<;>first|exact hc.elim|conv=>whnf)|(refine kB ?_))
  all_goals first
   |(exfalso;omega)
   |(rw [hnn,VH])
section
variable {α β:Type} [DecidableEq α]
def Agh (M:List (α×β)):Prop:=(M.map (·.1)).Nodup
theorem Hu {M:List (α×β)} {k:α}:EH M k=none↔k∉M.map (·.1):=by
 induction M with
 |nil=>simp[EH]
 |cons p M ih=>
  obtain⟨a,b⟩:=p
  by_cases h:k=a
  ·subst h;simp[EH]
  ·rw[show EH ((a,b)::M) k=EH M k from if_neg h,ih,List.map_cons,List.mem_cons]
   simp[h]
theorem AdC {M:List (α×β)} {k x:α} {v:β}:x∈(Fz M k v).map (·.1)↔x=k∨x∈M.map (·.1):=by
 have h:=@Hu α β _ (Fz M k v) x
 have h2:=@Hu α β _ M x
 rw[I5]at h
 by_cases e:x=k
 ·subst e
  rw[if_pos rfl]at h
  refine⟨fun _=>.inl rfl,fun _=>Classical.byContradiction fun hc=>by have:=h.2 hc;cases this⟩
 ·rw[if_neg e]at h
  constructor
  ·intro hx
   refine .inr (Classical.byContradiction fun hc=>(h.1 (h2.2 hc)) hx)
  ·rintro(hx|hx)
   ·exact absurd hx e
   ·exact Classical.byContradiction fun hc=>(h2.1 (h.2 hc)) hx
theorem ZY {M:List (α×β)} (hn:Agh M) (k:α) (v:β):Agh (Fz M k v):=by
 induction M with
 |nil=>simp[Agh,Fz]
 |cons p M ih=>
  obtain⟨a,b⟩:=p
  have hn':=List.nodup_cons.1 hn
  by_cases e:k=a
  ·subst e
   rw[show Fz ((k,b)::M) k v=(k,v)::M from if_pos rfl]
   exact List.nodup_cons.2 hn'
  ·rw[show Fz ((a,b)::M) k v=(a,b)::Fz M k v from if_neg e]
   refine List.nodup_cons.2 ⟨fun h=>?_,ih hn'.2⟩
   rcases AdC.1 h with h|h
   ·exact e h.symm
   ·exact hn'.1 h
variable {fk:α→AV} {fv:β→AV} {t:JB}
end
abbrev Dj (M:List (Int×Bool)):List (AV×AV):=IW (.int .i64) .bool M
theorem msT {M:List (Int×Bool)} {k:Int} {v:Bool} {K:List (AV×AV)→Prop} (h:K (Dj (Fz M k v))):Aci .int (.int .i64 k) (.bool v) (Dj M) K:=U9 Ic h
end AI
end Go.Proofs.YtchcadfjbkkgmaaGreatDoor
