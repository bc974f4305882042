/- What is wrong with labels and properties. Looking for a node among increasing ids. graph.Check: the first error of a graph. graph.Check, walked. Components as data: lists of labels, and a forest of sets whose representatives are their least elements. Plain. Lists of labels: Find, Join (both), Same. The reference's triangles: who is joined, the table, who is near. The forest of component.Weak: add, find, union. Slices within reach; clones of values, properties, strings; looking up a node of any graph. component.edges: the edges of some types. Join, both; Same. component.Weak. -/
import Derived.Test.YtiimoiecghmebaaDoorFMaf
import Derived.Test.YtiimoiecghmebaaDoorFMac
import GoSem.Dispatch
import Derived.Test.YtiimoiecghmebaaDoorFMae
import Derived.Test.YtiimoiecghmebaaDoorFMad
set_option linter.unusedVariables false
namespace Go.Proofs.YtiimoiecghmebaaDoor
namespace AI
theorem Alr {g len:Nat} {nn cl:Bool} {l:List (List UInt8)} {x:List UInt8} {bytes:Nat} {K:Nat→Bool→Bool→List AV→Prop} (hl:len=l.length) (hr:(l.length+1)*bytes≤2 ^ 46) (h:K (len+1) true cl (vs .str (l++[x]))):
 LG g g 1 1 len nn cl true (vs .str l) [.str x] bytes K:=by
 subst hl
 refine⟨⟨rfl,rfl,by simp,XD rfl,Kz hr⟩,?_⟩
 rw[Zn,Bool.and_true]
 simpa using h
def keysOf (P:List GP):List (List UInt8):=P.map GP.key
@[simp] theorem TV (P:List GP):(keysOf P).length=P.length:=by simp[keysOf]
theorem Abr {P:List GP} (hp:∀p∈P,p.ok):∀s∈keysOf P,s.length<2^63:=by
 intro s h
 obtain⟨p,h1,rfl⟩:=List.mem_map.1 h
 exact(hp p h1).1
theorem X8 {P:List GP} {i:Nat} (h:i<P.length):keysOf (P.take i)++[(P[i]).key]=keysOf (P.take (i+1)):=by
 rw[List.take_succ_eq_append_getElem h];unfold keysOf;rw[List.map_append];rfl
def allPlain (P:List GP):Prop:=∀p∈P,He p.v
noncomputable instance (P:List GP):Decidable (allPlain P):=Classical.propDecidable _
noncomputable def Dk (L:List (List UInt8)) (P:List GP):Int:=
 if 8<L.length∨16<P.length then 4 else if¬(allNames L∧allNames (keysOf P))then 6 else if¬(rises L∧rises (keysOf P))then 26 else if¬allPlain P then 8 else 0
theorem Aam {L:List (List UInt8)} {P:List GP} (h:8<L.length∨16<P.length):AV.int .i64 4=AV.int .i64 (Dk L P):=by rw[Dk,if_pos h]
theorem Aan {L:List (List UInt8)} {P:List GP} (h:¬(8<L.length∨16<P.length)) (h1:¬(allNames L∧allNames (keysOf P))):AV.int .i64 6=AV.int .i64 (Dk L P):=by rw[Dk,if_neg h,if_pos h1]
theorem X9 {L:List (List UInt8)} {P:List GP} (h:¬(8<L.length∨16<P.length)) (h1:allNames L∧allNames (keysOf P)) (h2:¬(rises L∧rises (keysOf P))):AV.int .i64 26=AV.int .i64 (Dk L P):=by rw[Dk,if_neg h,if_neg (not_not_intro h1),if_pos h2]
theorem Ae4 {L:List (List UInt8)} {P:List GP} (h:¬(8<L.length∨16<P.length)) (h1:allNames L∧allNames (keysOf P)) (h2:rises L∧rises (keysOf P)) (h3:¬allPlain P):AV.int .i64 8=AV.int .i64 (Dk L P):=by rw[Dk,if_neg h,if_neg (not_not_intro h1),if_neg (not_not_intro h2),if_pos h3]
theorem Ae5 {L:List (List UInt8)} {P:List GP} (h:¬(8<L.length∨16<P.length)) (h1:allNames L∧allNames (keysOf P)) (h2:rises L∧rises (keysOf P)) (h3:allPlain P):AV.int .i64 0=AV.int .i64 (Dk L P):=by rw[Dk,if_neg h,if_neg (not_not_intro h1),if_neg (not_not_intro h2),if_neg (not_not_intro h3)]
theorem Adn {L:List (List UInt8)} {P:List GP} {ln pn:Bool} (hL:L.length<2^63) (hs:∀s∈L,s.length<2^63) (hP:P.length<2^63) (hp:∀p∈P,p.ok):Aw (Ad tab) 24 [.sl ln (vs .str L),.sl pn (vs GP.av P)] (· =.int .i64 (Dk L P)):=by
 have hk:=Abr hp
 refine Ah rfl rfl ?_
 (conv=>whnf);repeat' (first|(refine kA ?_;conv=>whnf)|(refine Br.mk (fun hc=>?_) fun hc=>?_<;>first|exact hc.elim|conv=>whnf)  |(refine kB ?_))
 ·exact Aam (by omega)
 ·exact Aam (by omega)
 have h16:¬(8<L.length∨16<P.length):=by omega
 refine Au (fun m env s=>∃(i g:Nat),m=P.length-i∧i≤P.length∧env=[(0,.sl ln (vs .str L)),(1,.sl pn (vs GP.av P)),(5,.own 0 g 0 i),(18,.sl pn (vs GP.av P)),(19,.int .i64 P.length),(20,.int .i64 i)]∧∃nn c,s=⟨[.arr g 1 nn true (vs .str (keysOf (P.take i)))],c⟩) ?_ _ _ _ ⟨0,0,rfl,by omega,rfl,_,_,rfl⟩
 rintro _ _ _ ⟨i,g,rfl,hi,rfl,nn,c,rfl⟩
 refine⟨rfl,?_⟩
 (conv=>whnf);repeat' (first|(refine kA ?_;conv=>whnf)|(refine Br.mk (fun hc=>?_) fun hc=>?_<;>first|exact hc.elim|conv=>whnf)  |(refine kB ?_))
 ·refine Alr (by simp;omega) (by simp;omega) ?_
  (conv=>whnf);repeat' (first|(refine kA ?_;conv=>whnf)|(refine Br.mk (fun hc=>?_) fun hc=>?_<;>first|exact hc.elim|conv=>whnf)  |(refine kB ?_))
  rw[X8 (by omega)]
  exact again.mk ⟨_,by omega,i+1,_,rfl,by omega,rfl,_,_,rfl⟩
 ·rw[Eo hc]
  obtain rfl:i=P.length:=by omega
  have hu:sub (vs AV.str (keysOf P)) 0 P.length=vs .str (keysOf P):=by rw[← TV P];exact uV
  have hkl:(keysOf P).length<2^63:=by rw[TV];exact hP
  (conv=>whnf);repeat' (first|(refine FD (Adv hL hs) (fun h1=>?_) (fun h1=>?_)<;>conv=>whnf)|(rw [hu];refine FD (Adv hkl hk) (fun h2=>?_) (fun h2=>?_)<;>conv=>whnf)|(refine FD (Adw hL) (fun h3=>?_) (fun h3=>?_)<;>conv=>whnf)|(rw [hu];refine FD (Adw hkl) (fun h4=>?_) (fun h4=>?_)<;>conv=>whnf)|(refine kA ?_;conv=>whnf)|(refine Br.mk (fun hc=>?_) fun hc=>?_<;>first|exact hc.elim|conv=>whnf)|(refine kB ?_))
  ·exact Aan h16 fun h=>h1 h.1
  ·exact Aan h16 fun h=>h2 h.2
  ·refine Au (fun m env s=>∃(i:Nat),m=P.length-i∧env=[(44,.sl pn (vs GP.av P)),(45,.int .i64 P.length),(46,.int .i64 i)]∧(∃ c,s=⟨[.arr g 1 nn true (vs .str (keysOf P))],c⟩)∧∀p∈P.take i,He p.v) ?_ _ _ _ ⟨0,rfl,rfl,⟨_,rfl⟩,by simp⟩
   clear hc hi
   rintro _ _ _ ⟨i,rfl,rfl,⟨c,rfl⟩,hx⟩
   refine⟨rfl,?_⟩
   (conv=>whnf);repeat' (first|(refine FD (Ag9 (v:=(P[i]).v) (hp _ (List.getElem_mem (by omega))).2) (fun h5=>?_) (fun h5=>?_)<;>conv=>whnf)|(refine kA ?_;conv=>whnf)|(refine Br.mk (fun hc=>?_) fun hc=>?_<;>first|exact hc.elim|conv=>whnf)|(refine kB ?_))
   ·exact again.mk ⟨_,by omega,i+1,rfl,rfl,⟨_,rfl⟩,CO (by omega) hx h5⟩
   ·exact Ae4 h16 ⟨Classical.not_not.1 h1,Classical.not_not.1 h2⟩ ⟨h3,h4⟩ fun h=>h5 (h _ (List.getElem_mem _))
   ·rw[Eo hc]at hx
    exact Ae5 h16 ⟨Classical.not_not.1 h1,Classical.not_not.1 h2⟩ ⟨h3,h4⟩ hx
  ·exact X9 h16 ⟨Classical.not_not.1 h1,Classical.not_not.1 h2⟩ fun h=>h4 h.2
  ·exact X9 h16 ⟨Classical.not_not.1 h1,Classical.not_not.1 h2⟩ fun h=>h3 h.1
attribute [irreducible] Dk
def incr (l:List Int):Prop:=∀j (h:j+1<l.length),l[j]<l[j+1]
noncomputable instance (l:List Int):Decidable (incr l):=Classical.propDecidable _
theorem Zt {l:List Int} (h:incr l) {i:Nat}:∀d (hd:i+d+1<l.length),l[i]<l[i+d+1]
 |0,hd=>h i hd
 |d+1,hd=>Int.lt_trans (Zt h d (by omega)) (h (i+d+1) hd)
theorem AaD {l:List Int} (h:incr l) {i j:Nat} (hij:i<j) (hj:j<l.length):l[i]<l[j]:=by
 obtain⟨d,rfl⟩:∃d,j=i+d+1:=⟨j-i-1,by omega⟩
 exact Zt h d hj
def GK (N:List GN):List Int:=N.map GN.id
def AhT (E:List GE):List Int:=E.map GE.id
@[simp] theorem AhU (N:List GN):(GK N).length=N.length:=by simp[GK]
@[simp] theorem AhV (N:List GE):(AhT N).length=N.length:=by simp[AhT]
theorem LP {N:List GN} {i:Nat} (h:i<N.length):(GK N)[i]'(by simpa using h)=(N[i]).id:=by simp[GK]
theorem Yw {N:List GN} (h:incr (GK N)) {i j:Nat} (hij:i<j) (hj:j<N.length):(N[i]).id<(N[j]).id:=by
 have:=AaD h hij (by simpa using hj)
 rwa [LP (by omega),LP hj]at this
theorem Aj7 {n:GN} {x:Int}:Aw (Ad tab) 48 [n.av,.int .i64 x] (· =.int .i64 (Qz n.id x)):=by
 refine Ah rfl rfl ?_
 (conv=>whnf);repeat' (first|(refine kA ?_;conv=>whnf)|(refine Br.mk (fun hc=>?_) fun hc=>?_<;>first|exact hc.elim|conv=>whnf)|(refine Ac compare ?_;rintro _ rfl;conv=>whnf)|(refine kB ?_))
 rfl
theorem bsearch {N:List GN} {nn:Bool} {x:Int} (hN:N.length<2^62) (hi:incr (GK N)):Aw (Ad tab) 47 [.sl nn (vs GN.av N),.int .i64 x,.fn 48 []] (fun v=>∃z b,v=.Dy [.int .i64 z,.bool b]∧(b=true↔x∈GK N)):=by
 have fin:∀i:Nat,i≤N.length→(∀ k (h:k<N.length),k<i→(N[k]).id<x)→(∀ k (h:k<N.length),i≤k→x≤(N[k]).id)→(x∈GK N↔∃h:i<N.length,(N[i]).id=x):=by
  intro i h0 h1 h2
  constructor
  ·intro h
   obtain⟨k,hk,e⟩:=List.getElem_of_mem h
   have hk':k<N.length:=by simpa using hk
   rw[LP hk']at e
   have a1:=h1 k hk'
   have:i≤k:=by
        rcases Nat.lt_or_ge k i with h|h
        ·have:=a1 h;omega
        ·exact h
   rcases Nat.lt_or_ge i k with h|h
   ·have:=Yw hi h hk'
    have:=h2 i (by omega) (Nat.le_refl _)
    omega
   ·obtain rfl:i=k:=by omega
    exact⟨hk',e⟩
  ·rintro⟨h,e⟩
   rw[← e,←LP h]
   exact List.getElem_mem _
 refine Ah rfl rfl ?_
 (conv=>whnf);repeat' (first|(refine kA ?_;conv=>whnf)|(refine Br.mk (fun hc=>?_) fun hc=>?_<;>first|exact hc.elim|conv=>whnf)  |(refine kB ?_))
 refine Au (fun m env s=>∃(i j:Nat),m=j-i∧i≤j∧j≤N.length∧env=[(0,.sl nn (vs GN.av N)),(1,.int .i64 x),(2,.fn 48 []),(8,.int .i64 N.length),(9,.int .i64 i),(10,.int .i64 j)]∧s=⟨[],0⟩∧
  (∀ k (h:k<N.length),k<i→(N[k]).id<x)∧(∀ k (h:k<N.length),j≤k→x≤(N[k]).id)) ?_ _ _ _ ⟨0,N.length,rfl,by omega,by omega,by simp,rfl,fun k _ h=>absurd h (by omega),fun k h1 h=>absurd h (by omega)⟩
 rintro _ _ _ ⟨i,j,rfl,hij,hj,rfl,rfl,h1,h2⟩
 refine⟨rfl,?_⟩
 (conv=>whnf);repeat' (first|(refine AhW (i+j) (by omega) (by omega) ?_;conv=>whnf)|(apply BI;(· exact Aj8 _);conv=>whnf)|(refine Ac Aj7 ?_;rintro _ rfl;conv=>whnf)|(refine kA ?_;conv=>whnf)|(refine Br.mk (fun hc=>?_) fun hc=>?_<;>first|exact hc.elim|conv=>whnf)|(refine kB ?_))
 ·have hm:=Xe.1 hc
  exact again.mk ⟨_,by omega,(i+j) / 2+1,j,rfl,by omega,hj,rfl,rfl,fun k hk hlt=>by
   rcases Nat.lt_or_ge k ((i+j) / 2)with h|h
   ·exact Int.lt_trans (Yw hi h (by omega)) hm
   ·obtain rfl:k=(i+j) / 2:=by omega
    exact hm,h2⟩
 ·have hm:=mt Xe.2 hc
  exact again.mk ⟨_,by omega,i,(i+j) / 2,rfl,by omega,by omega,rfl,rfl,h1,fun k hk hle=>by
   rcases Nat.lt_or_ge ((i+j) / 2) k with h|h
   ·have:=Yw hi h hk;omega
   ·obtain rfl:k=(i+j) / 2:=by omega
    omega⟩
 all_goals have hf:=fin i (by omega) h1 (fun k hk h=>h2 k hk (by omega))
 ·exact⟨_,_,rfl,fun _=>hf.2 ⟨by omega,UA.1 hc⟩,fun _=>rfl⟩
 ·exact⟨_,_,rfl,fun h=>(Bool.noConfusion h),fun h=>absurd (UA.2 (hf.1 h).2) hc⟩
 ·exact⟨_,_,rfl,fun h=>(Bool.noConfusion h),fun h=>absurd (hf.1 h).1 (by omega)⟩
theorem Aj9 {N:List GN} {nn:Bool} {x:Int} (hN:N.length<2^62) (hi:incr (GK N)):Aw (Ad tab) 25 [.sl nn (vs GN.av N),.int .i64 x] (· =.bool (decide (x∈GK N))):=by
 refine Ah rfl rfl ?_
 (conv=>whnf);repeat' (first|(refine kA ?_;conv=>whnf)|(refine Br.mk (fun hc=>?_) fun hc=>?_<;>first|exact hc.elim|conv=>whnf)  |(refine kB ?_))
 refine Ac (bsearch hN hi) ?_
 rintro _ ⟨z,b,rfl,hb⟩
 (conv=>whnf);repeat' (first|(refine kA ?_;conv=>whnf)|(refine Br.mk (fun hc=>?_) fun hc=>?_<;>first|exact hc.elim|conv=>whnf)  |(refine kB ?_))
 ·exact Fg (hb.1 hc)
 ·exact Dn fun h=>by rw[hb.2 h]at hc;cases hc
def IK (f:Nat→Int):Nat→Int
 |0=>0
 |n+1=>if IK f n=0 then f n else IK f n
theorem DT {f:Nat→Int}:∀{n:Nat},IK f n=0↔∀k,k<n→f k=0
 |0=>by simp[IK]
 |n+1=>by
  unfold IK
  split
  ·rename_i h
   have:=DT.1 h
   refine⟨fun h0 k hk=>?_,fun h0=>h0 n (by omega)⟩
   rcases Nat.lt_or_ge k n with h1|h1
   ·exact this k h1
   ·obtain rfl:k=n:=by omega
    exact h0
  ·rename_i h
   exact⟨fun h0=>absurd h0 h,fun h0=>absurd (DT.2 fun k hk=>h0 k (by omega)) h⟩
theorem PY {f:Nat→Int} {i:Nat} (h:∀k,k<i→f k=0) (hi:f i≠0):∀{n:Nat},i<n→IK f n=f i
 |0,hn=>absurd hn (by omega)
 |n+1,hn=>by
  unfold IK
  rcases Nat.lt_or_ge i n with h1|h1
  ·rw[PY h hi h1,if_neg hi]
  ·obtain rfl:i=n:=by omega
   rw[if_pos (DT.2 h)]
noncomputable def DR (N:List GN) (nx:Int) (i:Nat):Int:=
 match N[i]? with
 |none=>0
 |some n=>if 0<i∧(∃ m,N[i-1]?=some m∧n.id≤m.id)then 26 else if n.id<1∨nx≤n.id then 1 else Dk n.labels n.props
noncomputable def Dw (N:List GN) (E:List GE) (nx:Int) (i:Nat):Int:=
 match E[i]? with
 |none=>0
 |some e=>if 0<i∧(∃ m,E[i-1]?=some m∧e.id≤m.id)then 26 else if e.id<1∨nx≤e.id then 1 else if¬(e.fr∈GK N∧e.to∈GK N)then 10 else if¬isName e.ty then 6 else Dk [] e.props
theorem Adp {N:List GN} {nx:Int} {i:Nat} (h:i<N.length) (h0:0<i) (h1:(N[i]).id≤(N[i-1]).id):DR N nx i=26:=by
 unfold DR;rw[List.getElem?_eq_getElem h];exact if_pos ⟨h0,_,List.getElem?_eq_getElem (by omega),h1⟩
theorem Aap {N:List GN} {i:Nat} (h:i<N.length) (h1:0<i→¬(N[i]).id≤(N[i-1]).id):¬(0<i∧∃m,N[i-1]?=some m∧(N[i]).id≤m.id):=by
 rintro⟨a,m,b,c⟩;rw[List.getElem?_eq_getElem (by omega)]at b;rw[← Option.some.inj b]at c;exact h1 a c
theorem node1 {N:List GN} {nx:Int} {i:Nat} (h:i<N.length) (h1:0<i→¬(N[i]).id≤(N[i-1]).id) (h2:(N[i]).id<1∨nx≤(N[i]).id):DR N nx i=1:=by
 unfold DR;rw[List.getElem?_eq_getElem h];dsimp only;rw[if_neg (Aap h h1),if_pos h2]
theorem Ado {N:List GN} {nx:Int} {i:Nat} (h:i<N.length) (h1:0<i→¬(N[i]).id≤(N[i-1]).id) (h2:¬((N[i]).id<1∨nx≤(N[i]).id)):DR N nx i=Dk (N[i]).labels (N[i]).props:=by
 unfold DR;rw[List.getElem?_eq_getElem h];dsimp only;rw[if_neg (Aap h h1),if_neg h2]
theorem Zo {N:List GN} {nx:Int} {i:Nat} (h:i<N.length) (h0:DR N nx i=0):(0<i→(N[i-1]).id<(N[i]).id)∧1≤(N[i]).id∧(N[i]).id<nx∧Dk (N[i]).labels (N[i]).props=0:=by
 by_cases h1:0<i∧(N[i]).id≤(N[i-1]).id
 ·rw[Adp h h1.1 h1.2]at h0;omega
 have h1':0<i→¬(N[i]).id≤(N[i-1]).id:=fun a b=>h1 ⟨a,b⟩
 by_cases h2:(N[i]).id<1∨nx≤(N[i]).id
 ·rw[node1 h h1' h2]at h0;omega
 rw[Ado h h1' h2]at h0
 exact⟨fun a=>by have:=h1' a;omega,by omega,by omega,h0⟩
theorem Adr {N:List GN} {E:List GE} {nx:Int} {i:Nat} (h:i<E.length) (h0:0<i) (h1:(E[i]).id≤(E[i-1]).id):Dw N E nx i=26:=by
 unfold Dw;rw[List.getElem?_eq_getElem h];exact if_pos ⟨h0,_,List.getElem?_eq_getElem (by omega),h1⟩
theorem Q9 {E:List GE} {i:Nat} (h:i<E.length) (h1:0<i→¬(E[i]).id≤(E[i-1]).id):¬(0<i∧∃m,E[i-1]?=some m∧(E[i]).id≤m.id):=by
 rintro⟨a,m,b,c⟩;rw[List.getElem?_eq_getElem (by omega)]at b;rw[← Option.some.inj b]at c;exact h1 a c
theorem AfO {N:List GN} {E:List GE} {nx:Int} {i:Nat} (h:i<E.length) (h1:0<i→¬(E[i]).id≤(E[i-1]).id) (h2:(E[i]).id<1∨nx≤(E[i]).id):Dw N E nx i=1:=by
 unfold Dw;rw[List.getElem?_eq_getElem h];dsimp only;rw[if_neg (Q9 h h1),if_pos h2]
theorem Ads {N:List GN} {E:List GE} {nx:Int} {i:Nat} (h:i<E.length) (h1:0<i→¬(E[i]).id≤(E[i-1]).id) (h2:¬((E[i]).id<1∨nx≤(E[i]).id)) (h3:¬((E[i]).fr∈GK N∧(E[i]).to∈GK N)):Dw N E nx i=10:=by
 unfold Dw;rw[List.getElem?_eq_getElem h];dsimp only;rw[if_neg (Q9 h h1),if_neg h2,if_pos h3]
theorem AfP {N:List GN} {E:List GE} {nx:Int} {i:Nat} (h:i<E.length) (h1:0<i→¬(E[i]).id≤(E[i-1]).id) (h2:¬((E[i]).id<1∨nx≤(E[i]).id)) (h3:(E[i]).fr∈GK N∧(E[i]).to∈GK N) (h4:¬isName (E[i]).ty):Dw N E nx i=6:=by
 unfold Dw;rw[List.getElem?_eq_getElem h];dsimp only;rw[if_neg (Q9 h h1),if_neg h2,if_neg (not_not_intro h3),if_pos h4]
theorem Adq {N:List GN} {E:List GE} {nx:Int} {i:Nat} (h:i<E.length) (h1:0<i→¬(E[i]).id≤(E[i-1]).id) (h2:¬((E[i]).id<1∨nx≤(E[i]).id)) (h3:(E[i]).fr∈GK N∧(E[i]).to∈GK N) (h4:isName (E[i]).ty):Dw N E nx i=Dk [] (E[i]).props:=by
 unfold Dw;rw[List.getElem?_eq_getElem h];dsimp only;rw[if_neg (Q9 h h1),if_neg h2,if_neg (not_not_intro h3),if_neg (not_not_intro h4)]
theorem AdS {N:List GN} {E:List GE} {nx:Int} {i:Nat} (h:i<E.length) (h0:Dw N E nx i=0):(0<i→(E[i-1]).id<(E[i]).id)∧1≤(E[i]).id∧(E[i]).id<nx∧(E[i]).fr∈GK N∧(E[i]).to∈GK N∧isName (E[i]).ty∧Dk [] (E[i]).props=0:=by
 by_cases h1:0<i∧(E[i]).id≤(E[i-1]).id
 ·rw[Adr h h1.1 h1.2]at h0;omega
 have h1':0<i→¬(E[i]).id≤(E[i-1]).id:=fun a b=>h1 ⟨a,b⟩
 by_cases h2:(E[i]).id<1∨nx≤(E[i]).id
 ·rw[AfO h h1' h2]at h0;omega
 by_cases h3:(E[i]).fr∈GK N∧(E[i]).to∈GK N
 case neg=>rw[Ads h h1' h2 h3]at h0;omega
 by_cases h4:isName (E[i]).ty
 case neg=>rw[AfP h h1' h2 h3 h4]at h0;omega
 rw[Adq h h1' h2 h3 h4]at h0
 exact⟨fun a=>by have:=h1' a;omega,by omega,by omega,h3.1,h3.2,h4,h0⟩
def EK (g:GG):Prop:=g.nodes.length≤2000∧g.edges.length≤4000
def Gf (g:GG):Prop:=1≤g.BR∧g.BR≤1000001∧1≤g.CJ∧g.CJ≤1000001
instance (g:GG):Decidable (EK g):=by unfold EK;infer_instance
instance (g:GG):Decidable (Gf g):=by unfold Gf;infer_instance
noncomputable def AB (g:GG):Int:=
 if¬EK g then 4 else if¬Gf g then 1 else
  if IK (DR g.nodes g.BR) g.nodes.length=0 then IK (Dw g.nodes g.edges g.CJ) g.edges.length else IK (DR g.nodes g.BR) g.nodes.length
theorem Ag2 {g:GG} (h:¬EK g):AV.int .i64 4=AV.int .i64 (AB g):=by unfold AB;rw[if_pos h]
theorem Ag3 {g:GG} (h:EK g) (h1:¬Gf g):AV.int .i64 1=AV.int .i64 (AB g):=by unfold AB;rw[if_neg (not_not_intro h),if_pos h1]
theorem checkN {g:GG} (h:EK g) (h1:Gf g) {i:Nat} (hi:i<g.nodes.length) (h2:∀k,k<i→DR g.nodes g.BR k=0) {r:Int} (h3:DR g.nodes g.BR i=r) (hr:r≠0):AV.int .i64 r=AV.int .i64 (AB g):=by
 subst h3
 unfold AB
 rw[if_neg (not_not_intro h),if_neg (not_not_intro h1),PY h2 hr hi,if_neg hr]
theorem OX {g:GG} (h:EK g) (h1:Gf g) (hn:∀k,k<g.nodes.length→DR g.nodes g.BR k=0) {i:Nat} (hi:i<g.edges.length) (h2:∀k,k<i→Dw g.nodes g.edges g.CJ k=0) {r:Int} (h3:Dw g.nodes g.edges g.CJ i=r) (hr:r≠0):AV.int .i64 r=AV.int .i64 (AB g):=by
 subst h3
 unfold AB
 rw[if_neg (not_not_intro h),if_neg (not_not_intro h1),if_pos (DT.2 hn),PY h2 hr hi]
theorem Ag4 {g:GG} (h:EK g) (h1:Gf g) (hn:∀k,k<g.nodes.length→DR g.nodes g.BR k=0) (h2:∀k,k<g.edges.length→Dw g.nodes g.edges g.CJ k=0):AV.int .i64 0=AV.int .i64 (AB g):=by
 unfold AB
 rw[if_neg (not_not_intro h),if_neg (not_not_intro h1),if_pos (DT.2 hn),DT.2 h2]
theorem Zh {N:List GN} {nx:Int} (h:∀k,k<N.length→DR N nx k=0):incr (GK N):=by
 intro j hj
 have hj':j+1<N.length:=by simpa using hj
 rw[LP (by omega),LP hj']
 exact(Zo hj' (h _ hj')).1 (by omega)
theorem WS {g:GG} (h:AB g=0):EK g∧Gf g∧(∀ k,k<g.nodes.length→DR g.nodes g.BR k=0)∧∀k,k<g.edges.length→Dw g.nodes g.edges g.CJ k=0:=by
 unfold AB at h
 by_cases h1:EK g
 case neg=>rw[if_pos h1]at h;omega
 by_cases h2:Gf g
 case neg=>rw[if_neg (not_not_intro h1),if_pos h2]at h;omega
 rw[if_neg (not_not_intro h1),if_neg (not_not_intro h2)]at h
 split at h
 ·rename_i h3
  exact⟨h1,h2,DT.1 h3,DT.1 h⟩
 ·rename_i h3;exact absurd h h3
attribute [irreducible] DR Dw AB IK
theorem Qs {f:Nat→Int} {i:Nat} (h:∀k,k<i→f k=0) (hi:f i=0):∀k,k<i+1→f k=0:=by
 intro k hk
 rcases Nat.lt_or_ge k i with h1|h1
 ·exact h k h1
 ·obtain rfl:k=i:=by omega
  exact hi
theorem AgZ {n:GN} (h:n.ok):Aw (Ad tab) 24 [.sl n.ln (vs .str n.labels),.sl n.pn (vs GP.av n.props)] (· =.int .i64 (Dk n.labels n.props)):=
 Adn h.2.1 h.2.2.2.1 h.2.2.2.2.1 h.2.2.2.2.2.2
theorem AeZ {n:GE} (h:n.ok):Aw (Ad tab) 24 [.sl false [],.sl n.pn (vs GP.av n.props)] (· =.int .i64 (Dk [] n.props)):=
 Adn (L:=[]) (by decide) (by simp) h.2.2.2.2.1 h.2.2.2.2.2.2
theorem Ag0 {g:GG} (hg:g.ok) (hf:EK g) (hnx:Gf g) {c:Nat} {Q:Az→Env→Ag→Prop}
 (hret:∀r s,AV.int .i64 r=AV.int .i64 (AB g)→Q .ret [(2,.int .i64 r)] s)
 (hend:(∀ k,k<g.nodes.length→DR g.nodes g.BR k=0)→∀c i,Q (.exit 0) [(1,.ref 0 0 0 0),(38,.sl g.nn (vs GN.av g.nodes)),(39,.int .i64 g.nodes.length),(40,.int .i64 i),(41,.bool false)] ⟨[.arr 0 4 true true [g.av]],c⟩):
 Run (Ad tab) (.loop l14_0_h l14_0_b) [(1,.ref 0 0 0 0),(38,.sl g.nn (vs GN.av g.nodes)),(39,.int .i64 g.nodes.length),(40,.int .i64 0)] ⟨[.arr 0 4 true true [g.av]],c⟩ Q:=by
 obtain⟨g1,g2,g3,g4,g5,g6,g7,g8⟩:=hg
 unfold Ln at g1 g4
 have hf':g.nodes.length≤2000:=hf.1
 refine Au (fun m env s=>∃i:Nat,m=g.nodes.length-i∧env=[(1,.ref 0 0 0 0),(38,.sl g.nn (vs GN.av g.nodes)),(39,.int .i64 g.nodes.length),(40,.int .i64 i)]∧(∃ c,s=⟨[.arr 0 4 true true [g.av]],c⟩)∧∀k,k<i→DR g.nodes g.BR k=0) ?_ _ _ _ ⟨0,rfl,by simp,⟨_,rfl⟩,fun k h=>absurd h (by omega)⟩
 rintro _ _ _ ⟨i,rfl,rfl,⟨c,rfl⟩,hx⟩
 refine⟨rfl,?_⟩
 have hat:∀h:i<g.nodes.length,(g.nodes[i]).ok:=fun h=>g3 _ (List.getElem_mem _)
 (conv=>whnf);repeat' (first|(apply AA;(· exact nVz (i-1) (by omega) (by omega));conv=>whnf)|(refine Ac (AgZ (n:=g.nodes[i]) (hat (by omega))) ?_;rintro _ rfl;conv=>whnf)|(refine hret _ _ ?_)|(refine hend (fun k hk=>hx k (by omega)) _ _)|(refine kA ?_;conv=>whnf)|(refine Br.mk (fun hc=>?_) fun hc=>?_<;>first|exact hc.elim|conv=>whnf)|(refine kB ?_))
 all_goals first
  |exact again.mk ⟨_,by omega,i+1,rfl,rfl,⟨_,rfl⟩,Qs hx ((Ado (by omega) (fun h=>by first|assumption|omega) (by omega)).trans hc)⟩
  |exact checkN hf hnx (by omega) hx (Adp (by omega) (by omega) (by assumption)) (by decide)
  |exact checkN hf hnx (by omega) hx (node1 (by omega) (fun h=>by first|assumption|omega) (by omega)) (by decide)
  |exact checkN hf hnx (by omega) hx (Ado (by omega) (fun h=>by first|assumption|omega) (by omega)) hc
set_option maxHeartbeats 1000000 in
theorem Ag1 {g:GG} (hg:g.ok) (hf:EK g) (hnx:Gf g) (hN:∀k,k<g.nodes.length→DR g.nodes g.BR k=0) {c:Nat} {Q:Az→Env→Ag→Prop}
 (hret:∀r s,AV.int .i64 r=AV.int .i64 (AB g)→Q .ret [(2,.int .i64 r)] s)
 (hend:(∀ k,k<g.edges.length→Dw g.nodes g.edges g.CJ k=0)→∀c i,Q (.exit 2) [(1,.ref 0 0 0 0),(79,.sl g.en (vs GE.av g.edges)),(80,.int .i64 g.edges.length),(81,.int .i64 i),(82,.bool false)] ⟨[.arr 0 4 true true [g.av]],c⟩):
 Run (Ad tab) (.loop l14_1_h l14_1_b) [(1,.ref 0 0 0 0),(79,.sl g.en (vs GE.av g.edges)),(80,.int .i64 g.edges.length),(81,.int .i64 0)] ⟨[.arr 0 4 true true [g.av]],c⟩ Q:=by
 obtain⟨g1,g2,g3,g4,g5,g6,g7,g8⟩:=hg
 unfold Ln at g1 g4
 have hf':g.edges.length≤4000:=hf.2
 have hI:=Zh hN
 have hl:g.nodes.length<2^62:=by have:=hf.1;omega
 refine Au (fun m env s=>∃i:Nat,m=g.edges.length-i∧env=[(1,.ref 0 0 0 0),(79,.sl g.en (vs GE.av g.edges)),(80,.int .i64 g.edges.length),(81,.int .i64 i)]∧(∃ c,s=⟨[.arr 0 4 true true [g.av]],c⟩)∧∀k,k<i→Dw g.nodes g.edges g.CJ k=0) ?_ _ _ _ ⟨0,rfl,by simp,⟨_,rfl⟩,fun k h=>absurd h (by omega)⟩
 rintro _ _ _ ⟨i,rfl,rfl,⟨c,rfl⟩,hx⟩
 refine⟨rfl,?_⟩
 have hat:∀h:i<g.edges.length,(g.edges[i]).ok:=fun h=>g6 _ (List.getElem_mem _)
 (conv=>whnf);repeat' (first|(apply AA;(· exact nVz (i-1) (by omega) (by omega));conv=>whnf)|(refine FD (Aj9 hl hI) (fun hc=>?_) (fun hc=>?_)<;>conv=>whnf)|(refine FD (name1 (s:=(g.edges[i]).ty) (hat (by omega)).2.2.2.1) (fun hnm=>?_) (fun hnm=>?_)<;>conv=>whnf)|(refine Ac (AeZ (n:=g.edges[i]) (hat (by omega))) ?_;rintro _ rfl;conv=>whnf)|(refine hret _ _ ?_)|(refine hend (fun k hk=>hx k (by omega)) _ _)|(refine kA ?_;conv=>whnf)|(refine Br.mk (fun hc=>?_) fun hc=>?_<;>first|exact hc.elim|conv=>whnf)|(refine kB ?_))
 all_goals first
  |exact again.mk ⟨_,by omega,i+1,rfl,rfl,⟨_,rfl⟩,Qs hx ((Adq (by omega) (fun h=>by first|assumption|omega) (by omega) ⟨by assumption,by assumption⟩ hnm).trans hc)⟩
  |exact OX hf hnx hN (by omega) hx (Adr (by omega) (by omega) (by assumption)) (by decide)
  |exact OX hf hnx hN (by omega) hx (AfO (by omega) (fun h=>by first|assumption|omega) (by omega)) (by decide)
  |exact OX hf hnx hN (by omega) hx (Ads (by omega) (fun h=>by first|assumption|omega) (by omega) (fun h=>by first|exact absurd h.1 (by assumption)|exact absurd h.2 (by assumption))) (by decide)
  |exact OX hf hnx hN (by omega) hx (AfP (by omega) (fun h=>by first|assumption|omega) (by omega) ⟨by assumption,by assumption⟩ hnm) (by decide)
  |exact OX hf hnx hN (by omega) hx (Adq (by omega) (fun h=>by first|assumption|omega) (by omega) ⟨by assumption,by assumption⟩ hnm) hc
theorem Yv {g:GG} (hg:g.ok):Aw (Ad tab) 14 [g.av] (· =.int .i64 (AB g)):=by
 have hg0:=hg
 obtain⟨g1,g2,g3,g4,g5,g6,g7,g8⟩:=hg
 unfold Ln at g1 g4
 refine Ah rfl rfl ?_
 (conv=>whnf);repeat' (first|(refine kA ?_;conv=>whnf)|(refine Br.mk (fun hc=>?_) fun hc=>?_<;>first|exact hc.elim|conv=>whnf)  |(refine kB ?_))
 all_goals first|exact Ag2 (by unfold EK;omega)|exact Ag3 (by unfold EK;omega) (by unfold Gf;omega)|skip
 have hf:EK g:=by unfold EK;omega
 have hnx:Gf g:=by unfold Gf;omega
 refine Ag0 hg0 hf hnx (fun r s h=>by(conv=>whnf);(apply Bv;(· rfl);conv=>whnf);(apply Bv;(· rfl);conv=>whnf);exact h) (fun hN c i=>?_)
 (conv=>whnf);repeat' (first|(refine kA ?_;conv=>whnf)|(refine Br.mk (fun hc=>?_) fun hc=>?_<;>first|exact hc.elim|conv=>whnf)  |(refine kB ?_))
 refine Ag1 hg0 hf hnx hN (fun r s h=>by(conv=>whnf);(apply Bv;(· rfl);conv=>whnf);(apply Bv;(· rfl);conv=>whnf);exact h) (fun hE c i=>?_)
 (conv=>whnf);repeat' (first|(refine kA ?_;conv=>whnf)|(refine Br.mk (fun hc=>?_) fun hc=>?_<;>first|exact hc.elim|conv=>whnf)  |(refine kB ?_))
 exact Ag4 hf hnx hN hE
def Ae7 (x y:Int):Int:=if y<x then y else x
def TW (x y:Int) (p:Int×Int):Int×Int:=if p.2=x∨p.2=y then(p.1,Ae7 x y)else p
inductive Root (p:Int→Int):Int→Int→Prop where
 |here {x:Int} (h:p x=x):Root p x x
 |up {x c:Int} (h:p x≠x) (k:Root p (p x) c):Root p x c
theorem Root.fix {p:Int→Int} {x c:Int} (h:Root p x c):p c=c:=by
 induction h with
 |here h=>exact h
 |up _ _ ih=>exact ih
theorem Root.det {p:Int→Int} {x c d:Int} (h:Root p x c) (k:Root p x d):c=d:=by
 induction h with
 |here h=>cases k with
  |here _=>rfl
  |up h' _=>exact absurd h h'
 |up h _ ih=>cases k with
  |here h'=>exact absurd h' h
  |up _ k'=>exact ih k'
def Abt (p:Int→Int) (x y:Int):Int→Int:=fun z=>if z=x then y else p z
theorem Jy (p:Int→Int) (x y:Int):Abt p x y x=y:=if_pos rfl
theorem Fv {p:Int→Int} {x y z:Int} (h:z≠x):Abt p x y z=p z:=if_neg h
theorem Root.union {p:Int→Int} {M m:Int} (hM:p M=M) (hm:p m=m) (hne:m≠M) {a d:Int} (h:Root p a d):Root (Abt p M m) a (if d=M then m else d):=by
 have hmm:Abt p M m m=m:=by rw[Fv hne,hm]
 induction h with
 |@here a h=>
  by_cases e:a=M
  ·subst e
   rw[if_pos rfl]
   exact .up (by rw[Jy];exact hne) (by rw[Jy];exact .here hmm)
  ·rw[if_neg e]
   exact .here (by rw[Fv e,h])
 |@up a d h k ih=>
  by_cases e:a=M
  ·subst e;exact absurd hM h
  ·exact .up (by rw[Fv e];exact h) (by rw[Fv e];exact ih)
structure IJ (S:List Int) (p r:Int→Int):Prop where
 mem:∀x∈S,p x∈S
 le:∀x∈S,p x≤x
 root:∀x∈S,Root p x (r x)
section
variable {S:List Int} {p r:Int→Int}
theorem IJ.Ai1 (h:IJ S p r) {x:Int} (hx:x∈S):r x∈S:=by
 have k:=h.root x hx
 generalize r x=c at k
 induction k with
 |here _=>exact hx
 |up _ _ ih=>exact ih (h.mem _ hx)
theorem IJ.Ai2 (h:IJ S p r) {x:Int} (hx:x∈S):p (r x)=r x:=(h.root x hx).fix
theorem IJ.step (h:IJ S p r) {x:Int} (hx:x∈S):r (p x)=r x:=by
 have k:=h.root x hx
 by_cases e:p x=x
 ·rw[e]
 ·generalize r x=c at k
  cases k with
  |here h'=>exact absurd h' e
  |up _ k'=>exact(h.root _ (h.mem x hx)).det k'
theorem IJ.start (S:List Int):IJ S (fun x=>x) (fun x=>x):=⟨fun _ h=>h,fun _ _=>Int.le_refl _,fun _ _=>.here rfl⟩
theorem IJ.union (h:IJ S p r) {a b:Int} (ha:a∈S) (hb:b∈S):
 IJ S (Abt p (if r b>r a then r b else r a) (if r b<r a then r b else r a)) (fun c=>(TW (r a) (r b) (c,r c)).2):=by
 obtain⟨M,hM⟩:∃M,(if r b>r a then r b else r a)=M:=⟨_,rfl⟩
 obtain⟨m,hm⟩:∃m,(if r b<r a then r b else r a)=m:=⟨_,rfl⟩
 rw[hM,hm]
 have fa:=h.Ai2 ha
 have fb:=h.Ai2 hb
 have ma:=h.Ai1 ha
 have mb:=h.Ai1 hb
 have hMr:M=r a∨M=r b:=by rw[← hM];split<;>simp
 have hmr:m=r a∨m=r b:=by rw[← hm];split<;>simp
 have hle:m≤M:=by rw[← hM,←hm];split<;>split<;>omega
 have hMS:M∈S:=by rcases hMr with e|e<;>rw[e]<;>assumption
 have hmS:m∈S:=by rcases hmr with e|e<;>rw[e]<;>assumption
 have hMf:p M=M:=by rcases hMr with e|e<;>rw[e]<;>assumption
 have hmf:p m=m:=by rcases hmr with e|e<;>rw[e]<;>assumption
 have hmin:Ae7 (r a) (r b)=m:=by rw[← hm];rfl
 refine⟨fun y hy=>?_,fun y hy=>?_,fun y hy=>?_⟩
 ·by_cases e:y=M
  ·subst e;rw[Jy];exact hmS
  ·rw[Fv e];exact h.mem y hy
 ·by_cases e:y=M
  ·subst e;rw[Jy];exact hle
  ·rw[Fv e];exact h.le y hy
 ·by_cases e:m=M
  ·have hab:r a=r b:=by
        rw[← hM,←hm]at e
        split at e<;>split at e<;>omega
   have hself:Abt p M m=p:=by
        funext z
        by_cases ez:z=M
        ·subst ez;rw[Jy,hMf];exact e
        ·exact Fv ez
   rw[hself]
   have:(TW (r a) (r b) (y,r y)).2=r y:=by
        unfold TW
        split
        ·rename_i hc
         show Ae7 (r a) (r b)=r y
         unfold Ae7
         simp only at hc
         split<;>omega
        ·rfl
   rw[this]
   exact h.root y hy
  ·have k:=(h.root y hy).union hMf hmf e
   have:(TW (r a) (r b) (y,r y)).2=if r y=M then m else r y:=by
        unfold TW
        rw[hmin]
        simp only
        by_cases c1:r y=r a∨r y=r b
        ·rw[if_pos c1]
         show m=_
         by_cases c2:r y=M
         ·rw[if_pos c2]
         ·rw[if_neg c2]
          rcases c1 with c|c
          ·rw[c]at c2 ⊢
           rw[← hM]at c2
           rw[← hm]
           split at c2<;>split<;>omega
          ·rw[c]at c2 ⊢
           rw[← hM]at c2
           rw[← hm]
           split at c2<;>split<;>omega
        ·rw[if_neg c1]
         have:r y≠M:=fun e=>c1 (by rcases hMr with k|k<;>omega)
         rw[if_neg this]
   rw[this]
   exact k
def Fb (S:List Int) (r:Int→Int):List (Int×Int):=S.map fun i=>(i,r i)
end
def pv (p:Int×Int):AV:=.agg [.int .i64 p.1,.int .i64 p.2]
theorem AeC (x:Int×Int):(pv x).cells.length=2:=rfl
structure Half (f:Int×Int→Int×Int) (l W:List (Int×Int)) (i:Nat):Prop where
 len:W.length=l.length
 old:∀j,i≤j→W[j]?=l[j]?
 new:∀j,j<i→W[j]?=(l.map f)[j]?
theorem Half.start (f:Int×Int→Int×Int) (l:List (Int×Int)):Half f l l 0:=⟨rfl,fun _ _=>rfl,fun _ h=>absurd h (by omega)⟩
theorem Half.at {f:Int×Int→Int×Int} {l W:List (Int×Int)} {i:Nat} (h:Half f l W i) (hi:i<l.length):W[i]'(by rw[h.len];exact hi)=l[i]:=by
 have:=h.old i (Nat.le_refl _)
 rw[List.getElem?_eq_getElem hi,List.getElem?_eq_getElem (by rw[h.len];exact hi)]at this
 simpa using this
theorem Half.put {f:Int×Int→Int×Int} {l W:List (Int×Int)} {i:Nat} (h:Half f l W i) (hi:i<l.length):Half f l (W.set i (f (l[i]))) (i+1):=by
 refine⟨by simp[h.len],fun j hj=>?_,fun j hj=>?_⟩
 ·rw[List.getElem?_set_ne (by omega)];exact h.old j (by omega)
 ·by_cases e:j=i
  ·subst e
   rw[List.getElem?_set_self (by rw[h.len];exact hi),List.getElem?_map,List.getElem?_eq_getElem hi];rfl
  ·rw[List.getElem?_set_ne (by omega)];exact h.new j (by omega)
theorem Half.skip {f:Int×Int→Int×Int} {l W:List (Int×Int)} {i:Nat} (h:Half f l W i) (hi:i<l.length) (he:f (l[i])=l[i]):Half f l W (i+1):=by
 refine⟨h.len,fun j hj=>h.old j (by omega),fun j hj=>?_⟩
 by_cases e:j=i
 ·subst e
  rw[h.old j (Nat.le_refl _),List.getElem?_map,List.getElem?_eq_getElem hi,Option.map_some,he]
 ·exact h.new j (by omega)
theorem Half.all {f:Int×Int→Int×Int} {l W:List (Int×Int)} {i:Nat} (h:Half f l W i) (hi:¬i<l.length):W=l.map f:=by
 apply List.ext_getElem?
 intro j
 by_cases hj:j<i
 ·exact h.new j hj
 ·rw[List.getElem?_eq_none (by rw[h.len];omega),List.getElem?_eq_none (by simp;omega)]
def JP (types:List (List UInt8)) (a b:Int) (e:GE):Prop:=e.fr=a∧e.to=b∧HT types e
instance (types:List (List UInt8)) (a b:Int) (e:GE):Decidable (JP types a b e):=by unfold JP;infer_instance
def JN (types:List (List UInt8)) (es:List GE) (a b:Int):Prop:=∃i,∃h:i<es.length,JP types a b es[i]
noncomputable instance (types:List (List UInt8)) (es:List GE) (a b:Int):Decidable (JN types es a b):=Classical.propDecidable _
noncomputable def adj (types:List (List UInt8)) (g:GG) (m n:GN):Bool:=decide (JN types g.edges m.id n.id)
noncomputable def Ef (types:List (List UInt8)) (g:GG):List (List Bool):=g.nodes.map fun m=>g.nodes.map (adj types g m)
theorem Lc (p:Int→Int):∀{S:List Int} {x:Int},x∈S→Dq (Fb S p) x=some (p x)
 |[],x,h=>by cases h
 |i::S,x,h=>by
  show(if x=i then some (p i)else Dq (Fb S p) x)=_
  by_cases e:x=i
  ·subst e;rw[if_pos rfl]
  ·rw[if_neg e]
   rcases List.mem_cons.1 h with k|k
   ·exact absurd k e
   ·exact Lc p k
structure Del (p:GE→Prop) [DecidablePred p] (L W:List GE) (i j:Nat):Prop where
 len:W.length=L.length
 le:i≤j
 new:W.take i=(L.take j).filter fun e=>decide (p e)
 old:∀k,j≤k→W[k]?=L[k]?
section
variable {p:GE→Prop} [DecidablePred p] {L W:List GE} {i j:Nat}
theorem Del.start {i:Nat} (h:i<L.length) (hf:¬p L[i]) (hb:∀e∈L.take i,p e):Del p L L i (i+1):=by
 refine⟨rfl,by omega,?_,fun _ _=>rfl⟩
 rw[List.take_succ_eq_append_getElem h,List.filter_append,List.filter_eq_self.2 fun e he=>decide_eq_true (hb e he)]
 simp[hf]
theorem Del.at (h:Del p L W i j) (hj:j<L.length):W[j]'(by rw[h.len];exact hj)=L[j]:=by
 have:=h.old j (Nat.le_refl _)
 rw[List.getElem?_eq_getElem hj,List.getElem?_eq_getElem (by rw[h.len];exact hj)]at this
 simpa using this
theorem Del.keep (h:Del p L W i j) (hj:j<L.length) (hp:p L[j]):Del p L (W.set i L[j]) (i+1) (j+1):=by
 have hi:i<W.length:=by rw[h.len];have:=h.le;omega
 refine⟨by simp[h.len],by have:=h.le;omega,?_,fun k hk=>?_⟩
 ·rw[List.take_succ_eq_append_getElem (by simpa using hi),List.getElem_set_self,List.take_set_of_le (Nat.le_refl _),h.new,List.take_succ_eq_append_getElem hj,List.filter_append]
  simp[hp]
 ·rw[List.getElem?_set_ne (by have:=h.le;omega)];exact h.old k (by omega)
theorem Del.drop (h:Del p L W i j) (hj:j<L.length) (hp:¬p L[j]):Del p L W i (j+1):=by
 refine⟨h.len,by have:=h.le;omega,?_,fun k hk=>h.old k (by omega)⟩
 rw[h.new,List.take_succ_eq_append_getElem hj,List.filter_append]
 simp[hp]
theorem Del.all (h:Del p L W i j) (hj:¬j<L.length):W.take i=L.filter fun e=>decide (p e):=by
 rw[h.new,List.take_of_length_le (by omega)]
end
def Bf (g:GG):List Int:=g.nodes.map GN.id
theorem DF (g:GG):(Bf g).length=g.nodes.length:=by simp[Bf]
theorem IV {g:GG} {i:Nat} (h:i<g.nodes.length):(Bf g)[i]'(by rw[DF];exact h)=(g.nodes[i]).id:=by simp[Bf]
theorem AbJ {l:List Int} (h:∀i (hi:i<l.length),0<i→l[i-1]<l[i]):l.Pairwise (· <·):=by
 rw[List.pairwise_iff_getElem]
 intro i j hi hj hij
 induction j with
 |zero=>omega
 |succ j ih=>
  have h1:=h (j+1) hj (by omega)
  simp only[Nat.add_sub_cancel]at h1
  by_cases e:i=j
  ·subst e;exact h1
  ·exact Int.lt_trans (ih (by omega) (by omega)) h1
theorem AdR {g:GG} (h:AB g=0):(Bf g).Pairwise (· <·):=AbJ fun i hi h0=>by
 have hi':i<g.nodes.length:=by rw[← DF];exact hi
 rw[IV (by omega),IV hi']
 exact(Zo hi' ((WS h).2.2.1 i hi')).1 h0
theorem Rj {g:GG} (h:AB g=0):(Bf g).Nodup:=(AdR h).imp fun h=>by omega
theorem Jg {g:GG} (h:AB g=0):∀e∈g.edges,e.fr∈Bf g∧e.to∈Bf g:=fun e he=>by
 obtain⟨i,hi,rfl⟩:=List.getElem_of_mem he
 have:=AdS hi ((WS h).2.2.2 i hi)
 exact⟨this.2.2.2.1,this.2.2.2.2.1⟩
end AI
end Go.Proofs.YtiimoiecghmebaaDoor
