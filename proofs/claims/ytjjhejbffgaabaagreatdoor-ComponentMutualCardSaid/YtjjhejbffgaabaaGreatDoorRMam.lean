/- What is wrong with labels and properties. Looking for a node among increasing ids. graph.Check: the first error of a graph. graph.Check, walked. component.Weak. The least topological order: by readiness, by counts. Plain. component.Topo: its pieces. Maps of the call's own: entries struck out; maps to truth values. -/
import Derived.Test.YtjjhejbffgaabaaGreatDoorRMal
import Derived.Test.YtjjhejbffgaabaaGreatDoorRMae
import Derived.Test.YtjjhejbffgaabaaGreatDoorRMah
import Derived.Test.YtjjhejbffgaabaaGreatDoorRVa
set_option linter.unusedVariables false
set_option maxRecDepth 4000
namespace Go.Proofs.YtjjhejbffgaabaaGreatDoor
namespace AI
theorem Alc {g len:Nat} {nn cl:Bool} {l:List (List UInt8)} {x:List UInt8} {bytes:Nat} {K:Nat→Bool→Bool→List AV→Prop} (hl:len=l.length) (hr:(l.length+1)*bytes≤2 ^ 46) (h:K (len+1) true cl (vs .str (l++[x]))):
 JG g g 1 1 len nn cl true (vs .str l) [.str x] bytes K:=by
 subst hl
 refine⟨⟨rfl,rfl,by simp,WZ rfl,Jh hr⟩,?_⟩
 rw[Ur,Bool.and_true]
 simpa using h
def keysOf (P:List GP):List (List UInt8):=P.map GP.key
@[simp] theorem RX (P:List GP):(keysOf P).length=P.length:=by simp[keysOf]
theorem AaH {P:List GP} (hp:∀p∈P,p.ok):∀s∈keysOf P,s.length<2^63:=by
 intro s h
 obtain⟨p,h1,rfl⟩:=List.mem_map.1 h
 exact(hp p h1).1
theorem Xh {P:List GP} {i:Nat} (h:i<P.length):keysOf (P.take i)++[(P[i]).key]=keysOf (P.take (i+1)):=by
 rw[List.take_succ_eq_append_getElem h];unfold keysOf;rw[List.map_append];rfl
def allPlain (P:List GP):Prop:=∀p∈P,KA p.v
noncomputable instance (P:List GP):Decidable (allPlain P):=Classical.propDecidable _
noncomputable def D5 (L:List (List UInt8)) (P:List GP):Int:=
 if 8<L.length∨16<P.length then 4 else if¬(allNames L∧allNames (keysOf P))then 6 else if¬(rises L∧rises (keysOf P))then 26 else if¬allPlain P then 8 else 0
theorem Zn {L:List (List UInt8)} {P:List GP} (h:8<L.length∨16<P.length):AV.int .i64 4=AV.int .i64 (D5 L P):=by rw[D5,if_pos h]
theorem Zo {L:List (List UInt8)} {P:List GP} (h:¬(8<L.length∨16<P.length)) (h1:¬(allNames L∧allNames (keysOf P))):AV.int .i64 6=AV.int .i64 (D5 L P):=by rw[D5,if_neg h,if_pos h1]
theorem Xi {L:List (List UInt8)} {P:List GP} (h:¬(8<L.length∨16<P.length)) (h1:allNames L∧allNames (keysOf P)) (h2:¬(rises L∧rises (keysOf P))):AV.int .i64 26=AV.int .i64 (D5 L P):=by rw[D5,if_neg h,if_neg (not_not_intro h1),if_pos h2]
theorem AeL {L:List (List UInt8)} {P:List GP} (h:¬(8<L.length∨16<P.length)) (h1:allNames L∧allNames (keysOf P)) (h2:rises L∧rises (keysOf P)) (h3:¬allPlain P):AV.int .i64 8=AV.int .i64 (D5 L P):=by rw[D5,if_neg h,if_neg (not_not_intro h1),if_neg (not_not_intro h2),if_pos h3]
theorem AeM {L:List (List UInt8)} {P:List GP} (h:¬(8<L.length∨16<P.length)) (h1:allNames L∧allNames (keysOf P)) (h2:rises L∧rises (keysOf P)) (h3:allPlain P):AV.int .i64 0=AV.int .i64 (D5 L P):=by rw[D5,if_neg h,if_neg (not_not_intro h1),if_neg (not_not_intro h2),if_neg (not_not_intro h3)]
theorem Ab0 {L:List (List UInt8)} {P:List GP} {ln pn:Bool} (hL:L.length<2^63) (hs:∀s∈L,s.length<2^63) (hP:P.length<2^63) (hp:∀p∈P,p.ok):AQ (Ac tab) 35 [.sl ln (vs .str L),.sl pn (vs GP.av P)] (· =.int .i64 (D5 L P)):=by
 have hk:=AaH hp
 refine Ai rfl rfl ?_
 (conv=>whnf);repeat' (first|(refine kA ?_;conv=>whnf)|(refine Br.mk (fun hc=>?_) fun hc=>?_<;>first|exact hc.elim|conv=>whnf)  |(refine kB ?_))
 ·exact Zn (by omega)
 ·exact Zn (by omega)
 have h16:¬(8<L.length∨16<P.length):=by omega
 refine Ah (fun m env s=>∃(i g:Nat),m=P.length-i∧i≤P.length∧env=[(0,.sl ln (vs .str L)),(1,.sl pn (vs GP.av P)),(5,.own 0 g 0 i),(18,.sl pn (vs GP.av P)),(19,.int .i64 P.length),(20,.int .i64 i)]∧∃nn c,s=⟨[.arr g 1 nn true (vs .str (keysOf (P.take i)))],c⟩) ?_ _ _ _ ⟨0,0,rfl,by omega,rfl,_,_,rfl⟩
 rintro _ _ _ ⟨i,g,rfl,hi,rfl,nn,c,rfl⟩
 refine⟨rfl,?_⟩
 (conv=>whnf);repeat' (first|(refine kA ?_;conv=>whnf)|(refine Br.mk (fun hc=>?_) fun hc=>?_<;>first|exact hc.elim|conv=>whnf)  |(refine kB ?_))
 ·refine Alc (by simp;omega) (by simp;omega) ?_
  (conv=>whnf);repeat' (first|(refine kA ?_;conv=>whnf)|(refine Br.mk (fun hc=>?_) fun hc=>?_<;>first|exact hc.elim|conv=>whnf)  |(refine kB ?_))
  rw[Xh (by omega)]
  exact again.mk ⟨_,by omega,i+1,_,rfl,by omega,rfl,_,_,rfl⟩
 ·rw[EJ hc]
  obtain rfl:i=P.length:=by omega
  have hu:sub (vs AV.str (keysOf P)) 0 P.length=vs .str (keysOf P):=by rw[← RX P];exact uV
  have hkl:(keysOf P).length<2^63:=by rw[RX];exact hP
  (conv=>whnf);repeat' (first|(refine Gu (AbP hL hs) (fun h1=>?_) (fun h1=>?_)<;>conv=>whnf)|(rw [hu];refine Gu (AbP hkl hk) (fun h2=>?_) (fun h2=>?_)<;>conv=>whnf)|(refine Gu (AbQ hL) (fun h3=>?_) (fun h3=>?_)<;>conv=>whnf)|(rw [hu];refine Gu (AbQ hkl) (fun h4=>?_) (fun h4=>?_)<;>conv=>whnf)|(refine kA ?_;conv=>whnf)|(refine Br.mk (fun hc=>?_) fun hc=>?_<;>first|exact hc.elim|conv=>whnf)|(refine kB ?_))
  ·exact Zo h16 fun h=>h1 h.1
  ·exact Zo h16 fun h=>h2 h.2
  ·refine Ah (fun m env s=>∃(i:Nat),m=P.length-i∧env=[(44,.sl pn (vs GP.av P)),(45,.int .i64 P.length),(46,.int .i64 i)]∧(∃ c,s=⟨[.arr g 1 nn true (vs .str (keysOf P))],c⟩)∧∀p∈P.take i,KA p.v) ?_ _ _ _ ⟨0,rfl,rfl,⟨_,rfl⟩,by simp⟩
   clear hc hi
   rintro _ _ _ ⟨i,rfl,rfl,⟨c,rfl⟩,hx⟩
   refine⟨rfl,?_⟩
   (conv=>whnf);repeat' (first|(refine Gu (Afx (v:=(P[i]).v) (hp _ (List.getElem_mem (by omega))).2) (fun h5=>?_) (fun h5=>?_)<;>conv=>whnf)|(refine kA ?_;conv=>whnf)|(refine Br.mk (fun hc=>?_) fun hc=>?_<;>first|exact hc.elim|conv=>whnf)|(refine kB ?_))
   ·exact again.mk ⟨_,by omega,i+1,rfl,rfl,⟨_,rfl⟩,CX (by omega) hx h5⟩
   ·exact AeL h16 ⟨Classical.not_not.1 h1,Classical.not_not.1 h2⟩ ⟨h3,h4⟩ fun h=>h5 (h _ (List.getElem_mem _))
   ·rw[EJ hc]at hx
    exact AeM h16 ⟨Classical.not_not.1 h1,Classical.not_not.1 h2⟩ ⟨h3,h4⟩ hx
  ·exact Xi h16 ⟨Classical.not_not.1 h1,Classical.not_not.1 h2⟩ fun h=>h4 h.2
  ·exact Xi h16 ⟨Classical.not_not.1 h1,Classical.not_not.1 h2⟩ fun h=>h3 h.1
attribute [irreducible] D5
def incr (l:List Int):Prop:=∀j (h:j+1<l.length),l[j]<l[j+1]
noncomputable instance (l:List Int):Decidable (incr l):=Classical.propDecidable _
theorem YV {l:List Int} (h:incr l) {i:Nat}:∀d (hd:i+d+1<l.length),l[i]<l[i+d+1]
 |0,hd=>h i hd
 |d+1,hd=>Int.lt_trans (YV h d (by omega)) (h (i+d+1) hd)
theorem Z8 {l:List Int} (h:incr l) {i j:Nat} (hij:i<j) (hj:j<l.length):l[i]<l[j]:=by
 obtain⟨d,rfl⟩:∃d,j=i+d+1:=⟨j-i-1,by omega⟩
 exact YV h d hj
def Iq (N:List GN):List Int:=N.map GN.id
def AiF (E:List GE):List Int:=E.map GE.id
@[simp] theorem AiG (N:List GN):(Iq N).length=N.length:=by simp[Iq]
@[simp] theorem AiH (N:List GE):(AiF N).length=N.length:=by simp[AiF]
theorem LJ {N:List GN} {i:Nat} (h:i<N.length):(Iq N)[i]'(by simpa using h)=(N[i]).id:=by simp[Iq]
theorem XY {N:List GN} (h:incr (Iq N)) {i j:Nat} (hij:i<j) (hj:j<N.length):(N[i]).id<(N[j]).id:=by
 have:=Z8 h hij (by simpa using hj)
 rwa [LJ (by omega),LJ hj]at this
theorem AkH {n:GN} {x:Int}:AQ (Ac tab) 65 [n.av,.int .i64 x] (· =.int .i64 (Kv n.id x)):=by
 refine Ai rfl rfl ?_
 (conv=>whnf);repeat' (first|(refine kA ?_;conv=>whnf)|(refine Br.mk (fun hc=>?_) fun hc=>?_<;>first|exact hc.elim|conv=>whnf)|(refine Aa compare ?_;rintro _ rfl;conv=>whnf)|(refine kB ?_))
 rfl
theorem bsearch {N:List GN} {nn:Bool} {x:Int} (hN:N.length<2^62) (hi:incr (Iq N)):AQ (Ac tab) 64 [.sl nn (vs GN.av N),.int .i64 x,.fn 65 []] (fun v=>∃z b,v=.Du [.int .i64 z,.bool b]∧(b=true↔x∈Iq N)):=by
 have fin:∀i:Nat,i≤N.length→(∀ k (h:k<N.length),k<i→(N[k]).id<x)→(∀ k (h:k<N.length),i≤k→x≤(N[k]).id)→(x∈Iq N↔∃h:i<N.length,(N[i]).id=x):=by
  intro i h0 h1 h2
  constructor
  ·intro h
   obtain⟨k,hk,e⟩:=List.getElem_of_mem h
   have hk':k<N.length:=by simpa using hk
   rw[LJ hk']at e
   have a1:=h1 k hk'
   have:i≤k:=by
        rcases Nat.lt_or_ge k i with h|h
        ·have:=a1 h;omega
        ·exact h
   rcases Nat.lt_or_ge i k with h|h
   ·have:=XY hi h hk'
    have:=h2 i (by omega) (Nat.le_refl _)
    omega
   ·obtain rfl:i=k:=by omega
    exact⟨hk',e⟩
  ·rintro⟨h,e⟩
   rw[← e,←LJ h]
   exact List.getElem_mem _
 refine Ai rfl rfl ?_
 (conv=>whnf);repeat' (first|(refine kA ?_;conv=>whnf)|(refine Br.mk (fun hc=>?_) fun hc=>?_<;>first|exact hc.elim|conv=>whnf)  |(refine kB ?_))
 refine Ah (fun m env s=>∃(i j:Nat),m=j-i∧i≤j∧j≤N.length∧env=[(0,.sl nn (vs GN.av N)),(1,.int .i64 x),(2,.fn 65 []),(8,.int .i64 N.length),(9,.int .i64 i),(10,.int .i64 j)]∧s=⟨[],0⟩∧
  (∀ k (h:k<N.length),k<i→(N[k]).id<x)∧(∀ k (h:k<N.length),j≤k→x≤(N[k]).id)) ?_ _ _ _ ⟨0,N.length,rfl,by omega,by omega,by simp,rfl,fun k _ h=>absurd h (by omega),fun k h1 h=>absurd h (by omega)⟩
 rintro _ _ _ ⟨i,j,rfl,hij,hj,rfl,rfl,h1,h2⟩
 refine⟨rfl,?_⟩
 (conv=>whnf);repeat' (first|(refine Vz (i+j) (by omega) (by omega) ?_;conv=>whnf)|(apply Bj;(· exact Abb _);conv=>whnf)|(refine Aa AkH ?_;rintro _ rfl;conv=>whnf)|(refine kA ?_;conv=>whnf)|(refine Br.mk (fun hc=>?_) fun hc=>?_<;>first|exact hc.elim|conv=>whnf)|(refine kB ?_))
 ·have hm:=Qp.1 hc
  exact again.mk ⟨_,by omega,(i+j) / 2+1,j,rfl,by omega,hj,rfl,rfl,fun k hk hlt=>by
   rcases Nat.lt_or_ge k ((i+j) / 2)with h|h
   ·exact Int.lt_trans (XY hi h (by omega)) hm
   ·obtain rfl:k=(i+j) / 2:=by omega
    exact hm,h2⟩
 ·have hm:=mt Qp.2 hc
  exact again.mk ⟨_,by omega,i,(i+j) / 2,rfl,by omega,by omega,rfl,rfl,h1,fun k hk hle=>by
   rcases Nat.lt_or_ge ((i+j) / 2) k with h|h
   ·have:=XY hi h hk;omega
   ·obtain rfl:k=(i+j) / 2:=by omega
    omega⟩
 all_goals have hf:=fin i (by omega) h1 (fun k hk h=>h2 k hk (by omega))
 ·exact⟨_,_,rfl,fun _=>hf.2 ⟨by omega,TL.1 hc⟩,fun _=>rfl⟩
 ·exact⟨_,_,rfl,fun h=>(Bool.noConfusion h),fun h=>absurd (TL.2 (hf.1 h).2) hc⟩
 ·exact⟨_,_,rfl,fun h=>(Bool.noConfusion h),fun h=>absurd (hf.1 h).1 (by omega)⟩
theorem AkI {N:List GN} {nn:Bool} {x:Int} (hN:N.length<2^62) (hi:incr (Iq N)):AQ (Ac tab) 36 [.sl nn (vs GN.av N),.int .i64 x] (· =.bool (decide (x∈Iq N))):=by
 refine Ai rfl rfl ?_
 (conv=>whnf);repeat' (first|(refine kA ?_;conv=>whnf)|(refine Br.mk (fun hc=>?_) fun hc=>?_<;>first|exact hc.elim|conv=>whnf)  |(refine kB ?_))
 refine Aa (bsearch hN hi) ?_
 rintro _ ⟨z,b,rfl,hb⟩
 (conv=>whnf);repeat' (first|(refine kA ?_;conv=>whnf)|(refine Br.mk (fun hc=>?_) fun hc=>?_<;>first|exact hc.elim|conv=>whnf)  |(refine kB ?_))
 ·exact GK (hb.1 hc)
 ·exact EI fun h=>by rw[hb.2 h]at hc;cases hc
def Iy (f:Nat→Int):Nat→Int
 |0=>0
 |n+1=>if Iy f n=0 then f n else Iy f n
theorem Eb {f:Nat→Int}:∀{n:Nat},Iy f n=0↔∀k,k<n→f k=0
 |0=>by simp[Iy]
 |n+1=>by
  unfold Iy
  split
  ·rename_i h
   have:=Eb.1 h
   refine⟨fun h0 k hk=>?_,fun h0=>h0 n (by omega)⟩
   rcases Nat.lt_or_ge k n with h1|h1
   ·exact this k h1
   ·obtain rfl:k=n:=by omega
    exact h0
  ·rename_i h
   exact⟨fun h0=>absurd h0 h,fun h0=>absurd (Eb.2 fun k hk=>h0 k (by omega)) h⟩
theorem O1 {f:Nat→Int} {i:Nat} (h:∀k,k<i→f k=0) (hi:f i≠0):∀{n:Nat},i<n→Iy f n=f i
 |0,hn=>absurd hn (by omega)
 |n+1,hn=>by
  unfold Iy
  rcases Nat.lt_or_ge i n with h1|h1
  ·rw[O1 h hi h1,if_neg hi]
  ·obtain rfl:i=n:=by omega
   rw[if_pos (Eb.2 h)]
noncomputable def FZ (N:List GN) (nx:Int) (i:Nat):Int:=
 match N[i]? with
 |none=>0
 |some n=>if 0<i∧(∃ m,N[i-1]?=some m∧n.id≤m.id)then 26 else if n.id<1∨nx≤n.id then 1 else D5 n.labels n.props
noncomputable def F5 (N:List GN) (E:List GE) (nx:Int) (i:Nat):Int:=
 match E[i]? with
 |none=>0
 |some e=>if 0<i∧(∃ m,E[i-1]?=some m∧e.id≤m.id)then 26 else if e.id<1∨nx≤e.id then 1 else if¬(e.fr∈Iq N∧e.to∈Iq N)then 10 else if¬isName e.ty then 6 else D5 [] e.props
theorem Ab2 {N:List GN} {nx:Int} {i:Nat} (h:i<N.length) (h0:0<i) (h1:(N[i]).id≤(N[i-1]).id):FZ N nx i=26:=by
 unfold FZ;rw[List.getElem?_eq_getElem h];exact if_pos ⟨h0,_,List.getElem?_eq_getElem (by omega),h1⟩
theorem Zh {N:List GN} {i:Nat} (h:i<N.length) (h1:0<i→¬(N[i]).id≤(N[i-1]).id):¬(0<i∧∃m,N[i-1]?=some m∧(N[i]).id≤m.id):=by
 rintro⟨a,m,b,c⟩;rw[List.getElem?_eq_getElem (by omega)]at b;rw[← Option.some.inj b]at c;exact h1 a c
theorem node1 {N:List GN} {nx:Int} {i:Nat} (h:i<N.length) (h1:0<i→¬(N[i]).id≤(N[i-1]).id) (h2:(N[i]).id<1∨nx≤(N[i]).id):FZ N nx i=1:=by
 unfold FZ;rw[List.getElem?_eq_getElem h];dsimp only;rw[if_neg (Zh h h1),if_pos h2]
theorem Ab1 {N:List GN} {nx:Int} {i:Nat} (h:i<N.length) (h1:0<i→¬(N[i]).id≤(N[i-1]).id) (h2:¬((N[i]).id<1∨nx≤(N[i]).id)):FZ N nx i=D5 (N[i]).labels (N[i]).props:=by
 unfold FZ;rw[List.getElem?_eq_getElem h];dsimp only;rw[if_neg (Zh h h1),if_neg h2]
theorem Zi {N:List GN} {nx:Int} {i:Nat} (h:i<N.length) (h0:FZ N nx i=0):(0<i→(N[i-1]).id<(N[i]).id)∧1≤(N[i]).id∧(N[i]).id<nx∧D5 (N[i]).labels (N[i]).props=0:=by
 by_cases h1:0<i∧(N[i]).id≤(N[i-1]).id
 ·rw[Ab2 h h1.1 h1.2]at h0;omega
 have h1':0<i→¬(N[i]).id≤(N[i-1]).id:=fun a b=>h1 ⟨a,b⟩
 by_cases h2:(N[i]).id<1∨nx≤(N[i]).id
 ·rw[node1 h h1' h2]at h0;omega
 rw[Ab1 h h1' h2]at h0
 exact⟨fun a=>by have:=h1' a;omega,by omega,by omega,h0⟩
theorem Ab4 {N:List GN} {E:List GE} {nx:Int} {i:Nat} (h:i<E.length) (h0:0<i) (h1:(E[i]).id≤(E[i-1]).id):F5 N E nx i=26:=by
 unfold F5;rw[List.getElem?_eq_getElem h];exact if_pos ⟨h0,_,List.getElem?_eq_getElem (by omega),h1⟩
theorem Qk {E:List GE} {i:Nat} (h:i<E.length) (h1:0<i→¬(E[i]).id≤(E[i-1]).id):¬(0<i∧∃m,E[i-1]?=some m∧(E[i]).id≤m.id):=by
 rintro⟨a,m,b,c⟩;rw[List.getElem?_eq_getElem (by omega)]at b;rw[← Option.some.inj b]at c;exact h1 a c
theorem Afi {N:List GN} {E:List GE} {nx:Int} {i:Nat} (h:i<E.length) (h1:0<i→¬(E[i]).id≤(E[i-1]).id) (h2:(E[i]).id<1∨nx≤(E[i]).id):F5 N E nx i=1:=by
 unfold F5;rw[List.getElem?_eq_getElem h];dsimp only;rw[if_neg (Qk h h1),if_pos h2]
theorem Ab5 {N:List GN} {E:List GE} {nx:Int} {i:Nat} (h:i<E.length) (h1:0<i→¬(E[i]).id≤(E[i-1]).id) (h2:¬((E[i]).id<1∨nx≤(E[i]).id)) (h3:¬((E[i]).fr∈Iq N∧(E[i]).to∈Iq N)):F5 N E nx i=10:=by
 unfold F5;rw[List.getElem?_eq_getElem h];dsimp only;rw[if_neg (Qk h h1),if_neg h2,if_pos h3]
theorem Afj {N:List GN} {E:List GE} {nx:Int} {i:Nat} (h:i<E.length) (h1:0<i→¬(E[i]).id≤(E[i-1]).id) (h2:¬((E[i]).id<1∨nx≤(E[i]).id)) (h3:(E[i]).fr∈Iq N∧(E[i]).to∈Iq N) (h4:¬isName (E[i]).ty):F5 N E nx i=6:=by
 unfold F5;rw[List.getElem?_eq_getElem h];dsimp only;rw[if_neg (Qk h h1),if_neg h2,if_neg (not_not_intro h3),if_pos h4]
theorem Ab3 {N:List GN} {E:List GE} {nx:Int} {i:Nat} (h:i<E.length) (h1:0<i→¬(E[i]).id≤(E[i-1]).id) (h2:¬((E[i]).id<1∨nx≤(E[i]).id)) (h3:(E[i]).fr∈Iq N∧(E[i]).to∈Iq N) (h4:isName (E[i]).ty):F5 N E nx i=D5 [] (E[i]).props:=by
 unfold F5;rw[List.getElem?_eq_getElem h];dsimp only;rw[if_neg (Qk h h1),if_neg h2,if_neg (not_not_intro h3),if_neg (not_not_intro h4)]
theorem AeB {N:List GN} {E:List GE} {nx:Int} {i:Nat} (h:i<E.length) (h0:F5 N E nx i=0):(0<i→(E[i-1]).id<(E[i]).id)∧1≤(E[i]).id∧(E[i]).id<nx∧(E[i]).fr∈Iq N∧(E[i]).to∈Iq N∧isName (E[i]).ty∧D5 [] (E[i]).props=0:=by
 by_cases h1:0<i∧(E[i]).id≤(E[i-1]).id
 ·rw[Ab4 h h1.1 h1.2]at h0;omega
 have h1':0<i→¬(E[i]).id≤(E[i-1]).id:=fun a b=>h1 ⟨a,b⟩
 by_cases h2:(E[i]).id<1∨nx≤(E[i]).id
 ·rw[Afi h h1' h2]at h0;omega
 by_cases h3:(E[i]).fr∈Iq N∧(E[i]).to∈Iq N
 case neg=>rw[Ab5 h h1' h2 h3]at h0;omega
 by_cases h4:isName (E[i]).ty
 case neg=>rw[Afj h h1' h2 h3 h4]at h0;omega
 rw[Ab3 h h1' h2 h3 h4]at h0
 exact⟨fun a=>by have:=h1' a;omega,by omega,by omega,h3.1,h3.2,h4,h0⟩
def G7 (g:GG):Prop:=g.nodes.length≤2000∧g.edges.length≤4000
def IU (g:GG):Prop:=1≤g.Gf∧g.Gf≤1000001∧1≤g.Ih∧g.Ih≤1000001
instance (g:GG):Decidable (G7 g):=by unfold G7;infer_instance
instance (g:GG):Decidable (IU g):=by unfold IU;infer_instance
noncomputable def Dx (g:GG):Int:=
 if¬G7 g then 4 else if¬IU g then 1 else
  if Iy (FZ g.nodes g.Gf) g.nodes.length=0 then Iy (F5 g.nodes g.edges g.Ih) g.edges.length else Iy (FZ g.nodes g.Gf) g.nodes.length
theorem AgM {g:GG} (h:¬G7 g):AV.int .i64 4=AV.int .i64 (Dx g):=by unfold Dx;rw[if_pos h]
theorem AgN {g:GG} (h:G7 g) (h1:¬IU g):AV.int .i64 1=AV.int .i64 (Dx g):=by unfold Dx;rw[if_neg (not_not_intro h),if_pos h1]
theorem checkN {g:GG} (h:G7 g) (h1:IU g) {i:Nat} (hi:i<g.nodes.length) (h2:∀k,k<i→FZ g.nodes g.Gf k=0) {r:Int} (h3:FZ g.nodes g.Gf i=r) (hr:r≠0):AV.int .i64 r=AV.int .i64 (Dx g):=by
 subst h3
 unfold Dx
 rw[if_neg (not_not_intro h),if_neg (not_not_intro h1),O1 h2 hr hi,if_neg hr]
theorem Oc {g:GG} (h:G7 g) (h1:IU g) (hn:∀k,k<g.nodes.length→FZ g.nodes g.Gf k=0) {i:Nat} (hi:i<g.edges.length) (h2:∀k,k<i→F5 g.nodes g.edges g.Ih k=0) {r:Int} (h3:F5 g.nodes g.edges g.Ih i=r) (hr:r≠0):AV.int .i64 r=AV.int .i64 (Dx g):=by
 subst h3
 unfold Dx
 rw[if_neg (not_not_intro h),if_neg (not_not_intro h1),if_pos (Eb.2 hn),O1 h2 hr hi]
theorem AgO {g:GG} (h:G7 g) (h1:IU g) (hn:∀k,k<g.nodes.length→FZ g.nodes g.Gf k=0) (h2:∀k,k<g.edges.length→F5 g.nodes g.edges g.Ih k=0):AV.int .i64 0=AV.int .i64 (Dx g):=by
 unfold Dx
 rw[if_neg (not_not_intro h),if_neg (not_not_intro h1),if_pos (Eb.2 hn),Eb.2 h2]
theorem X3 {N:List GN} {nx:Int} (h:∀k,k<N.length→FZ N nx k=0):incr (Iq N):=by
 intro j hj
 have hj':j+1<N.length:=by simpa using hj
 rw[LJ (by omega),LJ hj']
 exact(Zi hj' (h _ hj')).1 (by omega)
theorem Xe {g:GG} (h:Dx g=0):G7 g∧IU g∧(∀ k,k<g.nodes.length→FZ g.nodes g.Gf k=0)∧∀k,k<g.edges.length→F5 g.nodes g.edges g.Ih k=0:=by
 unfold Dx at h
 by_cases h1:G7 g
 case neg=>rw[if_pos h1]at h;omega
 by_cases h2:IU g
 case neg=>rw[if_neg (not_not_intro h1),if_pos h2]at h;omega
 rw[if_neg (not_not_intro h1),if_neg (not_not_intro h2)]at h
 split at h
 ·rename_i h3
  exact⟨h1,h2,Eb.1 h3,Eb.1 h⟩
 ·rename_i h3;exact absurd h h3
attribute [irreducible] FZ F5 Dx Iy
theorem Pn {f:Nat→Int} {i:Nat} (h:∀k,k<i→f k=0) (hi:f i=0):∀k,k<i+1→f k=0:=by
 intro k hk
 rcases Nat.lt_or_ge k i with h1|h1
 ·exact h k h1
 ·obtain rfl:k=i:=by omega
  exact hi
theorem AgJ {n:GN} (h:n.ok):AQ (Ac tab) 35 [.sl n.ln (vs .str n.labels),.sl n.pn (vs GP.av n.props)] (· =.int .i64 (D5 n.labels n.props)):=
 Ab0 h.2.1 h.2.2.2.1 h.2.2.2.2.1 h.2.2.2.2.2.2
theorem Aei {n:GE} (h:n.ok):AQ (Ac tab) 35 [.sl false [],.sl n.pn (vs GP.av n.props)] (· =.int .i64 (D5 [] n.props)):=
 Ab0 (L:=[]) (by decide) (by simp) h.2.2.2.2.1 h.2.2.2.2.2.2
theorem AgK {g:GG} (hg:g.ok) (hf:G7 g) (hnx:IU g) {c:Nat} {Q:Ar→Env→Ag→Prop}
 (hret:∀r s,AV.int .i64 r=AV.int .i64 (Dx g)→Q .ret [(2,.int .i64 r)] s)
 (hend:(∀ k,k<g.nodes.length→FZ g.nodes g.Gf k=0)→∀c i,Q (.exit 0) [(1,.ref 0 0 0 0),(38,.sl g.nn (vs GN.av g.nodes)),(39,.int .i64 g.nodes.length),(40,.int .i64 i),(41,.bool false)] ⟨[.arr 0 4 true true [g.av]],c⟩):
 Run (Ac tab) (.loop l14_0_h l14_0_b) [(1,.ref 0 0 0 0),(38,.sl g.nn (vs GN.av g.nodes)),(39,.int .i64 g.nodes.length),(40,.int .i64 0)] ⟨[.arr 0 4 true true [g.av]],c⟩ Q:=by
 obtain⟨g1,g2,g3,g4,g5,g6,g7,g8⟩:=hg
 unfold Ln at g1 g4
 have hf':g.nodes.length≤2000:=hf.1
 refine Ah (fun m env s=>∃i:Nat,m=g.nodes.length-i∧env=[(1,.ref 0 0 0 0),(38,.sl g.nn (vs GN.av g.nodes)),(39,.int .i64 g.nodes.length),(40,.int .i64 i)]∧(∃ c,s=⟨[.arr 0 4 true true [g.av]],c⟩)∧∀k,k<i→FZ g.nodes g.Gf k=0) ?_ _ _ _ ⟨0,rfl,by simp,⟨_,rfl⟩,fun k h=>absurd h (by omega)⟩
 rintro _ _ _ ⟨i,rfl,rfl,⟨c,rfl⟩,hx⟩
 refine⟨rfl,?_⟩
 have hat:∀h:i<g.nodes.length,(g.nodes[i]).ok:=fun h=>g3 _ (List.getElem_mem _)
 (conv=>whnf);repeat' (first|(apply Ak;(· exact nVz (i-1) (by omega) (by omega));conv=>whnf)|(refine Aa (AgJ (n:=g.nodes[i]) (hat (by omega))) ?_;rintro _ rfl;conv=>whnf)|(refine hret _ _ ?_)|(refine hend (fun k hk=>hx k (by omega)) _ _)|(refine kA ?_;conv=>whnf)|(refine Br.mk (fun hc=>?_) fun hc=>?_<;>first|exact hc.elim|conv=>whnf)|(refine kB ?_))
 all_goals first
  |exact again.mk ⟨_,by omega,i+1,rfl,rfl,⟨_,rfl⟩,Pn hx ((Ab1 (by omega) (fun h=>by first|assumption|omega) (by omega)).trans hc)⟩
  |exact checkN hf hnx (by omega) hx (Ab2 (by omega) (by omega) (by assumption)) (by decide)
  |exact checkN hf hnx (by omega) hx (node1 (by omega) (fun h=>by first|assumption|omega) (by omega)) (by decide)
  |exact checkN hf hnx (by omega) hx (Ab1 (by omega) (fun h=>by first|assumption|omega) (by omega)) hc
set_option maxHeartbeats 1000000 in
theorem AgL {g:GG} (hg:g.ok) (hf:G7 g) (hnx:IU g) (hN:∀k,k<g.nodes.length→FZ g.nodes g.Gf k=0) {c:Nat} {Q:Ar→Env→Ag→Prop}
 (hret:∀r s,AV.int .i64 r=AV.int .i64 (Dx g)→Q .ret [(2,.int .i64 r)] s)
 (hend:(∀ k,k<g.edges.length→F5 g.nodes g.edges g.Ih k=0)→∀c i,Q (.exit 2) [(1,.ref 0 0 0 0),(79,.sl g.en (vs GE.av g.edges)),(80,.int .i64 g.edges.length),(81,.int .i64 i),(82,.bool false)] ⟨[.arr 0 4 true true [g.av]],c⟩):
 Run (Ac tab) (.loop l14_1_h l14_1_b) [(1,.ref 0 0 0 0),(79,.sl g.en (vs GE.av g.edges)),(80,.int .i64 g.edges.length),(81,.int .i64 0)] ⟨[.arr 0 4 true true [g.av]],c⟩ Q:=by
 obtain⟨g1,g2,g3,g4,g5,g6,g7,g8⟩:=hg
 unfold Ln at g1 g4
 have hf':g.edges.length≤4000:=hf.2
 have hI:=X3 hN
 have hl:g.nodes.length<2^62:=by have:=hf.1;omega
 refine Ah (fun m env s=>∃i:Nat,m=g.edges.length-i∧env=[(1,.ref 0 0 0 0),(79,.sl g.en (vs GE.av g.edges)),(80,.int .i64 g.edges.length),(81,.int .i64 i)]∧(∃ c,s=⟨[.arr 0 4 true true [g.av]],c⟩)∧∀k,k<i→F5 g.nodes g.edges g.Ih k=0) ?_ _ _ _ ⟨0,rfl,by simp,⟨_,rfl⟩,fun k h=>absurd h (by omega)⟩
 rintro _ _ _ ⟨i,rfl,rfl,⟨c,rfl⟩,hx⟩
 refine⟨rfl,?_⟩
 have hat:∀h:i<g.edges.length,(g.edges[i]).ok:=fun h=>g6 _ (List.getElem_mem _)
 (conv=>whnf);repeat' (first|(apply Ak;(· exact nVz (i-1) (by omega) (by omega));conv=>whnf)|(refine Gu (AkI hl hI) (fun hc=>?_) (fun hc=>?_)<;>conv=>whnf)|(refine Gu (name1 (s:=(g.edges[i]).ty) (hat (by omega)).2.2.2.1) (fun hnm=>?_) (fun hnm=>?_)<;>conv=>whnf)|(refine Aa (Aei (n:=g.edges[i]) (hat (by omega))) ?_;rintro _ rfl;conv=>whnf)|(refine hret _ _ ?_)|(refine hend (fun k hk=>hx k (by omega)) _ _)|(refine kA ?_;conv=>whnf)|(refine Br.mk (fun hc=>?_) fun hc=>?_<;>first|exact hc.elim|conv=>whnf)|(refine kB ?_))
 all_goals first
  |exact again.mk ⟨_,by omega,i+1,rfl,rfl,⟨_,rfl⟩,Pn hx ((Ab3 (by omega) (fun h=>by first|assumption|omega) (by omega) ⟨by assumption,by assumption⟩ hnm).trans hc)⟩
  |exact Oc hf hnx hN (by omega) hx (Ab4 (by omega) (by omega) (by assumption)) (by decide)
  |exact Oc hf hnx hN (by omega) hx (Afi (by omega) (fun h=>by first|assumption|omega) (by omega)) (by decide)
  |exact Oc hf hnx hN (by omega) hx (Ab5 (by omega) (fun h=>by first|assumption|omega) (by omega) (fun h=>by first|exact absurd h.1 (by assumption)|exact absurd h.2 (by assumption))) (by decide)
  |exact Oc hf hnx hN (by omega) hx (Afj (by omega) (fun h=>by first|assumption|omega) (by omega) ⟨by assumption,by assumption⟩ hnm) (by decide)
  |exact Oc hf hnx hN (by omega) hx (Ab3 (by omega) (fun h=>by first|assumption|omega) (by omega) ⟨by assumption,by assumption⟩ hnm) hc
theorem Abc {g:GG} (hg:g.ok):AQ (Ac tab) 14 [g.av] (· =.int .i64 (Dx g)):=by
 have hg0:=hg
 obtain⟨g1,g2,g3,g4,g5,g6,g7,g8⟩:=hg
 unfold Ln at g1 g4
 refine Ai rfl rfl ?_
 (conv=>whnf);repeat' (first|(refine kA ?_;conv=>whnf)|(refine Br.mk (fun hc=>?_) fun hc=>?_<;>first|exact hc.elim|conv=>whnf)  |(refine kB ?_))
 all_goals first|exact AgM (by unfold G7;omega)|exact AgN (by unfold G7;omega) (by unfold IU;omega)|skip
 have hf:G7 g:=by unfold G7;omega
 have hnx:IU g:=by unfold IU;omega
 refine AgK hg0 hf hnx (fun r s h=>by(conv=>whnf);(apply Aj;(· rfl);conv=>whnf);(apply Aj;(· rfl);conv=>whnf);exact h) (fun hN c i=>?_)
 (conv=>whnf);repeat' (first|(refine kA ?_;conv=>whnf)|(refine Br.mk (fun hc=>?_) fun hc=>?_<;>first|exact hc.elim|conv=>whnf)  |(refine kB ?_))
 refine AgL hg0 hf hnx hN (fun r s h=>by(conv=>whnf);(apply Aj;(· rfl);conv=>whnf);(apply Aj;(· rfl);conv=>whnf);exact h) (fun hE c i=>?_)
 (conv=>whnf);repeat' (first|(refine kA ?_;conv=>whnf)|(refine Br.mk (fun hc=>?_) fun hc=>?_<;>first|exact hc.elim|conv=>whnf)  |(refine kB ?_))
 exact AgO hf hnx hN hE
def G9 (g:GG):List Int:=g.nodes.map GN.id
theorem KE (g:GG):(G9 g).length=g.nodes.length:=by simp[G9]
theorem U8 {g:GG} {i:Nat} (h:i<g.nodes.length):(G9 g)[i]'(by rw[KE];exact h)=(g.nodes[i]).id:=by simp[G9]
theorem Td {g:GG} {i:Nat} (h:i<g.nodes.length):(G9 g).take (i+1)=(G9 g).take i++[(g.nodes[i]).id]:=by
 rw[List.take_succ_eq_append_getElem (by rw[KE];exact h),U8 h]
theorem AcT {l:List Int} (h:∀i (hi:i<l.length),0<i→l[i-1]<l[i]):l.Pairwise (· <·):=by
 rw[List.pairwise_iff_getElem]
 intro i j hi hj hij
 induction j with
 |zero=>omega
 |succ j ih=>
  have h1:=h (j+1) hj (by omega)
  simp only[Nat.add_sub_cancel]at h1
  by_cases e:i=j
  ·subst e;exact h1
  ·exact Int.lt_trans (ih (by omega) (by omega)) h1
theorem AeC {g:GG} (h:Dx g=0):(G9 g).Pairwise (· <·):=AcT fun i hi h0=>by
 have hi':i<g.nodes.length:=by rw[← KE];exact hi
 rw[U8 (by omega),U8 hi']
 exact(Zi hi' ((Xe h).2.2.1 i hi')).1 h0
theorem AfL {g:GG} (h:Dx g=0):(G9 g).Nodup:=(AeC h).imp fun h=>by omega
theorem Abd {g:GG} (h:Dx g=0):∀e∈g.edges,e.fr∈G9 g∧e.to∈G9 g:=fun e he=>by
 obtain⟨i,hi,rfl⟩:=List.getElem_of_mem he
 have:=AeB hi ((Xe h).2.2.2 i hi)
 exact⟨this.2.2.2.1,this.2.2.2.2.1⟩
def JI (types:List (List UInt8)) (g:GG):List (Int×Int):=(Jo types g).map fun e=>(e.fr,e.to)
theorem KF {x:Int}:Gp (.int .i64 x) (.int .i64 x)=true:=by simp[Gp]
def AbJ (es:List (Int×Int)) (out:List Int) (k:Int):Prop:=∀e∈es,e.2=k→e.1∈out
instance (es:List (Int×Int)) (out:List Int) (k:Int):Decidable (AbJ es out k):=by unfold AbJ;infer_instance
section
variable {α β:Type} [DecidableEq α]
def Iz:List (α×β)→α→List (α×β)
 |[],_=>[]
 |(k',v)::M,k=>if k=k' then M else(k',v)::Iz M k
def Jc (M:List (α×β)):Prop:=(M.map (·.1)).Nodup
theorem Jd {M:List (α×β)} {k:α}:Bh M k=none↔k∉M.map (·.1):=by
 induction M with
 |nil=>simp[Bh]
 |cons p M ih=>
  obtain⟨a,b⟩:=p
  by_cases h:k=a
  ·subst h;simp[Bh]
  ·rw[show Bh ((a,b)::M) k=Bh M k from if_neg h,ih,List.map_cons,List.mem_cons]
   simp[h]
theorem Zu {M:List (α×β)} (hn:Jc M) {k k':α}:Bh (Iz M k) k'=if k'=k then none else Bh M k':=by
 induction M with
 |nil=>simp[Iz,Bh]
 |cons p M ih=>
  obtain⟨a,b⟩:=p
  have hn':=List.nodup_cons.1 hn
  by_cases h:k=a
  ·subst h
   rw[show Iz ((k,b)::M) k=M from if_pos rfl]
   by_cases h1:k'=k
   ·subst h1
    rw[if_pos rfl]
    exact Jd.2 hn'.1
   ·rw[if_neg h1]
    simp only[Bh,if_neg h1]
  ·rw[show Iz ((a,b)::M) k=(a,b)::Iz M k from if_neg h]
   simp only[Bh,ih hn'.2]
   by_cases h1:k'=a
   ·subst h1;rw[if_pos rfl,if_neg (fun e=>h e.symm),if_pos rfl]
   ·rw[if_neg h1,if_neg h1]
theorem Zv {M:List (α×β)} {k x:α} (h:x∈(Iz M k).map (·.1)):x∈M.map (·.1):=by
 induction M with
 |nil=>exact h
 |cons p M ih=>
  obtain⟨a,b⟩:=p
  by_cases e:k=a
  ·rw[show Iz ((a,b)::M) k=M from if_pos e]at h
   exact List.mem_cons_of_mem _ h
  ·rw[show Iz ((a,b)::M) k=(a,b)::Iz M k from if_neg e]at h
   rcases List.mem_cons.1 h with h|h
   ·exact h▸List.mem_cons_self ..
   ·exact List.mem_cons_of_mem _ (ih h)
theorem Xn {M:List (α×β)} (hn:Jc M) (k:α):Jc (Iz M k):=by
 induction M with
 |nil=>exact hn
 |cons p M ih=>
  obtain⟨a,b⟩:=p
  have hn':=List.nodup_cons.1 hn
  by_cases e:k=a
  ·rw[show Iz ((a,b)::M) k=M from if_pos e];exact hn'.2
  ·rw[show Iz ((a,b)::M) k=(a,b)::Iz M k from if_neg e]
   exact List.nodup_cons.2 ⟨fun h=>hn'.1 (Zv h),ih hn'.2⟩
theorem OB {M:List (α×β)} {k x:α} {v:β}:x∈(BO M k v).map (·.1)↔x=k∨x∈M.map (·.1):=by
 have h:=@Jd α β _ (BO M k v) x
 have h2:=@Jd α β _ M x
 rw[Dh]at h
 by_cases e:x=k
 ·subst e
  rw[if_pos rfl]at h
  refine⟨fun _=>.inl rfl,fun _=>Classical.byContradiction fun hc=>by have:=h.2 hc;cases this⟩
 ·rw[if_neg e]at h
  constructor
  ·intro hx
   refine .inr (Classical.byContradiction fun hc=>(h.1 (h2.2 hc)) hx)
  ·rintro(hx|hx)
   ·exact absurd hx e
   ·exact Classical.byContradiction fun hc=>(h2.1 (h.2 hc)) hx
theorem Qo {M:List (α×β)} (hn:Jc M) (k:α) (v:β):Jc (BO M k v):=by
 induction M with
 |nil=>simp[Jc,BO]
 |cons p M ih=>
  obtain⟨a,b⟩:=p
  have hn':=List.nodup_cons.1 hn
  by_cases e:k=a
  ·subst e
   rw[show BO ((k,b)::M) k v=(k,v)::M from if_pos rfl]
   exact List.nodup_cons.2 hn'
  ·rw[show BO ((a,b)::M) k v=(a,b)::BO M k v from if_neg e]
   refine List.nodup_cons.2 ⟨fun h=>?_,ih hn'.2⟩
   rcases OB.1 h with h|h
   ·exact e h.symm
   ·exact hn'.1 h
theorem AaP {M:List (α×β)} {k:α} {v:β} (h:Bh M k=none):(BO M k v).length=M.length+1:=by
 induction M with
 |nil=>rfl
 |cons p M ih=>
  obtain⟨a,b⟩:=p
  by_cases e:k=a
  ·subst e;simp[Bh]at h
  ·simp only[Bh,if_neg e]at h
   rw[show BO ((a,b)::M) k v=(a,b)::BO M k v from if_neg e,List.length_cons,ih h,List.length_cons]
variable {fk:α→AV} {fv:β→AV} {t:JC}
theorem Vl (hk:∀a b,Dk t (fk a) (fk b)=some (decide (a=b))) (k:α):∀(M:List (α×β)) (i:Nat),
 (Bh M k=none∧findKey t (fk k) (F8 fk fv M) i=some none)∨
 ∃j v,Bh M k=some v∧findKey t (fk k) (F8 fk fv M) i=some (some (i+j,fv v))∧(F8 fk fv M).eraseIdx j=F8 fk fv (Iz M k)
 |[],i=>.inl ⟨rfl,rfl⟩
 |(a,b)::M,i=>by
  by_cases h:k=a
  ·subst h
   refine .inr ⟨0,b,by simp[Bh],?_,?_⟩
   ·simp only[F8,List.map_cons,findKey,hk,decide_true,Nat.add_zero]
   ·rw[show Iz ((k,b)::M) k=M from if_pos rfl];rfl
  ·have hd:Iz ((a,b)::M) k=(a,b)::Iz M k:=if_neg h
   rcases Vl hk k M (i+1)with⟨h1,h2⟩|⟨j,v,h1,h2,h3⟩
   ·refine .inl ⟨by simp[Bh,h,h1],?_⟩
    simp only[F8,List.map_cons,findKey,hk,decide_eq_false h]at h2 ⊢
    exact h2
   ·refine .inr ⟨j+1,v,by simp[Bh,h,h1],?_,?_⟩
    ·simp only[F8,List.map_cons,findKey,hk,decide_eq_false h]at h2 ⊢
     rw[h2];congr 3;omega
    ·rw[hd]
     show(fk a,fv b)::(F8 fk fv M).eraseIdx j=(fk a,fv b)::F8 fk fv (Iz M k)
     rw[h3]
theorem Zw (hk:∀a b,Dk t (fk a) (fk b)=some (decide (a=b))) {M:List (α×β)} {k:α} {K:Option (Nat×AV)→Prop}
 (h1:Bh M k=none→K none) (h2:∀i v,Bh M k=some v→(F8 fk fv M).eraseIdx i=F8 fk fv (Iz M k)→K (some (i,fv v))):Je t (fk k) (F8 fk fv M) K:=by
 rcases Vl (fv:=fv) hk k M 0 with⟨g1,g2⟩|⟨j,v,g1,g2,g3⟩
 ·exact⟨_,g2,h1 g1⟩
 ·rw[Nat.zero_add]at g2
  exact⟨_,g2,h2 _ _ g1 g3⟩
end
abbrev JE (M:List (Int×Bool)):List (AV×AV):=F8 (.int .i64) .bool M
theorem fkT {M:List (Int×Bool)} {k:Int} {K:Option (Nat×AV)→Prop}
 (h1:Bh M k=none→K none) (h2:∀i v,Bh M k=some v→(JE M).eraseIdx i=JE (Iz M k)→K (some (i,.bool v))):Je .int (.int .i64 k) (JE M) K:=Zw Fz h1 h2
theorem msT {M:List (Int×Bool)} {k:Int} {v:Bool} {K:List (AV×AV)→Prop} (h:K (JE (BO M k v))):SS .int (.int .i64 k) (.bool v) (JE M) K:=Mc Fz h
end AI
end Go.Proofs.YtjjhejbffgaabaaGreatDoor
