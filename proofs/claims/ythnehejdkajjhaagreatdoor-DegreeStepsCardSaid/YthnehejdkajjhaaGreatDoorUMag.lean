/- What is wrong with labels and properties. Looking for a node among increasing ids. graph.Check: the first error of a graph. A value in a list of values. The reference's validity of values: it answers. The reference's validity of values, with lists in lists. The reference's bare values and strings. -/
import Derived.Test.YthnehejdkajjhaaGreatDoorUMaf
import Derived.Test.YthnehejdkajjhaaGreatDoorUMad
import Derived.Test.YthnehejdkajjhaaGreatDoorBMaa
set_option linter.unusedVariables false
set_option maxRecDepth 4000
namespace Go.Proofs.YthnehejdkajjhaaGreatDoor
namespace AI
theorem AvY {g len:Nat} {nn cl:Bool} {l:List (List UInt8)} {x:List UInt8} {bytes:Nat} {K:Nat→Bool→Bool→List AV→Prop} (hl:len=l.length) (hr:(l.length+1)*bytes≤2 ^ 46) (h:K (len+1) true cl (vs .str (l++[x]))):
 La g g 1 1 len nn cl true (vs .str l) [.str x] bytes K:=by
 subst hl
 refine⟨⟨rfl,rfl,by simp,AbZ rfl,hr⟩,?_⟩
 rw[AdU,Bool.and_true]
 simpa using h
def keysOf (P:List GP):List (List UInt8):=P.map GP.key
@[simp] theorem Df (P:List GP):(keysOf P).length=P.length:=by simp[keysOf]
theorem Yx {P:List GP} (hp:∀p∈P,p.ok):∀s∈keysOf P,s.length<2^63:=by
 intro s h
 obtain⟨p,h1,rfl⟩:=List.mem_map.1 h
 exact(hp p h1).1
theorem Uw {P:List GP} {i:Nat} (h:i<P.length):keysOf (P.take i)++[(P[i]).key]=keysOf (P.take (i+1)):=by
 rw[List.take_succ_eq_append_getElem h];unfold keysOf;rw[List.map_append];rfl
def allPlain (P:List GP):Prop:=∀p∈P,DW p.v
noncomputable instance (P:List GP):Decidable (allPlain P):=Classical.propDecidable _
noncomputable def DV (L:List (List UInt8)) (P:List GP):Int:=
 if 8<L.length∨16<P.length then 4 else if¬(allNames L∧allNames (keysOf P))then 6 else if¬(rises L∧rises (keysOf P))then 26 else if¬allPlain P then 8 else 0
theorem PD {L:List (List UInt8)} {P:List GP} (h:8<L.length∨16<P.length):AV.int .i64 4=AV.int .i64 (DV L P):=by rw[DV,if_pos h]
theorem PE {L:List (List UInt8)} {P:List GP} (h:¬(8<L.length∨16<P.length)) (h1:¬(allNames L∧allNames (keysOf P))):AV.int .i64 6=AV.int .i64 (DV L P):=by rw[DV,if_neg h,if_pos h1]
theorem Md {L:List (List UInt8)} {P:List GP} (h:¬(8<L.length∨16<P.length)) (h1:allNames L∧allNames (keysOf P)) (h2:¬(rises L∧rises (keysOf P))):AV.int .i64 26=AV.int .i64 (DV L P):=by rw[DV,if_neg h,if_neg (not_not_intro h1),if_pos h2]
theorem Vh {L:List (List UInt8)} {P:List GP} (h:¬(8<L.length∨16<P.length)) (h1:allNames L∧allNames (keysOf P)) (h2:rises L∧rises (keysOf P)) (h3:¬allPlain P):AV.int .i64 8=AV.int .i64 (DV L P):=by rw[DV,if_neg h,if_neg (not_not_intro h1),if_neg (not_not_intro h2),if_pos h3]
theorem Ad3 {L:List (List UInt8)} {P:List GP} (h:¬(8<L.length∨16<P.length)) (h1:allNames L∧allNames (keysOf P)) (h2:rises L∧rises (keysOf P)) (h3:allPlain P):AV.int .i64 0=AV.int .i64 (DV L P):=by rw[DV,if_neg h,if_neg (not_not_intro h1),if_neg (not_not_intro h2),if_neg (not_not_intro h3)]
theorem AhR {L:List (List UInt8)} {P:List GP} {ln pn:Bool} (hL:L.length<2^63) (hs:∀s∈L,s.length<2^63) (hP:P.length<2^63) (hp:∀p∈P,p.ok):Ag (Ac tab) 76 [.sl ln (vs .str L),.sl pn (vs GP.av P)] (· =.int .i64 (DV L P)):=by
 have hk:=Yx hp
 refine Ad rfl rfl ?_
 (conv=>whnf);repeat' (first|(refine kA ?_;conv=>whnf)|(refine Br.mk (fun hc=>?_) fun hc=>?_<;>first|exact hc.elim|conv=>whnf)  |(refine kB ?_))
 ·exact PD (by omega)
 ·exact PD (by omega)
 have h16:¬(8<L.length∨16<P.length):=by omega
 refine Af (fun m env s=>∃(i g:Nat),m=P.length-i∧i≤P.length∧env=[(0,.sl ln (vs .str L)),(1,.sl pn (vs GP.av P)),(5,.own 0 g 0 i),(18,.sl pn (vs GP.av P)),(19,.int .i64 P.length),(20,.int .i64 i)]∧∃nn c,s=⟨[.arr g 1 nn true (vs .str (keysOf (P.take i)))],c⟩) ?_ _ _ _ ⟨0,0,rfl,by omega,rfl,_,_,rfl⟩
 rintro _ _ _ ⟨i,g,rfl,hi,rfl,nn,c,rfl⟩
 refine⟨rfl,?_⟩
 (conv=>whnf);repeat' (first|(refine kA ?_;conv=>whnf)|(refine Br.mk (fun hc=>?_) fun hc=>?_<;>first|exact hc.elim|conv=>whnf)  |(refine kB ?_))
 ·refine AvY (by simp;omega) (by simp;omega) ?_
  (conv=>whnf);repeat' (first|(refine kA ?_;conv=>whnf)|(refine Br.mk (fun hc=>?_) fun hc=>?_<;>first|exact hc.elim|conv=>whnf)  |(refine kB ?_))
  rw[Uw (by omega)]
  exact again.mk ⟨_,by omega,i+1,_,rfl,by omega,rfl,_,_,rfl⟩
 ·rw[CQ hc]
  obtain rfl:i=P.length:=by omega
  have hu:sub (vs AV.str (keysOf P)) 0 P.length=vs .str (keysOf P):=by rw[← Df P];exact uV
  have hkl:(keysOf P).length<2^63:=by rw[Df];exact hP
  (conv=>whnf);repeat' (first|(refine Bo (Ah9 hL hs) (fun h1=>?_) (fun h1=>?_)<;>conv=>whnf)|(rw [hu];refine Bo (Ah9 hkl hk) (fun h2=>?_) (fun h2=>?_)<;>conv=>whnf)|(refine Bo (Aia hL) (fun h3=>?_) (fun h3=>?_)<;>conv=>whnf)|(rw [hu];refine Bo (Aia hkl) (fun h4=>?_) (fun h4=>?_)<;>conv=>whnf)|(refine kA ?_;conv=>whnf)|(refine Br.mk (fun hc=>?_) fun hc=>?_<;>first|exact hc.elim|conv=>whnf)|(refine kB ?_))
  ·exact PE h16 fun h=>h1 h.1
  ·exact PE h16 fun h=>h2 h.2
  ·refine Af (fun m env s=>∃(i:Nat),m=P.length-i∧env=[(44,.sl pn (vs GP.av P)),(45,.int .i64 P.length),(46,.int .i64 i)]∧(∃ c,s=⟨[.arr g 1 nn true (vs .str (keysOf P))],c⟩)∧∀p∈P.take i,DW p.v) ?_ _ _ _ ⟨0,rfl,rfl,⟨_,rfl⟩,by simp⟩
   clear hc hi
   rintro _ _ _ ⟨i,rfl,rfl,⟨c,rfl⟩,hx⟩
   refine⟨rfl,?_⟩
   (conv=>whnf);repeat' (first|(refine Bo (AgT (v:=(P[i]).v) (hp _ (List.getElem_mem (by omega))).2) (fun h5=>?_) (fun h5=>?_)<;>conv=>whnf)|(refine kA ?_;conv=>whnf)|(refine Br.mk (fun hc=>?_) fun hc=>?_<;>first|exact hc.elim|conv=>whnf)|(refine kB ?_))
   ·exact again.mk ⟨_,by omega,i+1,rfl,rfl,⟨_,rfl⟩,Cb (by omega) hx h5⟩
   ·exact Vh h16 ⟨Classical.not_not.1 h1,Classical.not_not.1 h2⟩ ⟨h3,h4⟩ fun h=>h5 (h _ (List.getElem_mem _))
   ·rw[CQ hc]at hx
    exact Ad3 h16 ⟨Classical.not_not.1 h1,Classical.not_not.1 h2⟩ ⟨h3,h4⟩ hx
  ·exact Md h16 ⟨Classical.not_not.1 h1,Classical.not_not.1 h2⟩ fun h=>h4 h.2
  ·exact Md h16 ⟨Classical.not_not.1 h1,Classical.not_not.1 h2⟩ fun h=>h3 h.1
attribute [irreducible] DV
def incr (l:List Int):Prop:=∀j (h:j+1<l.length),l[j]<l[j+1]
noncomputable instance (l:List Int):Decidable (incr l):=Classical.propDecidable _
theorem AeY {l:List Int} (h:incr l) {i:Nat}:∀d (hd:i+d+1<l.length),l[i]<l[i+d+1]
 |0,hd=>h i hd
 |d+1,hd=>Int.lt_trans (AeY h d (by omega)) (h (i+d+1) hd)
theorem Af8 {l:List Int} (h:incr l) {i j:Nat} (hij:i<j) (hj:j<l.length):l[i]<l[j]:=by
 obtain⟨d,rfl⟩:∃d,j=i+d+1:=⟨j-i-1,by omega⟩
 exact AeY h d hj
def Hw (N:List GN):List Int:=N.map GN.id
def Atm (E:List GE):List Int:=E.map GE.id
@[simp] theorem Atn (N:List GN):(Hw N).length=N.length:=by simp[Hw]
@[simp] theorem Ato (N:List GE):(Atm N).length=N.length:=by simp[Atm]
theorem PW {N:List GN} {i:Nat} (h:i<N.length):(Hw N)[i]'(by simpa using h)=(N[i]).id:=by simp[Hw]
theorem AdC {N:List GN} (h:incr (Hw N)) {i j:Nat} (hij:i<j) (hj:j<N.length):(N[i]).id<(N[j]).id:=by
 have:=Af8 h hij (by simpa using hj)
 rwa [PW (by omega),PW hj]at this
theorem AvX {n:GN} {x:Int}:Ag (Ac tab) 134 [n.av,.int .i64 x] (· =.int .i64 (Dq n.id x)):=by
 refine Ad rfl rfl ?_
 (conv=>whnf);repeat' (first|(refine kA ?_;conv=>whnf)|(refine Br.mk (fun hc=>?_) fun hc=>?_<;>first|exact hc.elim|conv=>whnf)|(refine Aa compare ?_;rintro _ rfl;conv=>whnf)|(refine kB ?_))
 rfl
theorem bsearch {N:List GN} {nn:Bool} {x:Int} (hN:N.length<2^62) (hi:incr (Hw N)):Ag (Ac tab) 133 [.sl nn (vs GN.av N),.int .i64 x,.fn 134 []] (fun v=>∃z b,v=.BG [.int .i64 z,.bool b]∧(b=true↔x∈Hw N)):=by
 have fin:∀i:Nat,i≤N.length→(∀ k (h:k<N.length),k<i→(N[k]).id<x)→(∀ k (h:k<N.length),i≤k→x≤(N[k]).id)→(x∈Hw N↔∃h:i<N.length,(N[i]).id=x):=by
  intro i h0 h1 h2
  constructor
  ·intro h
   obtain⟨k,hk,e⟩:=List.getElem_of_mem h
   have hk':k<N.length:=by simpa using hk
   rw[PW hk']at e
   have a1:=h1 k hk'
   have:i≤k:=by
        rcases Nat.lt_or_ge k i with h|h
        ·have:=a1 h;omega
        ·exact h
   rcases Nat.lt_or_ge i k with h|h
   ·have:=AdC hi h hk'
    have:=h2 i (by omega) (Nat.le_refl _)
    omega
   ·obtain rfl:i=k:=by omega
    exact⟨hk',e⟩
  ·rintro⟨h,e⟩
   rw[← e,←PW h]
   exact List.getElem_mem _
 refine Ad rfl rfl ?_
 (conv=>whnf);repeat' (first|(refine kA ?_;conv=>whnf)|(refine Br.mk (fun hc=>?_) fun hc=>?_<;>first|exact hc.elim|conv=>whnf)  |(refine kB ?_))
 refine Af (fun m env s=>∃(i j:Nat),m=j-i∧i≤j∧j≤N.length∧env=[(0,.sl nn (vs GN.av N)),(1,.int .i64 x),(2,.fn 134 []),(8,.int .i64 N.length),(9,.int .i64 i),(10,.int .i64 j)]∧s=⟨[],0⟩∧
  (∀ k (h:k<N.length),k<i→(N[k]).id<x)∧(∀ k (h:k<N.length),j≤k→x≤(N[k]).id)) ?_ _ _ _ ⟨0,N.length,rfl,by omega,by omega,by simp,rfl,fun k _ h=>absurd h (by omega),fun k h1 h=>absurd h (by omega)⟩
 rintro _ _ _ ⟨i,j,rfl,hij,hj,rfl,rfl,h1,h2⟩
 refine⟨rfl,?_⟩
 (conv=>whnf);repeat' (first|(refine Abl (i+j) (by omega) (by omega) ?_;conv=>whnf)|(apply BK;(· exact Ahi _);conv=>whnf)|(refine Aa AvX ?_;rintro _ rfl;conv=>whnf)|(refine kA ?_;conv=>whnf)|(refine Br.mk (fun hc=>?_) fun hc=>?_<;>first|exact hc.elim|conv=>whnf)|(refine kB ?_))
 ·have hm:=Oj.1 hc
  exact again.mk ⟨_,by omega,(i+j) / 2+1,j,rfl,by omega,hj,rfl,rfl,fun k hk hlt=>by
   rcases Nat.lt_or_ge k ((i+j) / 2)with h|h
   ·exact Int.lt_trans (AdC hi h (by omega)) hm
   ·obtain rfl:k=(i+j) / 2:=by omega
    exact hm,h2⟩
 ·have hm:=mt Oj.2 hc
  exact again.mk ⟨_,by omega,i,(i+j) / 2,rfl,by omega,by omega,rfl,rfl,h1,fun k hk hle=>by
   rcases Nat.lt_or_ge ((i+j) / 2) k with h|h
   ·have:=AdC hi h hk;omega
   ·obtain rfl:k=(i+j) / 2:=by omega
    omega⟩
 all_goals have hf:=fin i (by omega) h1 (fun k hk h=>h2 k hk (by omega))
 ·exact⟨_,_,rfl,fun _=>hf.2 ⟨by omega,D6.1 hc⟩,fun _=>rfl⟩
 ·exact⟨_,_,rfl,fun h=>(Bool.noConfusion h),fun h=>absurd (D6.2 (hf.1 h).2) hc⟩
 ·exact⟨_,_,rfl,fun h=>(Bool.noConfusion h),fun h=>absurd (hf.1 h).1 (by omega)⟩
theorem Au8 {N:List GN} {nn:Bool} {x:Int} (hN:N.length<2^62) (hi:incr (Hw N)):Ag (Ac tab) 77 [.sl nn (vs GN.av N),.int .i64 x] (· =.bool (decide (x∈Hw N))):=by
 refine Ad rfl rfl ?_
 (conv=>whnf);repeat' (first|(refine kA ?_;conv=>whnf)|(refine Br.mk (fun hc=>?_) fun hc=>?_<;>first|exact hc.elim|conv=>whnf)  |(refine kB ?_))
 refine Aa (bsearch hN hi) ?_
 rintro _ ⟨z,b,rfl,hb⟩
 (conv=>whnf);repeat' (first|(refine kA ?_;conv=>whnf)|(refine Br.mk (fun hc=>?_) fun hc=>?_<;>first|exact hc.elim|conv=>whnf)  |(refine kB ?_))
 ·exact Bh (hb.1 hc)
 ·exact Ar fun h=>by rw[hb.2 h]at hc;cases hc
def KG (f:Nat→Int):Nat→Int
 |0=>0
 |n+1=>if KG f n=0 then f n else KG f n
theorem FD {f:Nat→Int}:∀{n:Nat},KG f n=0↔∀k,k<n→f k=0
 |0=>by simp[KG]
 |n+1=>by
  unfold KG
  split
  ·rename_i h
   have:=FD.1 h
   refine⟨fun h0 k hk=>?_,fun h0=>h0 n (by omega)⟩
   rcases Nat.lt_or_ge k n with h1|h1
   ·exact this k h1
   ·obtain rfl:k=n:=by omega
    exact h0
  ·rename_i h
   exact⟨fun h0=>absurd h0 h,fun h0=>absurd (FD.2 fun k hk=>h0 k (by omega)) h⟩
theorem Uh {f:Nat→Int} {i:Nat} (h:∀k,k<i→f k=0) (hi:f i≠0):∀{n:Nat},i<n→KG f n=f i
 |0,hn=>absurd hn (by omega)
 |n+1,hn=>by
  unfold KG
  rcases Nat.lt_or_ge i n with h1|h1
  ·rw[Uh h hi h1,if_neg hi]
  ·obtain rfl:i=n:=by omega
   rw[if_pos (FD.2 h)]
noncomputable def ER (N:List GN) (nx:Int) (i:Nat):Int:=
 match N[i]? with
 |none=>0
 |some n=>if 0<i∧(∃ m,N[i-1]?=some m∧n.id≤m.id)then 26 else if n.id<1∨nx≤n.id then 1 else DV n.labels n.props
noncomputable def EX (N:List GN) (E:List GE) (nx:Int) (i:Nat):Int:=
 match E[i]? with
 |none=>0
 |some e=>if 0<i∧(∃ m,E[i-1]?=some m∧e.id≤m.id)then 26 else if e.id<1∨nx≤e.id then 1 else if¬(e.fr∈Hw N∧e.to∈Hw N)then 10 else if¬isName e.ty then 6 else DV [] e.props
theorem AcT {N:List GN} {nx:Int} {i:Nat} (h:i<N.length) (h0:0<i) (h1:(N[i]).id≤(N[i-1]).id):ER N nx i=26:=by
 unfold ER;rw[List.getElem?_eq_getElem h];exact if_pos ⟨h0,_,List.getElem?_eq_getElem (by omega),h1⟩
theorem Aeu {N:List GN} {i:Nat} (h:i<N.length) (h1:0<i→¬(N[i]).id≤(N[i-1]).id):¬(0<i∧∃m,N[i-1]?=some m∧(N[i]).id≤m.id):=by
 rintro⟨a,m,b,c⟩;rw[List.getElem?_eq_getElem (by omega)]at b;rw[← Option.some.inj b]at c;exact h1 a c
theorem node1 {N:List GN} {nx:Int} {i:Nat} (h:i<N.length) (h1:0<i→¬(N[i]).id≤(N[i-1]).id) (h2:(N[i]).id<1∨nx≤(N[i]).id):ER N nx i=1:=by
 unfold ER;rw[List.getElem?_eq_getElem h];dsimp only;rw[if_neg (Aeu h h1),if_pos h2]
theorem AaB {N:List GN} {nx:Int} {i:Nat} (h:i<N.length) (h1:0<i→¬(N[i]).id≤(N[i-1]).id) (h2:¬((N[i]).id<1∨nx≤(N[i]).id)):ER N nx i=DV (N[i]).labels (N[i]).props:=by
 unfold ER;rw[List.getElem?_eq_getElem h];dsimp only;rw[if_neg (Aeu h h1),if_neg h2]
theorem KP {N:List GN} {nx:Int} {i:Nat} (h:i<N.length) (h0:ER N nx i=0):(0<i→(N[i-1]).id<(N[i]).id)∧1≤(N[i]).id∧(N[i]).id<nx∧DV (N[i]).labels (N[i]).props=0:=by
 by_cases h1:0<i∧(N[i]).id≤(N[i-1]).id
 ·rw[AcT h h1.1 h1.2]at h0;omega
 have h1':0<i→¬(N[i]).id≤(N[i-1]).id:=fun a b=>h1 ⟨a,b⟩
 by_cases h2:(N[i]).id<1∨nx≤(N[i]).id
 ·rw[node1 h h1' h2]at h0;omega
 rw[AaB h h1' h2]at h0
 exact⟨fun a=>by have:=h1' a;omega,by omega,by omega,h0⟩
theorem AcV {N:List GN} {E:List GE} {nx:Int} {i:Nat} (h:i<E.length) (h0:0<i) (h1:(E[i]).id≤(E[i-1]).id):EX N E nx i=26:=by
 unfold EX;rw[List.getElem?_eq_getElem h];exact if_pos ⟨h0,_,List.getElem?_eq_getElem (by omega),h1⟩
theorem Vt {E:List GE} {i:Nat} (h:i<E.length) (h1:0<i→¬(E[i]).id≤(E[i-1]).id):¬(0<i∧∃m,E[i-1]?=some m∧(E[i]).id≤m.id):=by
 rintro⟨a,m,b,c⟩;rw[List.getElem?_eq_getElem (by omega)]at b;rw[← Option.some.inj b]at c;exact h1 a c
theorem AhS {N:List GN} {E:List GE} {nx:Int} {i:Nat} (h:i<E.length) (h1:0<i→¬(E[i]).id≤(E[i-1]).id) (h2:(E[i]).id<1∨nx≤(E[i]).id):EX N E nx i=1:=by
 unfold EX;rw[List.getElem?_eq_getElem h];dsimp only;rw[if_neg (Vt h h1),if_pos h2]
theorem AcW {N:List GN} {E:List GE} {nx:Int} {i:Nat} (h:i<E.length) (h1:0<i→¬(E[i]).id≤(E[i-1]).id) (h2:¬((E[i]).id<1∨nx≤(E[i]).id)) (h3:¬((E[i]).fr∈Hw N∧(E[i]).to∈Hw N)):EX N E nx i=10:=by
 unfold EX;rw[List.getElem?_eq_getElem h];dsimp only;rw[if_neg (Vt h h1),if_neg h2,if_pos h3]
theorem AhT {N:List GN} {E:List GE} {nx:Int} {i:Nat} (h:i<E.length) (h1:0<i→¬(E[i]).id≤(E[i-1]).id) (h2:¬((E[i]).id<1∨nx≤(E[i]).id)) (h3:(E[i]).fr∈Hw N∧(E[i]).to∈Hw N) (h4:¬isName (E[i]).ty):EX N E nx i=6:=by
 unfold EX;rw[List.getElem?_eq_getElem h];dsimp only;rw[if_neg (Vt h h1),if_neg h2,if_neg (not_not_intro h3),if_pos h4]
theorem AaC {N:List GN} {E:List GE} {nx:Int} {i:Nat} (h:i<E.length) (h1:0<i→¬(E[i]).id≤(E[i-1]).id) (h2:¬((E[i]).id<1∨nx≤(E[i]).id)) (h3:(E[i]).fr∈Hw N∧(E[i]).to∈Hw N) (h4:isName (E[i]).ty):EX N E nx i=DV [] (E[i]).props:=by
 unfold EX;rw[List.getElem?_eq_getElem h];dsimp only;rw[if_neg (Vt h h1),if_neg h2,if_neg (not_not_intro h3),if_neg (not_not_intro h4)]
theorem MZ {N:List GN} {E:List GE} {nx:Int} {i:Nat} (h:i<E.length) (h0:EX N E nx i=0):(0<i→(E[i-1]).id<(E[i]).id)∧1≤(E[i]).id∧(E[i]).id<nx∧(E[i]).fr∈Hw N∧(E[i]).to∈Hw N∧isName (E[i]).ty∧DV [] (E[i]).props=0:=by
 by_cases h1:0<i∧(E[i]).id≤(E[i-1]).id
 ·rw[AcV h h1.1 h1.2]at h0;omega
 have h1':0<i→¬(E[i]).id≤(E[i-1]).id:=fun a b=>h1 ⟨a,b⟩
 by_cases h2:(E[i]).id<1∨nx≤(E[i]).id
 ·rw[AhS h h1' h2]at h0;omega
 by_cases h3:(E[i]).fr∈Hw N∧(E[i]).to∈Hw N
 case neg=>rw[AcW h h1' h2 h3]at h0;omega
 by_cases h4:isName (E[i]).ty
 case neg=>rw[AhT h h1' h2 h3 h4]at h0;omega
 rw[AaC h h1' h2 h3 h4]at h0
 exact⟨fun a=>by have:=h1' a;omega,by omega,by omega,h3.1,h3.2,h4,h0⟩
def Gs (g:GG):Prop:=g.nodes.length≤2000∧g.edges.length≤4000
def Hy (g:GG):Prop:=1≤g.BF∧g.BF≤1000001∧1≤g.BA∧g.BA≤1000001
instance (g:GG):Decidable (Gs g):=by unfold Gs;infer_instance
instance (g:GG):Decidable (Hy g):=by unfold Hy;infer_instance
noncomputable def AZ (g:GG):Int:=
 if¬Gs g then 4 else if¬Hy g then 1 else
  if KG (ER g.nodes g.BF) g.nodes.length=0 then KG (EX g.nodes g.edges g.BA) g.edges.length else KG (ER g.nodes g.BF) g.nodes.length
theorem AhU {g:GG} (h:¬Gs g):AV.int .i64 4=AV.int .i64 (AZ g):=by unfold AZ;rw[if_pos h]
theorem AhV {g:GG} (h:Gs g) (h1:¬Hy g):AV.int .i64 1=AV.int .i64 (AZ g):=by unfold AZ;rw[if_neg (not_not_intro h),if_pos h1]
theorem checkN {g:GG} (h:Gs g) (h1:Hy g) {i:Nat} (hi:i<g.nodes.length) (h2:∀k,k<i→ER g.nodes g.BF k=0) {r:Int} (h3:ER g.nodes g.BF i=r) (hr:r≠0):AV.int .i64 r=AV.int .i64 (AZ g):=by
 subst h3
 unfold AZ
 rw[if_neg (not_not_intro h),if_neg (not_not_intro h1),Uh h2 hr hi,if_neg hr]
theorem PV {g:GG} (h:Gs g) (h1:Hy g) (hn:∀k,k<g.nodes.length→ER g.nodes g.BF k=0) {i:Nat} (hi:i<g.edges.length) (h2:∀k,k<i→EX g.nodes g.edges g.BA k=0) {r:Int} (h3:EX g.nodes g.edges g.BA i=r) (hr:r≠0):AV.int .i64 r=AV.int .i64 (AZ g):=by
 subst h3
 unfold AZ
 rw[if_neg (not_not_intro h),if_neg (not_not_intro h1),if_pos (FD.2 hn),Uh h2 hr hi]
theorem Ack {g:GG} (h:Gs g) (h1:Hy g) (hn:∀k,k<g.nodes.length→ER g.nodes g.BF k=0) (h2:∀k,k<g.edges.length→EX g.nodes g.edges g.BA k=0):AV.int .i64 0=AV.int .i64 (AZ g):=by
 unfold AZ
 rw[if_neg (not_not_intro h),if_neg (not_not_intro h1),if_pos (FD.2 hn),FD.2 h2]
theorem AcU {N:List GN} {nx:Int} (h:∀k,k<N.length→ER N nx k=0):incr (Hw N):=by
 intro j hj
 have hj':j+1<N.length:=by simpa using hj
 rw[PW (by omega),PW hj']
 exact(KP hj' (h _ hj')).1 (by omega)
theorem LU {g:GG} (h:AZ g=0):Gs g∧Hy g∧(∀ k,k<g.nodes.length→ER g.nodes g.BF k=0)∧∀k,k<g.edges.length→EX g.nodes g.edges g.BA k=0:=by
 unfold AZ at h
 by_cases h1:Gs g
 case neg=>rw[if_pos h1]at h;omega
 by_cases h2:Hy g
 case neg=>rw[if_neg (not_not_intro h1),if_pos h2]at h;omega
 rw[if_neg (not_not_intro h1),if_neg (not_not_intro h2)]at h
 split at h
 ·rename_i h3
  exact⟨h1,h2,FD.1 h3,FD.1 h⟩
 ·rename_i h3;exact absurd h h3
attribute [irreducible] ER EX AZ KG
theorem Nz {l:List AV} (h:∀x∈l,Like Tryz.prog 51 x) (i:Nat):
 ∃g:GV,∀hi:i<l.length,nth l (Int.toNat (Nat.cast i))=some g.av∧l[i]=g.av∧g.ok:=by
 by_cases hi:i<l.length
 ·obtain⟨g,e,hg⟩:=Ady (h _ (List.getElem_mem hi))
  exact⟨g,fun _=>⟨by rw[← e];exact nR hi,e,hg⟩⟩
 ·exact⟨⟨0,0,0,[],true,[]⟩,fun h=>absurd h hi⟩
theorem bare {g:GV} {n d s l:Bool}:Ag (Ac tab) 256 [g.av,.bool n,.bool d,.bool s,.bool l] (fun v=>∃b,v=.bool b):=by
 cases n<;>cases d<;>cases s<;>cases l<;>(
 refine Ad rfl rfl ?_
 (conv=>whnf);repeat' (first|(refine kA ?_;conv=>whnf)|(refine Br.mk (fun hc=>?_) fun hc=>?_<;>first|exact hc.elim|conv=>whnf)  |(refine kB ?_))
 all_goals exact⟨_,rfl⟩)
theorem Avp {n:Int}:Ag (Ac tab) 257 [.int .i64 n] (fun v=>∃b,v=.bool b):=by
 refine Ad rfl rfl ?_
 (conv=>whnf);repeat' (first|(refine kA ?_;conv=>whnf)|(refine Br.mk (fun hc=>?_) fun hc=>?_<;>first|exact hc.elim|conv=>whnf)  |(refine kB ?_))
 all_goals exact⟨_,rfl⟩
theorem size {n:Int} (h1:-2^62≤n) (h2:n≤2^62):Ag (Ac tab) 216 [.int .i64 n] (fun v=>∃z,v=.int .i64 z∧0≤z∧(z=n∨z=-n)):=by
 refine Ad rfl rfl ?_
 (conv=>whnf);repeat' (first|(refine kA ?_;conv=>whnf)|(refine Br.mk (fun hc=>?_) fun hc=>?_<;>first|exact hc.elim|conv=>whnf)  |(refine kB ?_))
 all_goals exact⟨_,rfl,by omega,by omega⟩
theorem gcd {a b:Int} (h1:0≤a) (h2:0≤b):Ag (Ac tab) 261 [.int .i64 a,.int .i64 b] (fun v=>∃z,v=.int .i64 z):=by
 refine Ad rfl rfl ?_
 (conv=>whnf);repeat' (first|(refine kA ?_;conv=>whnf)|(refine Br.mk (fun hc=>?_) fun hc=>?_<;>first|exact hc.elim|conv=>whnf)  |(refine kB ?_))
 refine Af (fun m env s=>∃(a b:Int),m=b.toNat∧0≤a∧0≤b∧env=[(0,.int .i64 a),(1,.int .i64 b)]∧s=⟨[],0⟩) ?_ _ _ _ ⟨a,b,rfl,h1,h2,rfl,rfl⟩
 clear h1 h2 a b
 rintro _ _ _ ⟨a,b,rfl,h1,h2,rfl,rfl⟩
 refine⟨rfl,?_⟩
 (conv=>whnf);repeat' (first|(refine kA ?_;conv=>whnf)|(refine Br.mk (fun hc=>?_) fun hc=>?_<;>first|exact hc.elim|conv=>whnf)  |(refine kB ?_))
 ·have e:a.tmod b=a % b:=Int.tmod_eq_emod_of_nonneg h1
  have:=Int.emod_lt_of_pos a (by omega:0<b)
  have:=Int.emod_nonneg a (by omega:b≠0)
  exact again.mk ⟨_,by rw[e];omega,_,_,rfl,h2,by rw[e];omega,rfl,rfl⟩
 ·exact⟨_,rfl⟩
theorem AoQ {n d:Int}:Ag (Ac tab) 212 [.agg [.int .i64 n,.int .i64 d]] (fun v=>∃b,v=.bool b∧(b=true→1≤d∧d≤1000000000000000∧-1000000000000000≤n∧n≤1000000000000000)):=by
 refine Ad rfl rfl ?_
 (conv=>whnf);repeat' (first|(refine kA ?_;conv=>whnf)|(refine Br.mk (fun hc=>?_) fun hc=>?_<;>first|exact hc.elim|conv=>whnf)|(refine Aa (size (n:=n) (by omega) (by omega)) ?_;rintro _ ⟨z,rfl,hz1,hz2⟩;conv=>whnf)|(refine Aa (gcd (by omega) (by omega)) ?_;rintro _ ⟨z2,rfl⟩;conv=>whnf)|(refine kB ?_))
 all_goals first|exact⟨_,rfl,fun _=>by omega⟩|exact⟨_,rfl,fun h=>absurd h Bool.false_ne_true⟩
theorem ArX {s:List UInt8} (hl:s.length<2^63):Ag (Ac tab) 258 [.str s] (fun v=>∃b,v=.bool b):=by
 refine Ad rfl rfl ?_
 (conv=>whnf);repeat' (first|(refine kA ?_;conv=>whnf)|(refine Br.mk (fun hc=>?_) fun hc=>?_<;>first|exact hc.elim|conv=>whnf)  |(refine kB ?_))
 refine Af (fun m env s'=>∃i:Nat,m=s.length-i∧env=[(0,.str s),(3,.int .i64 i)]∧s'=⟨[],0⟩) ?_ _ _ _ ⟨0,rfl,rfl,rfl⟩
 rintro _ _ _ ⟨i,rfl,rfl,rfl⟩
 refine⟨rfl,?_⟩
 (conv=>whnf);repeat' (first|(refine kA ?_;conv=>whnf)|(refine Br.mk (fun hc=>?_) fun hc=>?_<;>first|exact hc.elim|conv=>whnf)  |(refine kB ?_))
 all_goals first|exact⟨_,rfl⟩|exact again.mk ⟨_,by omega,i+1,rfl,rfl,rfl⟩
theorem AfH {g:GV} {n:Int} (h:g.k=5∨g.k=6):Ag (Ac tab) 209 [g.av,.int .i64 n] (fun v=>∃b,v=.bool b):=by
 refine Ad rfl rfl ?_
 (conv=>whnf);repeat' (first|(refine kA ?_;conv=>whnf)|(refine Br.mk (fun hc=>?_) fun hc=>?_<;>first|exact hc.elim|conv=>whnf)|(refine Aa (bare (g:=g)) ?_;rintro _ ⟨b,rfl⟩;conv=>whnf)|(refine kB ?_))
 all_goals exact⟨_,rfl⟩
theorem AoR {l:List AV} {nn:Bool} (hl:l.length<2^63) (h:∀x∈l,Like Tryz.prog 51 x):Ag (Ac tab) 259 [.sl nn l] (fun v=>∃b,v=.bool b):=by
 refine Ad rfl rfl ?_
 (conv=>whnf);repeat' (first|(refine kA ?_;conv=>whnf)|(refine Br.mk (fun hc=>?_) fun hc=>?_<;>first|exact hc.elim|conv=>whnf)  |(refine kB ?_))
 all_goals first|exact⟨_,rfl⟩|skip
 refine Af (fun m env s'=>∃i:Nat,m=l.length-i∧env=[(0,.sl nn l),(3,.int .i64 i)]∧s'=⟨[],0⟩) ?_ _ _ _ ⟨0,rfl,rfl,rfl⟩
 rintro _ _ _ ⟨i,rfl,rfl,rfl⟩
 refine⟨rfl,?_⟩
 obtain⟨gx,hgx⟩:=Nz h i
 (conv=>whnf);repeat' (first|(refine kA ?_;conv=>whnf)|(refine Br.mk (fun hc=>?_) fun hc=>?_<;>first|exact hc.elim|conv=>whnf)|(apply Au;(· exact(hgx (by omega)).1);conv=>whnf)|(refine Aa (AfH (g:=gx) (by omega)) ?_;rintro _ ⟨b,rfl⟩;conv=>whnf)|(refine kB ?_))
 all_goals first|exact⟨_,rfl⟩|exact again.mk ⟨_,by omega,i+1,rfl,rfl,rfl⟩
theorem ArV {l:List AV} {nn:Bool} (hl:l.length<2^63):Ag (Ac tab) 260 [.sl nn l,.int .i64 0] (fun v=>∃b,v=.bool b):=by
 refine Ad rfl rfl ?_
 (conv=>whnf);repeat' (first|(refine kA ?_;conv=>whnf)|(refine Br.mk (fun hc=>?_) fun hc=>?_<;>first|exact hc.elim|conv=>whnf)  |(refine kB ?_))
 all_goals exact⟨_,rfl⟩
theorem ArW {n:Nat} (ih:∀{g:GV},g.ok→Ag (Ac tab) 209 [g.av,.int .i64 n] (fun v=>∃b,v=.bool b)) (hn:n<2^60) {l:List AV} {nn:Bool} (hl:l.length<2^63) (h:∀x∈l,Like Tryz.prog 51 x):
 Ag (Ac tab) 260 [.sl nn l,.int .i64 (n+1:Nat)] (fun v=>∃b,v=.bool b):=by
 refine Ad rfl rfl ?_
 (conv=>whnf);repeat' (first|(refine kA ?_;conv=>whnf)|(refine Br.mk (fun hc=>?_) fun hc=>?_<;>first|exact hc.elim|conv=>whnf)  |(refine kB ?_))
 all_goals first|exact⟨_,rfl⟩|skip
 refine Af (fun m env s'=>∃i:Nat,m=l.length-i∧env=[(0,.sl nn l),(1,.int .i64 (n+1:Nat)),(5,.int .i64 i)]∧s'=⟨[],0⟩) ?_ _ _ _ ⟨0,rfl,rfl,rfl⟩
 rintro _ _ _ ⟨i,rfl,rfl,rfl⟩
 refine⟨rfl,?_⟩
 obtain⟨gx,hgx⟩:=Nz h i
 have ih':∀{g:GV},g.ok→Ag (Ac tab) 209 [g.av,.int .i64 (((n+1:Nat):Int)-1)] (fun v=>∃b,v=.bool b):=by
  rw[show ((n+1:Nat):Int)-1=(n:Int) by omega];exact ih
 (conv=>whnf);repeat' (first|(refine kA ?_;conv=>whnf)|(refine Br.mk (fun hc=>?_) fun hc=>?_<;>first|exact hc.elim|conv=>whnf)|(apply Au;(· exact(hgx (by omega)).1);conv=>whnf)|(refine Aa (ih' (g:=gx) (hgx (by omega)).2.2) ?_;rintro _ ⟨b,rfl⟩;conv=>whnf)|(refine kB ?_))
 all_goals first|exact⟨_,rfl⟩|exact again.mk ⟨_,by omega,i+1,rfl,rfl,rfl⟩
theorem Ah4 {n:Int} {g:GV} (hg:g.ok) (hlist:Ag (Ac tab) 260 [.sl g.nn g.l,.int .i64 n] (fun v=>∃b,v=.bool b)):
 Ag (Ac tab) 209 [g.av,.int .i64 n] (fun v=>∃b,v=.bool b):=by
 obtain⟨g1,g2,g3,g4,g5,g6,g7⟩:=hg
 unfold Ln at g4 g5
 refine Ad rfl rfl ?_
 (conv=>whnf);repeat' (first|(refine kA ?_;conv=>whnf)|(refine Br.mk (fun hc=>?_) fun hc=>?_<;>first|exact hc.elim|conv=>whnf)|(refine Aa (bare (g:=g)) ?_;rintro _ ⟨b,rfl⟩;conv=>whnf)|(refine Aa (Avp (n:=g.n)) ?_;rintro _ ⟨b,rfl⟩;conv=>whnf)|(refine Aa (AoQ (n:=g.n) (d:=g.d)) ?_;rintro _ ⟨b,rfl,_⟩;conv=>whnf)|(refine Aa (ArX g4) ?_;rintro _ ⟨b,rfl⟩;conv=>whnf)|(refine Aa (AoR g5 g7) ?_;rintro _ ⟨b,rfl⟩;conv=>whnf)|(refine Aa hlist ?_;rintro _ ⟨b,rfl⟩;conv=>whnf)|(refine kB ?_))
 all_goals exact⟨_,rfl⟩
theorem valid {n:Nat} (hn:n<2^60):∀{g:GV},g.ok→Ag (Ac tab) 209 [g.av,.int .i64 n] (fun v=>∃b,v=.bool b):=by
 induction n with
 |zero=>intro g hg;exact Ah4 hg (ArV hg.2.2.2.2.1)
 |succ n ih=>intro g hg;exact Ah4 hg (ArW (ih (by omega)) (by omega) hg.2.2.2.2.1 hg.2.2.2.2.2.2)
theorem Valid {g:GV} (hg:g.ok):Ag (Ac tab) 153 [g.av] (fun v=>∃b,v=.bool b):=by
 refine Ad rfl rfl ?_
 (conv=>whnf);repeat' (first|(refine kA ?_;conv=>whnf)|(refine Br.mk (fun hc=>?_) fun hc=>?_<;>first|exact hc.elim|conv=>whnf)|(refine Aa (valid (n:=8) (by omega) hg) ?_;rintro _ ⟨b,rfl⟩;conv=>whnf)|(refine kB ?_))
 all_goals exact⟨_,rfl⟩
def OD (v:GV) (n d s l:Bool):Prop:=(n=true∨v.n=0)∧(d=true∨v.d=0)∧(s=true∨v.s=[])∧(l=true∨v.l.length=0)
instance (v:GV) (n d s l:Bool):Decidable (OD v n d s l):=by unfold OD;infer_instance
theorem Aa4 {v:GV} {n d s l:Bool} (hl:v.l.length<2^63):Ag (Ac tab) 256 [v.av,.bool n,.bool d,.bool s,.bool l] (· =.bool (decide (OD v n d s l))):=by
 cases n<;>cases d<;>cases s<;>cases l
 all_goals
  refine Ad rfl rfl ?_
  (conv=>whnf);repeat' (first|(refine kA ?_;conv=>whnf)|(refine Br.mk (fun hc=>?_) fun hc=>?_<;>first|exact hc.elim|conv=>whnf)  |(refine kB ?_))
 all_goals first
  |(refine Bh ?_;unfold OD;refine⟨?_,?_,?_,?_⟩<;>first|(left;rfl)|(right;first|assumption|omega))
  |(refine Ar ?_;unfold OD;rintro⟨h1,h2,h3,h4⟩;simp only[Bool.false_eq_true,false_or,true_or]at h1 h2 h3 h4;first|contradiction|omega)
theorem Arc {s:List UInt8} (hl:s.length<2^63):Ag (Ac tab) 258 [.str s] (· =.bool (decide (okS s))):=by
 refine Ad rfl rfl ?_
 (conv=>whnf);repeat' (first|(refine kA ?_;conv=>whnf)|(refine Br.mk (fun hc=>?_) fun hc=>?_<;>first|exact hc.elim|conv=>whnf)  |(refine kB ?_))
 refine Af (fun m env s'=>∃i:Nat,m=s.length-i∧env=[(0,.str s),(3,.int .i64 i)]∧s'=⟨[],0⟩∧∀c∈s.take i,Sr c=false) ?_ _ _ _ ⟨0,rfl,rfl,rfl,by simp⟩
 rintro _ _ _ ⟨i,rfl,rfl,rfl,hx⟩
 refine⟨rfl,?_⟩
 (conv=>whnf);repeat' (first|(refine kA ?_;conv=>whnf)|(refine Br.mk (fun hc=>?_) fun hc=>?_<;>first|exact hc.elim|conv=>whnf)  |(refine kB ?_))
 all_goals first
  |exact again.mk ⟨_,by omega,i+1,rfl,rfl,rfl,Cb (by omega) hx (by unfold Sr;simp;omega)⟩
  |(refine Ar fun h=>?_;have:=h.2 s[i] (List.getElem_mem (by omega));unfold Sr at this;simp at this;omega)
  |(rw [List.take_of_length_le (by omega)]at hx;exact Bh ⟨by omega,hx⟩)
  |(refine Ar fun h=>?_;have:=h.1;omega)
end AI
end Go.Proofs.YthnehejdkajjhaaGreatDoor
