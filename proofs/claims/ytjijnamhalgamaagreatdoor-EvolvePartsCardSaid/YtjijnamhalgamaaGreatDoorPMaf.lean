/- What is wrong with labels and properties. Looking for a node among increasing ids. graph.Check: the first error of a graph. What a change leaves alone: plain. Changes as arguments. The properties of a node of a valid graph; what a migration changes at a node. Valid values, and values that are alike: plain. Valid fractions: the program's. The reference's validity of values: it answers. Valid fractions: the reference's. The program's wide numbers: products, sums, signs; fractions compared. The reference's wide numbers: they are reckoned without a panic. The reference's validity of values, with lists in lists. The reference's numbers, classes, strings compared. -/
import Derived.Test.YtjijnamhalgamaaGreatDoorPMae
import Derived.Test.YtjijnamhalgamaaGreatDoorPMad
import Derived.Test.YtjijnamhalgamaaGreatDoorPMab
set_option linter.unusedVariables false
set_option maxRecDepth 4000
namespace Go.Proofs.YtjijnamhalgamaaGreatDoor
namespace AI
theorem Apw {g len:Nat} {nn cl:Bool} {l:List (List UInt8)} {x:List UInt8} {bytes:Nat} {K:Nat→Bool→Bool→List AV→Prop} (hl:len=l.length) (hr:(l.length+1)*bytes≤2 ^ 46) (h:K (len+1) true cl (vs .str (l++[x]))):
 IQ g g 1 1 len nn cl true (vs .str l) [.str x] bytes K:=by
 subst hl
 refine⟨⟨rfl,rfl,by simp,XH rfl,Jk hr⟩,?_⟩
 rw[AaD,Bool.and_true]
 simpa using h
def keysOf (P:List GP):List (List UInt8):=P.map GP.key
@[simp] theorem Ur (P:List GP):(keysOf P).length=P.length:=by simp[keysOf]
theorem AcM {P:List GP} (hp:∀p∈P,p.ok):∀s∈keysOf P,s.length<2^63:=by
 intro s h
 obtain⟨p,h1,rfl⟩:=List.mem_map.1 h
 exact(hp p h1).1
theorem YI {P:List GP} {i:Nat} (h:i<P.length):keysOf (P.take i)++[(P[i]).key]=keysOf (P.take (i+1)):=by
 rw[List.take_succ_eq_append_getElem h];unfold keysOf;rw[List.map_append];rfl
def allPlain (P:List GP):Prop:=∀p∈P,Fq p.v
noncomputable instance (P:List GP):Decidable (allPlain P):=Classical.propDecidable _
noncomputable def DC (L:List (List UInt8)) (P:List GP):Int:=
 if 8<L.length∨16<P.length then 4 else if¬(allNames L∧allNames (keysOf P))then 6 else if¬(rises L∧rises (keysOf P))then 26 else if¬allPlain P then 8 else 0
theorem WL {L:List (List UInt8)} {P:List GP} (h:8<L.length∨16<P.length):AV.int .i64 4=AV.int .i64 (DC L P):=by rw[DC,if_pos h]
theorem WM {L:List (List UInt8)} {P:List GP} (h:¬(8<L.length∨16<P.length)) (h1:¬(allNames L∧allNames (keysOf P))):AV.int .i64 6=AV.int .i64 (DC L P):=by rw[DC,if_neg h,if_pos h1]
theorem TM {L:List (List UInt8)} {P:List GP} (h:¬(8<L.length∨16<P.length)) (h1:allNames L∧allNames (keysOf P)) (h2:¬(rises L∧rises (keysOf P))):AV.int .i64 26=AV.int .i64 (DC L P):=by rw[DC,if_neg h,if_neg (not_not_intro h1),if_pos h2]
theorem AaW {L:List (List UInt8)} {P:List GP} (h:¬(8<L.length∨16<P.length)) (h1:allNames L∧allNames (keysOf P)) (h2:rises L∧rises (keysOf P)) (h3:¬allPlain P):AV.int .i64 8=AV.int .i64 (DC L P):=by rw[DC,if_neg h,if_neg (not_not_intro h1),if_neg (not_not_intro h2),if_pos h3]
theorem Aih {L:List (List UInt8)} {P:List GP} (h:¬(8<L.length∨16<P.length)) (h1:allNames L∧allNames (keysOf P)) (h2:rises L∧rises (keysOf P)) (h3:allPlain P):AV.int .i64 0=AV.int .i64 (DC L P):=by rw[DC,if_neg h,if_neg (not_not_intro h1),if_neg (not_not_intro h2),if_neg (not_not_intro h3)]
theorem AfM {L:List (List UInt8)} {P:List GP} {ln pn:Bool} (hL:L.length<2^63) (hs:∀s∈L,s.length<2^63) (hP:P.length<2^63) (hp:∀p∈P,p.ok):Ae (Ad tab) 103 [.sl ln (vs .str L),.sl pn (vs GP.av P)] (· =.int .i64 (DC L P)):=by
 have hk:=AcM hp
 refine Ac rfl rfl ?_
 (conv=>whnf);repeat' (first|(refine kA ?_;conv=>whnf)|(refine Br.mk (fun hc=>?_) fun hc=>?_<;>first|exact hc.elim|conv=>whnf)  |(refine kB ?_))
 ·exact WL (by omega)
 ·exact WL (by omega)
 have h16:¬(8<L.length∨16<P.length):=by omega
 refine Ag (fun m env s=>∃(i g:Nat),m=P.length-i∧i≤P.length∧env=[(0,.sl ln (vs .str L)),(1,.sl pn (vs GP.av P)),(5,.own 0 g 0 i),(18,.sl pn (vs GP.av P)),(19,.int .i64 P.length),(20,.int .i64 i)]∧∃nn c,s=⟨[.arr g 1 nn true (vs .str (keysOf (P.take i)))],c⟩) ?_ _ _ _ ⟨0,0,rfl,by omega,rfl,_,_,rfl⟩
 rintro _ _ _ ⟨i,g,rfl,hi,rfl,nn,c,rfl⟩
 refine⟨rfl,?_⟩
 (conv=>whnf);repeat' (first|(refine kA ?_;conv=>whnf)|(refine Br.mk (fun hc=>?_) fun hc=>?_<;>first|exact hc.elim|conv=>whnf)  |(refine kB ?_))
 ·refine Apw (by simp;omega) (by simp;omega) ?_
  (conv=>whnf);repeat' (first|(refine kA ?_;conv=>whnf)|(refine Br.mk (fun hc=>?_) fun hc=>?_<;>first|exact hc.elim|conv=>whnf)  |(refine kB ?_))
  rw[YI (by omega)]
  exact again.mk ⟨_,by omega,i+1,_,rfl,by omega,rfl,_,_,rfl⟩
 ·rw[Dz hc]
  obtain rfl:i=P.length:=by omega
  have hu:sub (vs AV.str (keysOf P)) 0 P.length=vs .str (keysOf P):=by rw[← Ur P];exact uV
  have hkl:(keysOf P).length<2^63:=by rw[Ur];exact hP
  (conv=>whnf);repeat' (first|(refine Ar (Adc hL hs) (fun h1=>?_) (fun h1=>?_)<;>conv=>whnf)|(rw [hu];refine Ar (Adc hkl hk) (fun h2=>?_) (fun h2=>?_)<;>conv=>whnf)|(refine Ar (Ade hL) (fun h3=>?_) (fun h3=>?_)<;>conv=>whnf)|(rw [hu];refine Ar (Ade hkl) (fun h4=>?_) (fun h4=>?_)<;>conv=>whnf)|(refine kA ?_;conv=>whnf)|(refine Br.mk (fun hc=>?_) fun hc=>?_<;>first|exact hc.elim|conv=>whnf)|(refine kB ?_))
  ·exact WM h16 fun h=>h1 h.1
  ·exact WM h16 fun h=>h2 h.2
  ·refine Ag (fun m env s=>∃(i:Nat),m=P.length-i∧env=[(44,.sl pn (vs GP.av P)),(45,.int .i64 P.length),(46,.int .i64 i)]∧(∃ c,s=⟨[.arr g 1 nn true (vs .str (keysOf P))],c⟩)∧∀p∈P.take i,Fq p.v) ?_ _ _ _ ⟨0,rfl,rfl,⟨_,rfl⟩,by simp⟩
   clear hc hi
   rintro _ _ _ ⟨i,rfl,rfl,⟨c,rfl⟩,hx⟩
   refine⟨rfl,?_⟩
   (conv=>whnf);repeat' (first|(refine Ar (Kw (v:=(P[i]).v) (hp _ (List.getElem_mem (by omega))).2) (fun h5=>?_) (fun h5=>?_)<;>conv=>whnf)|(refine kA ?_;conv=>whnf)|(refine Br.mk (fun hc=>?_) fun hc=>?_<;>first|exact hc.elim|conv=>whnf)|(refine kB ?_))
   ·exact again.mk ⟨_,by omega,i+1,rfl,rfl,⟨_,rfl⟩,BO (by omega) hx h5⟩
   ·exact AaW h16 ⟨Classical.not_not.1 h1,Classical.not_not.1 h2⟩ ⟨h3,h4⟩ fun h=>h5 (h _ (List.getElem_mem _))
   ·rw[Dz hc]at hx
    exact Aih h16 ⟨Classical.not_not.1 h1,Classical.not_not.1 h2⟩ ⟨h3,h4⟩ hx
  ·exact TM h16 ⟨Classical.not_not.1 h1,Classical.not_not.1 h2⟩ fun h=>h4 h.2
  ·exact TM h16 ⟨Classical.not_not.1 h1,Classical.not_not.1 h2⟩ fun h=>h3 h.1
attribute [irreducible] DC
def incr (l:List Int):Prop:=∀j (h:j+1<l.length),l[j]<l[j+1]
noncomputable instance (l:List Int):Decidable (incr l):=Classical.propDecidable _
theorem AaG {l:List Int} (h:incr l) {i:Nat}:∀d (hd:i+d+1<l.length),l[i]<l[i+d+1]
 |0,hd=>h i hd
 |d+1,hd=>Int.lt_trans (AaG h d (by omega)) (h (i+d+1) hd)
theorem Ab0 {l:List Int} (h:incr l) {i j:Nat} (hij:i<j) (hj:j<l.length):l[i]<l[j]:=by
 obtain⟨d,rfl⟩:∃d,j=i+d+1:=⟨j-i-1,by omega⟩
 exact AaG h d hj
def Jo (N:List GN):List Int:=N.map GN.id
def Ame (E:List GE):List Int:=E.map GE.id
@[simp] theorem Amf (N:List GN):(Jo N).length=N.length:=by simp[Jo]
@[simp] theorem Amg (N:List GE):(Ame N).length=N.length:=by simp[Ame]
theorem MW {N:List GN} {i:Nat} (h:i<N.length):(Jo N)[i]'(by simpa using h)=(N[i]).id:=by simp[Jo]
theorem Zh {N:List GN} (h:incr (Jo N)) {i j:Nat} (hij:i<j) (hj:j<N.length):(N[i]).id<(N[j]).id:=by
 have:=Ab0 h hij (by simpa using hj)
 rwa [MW (by omega),MW hj]at this
theorem Aol {n:GN} {x:Int}:Ae (Ad tab) 172 [n.av,.int .i64 x] (· =.int .i64 (CY n.id x)):=by
 refine Ac rfl rfl ?_
 (conv=>whnf);repeat' (first|(refine kA ?_;conv=>whnf)|(refine Br.mk (fun hc=>?_) fun hc=>?_<;>first|exact hc.elim|conv=>whnf)|(refine Aa compare ?_;rintro _ rfl;conv=>whnf)|(refine kB ?_))
 rfl
theorem bsearch {N:List GN} {nn:Bool} {x:Int} (hN:N.length<2^62) (hi:incr (Jo N)):Ae (Ad tab) 171 [.sl nn (vs GN.av N),.int .i64 x,.fn 172 []] (fun v=>∃z b,v=.BF [.int .i64 z,.bool b]∧(b=true↔x∈Jo N)):=by
 have fin:∀i:Nat,i≤N.length→(∀ k (h:k<N.length),k<i→(N[k]).id<x)→(∀ k (h:k<N.length),i≤k→x≤(N[k]).id)→(x∈Jo N↔∃h:i<N.length,(N[i]).id=x):=by
  intro i h0 h1 h2
  constructor
  ·intro h
   obtain⟨k,hk,e⟩:=List.getElem_of_mem h
   have hk':k<N.length:=by simpa using hk
   rw[MW hk']at e
   have a1:=h1 k hk'
   have:i≤k:=by
        rcases Nat.lt_or_ge k i with h|h
        ·have:=a1 h;omega
        ·exact h
   rcases Nat.lt_or_ge i k with h|h
   ·have:=Zh hi h hk'
    have:=h2 i (by omega) (Nat.le_refl _)
    omega
   ·obtain rfl:i=k:=by omega
    exact⟨hk',e⟩
  ·rintro⟨h,e⟩
   rw[← e,←MW h]
   exact List.getElem_mem _
 refine Ac rfl rfl ?_
 (conv=>whnf);repeat' (first|(refine kA ?_;conv=>whnf)|(refine Br.mk (fun hc=>?_) fun hc=>?_<;>first|exact hc.elim|conv=>whnf)  |(refine kB ?_))
 refine Ag (fun m env s=>∃(i j:Nat),m=j-i∧i≤j∧j≤N.length∧env=[(0,.sl nn (vs GN.av N)),(1,.int .i64 x),(2,.fn 172 []),(8,.int .i64 N.length),(9,.int .i64 i),(10,.int .i64 j)]∧s=⟨[],0⟩∧
  (∀ k (h:k<N.length),k<i→(N[k]).id<x)∧(∀ k (h:k<N.length),j≤k→x≤(N[k]).id)) ?_ _ _ _ ⟨0,N.length,rfl,by omega,by omega,by simp,rfl,fun k _ h=>absurd h (by omega),fun k h1 h=>absurd h (by omega)⟩
 rintro _ _ _ ⟨i,j,rfl,hij,hj,rfl,rfl,h1,h2⟩
 refine⟨rfl,?_⟩
 (conv=>whnf);repeat' (first|(refine UQ (i+j) (by omega) (by omega) ?_;conv=>whnf)|(apply Bo;(· exact AbE _);conv=>whnf)|(refine Aa Aol ?_;rintro _ rfl;conv=>whnf)|(refine kA ?_;conv=>whnf)|(refine Br.mk (fun hc=>?_) fun hc=>?_<;>first|exact hc.elim|conv=>whnf)|(refine kB ?_))
 ·have hm:=OI.1 hc
  exact again.mk ⟨_,by omega,(i+j) / 2+1,j,rfl,by omega,hj,rfl,rfl,fun k hk hlt=>by
   rcases Nat.lt_or_ge k ((i+j) / 2)with h|h
   ·exact Int.lt_trans (Zh hi h (by omega)) hm
   ·obtain rfl:k=(i+j) / 2:=by omega
    exact hm,h2⟩
 ·have hm:=mt OI.2 hc
  exact again.mk ⟨_,by omega,i,(i+j) / 2,rfl,by omega,by omega,rfl,rfl,h1,fun k hk hle=>by
   rcases Nat.lt_or_ge ((i+j) / 2) k with h|h
   ·have:=Zh hi h hk;omega
   ·obtain rfl:k=(i+j) / 2:=by omega
    omega⟩
 all_goals have hf:=fin i (by omega) h1 (fun k hk h=>h2 k hk (by omega))
 ·exact⟨_,_,rfl,fun _=>hf.2 ⟨by omega,Dy.1 hc⟩,fun _=>rfl⟩
 ·exact⟨_,_,rfl,fun h=>(Bool.noConfusion h),fun h=>absurd (Dy.2 (hf.1 h).2) hc⟩
 ·exact⟨_,_,rfl,fun h=>(Bool.noConfusion h),fun h=>absurd (hf.1 h).1 (by omega)⟩
theorem Aom {N:List GN} {nn:Bool} {x:Int} (hN:N.length<2^62) (hi:incr (Jo N)):Ae (Ad tab) 104 [.sl nn (vs GN.av N),.int .i64 x] (· =.bool (decide (x∈Jo N))):=by
 refine Ac rfl rfl ?_
 (conv=>whnf);repeat' (first|(refine kA ?_;conv=>whnf)|(refine Br.mk (fun hc=>?_) fun hc=>?_<;>first|exact hc.elim|conv=>whnf)  |(refine kB ?_))
 refine Aa (bsearch hN hi) ?_
 rintro _ ⟨z,b,rfl,hb⟩
 (conv=>whnf);repeat' (first|(refine kA ?_;conv=>whnf)|(refine Br.mk (fun hc=>?_) fun hc=>?_<;>first|exact hc.elim|conv=>whnf)  |(refine kB ?_))
 ·exact Bl (hb.1 hc)
 ·exact Au fun h=>by rw[hb.2 h]at hc;cases hc
def Jr (f:Nat→Int):Nat→Int
 |0=>0
 |n+1=>if Jr f n=0 then f n else Jr f n
theorem Ei {f:Nat→Int}:∀{n:Nat},Jr f n=0↔∀k,k<n→f k=0
 |0=>by simp[Jr]
 |n+1=>by
  unfold Jr
  split
  ·rename_i h
   have:=Ei.1 h
   refine⟨fun h0 k hk=>?_,fun h0=>h0 n (by omega)⟩
   rcases Nat.lt_or_ge k n with h1|h1
   ·exact this k h1
   ·obtain rfl:k=n:=by omega
    exact h0
  ·rename_i h
   exact⟨fun h0=>absurd h0 h,fun h0=>absurd (Ei.2 fun k hk=>h0 k (by omega)) h⟩
theorem QB {f:Nat→Int} {i:Nat} (h:∀k,k<i→f k=0) (hi:f i≠0):∀{n:Nat},i<n→Jr f n=f i
 |0,hn=>absurd hn (by omega)
 |n+1,hn=>by
  unfold Jr
  rcases Nat.lt_or_ge i n with h1|h1
  ·rw[QB h hi h1,if_neg hi]
  ·obtain rfl:i=n:=by omega
   rw[if_pos (Ei.2 h)]
noncomputable def Gl (N:List GN) (nx:Int) (i:Nat):Int:=
 match N[i]? with
 |none=>0
 |some n=>if 0<i∧(∃ m,N[i-1]?=some m∧n.id≤m.id)then 26 else if n.id<1∨nx≤n.id then 1 else DC n.labels n.props
noncomputable def Gm (N:List GN) (E:List GE) (nx:Int) (i:Nat):Int:=
 match E[i]? with
 |none=>0
 |some e=>if 0<i∧(∃ m,E[i-1]?=some m∧e.id≤m.id)then 26 else if e.id<1∨nx≤e.id then 1 else if¬(e.fr∈Jo N∧e.to∈Jo N)then 10 else if¬isName e.ty then 6 else DC [] e.props
theorem AfE {N:List GN} {nx:Int} {i:Nat} (h:i<N.length) (h0:0<i) (h1:(N[i]).id≤(N[i-1]).id):Gl N nx i=26:=by
 unfold Gl;rw[List.getElem?_eq_getElem h];exact if_pos ⟨h0,_,List.getElem?_eq_getElem (by omega),h1⟩
theorem Abw {N:List GN} {i:Nat} (h:i<N.length) (h1:0<i→¬(N[i]).id≤(N[i-1]).id):¬(0<i∧∃m,N[i-1]?=some m∧(N[i]).id≤m.id):=by
 rintro⟨a,m,b,c⟩;rw[List.getElem?_eq_getElem (by omega)]at b;rw[← Option.some.inj b]at c;exact h1 a c
theorem node1 {N:List GN} {nx:Int} {i:Nat} (h:i<N.length) (h1:0<i→¬(N[i]).id≤(N[i-1]).id) (h2:(N[i]).id<1∨nx≤(N[i]).id):Gl N nx i=1:=by
 unfold Gl;rw[List.getElem?_eq_getElem h];dsimp only;rw[if_neg (Abw h h1),if_pos h2]
theorem AaM {N:List GN} {nx:Int} {i:Nat} (h:i<N.length) (h1:0<i→¬(N[i]).id≤(N[i-1]).id) (h2:¬((N[i]).id<1∨nx≤(N[i]).id)):Gl N nx i=DC (N[i]).labels (N[i]).props:=by
 unfold Gl;rw[List.getElem?_eq_getElem h];dsimp only;rw[if_neg (Abw h h1),if_neg h2]
theorem Pn {N:List GN} {nx:Int} {i:Nat} (h:i<N.length) (h0:Gl N nx i=0):(0<i→(N[i-1]).id<(N[i]).id)∧1≤(N[i]).id∧(N[i]).id<nx∧DC (N[i]).labels (N[i]).props=0:=by
 by_cases h1:0<i∧(N[i]).id≤(N[i-1]).id
 ·rw[AfE h h1.1 h1.2]at h0;omega
 have h1':0<i→¬(N[i]).id≤(N[i-1]).id:=fun a b=>h1 ⟨a,b⟩
 by_cases h2:(N[i]).id<1∨nx≤(N[i]).id
 ·rw[node1 h h1' h2]at h0;omega
 rw[AaM h h1' h2]at h0
 exact⟨fun a=>by have:=h1' a;omega,by omega,by omega,h0⟩
theorem AfF {N:List GN} {E:List GE} {nx:Int} {i:Nat} (h:i<E.length) (h0:0<i) (h1:(E[i]).id≤(E[i-1]).id):Gm N E nx i=26:=by
 unfold Gm;rw[List.getElem?_eq_getElem h];exact if_pos ⟨h0,_,List.getElem?_eq_getElem (by omega),h1⟩
theorem RF {E:List GE} {i:Nat} (h:i<E.length) (h1:0<i→¬(E[i]).id≤(E[i-1]).id):¬(0<i∧∃m,E[i-1]?=some m∧(E[i]).id≤m.id):=by
 rintro⟨a,m,b,c⟩;rw[List.getElem?_eq_getElem (by omega)]at b;rw[← Option.some.inj b]at c;exact h1 a c
theorem Ai3 {N:List GN} {E:List GE} {nx:Int} {i:Nat} (h:i<E.length) (h1:0<i→¬(E[i]).id≤(E[i-1]).id) (h2:(E[i]).id<1∨nx≤(E[i]).id):Gm N E nx i=1:=by
 unfold Gm;rw[List.getElem?_eq_getElem h];dsimp only;rw[if_neg (RF h h1),if_pos h2]
theorem AfG {N:List GN} {E:List GE} {nx:Int} {i:Nat} (h:i<E.length) (h1:0<i→¬(E[i]).id≤(E[i-1]).id) (h2:¬((E[i]).id<1∨nx≤(E[i]).id)) (h3:¬((E[i]).fr∈Jo N∧(E[i]).to∈Jo N)):Gm N E nx i=10:=by
 unfold Gm;rw[List.getElem?_eq_getElem h];dsimp only;rw[if_neg (RF h h1),if_neg h2,if_pos h3]
theorem Ai4 {N:List GN} {E:List GE} {nx:Int} {i:Nat} (h:i<E.length) (h1:0<i→¬(E[i]).id≤(E[i-1]).id) (h2:¬((E[i]).id<1∨nx≤(E[i]).id)) (h3:(E[i]).fr∈Jo N∧(E[i]).to∈Jo N) (h4:¬isName (E[i]).ty):Gm N E nx i=6:=by
 unfold Gm;rw[List.getElem?_eq_getElem h];dsimp only;rw[if_neg (RF h h1),if_neg h2,if_neg (not_not_intro h3),if_pos h4]
theorem AaN {N:List GN} {E:List GE} {nx:Int} {i:Nat} (h:i<E.length) (h1:0<i→¬(E[i]).id≤(E[i-1]).id) (h2:¬((E[i]).id<1∨nx≤(E[i]).id)) (h3:(E[i]).fr∈Jo N∧(E[i]).to∈Jo N) (h4:isName (E[i]).ty):Gm N E nx i=DC [] (E[i]).props:=by
 unfold Gm;rw[List.getElem?_eq_getElem h];dsimp only;rw[if_neg (RF h h1),if_neg h2,if_neg (not_not_intro h3),if_neg (not_not_intro h4)]
theorem Po {N:List GN} {E:List GE} {nx:Int} {i:Nat} (h:i<E.length) (h0:Gm N E nx i=0):(0<i→(E[i-1]).id<(E[i]).id)∧1≤(E[i]).id∧(E[i]).id<nx∧(E[i]).fr∈Jo N∧(E[i]).to∈Jo N∧isName (E[i]).ty∧DC [] (E[i]).props=0:=by
 by_cases h1:0<i∧(E[i]).id≤(E[i-1]).id
 ·rw[AfF h h1.1 h1.2]at h0;omega
 have h1':0<i→¬(E[i]).id≤(E[i-1]).id:=fun a b=>h1 ⟨a,b⟩
 by_cases h2:(E[i]).id<1∨nx≤(E[i]).id
 ·rw[Ai3 h h1' h2]at h0;omega
 by_cases h3:(E[i]).fr∈Jo N∧(E[i]).to∈Jo N
 case neg=>rw[AfG h h1' h2 h3]at h0;omega
 by_cases h4:isName (E[i]).ty
 case neg=>rw[Ai4 h h1' h2 h3 h4]at h0;omega
 rw[AaN h h1' h2 h3 h4]at h0
 exact⟨fun a=>by have:=h1' a;omega,by omega,by omega,h3.1,h3.2,h4,h0⟩
def IE (g:GG):Prop:=g.nodes.length≤2000∧g.edges.length≤4000
def Jp (g:GG):Prop:=1≤g.Dc∧g.Dc≤1000001∧1≤g.Dw∧g.Dw≤1000001
instance (g:GG):Decidable (IE g):=by unfold IE;infer_instance
instance (g:GG):Decidable (Jp g):=by unfold Jp;infer_instance
noncomputable def Bj (g:GG):Int:=
 if¬IE g then 4 else if¬Jp g then 1 else
  if Jr (Gl g.nodes g.Dc) g.nodes.length=0 then Jr (Gm g.nodes g.edges g.Dw) g.edges.length else Jr (Gl g.nodes g.Dc) g.nodes.length
theorem AkZ {g:GG} (h:¬IE g):AV.int .i64 4=AV.int .i64 (Bj g):=by unfold Bj;rw[if_pos h]
theorem Ak0 {g:GG} (h:IE g) (h1:¬Jp g):AV.int .i64 1=AV.int .i64 (Bj g):=by unfold Bj;rw[if_neg (not_not_intro h),if_pos h1]
theorem checkN {g:GG} (h:IE g) (h1:Jp g) {i:Nat} (hi:i<g.nodes.length) (h2:∀k,k<i→Gl g.nodes g.Dc k=0) {r:Int} (h3:Gl g.nodes g.Dc i=r) (hr:r≠0):AV.int .i64 r=AV.int .i64 (Bj g):=by
 subst h3
 unfold Bj
 rw[if_neg (not_not_intro h),if_neg (not_not_intro h1),QB h2 hr hi,if_neg hr]
theorem P9 {g:GG} (h:IE g) (h1:Jp g) (hn:∀k,k<g.nodes.length→Gl g.nodes g.Dc k=0) {i:Nat} (hi:i<g.edges.length) (h2:∀k,k<i→Gm g.nodes g.edges g.Dw k=0) {r:Int} (h3:Gm g.nodes g.edges g.Dw i=r) (hr:r≠0):AV.int .i64 r=AV.int .i64 (Bj g):=by
 subst h3
 unfold Bj
 rw[if_neg (not_not_intro h),if_neg (not_not_intro h1),if_pos (Ei.2 hn),QB h2 hr hi]
theorem Aei {g:GG} (h:IE g) (h1:Jp g) (hn:∀k,k<g.nodes.length→Gl g.nodes g.Dc k=0) (h2:∀k,k<g.edges.length→Gm g.nodes g.edges g.Dw k=0):AV.int .i64 0=AV.int .i64 (Bj g):=by
 unfold Bj
 rw[if_neg (not_not_intro h),if_neg (not_not_intro h1),if_pos (Ei.2 hn),Ei.2 h2]
theorem Aac {N:List GN} {nx:Int} (h:∀k,k<N.length→Gl N nx k=0):incr (Jo N):=by
 intro j hj
 have hj':j+1<N.length:=by simpa using hj
 rw[MW (by omega),MW hj']
 exact(Pn hj' (h _ hj')).1 (by omega)
theorem Tt {g:GG} (h:Bj g=0):IE g∧Jp g∧(∀ k,k<g.nodes.length→Gl g.nodes g.Dc k=0)∧∀k,k<g.edges.length→Gm g.nodes g.edges g.Dw k=0:=by
 unfold Bj at h
 by_cases h1:IE g
 case neg=>rw[if_pos h1]at h;omega
 by_cases h2:Jp g
 case neg=>rw[if_neg (not_not_intro h1),if_pos h2]at h;omega
 rw[if_neg (not_not_intro h1),if_neg (not_not_intro h2)]at h
 split at h
 ·rename_i h3
  exact⟨h1,h2,Ei.1 h3,Ei.1 h⟩
 ·rename_i h3;exact absurd h h3
attribute [irreducible] Gl Gm Bj Jr
structure GC where
 op:Int
 id:Int
 fr:Int
 to:Int
 name:List UInt8
 v:GV
def GC.av (c:GC):AV:=.agg [.int .i64 c.op,.int .i64 c.id,.int .i64 c.fr,.int .i64 c.to,.str c.name,.int .i64 c.v.k,.int .i64 c.v.n,.int .i64 c.v.d,.str c.v.s,.sl c.v.nn c.v.l]
def GC.ok (c:GC):Prop:=I64 c.op∧I64 c.id∧I64 c.fr∧I64 c.to∧Ln c.name∧c.v.ok
def Ait (ns:List Int) (N:List GN):List GN:=N.filter fun n=>decide (n.id∉ns)
def Aiu (es:List Int) (E:List GE):List GE:=E.filter fun e=>decide (e.id∉es)
def Qr (ns es:List Int) (g h:GG):Prop:=Ait ns h.nodes=Ait ns g.nodes∧Aiu es h.edges=Aiu es g.edges
theorem Qr.refl (ns es:List Int) (g:GG):Qr ns es g g:=⟨rfl,rfl⟩
theorem Qr.trans {ns es:List Int} {g h k:GG} (h1:Qr ns es g h) (h2:Qr ns es h k):Qr ns es g k:=⟨h2.1.trans h1.1,h2.2.trans h1.2⟩
def AiO (l:List GP):Prop:=∀p∈l,Fq p.v
def hasK (l:List GP) (k:List UInt8):Prop:=∃p∈l,p.key=k
instance (l:List GP) (k:List UInt8):Decidable (hasK l k):=by unfold hasK;infer_instance
def Il (l:List GP) (k:List UInt8):GV:=match l.find? (isK k)with
 |some p=>p.v
 |none=>V0
theorem Vh (l:List GP) (k:List UInt8):Yl l k=(Il l k).av:=by
 unfold Yl Il;cases l.find? (isK k)<;>rfl
theorem AkC {v:GV} (h:Fq v):v.k≠0:=by have:=Vu h;unfold NI at this;omega
theorem AkD {l:List GP} (h:AiO l) (k:List UInt8):(Il l k).k=0↔¬hasK l k:=by
 unfold Il hasK
 cases hf:l.find? (isK k)with
 |none=>
  refine⟨fun _=>?_,fun _=>rfl⟩
  rintro⟨p,hp,rfl⟩
  have:=List.find?_eq_none.1 hf p hp
  simp[isK]at this
 |some p=>
  have h1:=List.mem_of_find?_eq_some hf
  have h2:=List.find?_some hf
  refine⟨fun h0=>absurd h0 (AkC (h p h1)),fun h0=>absurd ⟨p,h1,of_decide_eq_true h2⟩ h0⟩
def ND (l:List GP):Prop:=AiP l∧AiO l
theorem ND.len {l:List GP} (h:ND l):l.length<2^63:=by have:=h.1.1;omega
theorem AaO {l:List GP} {nn:Bool} (h:ND l) {k:List UInt8}:Ae (Ad tab) 111 [.sl nn (vs GP.av l),.str k] (· =.bool (decide (hasK l k))):=by
 have hp:=AiC (nn:=nn) h.len h.1.2 (k:=k)
 rw[Vh]at hp
 have hk:=AkD h.2 k
 refine Ac rfl rfl ?_
 (conv=>whnf);repeat' (first|(refine Aa hp ?_;rintro _ rfl;conv=>whnf)|(refine kA ?_;conv=>whnf)|(refine Br.mk (fun hc=>?_) fun hc=>?_<;>first|exact hc.elim|conv=>whnf)|(refine kB ?_))
 all_goals first|exact Bl (by grind)|exact Au (by grind)
def Uw (op id:Int) (k:List UInt8) (v:GV):GC:=⟨op,id,0,0,k,v⟩
def CS (n:GN) (m:GM):List GC:=
 if m.k=1 then if m.fr∈n.labels then[Uw 4 n.id m.fr V0,Uw 3 n.id m.to V0]else[]
 else if¬m.label∈n.labels then[]
 else if m.k=3 then if hasK n.props m.fr then[Uw 5 n.id m.fr V0,Uw 5 n.id m.to (Il n.props m.fr)]else[]
 else if m.k=4 then if hasK n.props m.fr then[Uw 5 n.id m.fr V0]else[]
 else if m.k=5 then if hasK n.props m.to then[]else[Uw 5 n.id m.to m.v]
 else[]
def Fv (e:GE) (m:GM):List GC:=
 if m.k=2∧e.ty=m.fr then⟨7,e.id,0,0,[],V0⟩::⟨6,e.id,e.fr,e.to,m.to,V0⟩::e.props.map fun p=>Uw 8 e.id p.key p.v else[]
theorem AgM {n:GN} {m:GM} (h:m.k=1) (h1:m.fr∈n.labels):CS n m=[Uw 4 n.id m.fr V0,Uw 3 n.id m.to V0]:=by simp[CS,h,h1]
theorem Ael {n:GN} {m:GM} (h:m.k=1) (h1:m.fr∉n.labels):CS n m=[]:=by simp[CS,h,h1]
theorem AgN {n:GN} {m:GM} (h:m.k≠1) (h1:m.label∉n.labels):CS n m=[]:=by simp[CS,h,h1]
theorem AgO {n:GN} {m:GM} (h:m.k=3) (h1:m.label∈n.labels) (h2:hasK n.props m.fr):CS n m=[Uw 5 n.id m.fr V0,Uw 5 n.id m.to (Il n.props m.fr)]:=by simp[CS,h,h1,h2]
theorem Aem {n:GN} {m:GM} (h:m.k=3) (h2:¬hasK n.props m.fr):CS n m=[]:=by simp[CS,h,h2]
theorem AgP {n:GN} {m:GM} (h:m.k=4) (h1:m.label∈n.labels) (h2:hasK n.props m.fr):CS n m=[Uw 5 n.id m.fr V0]:=by simp[CS,h,h1,h2]
theorem Aen {n:GN} {m:GM} (h:m.k=4) (h2:¬hasK n.props m.fr):CS n m=[]:=by simp[CS,h,h2]
theorem AgQ {n:GN} {m:GM} (h:m.k=5) (h1:m.label∈n.labels) (h2:¬hasK n.props m.to):CS n m=[Uw 5 n.id m.to m.v]:=by simp[CS,h,h1,h2]
theorem Aeo {n:GN} {m:GM} (h:m.k=5) (h2:hasK n.props m.to):CS n m=[]:=by simp[CS,h,h2]
theorem AaP {n:GN} {m:GM} (h:m.k≠1) (h3:m.k≠3) (h4:m.k≠4) (h5:m.k≠5):CS n m=[]:=by simp[CS,h,h3,h4,h5]
theorem Vw (n:GN) (m:GM):(CS n m).length≤2:=by unfold CS;grind
theorem AgR {e:GE} {m:GM} (h:m.k=2) (h1:e.ty=m.fr):Fv e m=⟨7,e.id,0,0,[],V0⟩::⟨6,e.id,e.fr,e.to,m.to,V0⟩::e.props.map fun p=>Uw 8 e.id p.key p.v:=by simp[Fv,h,h1]
theorem Abg {e:GE} {m:GM} (h:¬(m.k=2∧e.ty=m.fr)):Fv e m=[]:=by simp[Fv,h]
theorem Vx (e:GE) (m:GM):(Fv e m).length≤e.props.length+2:=by unfold Fv;split<;>simp
theorem TU {m:GM} (h:m.k≠1) (h3:m.k≠3) (h4:m.k≠4) (h5:m.k≠5) (N:List GN):N.flatMap (CS · m)=[]:=by
 rw[List.flatMap_eq_nil_iff];intro n _;exact AaP h h3 h4 h5
theorem TV {m:GM} (h:m.k≠2) (E:List GE):E.flatMap (Fv · m)=[]:=by
 rw[List.flatMap_eq_nil_iff];intro n _;exact Abg fun h0=>h h0.1
theorem Abh {α β:Type} {f:α→List β} {l:List α} {i:Nat} (h:i<l.length):(l.take (i+1)).flatMap f=(l.take i).flatMap f++f l[i]:=by
 rw[List.take_succ_eq_append_getElem h,List.flatMap_append];simp
theorem AgD {a b c d:Nat} (hb:0<b) (hd:0<d) (h1:Nat.gcd a b=1) (h2:Nat.gcd c d=1) (h:a*d=c*b):a=c∧b=d:=by
 have e1:b ∣ d:=(Nat.Coprime.dvd_of_dvd_mul_left (k:=b) (m:=a) (n:=d) (by rw[Nat.Coprime,Nat.gcd_comm];exact h1) ⟨c,by rw[h,Nat.mul_comm]⟩)
 have e2:d ∣ b:=(Nat.Coprime.dvd_of_dvd_mul_left (k:=d) (m:=c) (n:=b) (by rw[Nat.Coprime,Nat.gcd_comm];exact h2) ⟨a,by rw[← h,Nat.mul_comm]⟩)
 have e3:=Nat.dvd_antisymm e1 e2
 subst e3
 exact⟨Nat.eq_of_mul_eq_mul_right hb h,rfl⟩
def VF (n d:Int):Prop:=1≤d∧d≤1000000000000000∧OQ n∧Nat.gcd n.natAbs d.natAbs=1
instance (n d:Int):Decidable (VF n d):=by unfold VF;infer_instance
def VB (g:GV):Prop:=g.l.length=0∧(g.k=0∧g.n=0∧g.d=0∧g.s=[]∨g.k=1∧(g.n=0∨g.n=1)∧g.d=0∧g.s=[]∨g.k=2∧OQ g.n∧g.d=0∧g.s=[]∨
 g.k=3∧2≤g.d∧VF g.n g.d∧g.s=[]∨g.k=4∧g.n=0∧g.d=0∧okS g.s∨(g.k=5∨g.k=6)∧1≤g.n∧g.n≤1000000∧g.d=0∧g.s=[])
instance (g:GV):Decidable (VB g):=by unfold VB;infer_instance
def VPa (l:List AV):Prop:=l.length % 2=1∧l.length≤25∧∀i (h:i<l.length),∃x:GV,l[i]=x.av∧x.k=5+i % 2∧VB x
def VV:Nat→GV→Prop
 |0,g=>VB g∨g.k=7∧g.n=0∧g.d=0∧g.s=[]∧VPa g.l
 |m+1,g=>VB g∨g.k=7∧g.n=0∧g.d=0∧g.s=[]∧VPa g.l∨g.k=8∧g.n=0∧g.d=0∧g.s=[]∧g.l.length≤64∧∀i (h:i<g.l.length),∃x:GV,g.l[i]=x.av∧VV m x
theorem AaF:∀{m:Nat} {g:GV},VV m g→VV (m+1) g
 |0,g,h=>by
  rcases h with h|h
  ·exact .inl h
  ·exact .inr (.inl h)
 |m+1,g,h=>by
  rcases h with h|h|⟨h1,h2,h3,h4,h5,h6⟩
  ·exact .inl h
  ·exact .inr (.inl h)
  ·exact .inr (.inr ⟨h1,h2,h3,h4,h5,fun i hi=>by obtain⟨x,e,hx⟩:=h6 i hi;exact⟨x,e,AaF hx⟩⟩)
theorem GV.Iq {g h:GV} (e:g.av=h.av):g=h:=by
 obtain⟨k,n,d,s,nn,l⟩:=g
 obtain⟨k',n',d',s',nn',l'⟩:=h
 simp only[GV.av,AV.agg.injEq,List.cons.injEq,AV.int.injEq,AV.str.injEq,AV.sl.injEq,true_and,and_true]at e
 obtain⟨rfl,rfl,rfl,rfl,rfl,rfl⟩:=e
 rfl
theorem XW (x y:Nat):Nat.gcd y (x % y)=Nat.gcd x y:=by
 rw[Nat.gcd_comm x y,Nat.gcd_rec y x,Nat.gcd_comm]
theorem absP {n:Int} (h:OQ n):Ae (Ad tab) 313 [.int .i64 n] (· =.int .i64 n.natAbs):=by
 unfold OQ at h
 have e:(if 0-n>n then 0-n else n)=(n.natAbs:Int):=by split<;>omega
 refine Ac rfl rfl ?_
 (conv=>whnf);repeat' (first  |(refine kA ?_;conv=>whnf)|(refine Br.mk (fun hc=>?_) fun hc=>?_<;>first|exact hc.elim|conv=>whnf)|(refine kB ?_))
 rw[← e];rfl
theorem AoL {n d:Int} (hn:OQ n) (hd:OQ d):Ae (Ad tab) 296 [.int .i64 n,.int .i64 d] (· =.int .i64 (Nat.gcd n.natAbs d.natAbs)):=by
 have hn':=hn
 have hd':=hd
 unfold OQ at hn' hd'
 refine Ac rfl rfl ?_
 (conv=>whnf);repeat' (first|(refine Ar (inP (n:=n)) (fun hr=>?_) (fun hr=>absurd hn hr);conv=>whnf)|(refine Ar (inP (n:=d)) (fun hr=>?_) (fun hr=>absurd hd hr);conv=>whnf)|((first|refine Aa (absP hn) ?_|refine Aa (absP hd) ?_);rintro _ rfl;conv=>whnf)|(refine kA ?_;conv=>whnf)|(refine Br.mk (fun hc=>?_) fun hc=>?_<;>first|exact hc.elim|conv=>whnf)|(refine kB ?_))
 refine Ag (fun m env s=>∃(x y:Nat),m=1*y∧x<2^63∧y<2^63∧Nat.gcd x y=Nat.gcd n.natAbs d.natAbs∧env=[(0,.int .i64 x),(1,.int .i64 y)]∧s=⟨[],0⟩) ?_ _ _ _ ⟨n.natAbs,d.natAbs,(Nat.one_mul _).symm,by omega,by omega,rfl,rfl,rfl⟩
 clear hn hd hn' hd'
 rintro m _ _ ⟨x,y,hm,hx,hy,hg,rfl,rfl⟩
 have hm2:y=m:=by omega
 subst hm2
 refine⟨rfl,?_⟩
 (conv=>whnf);repeat' (first  |(refine kA ?_;conv=>whnf)|(refine Br.mk (fun hc=>?_) fun hc=>?_<;>first|exact hc.elim|conv=>whnf)|(refine kB ?_))
 ·have h0:y=0:=by omega
  subst h0
  rw[Nat.gcd_zero_right]at hg
  rw[← hg];rfl
 ·have h0:0<y:=by omega
  have:=Nat.mod_lt x h0
  exact again.mk ⟨_,this,y,x % y,(Nat.one_mul _).symm,hy,by omega,by rw[XW];exact hg,by rw[Int.ofNat_tmod],rfl⟩
theorem Aek {n d:Int} (h:¬(1≤d∧d≤1000000000000000∧OQ n)):¬VF n d:=fun hv=>h ⟨hv.1,hv.2.1,hv.2.2.1⟩
theorem fvP {n d:Int}:Ae (Ad tab) 269 [.agg [.int .i64 n,.int .i64 d]] (· =.bool (decide (VF n d))):=by
 by_cases h:1≤d∧d≤1000000000000000∧OQ n
 ·obtain⟨h1,h2,h3⟩:=h
  have hg:=AoL h3 (show OQ d by unfold OQ;omega)
  refine Ac rfl rfl ?_
  (conv=>whnf);repeat' (first|(refine Ar (inP (n:=n)) (fun hr=>?_) (fun hr=>absurd h3 hr);conv=>whnf)|(refine Aa hg ?_;rintro _ rfl;conv=>whnf)|(refine kA ?_;conv=>whnf)|(refine Br.mk (fun hc=>?_) fun hc=>?_<;>first|exact hc.elim|conv=>whnf)|(refine kB ?_))
  all_goals first
   |exact Bl ⟨h1,h2,h3,by omega⟩
   |exact Au fun hv=>by have:=hv.2.2.2;omega
   |trace_state
 ·have hno:=Aek h
  have hnr:¬OQ n∨¬(1≤d∧d≤1000000000000000):=by
   by_cases h3:OQ n
   ·exact .inr fun h12=>h ⟨h12.1,h12.2,h3⟩
   ·exact .inl h3
  refine Ac rfl rfl ?_
  (conv=>whnf);repeat' (first|(refine Ar (inP (n:=n)) (fun hr=>?_) (fun hr=>?_)<;>conv=>whnf)|(refine kA ?_;conv=>whnf)|(refine Br.mk (fun hc=>?_) fun hc=>?_<;>first|exact hc.elim|conv=>whnf)|(refine kB ?_))
  all_goals first
   |exact Au hno
   |(exfalso;rcases hnr with h|h;exact h hr;omega)
   |trace_state
theorem bare {g:GV} {n d s l:Bool}:Ae (Ad tab) 225 [g.av,.bool n,.bool d,.bool s,.bool l] (fun v=>∃b,v=.bool b):=by
 cases n<;>cases d<;>cases s<;>cases l<;>(
 refine Ac rfl rfl ?_
 (conv=>whnf);repeat' (first|(refine kA ?_;conv=>whnf)|(refine Br.mk (fun hc=>?_) fun hc=>?_<;>first|exact hc.elim|conv=>whnf)  |(refine kB ?_))
 all_goals exact⟨_,rfl⟩)
theorem Aps {n:Int}:Ae (Ad tab) 226 [.int .i64 n] (fun v=>∃b,v=.bool b):=by
 refine Ac rfl rfl ?_
 (conv=>whnf);repeat' (first|(refine kA ?_;conv=>whnf)|(refine Br.mk (fun hc=>?_) fun hc=>?_<;>first|exact hc.elim|conv=>whnf)  |(refine kB ?_))
 all_goals exact⟨_,rfl⟩
theorem size {n:Int} (h1:-2^62≤n) (h2:n≤2^62):Ae (Ad tab) 161 [.int .i64 n] (fun v=>∃z,v=.int .i64 z∧0≤z∧(z=n∨z=-n)):=by
 refine Ac rfl rfl ?_
 (conv=>whnf);repeat' (first|(refine kA ?_;conv=>whnf)|(refine Br.mk (fun hc=>?_) fun hc=>?_<;>first|exact hc.elim|conv=>whnf)  |(refine kB ?_))
 all_goals exact⟨_,rfl,by omega,by omega⟩
theorem gcd {a b:Int} (h1:0≤a) (h2:0≤b):Ae (Ad tab) 230 [.int .i64 a,.int .i64 b] (fun v=>∃z,v=.int .i64 z):=by
 refine Ac rfl rfl ?_
 (conv=>whnf);repeat' (first|(refine kA ?_;conv=>whnf)|(refine Br.mk (fun hc=>?_) fun hc=>?_<;>first|exact hc.elim|conv=>whnf)  |(refine kB ?_))
 refine Ag (fun m env s=>∃(a b:Int),m=b.toNat∧0≤a∧0≤b∧env=[(0,.int .i64 a),(1,.int .i64 b)]∧s=⟨[],0⟩) ?_ _ _ _ ⟨a,b,rfl,h1,h2,rfl,rfl⟩
 clear h1 h2 a b
 rintro _ _ _ ⟨a,b,rfl,h1,h2,rfl,rfl⟩
 refine⟨rfl,?_⟩
 (conv=>whnf);repeat' (first|(refine kA ?_;conv=>whnf)|(refine Br.mk (fun hc=>?_) fun hc=>?_<;>first|exact hc.elim|conv=>whnf)  |(refine kB ?_))
 ·have e:a.tmod b=a % b:=Int.tmod_eq_emod_of_nonneg h1
  have:=Int.emod_lt_of_pos a (by omega:0<b)
  have:=Int.emod_nonneg a (by omega:b≠0)
  exact again.mk ⟨_,by rw[e];omega,_,_,rfl,h2,by rw[e];omega,rfl,rfl⟩
 ·exact⟨_,rfl⟩
theorem Alk {n d:Int}:Ae (Ad tab) 157 [.agg [.int .i64 n,.int .i64 d]] (fun v=>∃b,v=.bool b∧(b=true→1≤d∧d≤1000000000000000∧-1000000000000000≤n∧n≤1000000000000000)):=by
 refine Ac rfl rfl ?_
 (conv=>whnf);repeat' (first|(refine kA ?_;conv=>whnf)|(refine Br.mk (fun hc=>?_) fun hc=>?_<;>first|exact hc.elim|conv=>whnf)|(refine Aa (size (n:=n) (by omega) (by omega)) ?_;rintro _ ⟨z,rfl,hz1,hz2⟩;conv=>whnf)|(refine Aa (gcd (by omega) (by omega)) ?_;rintro _ ⟨z2,rfl⟩;conv=>whnf)|(refine kB ?_))
 all_goals first|exact⟨_,rfl,fun _=>by omega⟩|exact⟨_,rfl,fun h=>absurd h Bool.false_ne_true⟩
theorem Anr {s:List UInt8} (hl:s.length<2^63):Ae (Ad tab) 227 [.str s] (fun v=>∃b,v=.bool b):=by
 refine Ac rfl rfl ?_
 (conv=>whnf);repeat' (first|(refine kA ?_;conv=>whnf)|(refine Br.mk (fun hc=>?_) fun hc=>?_<;>first|exact hc.elim|conv=>whnf)  |(refine kB ?_))
 refine Ag (fun m env s'=>∃i:Nat,m=s.length-i∧env=[(0,.str s),(3,.int .i64 i)]∧s'=⟨[],0⟩) ?_ _ _ _ ⟨0,rfl,rfl,rfl⟩
 rintro _ _ _ ⟨i,rfl,rfl,rfl⟩
 refine⟨rfl,?_⟩
 (conv=>whnf);repeat' (first|(refine kA ?_;conv=>whnf)|(refine Br.mk (fun hc=>?_) fun hc=>?_<;>first|exact hc.elim|conv=>whnf)  |(refine kB ?_))
 all_goals first|exact⟨_,rfl⟩|exact again.mk ⟨_,by omega,i+1,rfl,rfl,rfl⟩
theorem AcJ {g:GV} {n:Int} (h:g.k=5∨g.k=6):Ae (Ad tab) 154 [g.av,.int .i64 n] (fun v=>∃b,v=.bool b):=by
 refine Ac rfl rfl ?_
 (conv=>whnf);repeat' (first|(refine kA ?_;conv=>whnf)|(refine Br.mk (fun hc=>?_) fun hc=>?_<;>first|exact hc.elim|conv=>whnf)|(refine Aa (bare (g:=g)) ?_;rintro _ ⟨b,rfl⟩;conv=>whnf)|(refine kB ?_))
 all_goals exact⟨_,rfl⟩
theorem Alm {l:List AV} {nn:Bool} (hl:l.length<2^63) (h:∀x∈l,Like Tryz.prog 42 x):Ae (Ad tab) 228 [.sl nn l] (fun v=>∃b,v=.bool b):=by
 refine Ac rfl rfl ?_
 (conv=>whnf);repeat' (first|(refine kA ?_;conv=>whnf)|(refine Br.mk (fun hc=>?_) fun hc=>?_<;>first|exact hc.elim|conv=>whnf)  |(refine kB ?_))
 all_goals first|exact⟨_,rfl⟩|skip
 refine Ag (fun m env s'=>∃i:Nat,m=l.length-i∧env=[(0,.sl nn l),(3,.int .i64 i)]∧s'=⟨[],0⟩) ?_ _ _ _ ⟨0,rfl,rfl,rfl⟩
 rintro _ _ _ ⟨i,rfl,rfl,rfl⟩
 refine⟨rfl,?_⟩
 obtain⟨gx,hgx⟩:=DV h i
 (conv=>whnf);repeat' (first|(refine kA ?_;conv=>whnf)|(refine Br.mk (fun hc=>?_) fun hc=>?_<;>first|exact hc.elim|conv=>whnf)|(apply Aj;(· exact(hgx (by omega)).1);conv=>whnf)|(refine Aa (AcJ (g:=gx) (by omega)) ?_;rintro _ ⟨b,rfl⟩;conv=>whnf)|(refine kB ?_))
 all_goals first|exact⟨_,rfl⟩|exact again.mk ⟨_,by omega,i+1,rfl,rfl,rfl⟩
theorem Aos {a b:Nat} (ha:a<2^63) (hb:b<2^63):Ae (Ad tab) 230 [.int .i64 a,.int .i64 b] (· =.int .i64 (Nat.gcd a b)):=by
 refine Ac rfl rfl ?_
 (conv=>whnf);repeat' (first  |(refine kA ?_;conv=>whnf)|(refine Br.mk (fun hc=>?_) fun hc=>?_<;>first|exact hc.elim|conv=>whnf)|(refine kB ?_))
 refine Ag (fun m env s=>∃(x y:Nat),m=1*y∧x<2^63∧y<2^63∧Nat.gcd x y=Nat.gcd a b∧env=[(0,.int .i64 x),(1,.int .i64 y)]∧s=⟨[],0⟩) ?_ _ _ _ ⟨a,b,(Nat.one_mul _).symm,ha,hb,rfl,rfl,rfl⟩
 clear ha hb
 rintro m _ _ ⟨x,y,hm,hx,hy,hg,rfl,rfl⟩
 have hm2:y=m:=by omega
 subst hm2
 refine⟨rfl,?_⟩
 (conv=>whnf);repeat' (first  |(refine kA ?_;conv=>whnf)|(refine Br.mk (fun hc=>?_) fun hc=>?_<;>first|exact hc.elim|conv=>whnf)|(refine kB ?_))
 ·have h0:0<y:=by omega
  have:=Nat.mod_lt x h0
  exact again.mk ⟨_,this,y,x % y,(Nat.one_mul _).symm,hy,by omega,by rw[XW];exact hg,by rw[Int.ofNat_tmod],rfl⟩
 ·have h0:y=0:=by omega
  subst h0
  rw[Nat.gcd_zero_right]at hg
  rw[← hg];rfl
theorem fvR {n d:Int}:Ae (Ad tab) 157 [.agg [.int .i64 n,.int .i64 d]] (· =.bool (decide (VF n d))):=by
 by_cases h:1≤d∧d≤1000000000000000∧OQ n
 ·obtain⟨h1,h2,h3⟩:=h
  have h3':=h3
  unfold OQ at h3'
  obtain⟨dn,rfl⟩:∃k:Nat,d=k:=⟨d.toNat,by omega⟩
  obtain⟨_,⟨z,rfl,z0,z1⟩,hz⟩:=(size (n:=n) (by omega) (by omega)).LG
  obtain⟨zn,rfl⟩:∃k:Nat,z=k:=⟨z.toNat,by omega⟩
  have hzn:zn=n.natAbs:=by omega
  have hg:=Aos (a:=zn) (b:=dn) (by omega) (by omega)
  refine Ac rfl rfl ?_
  (conv=>whnf);repeat' (first|((first|refine Aa hz ?_|refine Aa hg ?_);rintro _ rfl;conv=>whnf)|(refine kA ?_;conv=>whnf)|(refine Br.mk (fun hc=>?_) fun hc=>?_<;>first|exact hc.elim|conv=>whnf)|(refine kB ?_))
  all_goals first
   |exact Bl ⟨h1,h2,h3,by rw[← hzn,Int.natAbs_natCast];omega⟩
   |exact Au fun hv=>by have:=hv.2.2.2;rw[← hzn]at this;simp only[Int.natAbs_natCast]at this;omega
   |trace_state
 ·have hno:=Aek h
  refine Ac rfl rfl ?_
  (conv=>whnf);repeat' (first  |(refine kA ?_;conv=>whnf)|(refine Br.mk (fun hc=>?_) fun hc=>?_<;>first|exact hc.elim|conv=>whnf)|(refine kB ?_))
  all_goals first
   |exact Au hno
   |(exfalso;refine h ⟨by omega,by omega,?_⟩;unfold OQ;omega)
   |trace_state
theorem Aao {n:Int} (h:OQ n):n.natAbs≤1000000000000000:=by unfold OQ at h;omega
def Vd (l:List Int):Prop:=l.length=14∧∀x∈l,0≤x∧x≤999
theorem Vd.set {l:List Int} (h:Vd l) {k:Nat} {y:Int} (hy:0≤y∧y≤999):Vd (l.set k y):=by
 refine⟨by rw[List.length_set];exact h.1,fun x hx=>?_⟩
 rcases List.mem_or_eq_of_mem_set hx with hx|rfl
 ·exact h.2 x hx
 ·exact hy
theorem Ve {d e:Int} (h1:0≤d) (h2:d≤999) (h3:0≤e) (h4:e≤999):0≤d*e∧d*e≤998001:=
 ⟨Int.mul_nonneg h1 h3,by
  have:=Int.mul_le_mul h2 h4 h3 (by omega:(0:Int)≤999)
  omega⟩
theorem tmE {c:Int} (h:0≤c):c.tmod 1000=c % 1000:=Int.tmod_eq_emod_of_nonneg h
theorem tdE {c:Int} (h:0≤c):c.tdiv 1000=c / 1000:=Int.tdiv_eq_ediv_of_nonneg h
def Left (j:Nat) (c:Int):Prop:=0≤c∧((j=0∧c<1000000000000000000)∨(j=1∧c<1000000000000000)∨(j=2∧c<1000000000000)∨(j=3∧c<1000000000)∨(j=4∧c<1000000)∨(j=5∧c<1000)∨(6≤j∧c=0))
def Carry (j:Nat) (y:Int):Prop:=0≤y∧((j≤6∧y≤999)∨(j=7∧y≤1)∨(j=8∧y=0))
theorem Vf {j:Nat} {c:Int} (h:Left j c):Left (j+1) (c.tdiv 1000):=by
 have e:=tdE h.1
 unfold Left at *;omega
theorem Zn {j:Nat} {c y x d:Int} (h:Left j c) (hy:Carry j y) (hj:0<c∨0<y) (hx:0≤x∧x≤999∧(j=7→x=0)) (hd:0≤d∧d≤999):Carry (j+1) ((y+x+d*c.tmod 1000).tdiv 1000):=by
 have e1:=tmE h.1
 have hm:=h.1
 obtain⟨m1,m2⟩:=Ve hd.1 hd.2 (e:=c.tmod 1000) (by omega) (by omega)
 have hy0:=hy.1
 have e2:=tdE (c:=y+x+d*c.tmod 1000) (by omega)
 have hc:c.tmod 1000=0∨j≤5:=by unfold Left at h;omega
 rw[e2]
 rcases hc with h0|h0
 ·have hm0:d*c.tmod 1000=0:=by rw[h0];exact Int.mul_zero _
  rw[hm0]
  unfold Carry Left at *;omega
 ·unfold Carry Left at *;omega
theorem Anv {l:List AV} {nn:Bool} (hl:l.length<2^63):Ae (Ad tab) 229 [.sl nn l,.int .i64 0] (fun v=>∃b,v=.bool b):=by
 refine Ac rfl rfl ?_
 (conv=>whnf);repeat' (first|(refine kA ?_;conv=>whnf)|(refine Br.mk (fun hc=>?_) fun hc=>?_<;>first|exact hc.elim|conv=>whnf)  |(refine kB ?_))
 all_goals exact⟨_,rfl⟩
theorem Anw {n:Nat} (ih:∀{g:GV},g.ok→Ae (Ad tab) 154 [g.av,.int .i64 n] (fun v=>∃b,v=.bool b)) (hn:n<2^60) {l:List AV} {nn:Bool} (hl:l.length<2^63) (h:∀x∈l,Like Tryz.prog 42 x):
 Ae (Ad tab) 229 [.sl nn l,.int .i64 (n+1:Nat)] (fun v=>∃b,v=.bool b):=by
 refine Ac rfl rfl ?_
 (conv=>whnf);repeat' (first|(refine kA ?_;conv=>whnf)|(refine Br.mk (fun hc=>?_) fun hc=>?_<;>first|exact hc.elim|conv=>whnf)  |(refine kB ?_))
 all_goals first|exact⟨_,rfl⟩|skip
 refine Ag (fun m env s'=>∃i:Nat,m=l.length-i∧env=[(0,.sl nn l),(1,.int .i64 (n+1:Nat)),(5,.int .i64 i)]∧s'=⟨[],0⟩) ?_ _ _ _ ⟨0,rfl,rfl,rfl⟩
 rintro _ _ _ ⟨i,rfl,rfl,rfl⟩
 refine⟨rfl,?_⟩
 obtain⟨gx,hgx⟩:=DV h i
 have ih':∀{g:GV},g.ok→Ae (Ad tab) 154 [g.av,.int .i64 (((n+1:Nat):Int)-1)] (fun v=>∃b,v=.bool b):=by
  rw[show ((n+1:Nat):Int)-1=(n:Int) by omega];exact ih
 (conv=>whnf);repeat' (first|(refine kA ?_;conv=>whnf)|(refine Br.mk (fun hc=>?_) fun hc=>?_<;>first|exact hc.elim|conv=>whnf)|(apply Aj;(· exact(hgx (by omega)).1);conv=>whnf)|(refine Aa (ih' (g:=gx) (hgx (by omega)).2.2) ?_;rintro _ ⟨b,rfl⟩;conv=>whnf)|(refine kB ?_))
 all_goals first|exact⟨_,rfl⟩|exact again.mk ⟨_,by omega,i+1,rfl,rfl,rfl⟩
theorem Af1 {n:Int} {g:GV} (hg:g.ok) (hlist:Ae (Ad tab) 229 [.sl g.nn g.l,.int .i64 n] (fun v=>∃b,v=.bool b)):
 Ae (Ad tab) 154 [g.av,.int .i64 n] (fun v=>∃b,v=.bool b):=by
 obtain⟨g1,g2,g3,g4,g5,g6,g7⟩:=hg
 unfold Ln at g4 g5
 refine Ac rfl rfl ?_
 (conv=>whnf);repeat' (first|(refine kA ?_;conv=>whnf)|(refine Br.mk (fun hc=>?_) fun hc=>?_<;>first|exact hc.elim|conv=>whnf)|(refine Aa (bare (g:=g)) ?_;rintro _ ⟨b,rfl⟩;conv=>whnf)|(refine Aa (Aps (n:=g.n)) ?_;rintro _ ⟨b,rfl⟩;conv=>whnf)|(refine Aa (Alk (n:=g.n) (d:=g.d)) ?_;rintro _ ⟨b,rfl,_⟩;conv=>whnf)|(refine Aa (Anr g4) ?_;rintro _ ⟨b,rfl⟩;conv=>whnf)|(refine Aa (Alm g5 g7) ?_;rintro _ ⟨b,rfl⟩;conv=>whnf)|(refine Aa hlist ?_;rintro _ ⟨b,rfl⟩;conv=>whnf)|(refine kB ?_))
 all_goals exact⟨_,rfl⟩
theorem valid {n:Nat} (hn:n<2^60):∀{g:GV},g.ok→Ae (Ad tab) 154 [g.av,.int .i64 n] (fun v=>∃b,v=.bool b):=by
 induction n with
 |zero=>intro g hg;exact Af1 hg (Anv hg.2.2.2.2.1)
 |succ n ih=>intro g hg;exact Af1 hg (Anw (ih (by omega)) (by omega) hg.2.2.2.2.1 hg.2.2.2.2.2.2)
theorem Valid {g:GV} (hg:g.ok):Ae (Ad tab) 90 [g.av] (fun v=>∃b,v=.bool b):=by
 refine Ac rfl rfl ?_
 (conv=>whnf);repeat' (first|(refine kA ?_;conv=>whnf)|(refine Br.mk (fun hc=>?_) fun hc=>?_<;>first|exact hc.elim|conv=>whnf)|(refine Aa (valid (n:=8) (by omega) hg) ?_;rintro _ ⟨b,rfl⟩;conv=>whnf)|(refine kB ?_))
 all_goals exact⟨_,rfl⟩
theorem Vt:∀s:List UInt8,Op.bytesLess s s=false
 |[]=>rfl
 |a::s=>by simp[Op.bytesLess,Vt s]
theorem ApX {s:List UInt8}:Ae (Ad tab) 155 [.str s,.str s] (· =.int .i64 0):=by
 refine Ac rfl rfl ?_
 (conv=>whnf);repeat' (first|(refine kA ?_;conv=>whnf)|(refine Br.mk (fun hc=>?_) fun hc=>?_<;>first|exact hc.elim|conv=>whnf)  |(refine kB ?_))
 all_goals first|rfl|(exfalso;simp[Vt]at hc)
end AI
end Go.Proofs.YtjijnamhalgamaaGreatDoor
