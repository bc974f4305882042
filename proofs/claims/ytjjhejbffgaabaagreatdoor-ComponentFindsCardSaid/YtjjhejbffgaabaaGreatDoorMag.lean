/- Names in a list, increasing strings, labels and properties. What is wrong with labels and properties. Comparing two numbers. Looking for a node among increasing ids. graph.Check: the first error of a graph. graph.Check, walked. component.Weak. The least topological order: by readiness, by counts. Plain. -/
import Derived.Test.YtjjhejbffgaabaaGreatDoorMaf
import Derived.Test.YtjjhejbffgaabaaGreatDoorPGrCode
import Derived.Test.YtjjhejbffgaabaaGreatDoorMaa
import Derived.Test.YtjjhejbffgaabaaGreatDoorMae
set_option linter.unusedVariables false
set_option maxRecDepth 4000
namespace Go.Proofs.YtjjhejbffgaabaaGreatDoor
namespace AI
def allNames (l:List (List UInt8)):Prop:=∀s∈l,isName s
noncomputable instance (l:List (List UInt8)):Decidable (allNames l):=Classical.propDecidable _
def rises (l:List (List UInt8)):Prop:=∀j (h:j+1<l.length),(Op.bytesLess l[j+1] l[j]||l[j+1]==l[j])=false
noncomputable instance (l:List (List UInt8)):Decidable (rises l):=Classical.propDecidable _
theorem unn {s:List UInt8} (hl:s.length<2^63):Ar (Ae tab) 61 [.str s] (· =.bool (decide (¬ isName s))):=by
 refine Ad rfl rfl ?_
 (conv=>whnf);repeat' (first|(refine kA ?_;conv=>whnf)|(refine Br.mk (fun hc=>?_) fun hc=>?_<;>first|exact hc.elim|conv=>whnf)|(refine Dk (name1 hl) (fun hr=>?_) (fun hr=>?_)<;>conv=>whnf)|(refine kB ?_))
 ·exact Bf (fun h=>h hr)
 ·exact Ce hr
theorem AeG {l:List (List UInt8)} {nn:Bool} (hl:l.length<2^63) (hs:∀s∈l,s.length<2^63):Ar (Ae tab) 88 [.sl nn (vs .str l),.fn 61 []] (fun v=>∃z,v=.int .i64 z∧(0≤z↔¬allNames l)):=by
 refine Ad rfl rfl ?_
 (conv=>whnf);repeat' (first|(refine kA ?_;conv=>whnf)|(refine Br.mk (fun hc=>?_) fun hc=>?_<;>first|exact hc.elim|conv=>whnf)  |(refine kB ?_))
 refine Ah (fun m env s=>∃i:Nat,m=l.length-i∧env=[(0,.sl nn (vs .str l)),(1,.fn 61 []),(7,.int .i64 l.length),(8,.int .i64 i)]∧s=⟨[],0⟩∧∀s∈l.take i,isName s) ?_ _ _ _ ⟨0,rfl,by simp,rfl,by simp⟩
 rintro _ _ _ ⟨i,rfl,rfl,rfl,hx⟩
 refine⟨rfl,?_⟩
 (conv=>whnf);repeat' (first|(refine kA ?_;conv=>whnf)|(refine Br.mk (fun hc=>?_) fun hc=>?_<;>first|exact hc.elim|conv=>whnf)|(refine Dk (unn (hs _ (List.getElem_mem (by omega)))) (fun hr=>?_) (fun hr=>?_)<;>conv=>whnf)|(refine kB ?_))
 ·exact⟨_,rfl,fun _ h=>hr (h _ (List.getElem_mem _)),fun _=>by omega⟩
 ·exact again.mk ⟨_,by omega,i+1,rfl,rfl,rfl,Bo (by omega) hx (Decidable.of_not_not hr)⟩
 ·rw[CZ hc]at hx;exact⟨_,rfl,fun h=>absurd h (by omega),fun h=>absurd hx h⟩
theorem ZG {l:List (List UInt8)} {nn:Bool} (hl:l.length<2^63) (hs:∀s∈l,s.length<2^63):Ar (Ae tab) 60 [.sl nn (vs .str l),.fn 61 []] (· =.bool (decide (¬ allNames l))):=by
 refine Ad rfl rfl ?_
 (conv=>whnf);repeat' (first|(refine kA ?_;conv=>whnf)|(refine Br.mk (fun hc=>?_) fun hc=>?_<;>first|exact hc.elim|conv=>whnf)  |(refine kB ?_))
 refine Aa (AeG hl hs) ?_
 rintro _ ⟨z,rfl,hz⟩
 (conv=>whnf);repeat' (first|(refine kA ?_;conv=>whnf)|(refine Br.mk (fun hc=>?_) fun hc=>?_<;>first|exact hc.elim|conv=>whnf)  |(refine kB ?_))
 ·exact Ce (hz.1 hc)
 ·exact Bf (mt hz.2 hc)
theorem ZH {l:List (List UInt8)} {nn:Bool} (hl:l.length<2^63) (hs:∀s∈l,s.length<2^63):Ar (Ae tab) 101 [.sl nn (vs .str l)] (· =.bool (decide (allNames l))):=by
 refine Ad rfl rfl ?_
 (conv=>whnf);repeat' (first|(refine kA ?_;conv=>whnf)|(refine Br.mk (fun hc=>?_) fun hc=>?_<;>first|exact hc.elim|conv=>whnf)  |(refine kB ?_))
 refine Ah (fun m env s=>∃i:Nat,m=l.length-i∧env=[(0,.sl nn (vs .str l)),(3,.int .i64 i)]∧s=⟨[],0⟩∧∀s∈l.take i,isName s) ?_ _ _ _ ⟨0,rfl,rfl,rfl,by simp⟩
 rintro _ _ _ ⟨i,rfl,rfl,rfl,hx⟩
 refine⟨rfl,?_⟩
 (conv=>whnf);repeat' (first|(refine kA ?_;conv=>whnf)|(refine Br.mk (fun hc=>?_) fun hc=>?_<;>first|exact hc.elim|conv=>whnf)|(refine Dk (name2 (hs _ (List.getElem_mem (by omega)))) (fun hr=>?_) (fun hr=>?_)<;>conv=>whnf)|(refine kB ?_))
 ·exact again.mk ⟨_,by omega,i+1,rfl,rfl,rfl,Bo (by omega) hx hr⟩
 ·exact Bf fun h=>hr (h _ (List.getElem_mem _))
 ·rw[CZ hc]at hx;exact Ce hx
theorem ZI {l:List (List UInt8)} {nn:Bool} (hl:l.length<2^63):Ar (Ae tab) 62 [.sl nn (vs .str l)] (· =.bool (decide (rises l))):=by
 refine Ad rfl rfl ?_
 (conv=>whnf);repeat' (first|(refine kA ?_;conv=>whnf)|(refine Br.mk (fun hc=>?_) fun hc=>?_<;>first|exact hc.elim|conv=>whnf)  |(refine kB ?_))
 refine Ah (fun m env s=>∃i:Nat,m=l.length-i∧env=[(0,.sl nn (vs .str l)),(3,.int .i64 (i+1:Nat))]∧s=⟨[],0⟩∧∀j (h:j+1<l.length),j<i→(Op.bytesLess l[j+1] l[j]||l[j+1]==l[j])=false) ?_ _ _ _ ⟨0,rfl,rfl,rfl,fun j _ h=>absurd h (by omega)⟩
 rintro _ _ _ ⟨i,rfl,rfl,rfl,hx⟩
 refine⟨rfl,?_⟩
 (conv=>whnf);repeat' (first|(refine kA ?_;conv=>whnf)|(refine Br.mk (fun hc=>?_) fun hc=>?_<;>first|exact hc.elim|conv=>whnf)|(apply Am;(· exact nVz i (by omega) (by omega));conv=>whnf)|(refine kB ?_))
 ·exact Bf fun h=>by simp only[show (((i+1:Nat):Int)-1).toNat=i by omega]at hc;rw[h i (by omega)]at hc;cases hc
 ·simp only[show (((i+1:Nat):Int)-1).toNat=i by omega]at hc
  exact again.mk ⟨_,by omega,i+1,rfl,rfl,rfl,fun j h hj=>by
   by_cases e:j=i
   ·subst e;simpa using hc
   ·exact hx j h (by omega)⟩
 ·exact Ce fun j h=>hx j h (by omega)
theorem ZJ {l:List (List UInt8)} {nn:Bool} (hl:l.length<2^63):Ar (Ae tab) 102 [.sl nn (vs .str l)] (· =.bool (decide (rises l))):=by
 refine Ad rfl rfl ?_
 (conv=>whnf);repeat' (first|(refine kA ?_;conv=>whnf)|(refine Br.mk (fun hc=>?_) fun hc=>?_<;>first|exact hc.elim|conv=>whnf)  |(refine kB ?_))
 refine Ah (fun m env s=>∃i:Nat,m=l.length-i∧env=[(0,.sl nn (vs .str l)),(3,.int .i64 (i+1:Nat))]∧s=⟨[],0⟩∧∀j (h:j+1<l.length),j<i→(Op.bytesLess l[j+1] l[j]||l[j+1]==l[j])=false) ?_ _ _ _ ⟨0,rfl,rfl,rfl,fun j _ h=>absurd h (by omega)⟩
 rintro _ _ _ ⟨i,rfl,rfl,rfl,hx⟩
 refine⟨rfl,?_⟩
 (conv=>whnf);repeat' (first|(refine kA ?_;conv=>whnf)|(refine Br.mk (fun hc=>?_) fun hc=>?_<;>first|exact hc.elim|conv=>whnf)|(apply Am;(· exact nVz i (by omega) (by omega));conv=>whnf)|(refine kB ?_))
 ·exact Bf fun h=>by simp only[show (((i+1:Nat):Int)-1).toNat=i by omega]at hc;rw[h i (by omega)]at hc;cases hc
 ·simp only[show (((i+1:Nat):Int)-1).toNat=i by omega]at hc
  exact again.mk ⟨_,by omega,i+1,rfl,rfl,rfl,fun j h hj=>by
   by_cases e:j=i
   ·subst e;simpa using hc
   ·exact hx j h (by omega)⟩
 ·exact Ce fun j h=>hx j h (by omega)
theorem Agc {g len:Nat} {nn cl:Bool} {l:List (List UInt8)} {x:List UInt8} {bytes:Nat} {K:Nat→Bool→Bool→List AV→Prop} (hl:len=l.length) (hr:(l.length+1)*bytes≤2 ^ 46) (h:K (len+1) true cl (vs .str (l++[x]))):
 KT g g 1 1 len nn cl true (vs .str l) [.str x] bytes K:=by
 subst hl
 refine⟨⟨rfl,rfl,by simp,UA rfl,JZ hr⟩,?_⟩
 rw[Xv,Bool.and_true]
 simpa using h
def keysOf (P:List GP):List (List UInt8):=P.map GP.key
@[simp] theorem LJ (P:List GP):(keysOf P).length=P.length:=by simp[keysOf]
theorem RD {P:List GP} (hp:∀p∈P,p.ok):∀s∈keysOf P,s.length<2^63:=by
 intro s h
 obtain⟨p,h1,rfl⟩:=List.mem_map.1 h
 exact(hp p h1).1
theorem OH {P:List GP} {i:Nat} (h:i<P.length):keysOf (P.take i)++[(P[i]).key]=keysOf (P.take (i+1)):=by
 rw[List.take_succ_eq_append_getElem h];unfold keysOf;rw[List.map_append];rfl
def allPlain (P:List GP):Prop:=∀p∈P,EN p.v
noncomputable instance (P:List GP):Decidable (allPlain P):=Classical.propDecidable _
noncomputable def DJ (L:List (List UInt8)) (P:List GP):Int:=
 if 8<L.length∨16<P.length then 4 else if¬(allNames L∧allNames (keysOf P))then 6 else if¬(rises L∧rises (keysOf P))then 26 else if¬allPlain P then 8 else 0
theorem PE {L:List (List UInt8)} {P:List GP} (h:8<L.length∨16<P.length):AV.int .i64 4=AV.int .i64 (DJ L P):=by rw[DJ,if_pos h]
theorem PG {L:List (List UInt8)} {P:List GP} (h:¬(8<L.length∨16<P.length)) (h1:¬(allNames L∧allNames (keysOf P))):AV.int .i64 6=AV.int .i64 (DJ L P):=by rw[DJ,if_neg h,if_pos h1]
theorem MN {L:List (List UInt8)} {P:List GP} (h:¬(8<L.length∨16<P.length)) (h1:allNames L∧allNames (keysOf P)) (h2:¬(rises L∧rises (keysOf P))):AV.int .i64 26=AV.int .i64 (DJ L P):=by rw[DJ,if_neg h,if_neg (not_not_intro h1),if_pos h2]
theorem Xy {L:List (List UInt8)} {P:List GP} (h:¬(8<L.length∨16<P.length)) (h1:allNames L∧allNames (keysOf P)) (h2:rises L∧rises (keysOf P)) (h3:¬allPlain P):AV.int .i64 8=AV.int .i64 (DJ L P):=by rw[DJ,if_neg h,if_neg (not_not_intro h1),if_neg (not_not_intro h2),if_pos h3]
theorem Xz {L:List (List UInt8)} {P:List GP} (h:¬(8<L.length∨16<P.length)) (h1:allNames L∧allNames (keysOf P)) (h2:rises L∧rises (keysOf P)) (h3:allPlain P):AV.int .i64 0=AV.int .i64 (DJ L P):=by rw[DJ,if_neg h,if_neg (not_not_intro h1),if_neg (not_not_intro h2),if_neg (not_not_intro h3)]
theorem ZK {L:List (List UInt8)} {P:List GP} {ln pn:Bool} (hL:L.length<2^63) (hs:∀s∈L,s.length<2^63) (hP:P.length<2^63) (hp:∀p∈P,p.ok):Ar (Ae tab) 35 [.sl ln (vs .str L),.sl pn (vs GP.av P)] (· =.int .i64 (DJ L P)):=by
 have hk:=RD hp
 refine Ad rfl rfl ?_
 (conv=>whnf);repeat' (first|(refine kA ?_;conv=>whnf)|(refine Br.mk (fun hc=>?_) fun hc=>?_<;>first|exact hc.elim|conv=>whnf)  |(refine kB ?_))
 ·exact PE (by omega)
 ·exact PE (by omega)
 have h16:¬(8<L.length∨16<P.length):=by omega
 refine Ah (fun m env s=>∃(i g:Nat),m=P.length-i∧i≤P.length∧env=[(0,.sl ln (vs .str L)),(1,.sl pn (vs GP.av P)),(5,.own 0 g 0 i),(18,.sl pn (vs GP.av P)),(19,.int .i64 P.length),(20,.int .i64 i)]∧∃nn c,s=⟨[.arr g 1 nn true (vs .str (keysOf (P.take i)))],c⟩) ?_ _ _ _ ⟨0,0,rfl,by omega,rfl,_,_,rfl⟩
 rintro _ _ _ ⟨i,g,rfl,hi,rfl,nn,c,rfl⟩
 refine⟨rfl,?_⟩
 (conv=>whnf);repeat' (first|(refine kA ?_;conv=>whnf)|(refine Br.mk (fun hc=>?_) fun hc=>?_<;>first|exact hc.elim|conv=>whnf)  |(refine kB ?_))
 ·refine Agc (by simp;omega) (by simp;omega) ?_
  (conv=>whnf);repeat' (first|(refine kA ?_;conv=>whnf)|(refine Br.mk (fun hc=>?_) fun hc=>?_<;>first|exact hc.elim|conv=>whnf)  |(refine kB ?_))
  rw[OH (by omega)]
  exact again.mk ⟨_,by omega,i+1,_,rfl,by omega,rfl,_,_,rfl⟩
 ·rw[CZ hc]
  obtain rfl:i=P.length:=by omega
  have hu:sub (vs AV.str (keysOf P)) 0 P.length=vs .str (keysOf P):=by rw[← LJ P];exact uV
  have hkl:(keysOf P).length<2^63:=by rw[LJ];exact hP
  (conv=>whnf);repeat' (first|(refine Dk (ZG hL hs) (fun h1=>?_) (fun h1=>?_)<;>conv=>whnf)|(rw [hu];refine Dk (ZG hkl hk) (fun h2=>?_) (fun h2=>?_)<;>conv=>whnf)|(refine Dk (ZI hL) (fun h3=>?_) (fun h3=>?_)<;>conv=>whnf)|(rw [hu];refine Dk (ZI hkl) (fun h4=>?_) (fun h4=>?_)<;>conv=>whnf)|(refine kA ?_;conv=>whnf)|(refine Br.mk (fun hc=>?_) fun hc=>?_<;>first|exact hc.elim|conv=>whnf)|(refine kB ?_))
  ·exact PG h16 fun h=>h1 h.1
  ·exact PG h16 fun h=>h2 h.2
  ·refine Ah (fun m env s=>∃(i:Nat),m=P.length-i∧env=[(44,.sl pn (vs GP.av P)),(45,.int .i64 P.length),(46,.int .i64 i)]∧(∃ c,s=⟨[.arr g 1 nn true (vs .str (keysOf P))],c⟩)∧∀p∈P.take i,EN p.v) ?_ _ _ _ ⟨0,rfl,rfl,⟨_,rfl⟩,by simp⟩
   clear hc hi
   rintro _ _ _ ⟨i,rfl,rfl,⟨c,rfl⟩,hx⟩
   refine⟨rfl,?_⟩
   (conv=>whnf);repeat' (first|(refine Dk (Adh (v:=(P[i]).v) (hp _ (List.getElem_mem (by omega))).2) (fun h5=>?_) (fun h5=>?_)<;>conv=>whnf)|(refine kA ?_;conv=>whnf)|(refine Br.mk (fun hc=>?_) fun hc=>?_<;>first|exact hc.elim|conv=>whnf)|(refine kB ?_))
   ·exact again.mk ⟨_,by omega,i+1,rfl,rfl,⟨_,rfl⟩,Bo (by omega) hx h5⟩
   ·exact Xy h16 ⟨Classical.not_not.1 h1,Classical.not_not.1 h2⟩ ⟨h3,h4⟩ fun h=>h5 (h _ (List.getElem_mem _))
   ·rw[CZ hc]at hx
    exact Xz h16 ⟨Classical.not_not.1 h1,Classical.not_not.1 h2⟩ ⟨h3,h4⟩ hx
  ·exact MN h16 ⟨Classical.not_not.1 h1,Classical.not_not.1 h2⟩ fun h=>h4 h.2
  ·exact MN h16 ⟨Classical.not_not.1 h1,Classical.not_not.1 h2⟩ fun h=>h3 h.1
attribute [irreducible] DJ
theorem nan {x:Int}:Ar (Ae tab) 90 [.int .i64 x] (· =.bool (decide False)):=by
 refine Ad rfl rfl ?_
 (conv=>whnf);repeat' (first  |(refine kA ?_;conv=>whnf)|(refine Br.mk (fun hc=>?_) fun hc=>?_<;>first|exact hc.elim|conv=>whnf)|(refine kB ?_))
 all_goals first|exact absurd rfl hc|rfl
def WO (x y:Int):Int:=if x<y then -1 else if y<x then 1 else 0
theorem compare {x y:Int}:Ar (Ae tab) 66 [.int .i64 x,.int .i64 y] (· =.int .i64 (WO x y)):=by
 refine Ad rfl rfl ?_
 (conv=>whnf);repeat' (first|(refine Dk nan (fun hc=>absurd hc id) (fun _=>?_);conv=>whnf)|(refine kA ?_;conv=>whnf)|(refine Br.mk (fun hc=>?_) fun hc=>?_<;>first|exact hc.elim|conv=>whnf)|(refine kB ?_))
 all_goals unfold WO;first|(rw [if_pos (by omega)];rfl)|(rw [if_neg (by omega),if_pos (by omega)];rfl)|(rw [if_neg (by omega),if_neg (by omega)];rfl)
theorem U2 {x y:Int}:WO x y<0↔x<y:=by unfold WO;split<;>(try split)<;>omega
theorem Sj {x y:Int}:WO x y=0↔x=y:=by unfold WO;split<;>(try split)<;>omega
def incr (l:List Int):Prop:=∀j (h:j+1<l.length),l[j]<l[j+1]
noncomputable instance (l:List Int):Decidable (incr l):=Classical.propDecidable _
theorem X6 {l:List Int} (h:incr l) {i:Nat}:∀d (hd:i+d+1<l.length),l[i]<l[i+d+1]
 |0,hd=>h i hd
 |d+1,hd=>Int.lt_trans (X6 h d (by omega)) (h (i+d+1) hd)
theorem Y5 {l:List Int} (h:incr l) {i j:Nat} (hij:i<j) (hj:j<l.length):l[i]<l[j]:=by
 obtain⟨d,rfl⟩:∃d,j=i+d+1:=⟨j-i-1,by omega⟩
 exact X6 h d hj
def FY (N:List GN):List Int:=N.map GN.id
def AfO (E:List GE):List Int:=E.map GE.id
@[simp] theorem AfP (N:List GN):(FY N).length=N.length:=by simp[FY]
@[simp] theorem AfQ (N:List GE):(AfO N).length=N.length:=by simp[AfO]
theorem KP {N:List GN} {i:Nat} (h:i<N.length):(FY N)[i]'(by simpa using h)=(N[i]).id:=by simp[FY]
theorem Xi {N:List GN} (h:incr (FY N)) {i j:Nat} (hij:i<j) (hj:j<N.length):(N[i]).id<(N[j]).id:=by
 have:=Y5 h hij (by simpa using hj)
 rwa [KP (by omega),KP hj]at this
theorem Ahq {n:GN} {x:Int}:Ar (Ae tab) 65 [n.av,.int .i64 x] (· =.int .i64 (WO n.id x)):=by
 refine Ad rfl rfl ?_
 (conv=>whnf);repeat' (first|(refine kA ?_;conv=>whnf)|(refine Br.mk (fun hc=>?_) fun hc=>?_<;>first|exact hc.elim|conv=>whnf)|(refine Aa compare ?_;rintro _ rfl;conv=>whnf)|(refine kB ?_))
 rfl
theorem bsearch {N:List GN} {nn:Bool} {x:Int} (hN:N.length<2^62) (hi:incr (FY N)):Ar (Ae tab) 64 [.sl nn (vs GN.av N),.int .i64 x,.fn 65 []] (fun v=>∃z b,v=.EY [.int .i64 z,.bool b]∧(b=true↔x∈FY N)):=by
 have fin:∀i:Nat,i≤N.length→(∀ k (h:k<N.length),k<i→(N[k]).id<x)→(∀ k (h:k<N.length),i≤k→x≤(N[k]).id)→(x∈FY N↔∃h:i<N.length,(N[i]).id=x):=by
  intro i h0 h1 h2
  constructor
  ·intro h
   obtain⟨k,hk,e⟩:=List.getElem_of_mem h
   have hk':k<N.length:=by simpa using hk
   rw[KP hk']at e
   have a1:=h1 k hk'
   have:i≤k:=by
        rcases Nat.lt_or_ge k i with h|h
        ·have:=a1 h;omega
        ·exact h
   rcases Nat.lt_or_ge i k with h|h
   ·have:=Xi hi h hk'
    have:=h2 i (by omega) (Nat.le_refl _)
    omega
   ·obtain rfl:i=k:=by omega
    exact⟨hk',e⟩
  ·rintro⟨h,e⟩
   rw[← e,←KP h]
   exact List.getElem_mem _
 refine Ad rfl rfl ?_
 (conv=>whnf);repeat' (first|(refine kA ?_;conv=>whnf)|(refine Br.mk (fun hc=>?_) fun hc=>?_<;>first|exact hc.elim|conv=>whnf)  |(refine kB ?_))
 refine Ah (fun m env s=>∃(i j:Nat),m=j-i∧i≤j∧j≤N.length∧env=[(0,.sl nn (vs GN.av N)),(1,.int .i64 x),(2,.fn 65 []),(8,.int .i64 N.length),(9,.int .i64 i),(10,.int .i64 j)]∧s=⟨[],0⟩∧
  (∀ k (h:k<N.length),k<i→(N[k]).id<x)∧(∀ k (h:k<N.length),j≤k→x≤(N[k]).id)) ?_ _ _ _ ⟨0,N.length,rfl,by omega,by omega,by simp,rfl,fun k _ h=>absurd h (by omega),fun k h1 h=>absurd h (by omega)⟩
 rintro _ _ _ ⟨i,j,rfl,hij,hj,rfl,rfl,h1,h2⟩
 refine⟨rfl,?_⟩
 (conv=>whnf);repeat' (first|(refine AeC (i+j) (by omega) (by omega) ?_;conv=>whnf)|(apply Ec;(· exact Aga _);conv=>whnf)|(refine Aa Ahq ?_;rintro _ rfl;conv=>whnf)|(refine kA ?_;conv=>whnf)|(refine Br.mk (fun hc=>?_) fun hc=>?_<;>first|exact hc.elim|conv=>whnf)|(refine kB ?_))
 ·have hm:=U2.1 hc
  exact again.mk ⟨_,by omega,(i+j) / 2+1,j,rfl,by omega,hj,rfl,rfl,fun k hk hlt=>by
   rcases Nat.lt_or_ge k ((i+j) / 2)with h|h
   ·exact Int.lt_trans (Xi hi h (by omega)) hm
   ·obtain rfl:k=(i+j) / 2:=by omega
    exact hm,h2⟩
 ·have hm:=mt U2.2 hc
  exact again.mk ⟨_,by omega,i,(i+j) / 2,rfl,by omega,by omega,rfl,rfl,h1,fun k hk hle=>by
   rcases Nat.lt_or_ge ((i+j) / 2) k with h|h
   ·have:=Xi hi h hk;omega
   ·obtain rfl:k=(i+j) / 2:=by omega
    omega⟩
 all_goals have hf:=fin i (by omega) h1 (fun k hk h=>h2 k hk (by omega))
 ·exact⟨_,_,rfl,fun _=>hf.2 ⟨by omega,Sj.1 hc⟩,fun _=>rfl⟩
 ·exact⟨_,_,rfl,fun h=>(Bool.noConfusion h),fun h=>absurd (Sj.2 (hf.1 h).2) hc⟩
 ·exact⟨_,_,rfl,fun h=>(Bool.noConfusion h),fun h=>absurd (hf.1 h).1 (by omega)⟩
theorem Ahf {N:List GN} {nn:Bool} {x:Int} (hN:N.length<2^62) (hi:incr (FY N)):Ar (Ae tab) 36 [.sl nn (vs GN.av N),.int .i64 x] (· =.bool (decide (x∈FY N))):=by
 refine Ad rfl rfl ?_
 (conv=>whnf);repeat' (first|(refine kA ?_;conv=>whnf)|(refine Br.mk (fun hc=>?_) fun hc=>?_<;>first|exact hc.elim|conv=>whnf)  |(refine kB ?_))
 refine Aa (bsearch hN hi) ?_
 rintro _ ⟨z,b,rfl,hb⟩
 (conv=>whnf);repeat' (first|(refine kA ?_;conv=>whnf)|(refine Br.mk (fun hc=>?_) fun hc=>?_<;>first|exact hc.elim|conv=>whnf)  |(refine kB ?_))
 ·exact Ce (hb.1 hc)
 ·exact Bf fun h=>by rw[hb.2 h]at hc;cases hc
def Hu (f:Nat→Int):Nat→Int
 |0=>0
 |n+1=>if Hu f n=0 then f n else Hu f n
theorem DU {f:Nat→Int}:∀{n:Nat},Hu f n=0↔∀k,k<n→f k=0
 |0=>by simp[Hu]
 |n+1=>by
  unfold Hu
  split
  ·rename_i h
   have:=DU.1 h
   refine⟨fun h0 k hk=>?_,fun h0=>h0 n (by omega)⟩
   rcases Nat.lt_or_ge k n with h1|h1
   ·exact this k h1
   ·obtain rfl:k=n:=by omega
    exact h0
  ·rename_i h
   exact⟨fun h0=>absurd h0 h,fun h0=>absurd (DU.2 fun k hk=>h0 k (by omega)) h⟩
theorem N8 {f:Nat→Int} {i:Nat} (h:∀k,k<i→f k=0) (hi:f i≠0):∀{n:Nat},i<n→Hu f n=f i
 |0,hn=>absurd hn (by omega)
 |n+1,hn=>by
  unfold Hu
  rcases Nat.lt_or_ge i n with h1|h1
  ·rw[N8 h hi h1,if_neg hi]
  ·obtain rfl:i=n:=by omega
   rw[if_pos (DU.2 h)]
noncomputable def EM (N:List GN) (nx:Int) (i:Nat):Int:=
 match N[i]? with
 |none=>0
 |some n=>if 0<i∧(∃ m,N[i-1]?=some m∧n.id≤m.id)then 26 else if n.id<1∨nx≤n.id then 1 else DJ n.labels n.props
noncomputable def EU (N:List GN) (E:List GE) (nx:Int) (i:Nat):Int:=
 match E[i]? with
 |none=>0
 |some e=>if 0<i∧(∃ m,E[i-1]?=some m∧e.id≤m.id)then 26 else if e.id<1∨nx≤e.id then 1 else if¬(e.fr∈FY N∧e.to∈FY N)then 10 else if¬isName e.ty then 6 else DJ [] e.props
theorem VU {N:List GN} {nx:Int} {i:Nat} (h:i<N.length) (h0:0<i) (h1:(N[i]).id≤(N[i-1]).id):EM N nx i=26:=by
 unfold EM;rw[List.getElem?_eq_getElem h];exact if_pos ⟨h0,_,List.getElem?_eq_getElem (by omega),h1⟩
theorem Xq {N:List GN} {i:Nat} (h:i<N.length) (h1:0<i→¬(N[i]).id≤(N[i-1]).id):¬(0<i∧∃m,N[i-1]?=some m∧(N[i]).id≤m.id):=by
 rintro⟨a,m,b,c⟩;rw[List.getElem?_eq_getElem (by omega)]at b;rw[← Option.some.inj b]at c;exact h1 a c
theorem node1 {N:List GN} {nx:Int} {i:Nat} (h:i<N.length) (h1:0<i→¬(N[i]).id≤(N[i-1]).id) (h2:(N[i]).id<1∨nx≤(N[i]).id):EM N nx i=1:=by
 unfold EM;rw[List.getElem?_eq_getElem h];dsimp only;rw[if_neg (Xq h h1),if_pos h2]
theorem Xr {N:List GN} {nx:Int} {i:Nat} (h:i<N.length) (h1:0<i→¬(N[i]).id≤(N[i-1]).id) (h2:¬((N[i]).id<1∨nx≤(N[i]).id)):EM N nx i=DJ (N[i]).labels (N[i]).props:=by
 unfold EM;rw[List.getElem?_eq_getElem h];dsimp only;rw[if_neg (Xq h h1),if_neg h2]
theorem Px {N:List GN} {nx:Int} {i:Nat} (h:i<N.length) (h0:EM N nx i=0):(0<i→(N[i-1]).id<(N[i]).id)∧1≤(N[i]).id∧(N[i]).id<nx∧DJ (N[i]).labels (N[i]).props=0:=by
 by_cases h1:0<i∧(N[i]).id≤(N[i-1]).id
 ·rw[VU h h1.1 h1.2]at h0;omega
 have h1':0<i→¬(N[i]).id≤(N[i-1]).id:=fun a b=>h1 ⟨a,b⟩
 by_cases h2:(N[i]).id<1∨nx≤(N[i]).id
 ·rw[node1 h h1' h2]at h0;omega
 rw[Xr h h1' h2]at h0
 exact⟨fun a=>by have:=h1' a;omega,by omega,by omega,h0⟩
theorem VW {N:List GN} {E:List GE} {nx:Int} {i:Nat} (h:i<E.length) (h0:0<i) (h1:(E[i]).id≤(E[i-1]).id):EU N E nx i=26:=by
 unfold EU;rw[List.getElem?_eq_getElem h];exact if_pos ⟨h0,_,List.getElem?_eq_getElem (by omega),h1⟩
theorem Py {E:List GE} {i:Nat} (h:i<E.length) (h1:0<i→¬(E[i]).id≤(E[i-1]).id):¬(0<i∧∃m,E[i-1]?=some m∧(E[i]).id≤m.id):=by
 rintro⟨a,m,b,c⟩;rw[List.getElem?_eq_getElem (by omega)]at b;rw[← Option.some.inj b]at c;exact h1 a c
theorem Zi {N:List GN} {E:List GE} {nx:Int} {i:Nat} (h:i<E.length) (h1:0<i→¬(E[i]).id≤(E[i-1]).id) (h2:(E[i]).id<1∨nx≤(E[i]).id):EU N E nx i=1:=by
 unfold EU;rw[List.getElem?_eq_getElem h];dsimp only;rw[if_neg (Py h h1),if_pos h2]
theorem VX {N:List GN} {E:List GE} {nx:Int} {i:Nat} (h:i<E.length) (h1:0<i→¬(E[i]).id≤(E[i-1]).id) (h2:¬((E[i]).id<1∨nx≤(E[i]).id)) (h3:¬((E[i]).fr∈FY N∧(E[i]).to∈FY N)):EU N E nx i=10:=by
 unfold EU;rw[List.getElem?_eq_getElem h];dsimp only;rw[if_neg (Py h h1),if_neg h2,if_pos h3]
theorem Zj {N:List GN} {E:List GE} {nx:Int} {i:Nat} (h:i<E.length) (h1:0<i→¬(E[i]).id≤(E[i-1]).id) (h2:¬((E[i]).id<1∨nx≤(E[i]).id)) (h3:(E[i]).fr∈FY N∧(E[i]).to∈FY N) (h4:¬isName (E[i]).ty):EU N E nx i=6:=by
 unfold EU;rw[List.getElem?_eq_getElem h];dsimp only;rw[if_neg (Py h h1),if_neg h2,if_neg (not_not_intro h3),if_pos h4]
theorem Xt {N:List GN} {E:List GE} {nx:Int} {i:Nat} (h:i<E.length) (h1:0<i→¬(E[i]).id≤(E[i-1]).id) (h2:¬((E[i]).id<1∨nx≤(E[i]).id)) (h3:(E[i]).fr∈FY N∧(E[i]).to∈FY N) (h4:isName (E[i]).ty):EU N E nx i=DJ [] (E[i]).props:=by
 unfold EU;rw[List.getElem?_eq_getElem h];dsimp only;rw[if_neg (Py h h1),if_neg h2,if_neg (not_not_intro h3),if_neg (not_not_intro h4)]
theorem Abr {N:List GN} {E:List GE} {nx:Int} {i:Nat} (h:i<E.length) (h0:EU N E nx i=0):(0<i→(E[i-1]).id<(E[i]).id)∧1≤(E[i]).id∧(E[i]).id<nx∧(E[i]).fr∈FY N∧(E[i]).to∈FY N∧isName (E[i]).ty∧DJ [] (E[i]).props=0:=by
 by_cases h1:0<i∧(E[i]).id≤(E[i-1]).id
 ·rw[VW h h1.1 h1.2]at h0;omega
 have h1':0<i→¬(E[i]).id≤(E[i-1]).id:=fun a b=>h1 ⟨a,b⟩
 by_cases h2:(E[i]).id<1∨nx≤(E[i]).id
 ·rw[Zi h h1' h2]at h0;omega
 by_cases h3:(E[i]).fr∈FY N∧(E[i]).to∈FY N
 case neg=>rw[VX h h1' h2 h3]at h0;omega
 by_cases h4:isName (E[i]).ty
 case neg=>rw[Zj h h1' h2 h3 h4]at h0;omega
 rw[Xt h h1' h2 h3 h4]at h0
 exact⟨fun a=>by have:=h1' a;omega,by omega,by omega,h3.1,h3.2,h4,h0⟩
def Fj (g:GG):Prop:=g.nodes.length≤2000∧g.edges.length≤4000
def F5 (g:GG):Prop:=1≤g.FI∧g.FI≤1000001∧1≤g.Hw∧g.Hw≤1000001
instance (g:GG):Decidable (Fj g):=by unfold Fj;infer_instance
instance (g:GG):Decidable (F5 g):=by unfold F5;infer_instance
noncomputable def Bg (g:GG):Int:=
 if¬Fj g then 4 else if¬F5 g then 1 else
  if Hu (EM g.nodes g.FI) g.nodes.length=0 then Hu (EU g.nodes g.edges g.Hw) g.edges.length else Hu (EM g.nodes g.FI) g.nodes.length
theorem Zk {g:GG} (h:¬Fj g):AV.int .i64 4=AV.int .i64 (Bg g):=by unfold Bg;rw[if_pos h]
theorem Zl {g:GG} (h:Fj g) (h1:¬F5 g):AV.int .i64 1=AV.int .i64 (Bg g):=by unfold Bg;rw[if_neg (not_not_intro h),if_pos h1]
theorem checkN {g:GG} (h:Fj g) (h1:F5 g) {i:Nat} (hi:i<g.nodes.length) (h2:∀k,k<i→EM g.nodes g.FI k=0) {r:Int} (h3:EM g.nodes g.FI i=r) (hr:r≠0):AV.int .i64 r=AV.int .i64 (Bg g):=by
 subst h3
 unfold Bg
 rw[if_neg (not_not_intro h),if_neg (not_not_intro h1),N8 h2 hr hi,if_neg hr]
theorem KO {g:GG} (h:Fj g) (h1:F5 g) (hn:∀k,k<g.nodes.length→EM g.nodes g.FI k=0) {i:Nat} (hi:i<g.edges.length) (h2:∀k,k<i→EU g.nodes g.edges g.Hw k=0) {r:Int} (h3:EU g.nodes g.edges g.Hw i=r) (hr:r≠0):AV.int .i64 r=AV.int .i64 (Bg g):=by
 subst h3
 unfold Bg
 rw[if_neg (not_not_intro h),if_neg (not_not_intro h1),if_pos (DU.2 hn),N8 h2 hr hi]
theorem Zm {g:GG} (h:Fj g) (h1:F5 g) (hn:∀k,k<g.nodes.length→EM g.nodes g.FI k=0) (h2:∀k,k<g.edges.length→EU g.nodes g.edges g.Hw k=0):AV.int .i64 0=AV.int .i64 (Bg g):=by
 unfold Bg
 rw[if_neg (not_not_intro h),if_neg (not_not_intro h1),if_pos (DU.2 hn),DU.2 h2]
theorem VY {N:List GN} {nx:Int} (h:∀k,k<N.length→EM N nx k=0):incr (FY N):=by
 intro j hj
 have hj':j+1<N.length:=by simpa using hj
 rw[KP (by omega),KP hj']
 exact(Px hj' (h _ hj')).1 (by omega)
theorem JX {g:GG} (h:Bg g=0):Fj g∧F5 g∧(∀ k,k<g.nodes.length→EM g.nodes g.FI k=0)∧∀k,k<g.edges.length→EU g.nodes g.edges g.Hw k=0:=by
 unfold Bg at h
 by_cases h1:Fj g
 case neg=>rw[if_pos h1]at h;omega
 by_cases h2:F5 g
 case neg=>rw[if_neg (not_not_intro h1),if_pos h2]at h;omega
 rw[if_neg (not_not_intro h1),if_neg (not_not_intro h2)]at h
 split at h
 ·rename_i h3
  exact⟨h1,h2,DU.1 h3,DU.1 h⟩
 ·rename_i h3;exact absurd h h3
attribute [irreducible] EM EU Bg Hu
theorem IG {f:Nat→Int} {i:Nat} (h:∀k,k<i→f k=0) (hi:f i=0):∀k,k<i+1→f k=0:=by
 intro k hk
 rcases Nat.lt_or_ge k i with h1|h1
 ·exact h k h1
 ·obtain rfl:k=i:=by omega
  exact hi
theorem Ad5 {n:GN} (h:n.ok):Ar (Ae tab) 35 [.sl n.ln (vs .str n.labels),.sl n.pn (vs GP.av n.props)] (· =.int .i64 (DJ n.labels n.props)):=
 ZK h.2.1 h.2.2.2.1 h.2.2.2.2.1 h.2.2.2.2.2.2
theorem Acp {n:GE} (h:n.ok):Ar (Ae tab) 35 [.sl false [],.sl n.pn (vs GP.av n.props)] (· =.int .i64 (DJ [] n.props)):=
 ZK (L:=[]) (by decide) (by simp) h.2.2.2.2.1 h.2.2.2.2.2.2
theorem Ad6 {g:GG} (hg:g.ok) (hf:Fj g) (hnx:F5 g) {c:Nat} {Q:A8→Env→Ai→Prop}
 (hret:∀r s,AV.int .i64 r=AV.int .i64 (Bg g)→Q .ret [(2,.int .i64 r)] s)
 (hend:(∀ k,k<g.nodes.length→EM g.nodes g.FI k=0)→∀c i,Q (.exit 0) [(1,.ref 0 0 0 0),(38,.sl g.nn (vs GN.av g.nodes)),(39,.int .i64 g.nodes.length),(40,.int .i64 i),(41,.bool false)] ⟨[.arr 0 4 true true [g.av]],c⟩):
 Run (Ae tab) (.loop l14_0_h l14_0_b) [(1,.ref 0 0 0 0),(38,.sl g.nn (vs GN.av g.nodes)),(39,.int .i64 g.nodes.length),(40,.int .i64 0)] ⟨[.arr 0 4 true true [g.av]],c⟩ Q:=by
 obtain⟨g1,g2,g3,g4,g5,g6,g7,g8⟩:=hg
 unfold Ln at g1 g4
 have hf':g.nodes.length≤2000:=hf.1
 refine Ah (fun m env s=>∃i:Nat,m=g.nodes.length-i∧env=[(1,.ref 0 0 0 0),(38,.sl g.nn (vs GN.av g.nodes)),(39,.int .i64 g.nodes.length),(40,.int .i64 i)]∧(∃ c,s=⟨[.arr 0 4 true true [g.av]],c⟩)∧∀k,k<i→EM g.nodes g.FI k=0) ?_ _ _ _ ⟨0,rfl,by simp,⟨_,rfl⟩,fun k h=>absurd h (by omega)⟩
 rintro _ _ _ ⟨i,rfl,rfl,⟨c,rfl⟩,hx⟩
 refine⟨rfl,?_⟩
 have hat:∀h:i<g.nodes.length,(g.nodes[i]).ok:=fun h=>g3 _ (List.getElem_mem _)
 (conv=>whnf);repeat' (first|(apply Am;(· exact nVz (i-1) (by omega) (by omega));conv=>whnf)|(refine Aa (Ad5 (n:=g.nodes[i]) (hat (by omega))) ?_;rintro _ rfl;conv=>whnf)|(refine hret _ _ ?_)|(refine hend (fun k hk=>hx k (by omega)) _ _)|(refine kA ?_;conv=>whnf)|(refine Br.mk (fun hc=>?_) fun hc=>?_<;>first|exact hc.elim|conv=>whnf)|(refine kB ?_))
 all_goals first
  |exact again.mk ⟨_,by omega,i+1,rfl,rfl,⟨_,rfl⟩,IG hx ((Xr (by omega) (fun h=>by first|assumption|omega) (by omega)).trans hc)⟩
  |exact checkN hf hnx (by omega) hx (VU (by omega) (by omega) (by assumption)) (by decide)
  |exact checkN hf hnx (by omega) hx (node1 (by omega) (fun h=>by first|assumption|omega) (by omega)) (by decide)
  |exact checkN hf hnx (by omega) hx (Xr (by omega) (fun h=>by first|assumption|omega) (by omega)) hc
set_option maxHeartbeats 1000000 in
theorem Ad7 {g:GG} (hg:g.ok) (hf:Fj g) (hnx:F5 g) (hN:∀k,k<g.nodes.length→EM g.nodes g.FI k=0) {c:Nat} {Q:A8→Env→Ai→Prop}
 (hret:∀r s,AV.int .i64 r=AV.int .i64 (Bg g)→Q .ret [(2,.int .i64 r)] s)
 (hend:(∀ k,k<g.edges.length→EU g.nodes g.edges g.Hw k=0)→∀c i,Q (.exit 2) [(1,.ref 0 0 0 0),(79,.sl g.en (vs GE.av g.edges)),(80,.int .i64 g.edges.length),(81,.int .i64 i),(82,.bool false)] ⟨[.arr 0 4 true true [g.av]],c⟩):
 Run (Ae tab) (.loop l14_1_h l14_1_b) [(1,.ref 0 0 0 0),(79,.sl g.en (vs GE.av g.edges)),(80,.int .i64 g.edges.length),(81,.int .i64 0)] ⟨[.arr 0 4 true true [g.av]],c⟩ Q:=by
 obtain⟨g1,g2,g3,g4,g5,g6,g7,g8⟩:=hg
 unfold Ln at g1 g4
 have hf':g.edges.length≤4000:=hf.2
 have hI:=VY hN
 have hl:g.nodes.length<2^62:=by have:=hf.1;omega
 refine Ah (fun m env s=>∃i:Nat,m=g.edges.length-i∧env=[(1,.ref 0 0 0 0),(79,.sl g.en (vs GE.av g.edges)),(80,.int .i64 g.edges.length),(81,.int .i64 i)]∧(∃ c,s=⟨[.arr 0 4 true true [g.av]],c⟩)∧∀k,k<i→EU g.nodes g.edges g.Hw k=0) ?_ _ _ _ ⟨0,rfl,by simp,⟨_,rfl⟩,fun k h=>absurd h (by omega)⟩
 rintro _ _ _ ⟨i,rfl,rfl,⟨c,rfl⟩,hx⟩
 refine⟨rfl,?_⟩
 have hat:∀h:i<g.edges.length,(g.edges[i]).ok:=fun h=>g6 _ (List.getElem_mem _)
 (conv=>whnf);repeat' (first|(apply Am;(· exact nVz (i-1) (by omega) (by omega));conv=>whnf)|(refine Dk (Ahf hl hI) (fun hc=>?_) (fun hc=>?_)<;>conv=>whnf)|(refine Dk (name1 (s:=(g.edges[i]).ty) (hat (by omega)).2.2.2.1) (fun hnm=>?_) (fun hnm=>?_)<;>conv=>whnf)|(refine Aa (Acp (n:=g.edges[i]) (hat (by omega))) ?_;rintro _ rfl;conv=>whnf)|(refine hret _ _ ?_)|(refine hend (fun k hk=>hx k (by omega)) _ _)|(refine kA ?_;conv=>whnf)|(refine Br.mk (fun hc=>?_) fun hc=>?_<;>first|exact hc.elim|conv=>whnf)|(refine kB ?_))
 all_goals first
  |exact again.mk ⟨_,by omega,i+1,rfl,rfl,⟨_,rfl⟩,IG hx ((Xt (by omega) (fun h=>by first|assumption|omega) (by omega) ⟨by assumption,by assumption⟩ hnm).trans hc)⟩
  |exact KO hf hnx hN (by omega) hx (VW (by omega) (by omega) (by assumption)) (by decide)
  |exact KO hf hnx hN (by omega) hx (Zi (by omega) (fun h=>by first|assumption|omega) (by omega)) (by decide)
  |exact KO hf hnx hN (by omega) hx (VX (by omega) (fun h=>by first|assumption|omega) (by omega) (fun h=>by first|exact absurd h.1 (by assumption)|exact absurd h.2 (by assumption))) (by decide)
  |exact KO hf hnx hN (by omega) hx (Zj (by omega) (fun h=>by first|assumption|omega) (by omega) ⟨by assumption,by assumption⟩ hnm) (by decide)
  |exact KO hf hnx hN (by omega) hx (Xt (by omega) (fun h=>by first|assumption|omega) (by omega) ⟨by assumption,by assumption⟩ hnm) hc
theorem TB {g:GG} (hg:g.ok):Ar (Ae tab) 14 [g.av] (· =.int .i64 (Bg g)):=by
 have hg0:=hg
 obtain⟨g1,g2,g3,g4,g5,g6,g7,g8⟩:=hg
 unfold Ln at g1 g4
 refine Ad rfl rfl ?_
 (conv=>whnf);repeat' (first|(refine kA ?_;conv=>whnf)|(refine Br.mk (fun hc=>?_) fun hc=>?_<;>first|exact hc.elim|conv=>whnf)  |(refine kB ?_))
 all_goals first|exact Zk (by unfold Fj;omega)|exact Zl (by unfold Fj;omega) (by unfold F5;omega)|skip
 have hf:Fj g:=by unfold Fj;omega
 have hnx:F5 g:=by unfold F5;omega
 refine Ad6 hg0 hf hnx (fun r s h=>by(conv=>whnf);(apply BO;(· rfl);conv=>whnf);(apply BO;(· rfl);conv=>whnf);exact h) (fun hN c i=>?_)
 (conv=>whnf);repeat' (first|(refine kA ?_;conv=>whnf)|(refine Br.mk (fun hc=>?_) fun hc=>?_<;>first|exact hc.elim|conv=>whnf)  |(refine kB ?_))
 refine Ad7 hg0 hf hnx hN (fun r s h=>by(conv=>whnf);(apply BO;(· rfl);conv=>whnf);(apply BO;(· rfl);conv=>whnf);exact h) (fun hE c i=>?_)
 (conv=>whnf);repeat' (first|(refine kA ?_;conv=>whnf)|(refine Br.mk (fun hc=>?_) fun hc=>?_<;>first|exact hc.elim|conv=>whnf)  |(refine kB ?_))
 exact Zm hf hnx hN hE
def AL (g:GG):List Int:=g.nodes.map GN.id
theorem CO (g:GG):(AL g).length=g.nodes.length:=by simp[AL]
theorem Io {g:GG} {i:Nat} (h:i<g.nodes.length):(AL g)[i]'(by rw[CO];exact h)=(g.nodes[i]).id:=by simp[AL]
theorem F6 {g:GG} {i:Nat} (h:i<g.nodes.length):(AL g).take (i+1)=(AL g).take i++[(g.nodes[i]).id]:=by
 rw[List.take_succ_eq_append_getElem (by rw[CO];exact h),Io h]
theorem Aa2 {l:List Int} (h:∀i (hi:i<l.length),0<i→l[i-1]<l[i]):l.Pairwise (· <·):=by
 rw[List.pairwise_iff_getElem]
 intro i j hi hj hij
 induction j with
 |zero=>omega
 |succ j ih=>
  have h1:=h (j+1) hj (by omega)
  simp only[Nat.add_sub_cancel]at h1
  by_cases e:i=j
  ·subst e;exact h1
  ·exact Int.lt_trans (ih (by omega) (by omega)) h1
theorem Tz {g:GG} (h:Bg g=0):(AL g).Pairwise (· <·):=Aa2 fun i hi h0=>by
 have hi':i<g.nodes.length:=by rw[← CO];exact hi
 rw[Io (by omega),Io hi']
 exact(Px hi' ((JX h).2.2.1 i hi')).1 h0
theorem PY {g:GG} (h:Bg g=0):(AL g).Nodup:=(Tz h).imp fun h=>by omega
theorem Aco {g:GG} (h:Bg g=0):∀y∈AL g,1≤y:=fun y hy=>by
 obtain⟨i,hi,rfl⟩:=List.getElem_of_mem hy
 have hi':i<g.nodes.length:=by rw[← CO];exact hi
 rw[Io hi']
 exact(Px hi' ((JX h).2.2.1 i hi')).2.1
theorem IY {g:GG} (h:Bg g=0):∀e∈g.edges,e.fr∈AL g∧e.to∈AL g:=fun e he=>by
 obtain⟨i,hi,rfl⟩:=List.getElem_of_mem he
 have:=Abr hi ((JX h).2.2.2 i hi)
 exact⟨this.2.2.2.1,this.2.2.2.2.1⟩
def BH (types:List (List UInt8)) (g:GG):List (Int×Int):=(CG types g).map fun e=>(e.fr,e.to)
def O6 (types:List (List UInt8)) (g:GG):List (Int×Int):=FD (AL g) (BH types g)
theorem newF {Lp:Obj} {c:Nat}:BL (Ae tab) 25 [] ⟨[Lp],c⟩ fun out s'=>∃c',out=.ok (.ref 2 (c+1) 0 0)∧s'=⟨Ur Lp c (c+1) [] (fun z=>z) [],c'⟩:=by
 refine BI rfl rfl ?_
 (conv=>whnf);repeat' (first  |(refine kA ?_;conv=>whnf)|(refine Br.mk (fun hc=>?_) fun hc=>?_<;>first|exact hc.elim|conv=>whnf)|(refine kB ?_))
 all_goals first|exact⟨_,rfl,rfl⟩
theorem IE {x:Int}:Gm (.int .i64 x) (.int .i64 x)=true:=by simp[Gm]
set_option maxHeartbeats 2000000 in
theorem Afy {types:List (List UInt8)} {tn:Bool} (hl:types.length<2^63) {g:GG} (hg:g.ok) (hN:g.nodes.length<2^39) (hE:g.edges.length<2^39):
 Ar (Ae tab) 10 [g.av,.sl tn (vs .str types)] (fun v=>∃b,v=.sl b (vs pv (if Bg g=0 then O6 types g else[]))∧(b=false→(if Bg g=0 then O6 types g else[])=[])):=by
 have pc:=TB hg
 by_cases hc:Bg g=0
 case neg=>
  rw[if_neg hc]
  refine Ad rfl rfl ?_
  (conv=>whnf);repeat' (first|(refine Aa pc ?_;rintro _ rfl;conv=>whnf)|(refine kA ?_;conv=>whnf)|(refine Br.mk (fun hc=>?_) fun hc=>?_<;>first|exact hc.elim|conv=>whnf)|(refine kB ?_))
  all_goals first|exact absurd ‹_› hc|exact⟨false,rfl,fun _=>rfl⟩
 rw[if_pos hc]
 rw[hc]at pc
 obtain⟨_,⟨be,rfl⟩,pe⟩:=(WM (types:=types) (tn:=tn) hl hg hE).Ob
 have hnd:=PY hc
 have hpos:=Aco hc
 have Dx:=IY hc
 refine Ad rfl rfl ?_
 (conv=>whnf);repeat' (first|(refine Aa pc ?_;rintro _ rfl;conv=>whnf)|(refine (newF).mono ?_;rintro _ _ ⟨c',rfl,rfl⟩;conv=>whnf)|(refine kA ?_;conv=>whnf)|(refine Br.mk (fun hc=>?_) fun hc=>?_<;>first|exact hc.elim|conv=>whnf)|(refine kB ?_))
 all_goals first|(exfalso;omega)|skip
 refine Ah (fun m env s=>∃(i c:Nat),m=g.nodes.length-i∧env=[(1,.sl tn (vs .str types)),(2,.ref 0 0 0 0),(5,.ref 2 2 0 0),(18,.sl g.nn (vs GN.av g.nodes)),(19,.int .i64 g.nodes.length),(20,.int .i64 i)]∧s=⟨Ur (.arr 0 4 true true [g.av]) 1 2 ((AL g).take i) (fun z=>z) [],c⟩) ?_ _ _ _ ⟨0,_,rfl,rfl,rfl⟩
 rintro _ _ _ ⟨i,c,rfl,rfl,rfl⟩
 refine⟨rfl,?_⟩
 unfold Ur
 by_cases hlt:i<g.nodes.length
 ·have hx:(g.nodes[i]).id∉(AL g).take i:=by
   have h1:=F6 hlt
   have h2:=hnd.sublist (List.take_sublist (i+1) (AL g))
   rw[h1,List.nodup_append]at h2
   exact fun hm=>h2.2.2 _ hm _ (by simp) rfl
  (conv=>whnf);repeat' (first|(refine (AfA hx).mono ?_;rintro _ _ ⟨c',rfl,rfl⟩;conv=>whnf)|(refine kA ?_;conv=>whnf)|(refine Br.mk (fun hc=>?_) fun hc=>?_<;>first|exact hc.elim|conv=>whnf)|(refine kB ?_))
  all_goals first
   |(exfalso;omega)
   |(rw [← F6 hlt];exact again.mk ⟨_,by omega,i+1,_,rfl,rfl,rfl⟩)
 rw[List.take_of_length_le (by rw[CO];omega)]
 (conv=>whnf);repeat' (first|(refine Aa pe ?_;rintro _ rfl;conv=>whnf)|(refine kA ?_;conv=>whnf)|(refine Br.mk (fun hc=>?_) fun hc=>?_<;>first|exact hc.elim|conv=>whnf)|(refine kB ?_))
 all_goals first|(exfalso;omega)|skip
 refine Ah (fun m env s=>∃(i c:Nat) (p r:Int→Int),m=(CG types g).length-i∧CY (AL g) p r∧Aj (AL g) r=FD (AL g) ((BH types g).take i)∧env=[(2,.ref 0 0 0 0),(5,.ref 2 2 0 0),(31,.sl be (vs GE.av (CG types g))),(32,.int .i64 (CG types g).length),(33,.int .i64 i)]∧s=⟨Ur (.arr 0 4 true true [g.av]) 1 2 (AL g) p [],c⟩) ?_ _ _ _ ⟨0,_,_,_,rfl,.start _,rfl,rfl,rfl⟩
 rintro _ _ _ ⟨i,c,p,r,rfl,hF,hr,rfl,rfl⟩
 refine⟨rfl,?_⟩
 unfold Ur
 have hEl:(CG types g).length≤g.edges.length:=List.length_filter_le _ _
 by_cases hlt:i<(CG types g).length
 ·obtain⟨ha,hb⟩:=Dx _ (List.mem_filter.1 (List.getElem_mem hlt)).1
  have hstep:Aj (AL g) (fun c=>(Ez (r ((CG types g)[i]).fr) (r ((CG types g)[i]).to) (c,r c)).2)=FD (AL g) ((BH types g).take (i+1)):=by
   rw[List.take_succ_eq_append_getElem (by simpa[BH]using hlt),QW,←hr]
   have e1:(BH types g)[i]'(by simpa[BH]using hlt)=(((CG types g)[i]).fr,((CG types g)[i]).to):=by simp[BH]
   rw[e1]
   exact(Uk ha hb).symm
  (conv=>whnf);repeat' (first|(refine (Ahe hF hnd hpos ha hb).mono ?_;rintro _ _ ⟨c',p',hF',rfl,rfl⟩;conv=>whnf)|(refine kA ?_;conv=>whnf)|(refine Br.mk (fun hc=>?_) fun hc=>?_<;>first|exact hc.elim|conv=>whnf)|(refine kB ?_))
  all_goals first
   |(exfalso;omega)
   |exact again.mk ⟨_,by omega,i+1,_,_,_,rfl,by assumption,hstep,rfl,rfl⟩
 rw[List.take_of_length_le (by simp[BH];omega)]at hr
 (conv=>whnf);repeat' (first  |(refine kA ?_;conv=>whnf)|(refine Br.mk (fun hc=>?_) fun hc=>?_<;>first|exact hc.elim|conv=>whnf)|(refine kB ?_))
 all_goals first|(exfalso;omega)|skip
 have hLl:(Aj (AL g) r).length=g.nodes.length:=by simp[Aj,AL]
 refine Ah (fun m env s=>∃(i c ga n:Nat) (b:Bool) (p:Int→Int),m=g.nodes.length-i∧i≤g.nodes.length∧n=i∧(b=false→i=0)∧CY (AL g) p r∧env=[(5,.ref 2 2 0 0),(10,.own 3 ga 0 n),(45,.sl g.nn (vs GN.av g.nodes)),(46,.int .i64 g.nodes.length),(47,.int .i64 i)]∧s=⟨Ur (.arr 0 4 true true [g.av]) 1 2 (AL g) p [.arr ga 2 b true (vs pv ((Aj (AL g) r).take i))],c⟩) ?_ _ _ _ ⟨0,_,_,_,_,p,rfl,by omega,rfl,fun _=>rfl,hF,rfl,rfl⟩
 have Dx:=hr
 clear hF hc hlt hr
 rintro _ _ _ ⟨i,c,ga,n,b,p,rfl,hi,rfl,hb0,hF,rfl,rfl⟩
 refine⟨rfl,?_⟩
 unfold Ur
 by_cases hlt:n<g.nodes.length
 ·have hx:(g.nodes[n]).id∈AL g:=List.mem_map_of_mem (List.getElem_mem hlt)
  have hsn:(Aj (AL g) r).take (n+1)=(Aj (AL g) r).take n++[((g.nodes[n]).id,r (g.nodes[n]).id)]:=by
   rw[List.take_succ_eq_append_getElem (by omega)]
   simp[Aj,AL]
  have htl:((Aj (AL g) r).take n).length=n:=by rw[List.length_take];omega
  (conv=>whnf);repeat' (first|(refine need.mk IE ?_;conv=>whnf)|(refine (Ad4 hF hnd hpos hx).mono ?_;rintro _ _ ⟨c',p',hF',rfl,rfl⟩;conv=>whnf)|(refine LG (f:=pv) (l:=(Aj (AL g) r).take n) (x:=((g.nodes[n]).id,r (g.nodes[n]).id)) Ip htl.symm (by rw[htl];omega) ?_;conv=>whnf)|(refine kA ?_;conv=>whnf)|(refine Br.mk (fun hc=>?_) fun hc=>?_<;>first|exact hc.elim|conv=>whnf)|(refine kB ?_))
  all_goals first
   |(exfalso;omega)
   |(rw [← hsn];exact again.mk ⟨_,by omega,n+1,_,_,_,_,_,rfl,by omega,by omega,(fun h=>by cases h),by assumption,rfl,rfl⟩)
 ·rw[List.take_of_length_le (by omega)]
  (conv=>whnf);repeat' (first  |(refine kA ?_;conv=>whnf)|(refine Br.mk (fun hc=>?_) fun hc=>?_<;>first|exact hc.elim|conv=>whnf)|(refine kB ?_))
  all_goals first
   |(exfalso;omega)
   |exact⟨b,congrArg (AV.sl b) ((TA (by omega)).trans (congrArg (vs pv) Dx)),fun h=>by
     have h1:=hb0 h
     have h2:(O6 types g).length=0:=by rw[show O6 types g=Aj (AL g) r from Dx.symm];omega
     exact List.eq_nil_of_length_eq_zero h2⟩
def GU (es:List (Int×Int)) (out:List Int) (k:Int):Nat:=es.countP fun e=>decide (e.2=k∧e.1∉out)
def Gy (es:List (Int×Int)) (out:List Int) (k:Int):Prop:=∀e∈es,e.2=k→e.1∈out
instance (es:List (Int×Int)) (out:List Int) (k:Int):Decidable (Gy es out k):=by unfold Gy;infer_instance
theorem Ye (es:List (Int×Int)) (out:List Int) (k:Int):GU es out k=0↔Gy es out k:=by
 unfold GU Gy
 rw[List.countP_eq_zero]
 refine⟨fun h e he hk=>?_,fun h e he hc=>?_⟩
 ·have:=h e he
  simp only[decide_eq_true_eq,not_and,Classical.not_not]at this
  exact this hk
 ·obtain⟨h1,h2⟩:=of_decide_eq_true hc
  exact h2 (h e he h1)
def leftB (ids out:List Int):List Int:=ids.filter fun k=>decide (k∉out)
def IW (ids:List Int) (es:List (Int×Int)) (out:List Int):Option Int:=ids.find? fun k=>decide (k∉out∧Gy es out k)
theorem VZ (ids:List Int) (es:List (Int×Int)) (out:List Int):IW ids es out=(leftB ids out).find? fun k=>decide (GU es out k=0):=by
 unfold IW leftB
 rw[List.find?_filter]
 congr 1
 funext k
 simp[Ye]
def Ik (ids:List Int) (es:List (Int×Int)):Nat→List Int→Option (List Int)
 |0,out=>some out
 |n+1,out=>match IW ids es out with
  |some k=>Ik ids es n (out++[k])
  |none=>none
def JY (ids:List Int) (es:List (Int×Int)):Option (List Int):=Ik ids es ids.length []
theorem LC {ids:List Int} {es:List (Int×Int)} {out:List Int} {k:Int} (h:IW ids es out=some k):k∈ids∧k∉out∧Gy es out k:=by
 unfold IW at h
 have h1:=List.find?_some h
 exact⟨List.mem_of_find?_eq_some h,of_decide_eq_true h1⟩
def Xu (es:List (Int×Int)) (out:List Int):Prop:=∀e∈es,e.2∈out→e.1∈out
theorem Yf (es:List (Int×Int)):Xu es []:=fun e _ h=>by cases h
theorem V3 {es:List (Int×Int)} {out:List Int} {k:Int} (h:Xu es out) (hk:Gy es out k):Xu es (out++[k]):=fun e he h2=>by
 rcases List.mem_append.1 h2 with h2|h2
 ·exact List.mem_append_left _ (h e he h2)
 ·exact List.mem_append_left _ (hk e he (List.mem_singleton.1 h2))
theorem V4 (ids out:List Int) (k:Int):leftB ids (out++[k])=(leftB ids out).filter fun x=>decide (x≠k):=by
 unfold leftB
 rw[List.filter_filter]
 congr 1
 funext x
 by_cases h1:x∈out<;>by_cases h2:x=k<;>simp[h1,h2]
theorem Rz {ids out:List Int} (hnd:ids.Nodup) (ho:out.Nodup) (hs:∀x∈out,x∈ids):(leftB ids out).length+out.length=ids.length:=by
 have h1:(ids.filter fun k=>decide (k∈out)).Perm out:=by
  refine(List.perm_ext_iff_of_nodup (hnd.filter _) ho).2 fun x=>?_
  simp only[List.mem_filter,decide_eq_true_eq]
  exact⟨fun h=>h.2,fun h=>⟨hs x h,h⟩⟩
 have h2:ids.countP (fun k=>decide (k∈out))+ids.countP (fun k=>!decide (k∈out))=ids.length:=by
  rw[List.length_eq_countP_add_countP (fun k=>decide (k∈out)) (l:=ids)]
  congr 2
  funext k
  by_cases h:k∈out<;>simp[h]
 have h3:leftB ids out=ids.filter fun k=>!decide (k∈out):=by
  unfold leftB
  congr 1
  funext k
  by_cases h:k∈out<;>simp[h]
 rw[h3,←List.countP_eq_length_filter,←h1.length_eq,←List.countP_eq_length_filter]
 omega
theorem Yg (es:List (Int×Int)) {out:List Int} {k:Int} (hk:k∉out) (x:Int):GU es (out++[k]) x+es.countP (fun e=>decide (e.2=x∧e.1=k))=GU es out x:=by
 induction es with
 |nil=>rfl
 |cons e es ih=>
  have c1:∀o:List Int,GU (e::es) o x=GU es o x+if e.2=x∧e.1∉o then 1 else 0:=fun o=>by
   unfold GU
   rw[List.countP_cons]
   congr 1
   by_cases h:e.2=x∧e.1∉o
   ·rw[if_pos h,if_pos (decide_eq_true h)]
   ·rw[if_neg h,if_neg (by simpa using h)]
  have c2:(e::es).countP (fun e=>decide (e.2=x∧e.1=k))=es.countP (fun e=>decide (e.2=x∧e.1=k))+if e.2=x∧e.1=k then 1 else 0:=by
   rw[List.countP_cons]
   congr 1
   by_cases h:e.2=x∧e.1=k
   ·rw[if_pos h,if_pos (decide_eq_true h)]
   ·rw[if_neg h,if_neg (by simpa using h)]
  rw[c1,c1,c2]
  by_cases h1:e.2=x
  ·by_cases h2:e.1=k
   ·rw[if_neg (fun h=>h.2 (by rw[h2];simp)),if_pos ⟨h1,h2⟩,if_pos ⟨h1,by rw[h2];exact hk⟩];omega
   ·by_cases h3:e.1∈out
    ·rw[if_neg (fun h=>h.2 (List.mem_append_left _ h3)),if_neg (fun h=>h2 h.2),if_neg (fun h=>h.2 h3)];omega
    ·rw[if_pos ⟨h1,by simp[h2,h3]⟩,if_neg (fun h=>h2 h.2),if_pos ⟨h1,h3⟩];omega
  ·rw[if_neg (fun h=>h1 h.1),if_neg (fun h=>h1 h.1),if_neg (fun h=>h1 h.1)];omega
end AI
end Go.Proofs.YtjjhejbffgaabaaGreatDoor
