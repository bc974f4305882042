/- Names in a list, increasing strings, labels and properties. What is wrong with labels and properties. Looking for a node among increasing ids. graph.Check: the first error of a graph. -/
import Derived.Test.YthjeehjphekjmaaGreatDoorSMai
import Derived.Test.YthjeehjphekjmaaGreatDoorSMab
set_option linter.unusedVariables false
set_option maxRecDepth 4000
namespace Go.Proofs.YthjeehjphekjmaaGreatDoor
namespace AI
def allNames (l:List (List UInt8)):Prop:=∀s∈l,isName s
noncomputable instance (l:List (List UInt8)):Decidable (allNames l):=Classical.propDecidable _
def rises (l:List (List UInt8)):Prop:=∀j (h:j+1<l.length),(Op.bytesLess l[j+1] l[j]||l[j+1]==l[j])=false
noncomputable instance (l:List (List UInt8)):Decidable (rises l):=Classical.propDecidable _
theorem Zv {l:List (List UInt8)} {nn:Bool} (hl:l.length<2^63) (hs:∀s∈l,s.length<2^63):Au (Ac tab) 128 [.sl nn (vs .str l)] (· =.bool (decide (allNames l))):=by
 refine Af rfl rfl ?_
 (conv=>whnf);repeat' (first|(refine kA ?_;conv=>whnf)|(refine Br.mk (fun hc=>?_) fun hc=>?_<;>first|exact hc.elim|conv=>whnf)  |(refine kB ?_))
 refine Ae (fun m env s=>∃i:Nat,m=l.length-i∧env=[(0,.sl nn (vs .str l)),(3,.int .i64 i)]∧s=⟨[],0⟩∧∀s∈l.take i,isName s) ?_ _ _ _ ⟨0,rfl,rfl,rfl,by simp⟩
 rintro _ _ _ ⟨i,rfl,rfl,rfl,hx⟩
 refine⟨rfl,?_⟩
 (conv=>whnf);repeat' (first|(refine kA ?_;conv=>whnf)|(refine Br.mk (fun hc=>?_) fun hc=>?_<;>first|exact hc.elim|conv=>whnf)|(refine EJ (name2 (hs _ (List.getElem_mem (by omega)))) (fun hr=>?_) (fun hr=>?_)<;>conv=>whnf)|(refine kB ?_))
 ·exact again.mk ⟨_,by omega,i+1,rfl,rfl,rfl,FZ (by omega) hx hr⟩
 ·exact BU fun h=>hr (h _ (List.getElem_mem _))
 ·rw[Ik hc]at hx;exact Dk hx
theorem Zw {l:List (List UInt8)} {nn:Bool} (hl:l.length<2^63):Au (Ac tab) 129 [.sl nn (vs .str l)] (· =.bool (decide (rises l))):=by
 refine Af rfl rfl ?_
 (conv=>whnf);repeat' (first|(refine kA ?_;conv=>whnf)|(refine Br.mk (fun hc=>?_) fun hc=>?_<;>first|exact hc.elim|conv=>whnf)  |(refine kB ?_))
 refine Ae (fun m env s=>∃i:Nat,m=l.length-i∧env=[(0,.sl nn (vs .str l)),(3,.int .i64 (i+1:Nat))]∧s=⟨[],0⟩∧∀j (h:j+1<l.length),j<i→(Op.bytesLess l[j+1] l[j]||l[j+1]==l[j])=false) ?_ _ _ _ ⟨0,rfl,rfl,rfl,fun j _ h=>absurd h (by omega)⟩
 rintro _ _ _ ⟨i,rfl,rfl,rfl,hx⟩
 refine⟨rfl,?_⟩
 (conv=>whnf);repeat' (first|(refine kA ?_;conv=>whnf)|(refine Br.mk (fun hc=>?_) fun hc=>?_<;>first|exact hc.elim|conv=>whnf)|(apply AU;(· exact nVz i (by omega) (by omega));conv=>whnf)|(refine kB ?_))
 ·exact BU fun h=>by simp only[show (((i+1:Nat):Int)-1).toNat=i by omega]at hc;rw[h i (by omega)]at hc;cases hc
 ·simp only[show (((i+1:Nat):Int)-1).toNat=i by omega]at hc
  exact again.mk ⟨_,by omega,i+1,rfl,rfl,rfl,fun j h hj=>by
   by_cases e:j=i
   ·subst e;simpa using hc
   ·exact hx j h (by omega)⟩
 ·exact Dk fun j h=>hx j h (by omega)
def keysOf (P:List GP):List (List UInt8):=P.map GP.key
@[simp] theorem VL (P:List GP):(keysOf P).length=P.length:=by simp[keysOf]
theorem XH {P:List GP} (hp:∀p∈P,p.ok):∀s∈keysOf P,s.length<2^63:=by
 intro s h
 obtain⟨p,h1,rfl⟩:=List.mem_map.1 h
 exact(hp p h1).1
theorem UJ {P:List GP} {i:Nat} (h:i<P.length):keysOf (P.take i)++[(P[i]).key]=keysOf (P.take (i+1)):=by
 rw[List.take_succ_eq_append_getElem h];unfold keysOf;rw[List.map_append];rfl
def allPlain (P:List GP):Prop:=∀p∈P,Gs p.v
noncomputable instance (P:List GP):Decidable (allPlain P):=Classical.propDecidable _
noncomputable def Ei (L:List (List UInt8)) (P:List GP):Int:=
 if 8<L.length∨16<P.length then 4 else if¬(allNames L∧allNames (keysOf P))then 6 else if¬(rises L∧rises (keysOf P))then 26 else if¬allPlain P then 8 else 0
theorem Xd {L:List (List UInt8)} {P:List GP} (h:8<L.length∨16<P.length):AV.int .i64 4=AV.int .i64 (Ei L P):=by rw[Ei,if_pos h]
theorem Xe {L:List (List UInt8)} {P:List GP} (h:¬(8<L.length∨16<P.length)) (h1:¬(allNames L∧allNames (keysOf P))):AV.int .i64 6=AV.int .i64 (Ei L P):=by rw[Ei,if_neg h,if_pos h1]
theorem UK {L:List (List UInt8)} {P:List GP} (h:¬(8<L.length∨16<P.length)) (h1:allNames L∧allNames (keysOf P)) (h2:¬(rises L∧rises (keysOf P))):AV.int .i64 26=AV.int .i64 (Ei L P):=by rw[Ei,if_neg h,if_neg (not_not_intro h1),if_pos h2]
theorem AaV {L:List (List UInt8)} {P:List GP} (h:¬(8<L.length∨16<P.length)) (h1:allNames L∧allNames (keysOf P)) (h2:rises L∧rises (keysOf P)) (h3:¬allPlain P):AV.int .i64 8=AV.int .i64 (Ei L P):=by rw[Ei,if_neg h,if_neg (not_not_intro h1),if_neg (not_not_intro h2),if_pos h3]
theorem AaW {L:List (List UInt8)} {P:List GP} (h:¬(8<L.length∨16<P.length)) (h1:allNames L∧allNames (keysOf P)) (h2:rises L∧rises (keysOf P)) (h3:allPlain P):AV.int .i64 0=AV.int .i64 (Ei L P):=by rw[Ei,if_neg h,if_neg (not_not_intro h1),if_neg (not_not_intro h2),if_neg (not_not_intro h3)]
attribute [irreducible] Ei
def incr (l:List Int):Prop:=∀j (h:j+1<l.length),l[j]<l[j+1]
noncomputable instance (l:List Int):Decidable (incr l):=Classical.propDecidable _
def Jf (N:List GN):List Int:=N.map GN.id
def Aev (E:List GE):List Int:=E.map GE.id
@[simp] theorem Aew (N:List GN):(Jf N).length=N.length:=by simp[Jf]
@[simp] theorem Aex (N:List GE):(Aev N).length=N.length:=by simp[Aev]
def Ho (f:Nat→Int):Nat→Int
 |0=>0
 |n+1=>if Ho f n=0 then f n else Ho f n
theorem DI {f:Nat→Int}:∀{n:Nat},Ho f n=0↔∀k,k<n→f k=0
 |0=>by simp[Ho]
 |n+1=>by
  unfold Ho
  split
  ·rename_i h
   have:=DI.1 h
   refine⟨fun h0 k hk=>?_,fun h0=>h0 n (by omega)⟩
   rcases Nat.lt_or_ge k n with h1|h1
   ·exact this k h1
   ·obtain rfl:k=n:=by omega
    exact h0
  ·rename_i h
   exact⟨fun h0=>absurd h0 h,fun h0=>absurd (DI.2 fun k hk=>h0 k (by omega)) h⟩
theorem NH {f:Nat→Int} {i:Nat} (h:∀k,k<i→f k=0) (hi:f i≠0):∀{n:Nat},i<n→Ho f n=f i
 |0,hn=>absurd hn (by omega)
 |n+1,hn=>by
  unfold Ho
  rcases Nat.lt_or_ge i n with h1|h1
  ·rw[NH h hi h1,if_neg hi]
  ·obtain rfl:i=n:=by omega
   rw[if_pos (DI.2 h)]
noncomputable def Gh (N:List GN) (nx:Int) (i:Nat):Int:=
 match N[i]? with
 |none=>0
 |some n=>if 0<i∧(∃ m,N[i-1]?=some m∧n.id≤m.id)then 26 else if n.id<1∨nx≤n.id then 1 else Ei n.labels n.props
noncomputable def FB (N:List GN) (E:List GE) (nx:Int) (i:Nat):Int:=
 match E[i]? with
 |none=>0
 |some e=>if 0<i∧(∃ m,E[i-1]?=some m∧e.id≤m.id)then 26 else if e.id<1∨nx≤e.id then 1 else if¬(e.fr∈Jf N∧e.to∈Jf N)then 10 else if¬isName e.ty then 6 else Ei [] e.props
theorem AcN {N:List GN} {nx:Int} {i:Nat} (h:i<N.length) (h0:0<i) (h1:(N[i]).id≤(N[i-1]).id):Gh N nx i=26:=by
 unfold Gh;rw[List.getElem?_eq_getElem h];exact if_pos ⟨h0,_,List.getElem?_eq_getElem (by omega),h1⟩
theorem W9 {N:List GN} {i:Nat} (h:i<N.length) (h1:0<i→¬(N[i]).id≤(N[i-1]).id):¬(0<i∧∃m,N[i-1]?=some m∧(N[i]).id≤m.id):=by
 rintro⟨a,m,b,c⟩;rw[List.getElem?_eq_getElem (by omega)]at b;rw[← Option.some.inj b]at c;exact h1 a c
theorem node1 {N:List GN} {nx:Int} {i:Nat} (h:i<N.length) (h1:0<i→¬(N[i]).id≤(N[i-1]).id) (h2:(N[i]).id<1∨nx≤(N[i]).id):Gh N nx i=1:=by
 unfold Gh;rw[List.getElem?_eq_getElem h];dsimp only;rw[if_neg (W9 h h1),if_pos h2]
theorem Aey {N:List GN} {nx:Int} {i:Nat} (h:i<N.length) (h1:0<i→¬(N[i]).id≤(N[i-1]).id) (h2:¬((N[i]).id<1∨nx≤(N[i]).id)):Gh N nx i=Ei (N[i]).labels (N[i]).props:=by
 unfold Gh;rw[List.getElem?_eq_getElem h];dsimp only;rw[if_neg (W9 h h1),if_neg h2]
theorem Y3 {N:List GN} {E:List GE} {nx:Int} {i:Nat} (h:i<E.length) (h0:0<i) (h1:(E[i]).id≤(E[i-1]).id):FB N E nx i=26:=by
 unfold FB;rw[List.getElem?_eq_getElem h];exact if_pos ⟨h0,_,List.getElem?_eq_getElem (by omega),h1⟩
theorem OE {E:List GE} {i:Nat} (h:i<E.length) (h1:0<i→¬(E[i]).id≤(E[i-1]).id):¬(0<i∧∃m,E[i-1]?=some m∧(E[i]).id≤m.id):=by
 rintro⟨a,m,b,c⟩;rw[List.getElem?_eq_getElem (by omega)]at b;rw[← Option.some.inj b]at c;exact h1 a c
theorem AbH {N:List GN} {E:List GE} {nx:Int} {i:Nat} (h:i<E.length) (h1:0<i→¬(E[i]).id≤(E[i-1]).id) (h2:(E[i]).id<1∨nx≤(E[i]).id):FB N E nx i=1:=by
 unfold FB;rw[List.getElem?_eq_getElem h];dsimp only;rw[if_neg (OE h h1),if_pos h2]
theorem Y4 {N:List GN} {E:List GE} {nx:Int} {i:Nat} (h:i<E.length) (h1:0<i→¬(E[i]).id≤(E[i-1]).id) (h2:¬((E[i]).id<1∨nx≤(E[i]).id)) (h3:¬((E[i]).fr∈Jf N∧(E[i]).to∈Jf N)):FB N E nx i=10:=by
 unfold FB;rw[List.getElem?_eq_getElem h];dsimp only;rw[if_neg (OE h h1),if_neg h2,if_pos h3]
theorem AbI {N:List GN} {E:List GE} {nx:Int} {i:Nat} (h:i<E.length) (h1:0<i→¬(E[i]).id≤(E[i-1]).id) (h2:¬((E[i]).id<1∨nx≤(E[i]).id)) (h3:(E[i]).fr∈Jf N∧(E[i]).to∈Jf N) (h4:¬isName (E[i]).ty):FB N E nx i=6:=by
 unfold FB;rw[List.getElem?_eq_getElem h];dsimp only;rw[if_neg (OE h h1),if_neg h2,if_neg (not_not_intro h3),if_pos h4]
theorem AbJ {N:List GN} {E:List GE} {nx:Int} {i:Nat} (h:i<E.length) (h1:0<i→¬(E[i]).id≤(E[i-1]).id) (h2:¬((E[i]).id<1∨nx≤(E[i]).id)) (h3:(E[i]).fr∈Jf N∧(E[i]).to∈Jf N) (h4:isName (E[i]).ty):FB N E nx i=Ei [] (E[i]).props:=by
 unfold FB;rw[List.getElem?_eq_getElem h];dsimp only;rw[if_neg (OE h h1),if_neg h2,if_neg (not_not_intro h3),if_neg (not_not_intro h4)]
theorem AaG {N:List GN} {E:List GE} {nx:Int} {i:Nat} (h:i<E.length) (h0:FB N E nx i=0):(0<i→(E[i-1]).id<(E[i]).id)∧1≤(E[i]).id∧(E[i]).id<nx∧(E[i]).fr∈Jf N∧(E[i]).to∈Jf N∧isName (E[i]).ty∧Ei [] (E[i]).props=0:=by
 by_cases h1:0<i∧(E[i]).id≤(E[i-1]).id
 ·rw[Y3 h h1.1 h1.2]at h0;omega
 have h1':0<i→¬(E[i]).id≤(E[i-1]).id:=fun a b=>h1 ⟨a,b⟩
 by_cases h2:(E[i]).id<1∨nx≤(E[i]).id
 ·rw[AbH h h1' h2]at h0;omega
 by_cases h3:(E[i]).fr∈Jf N∧(E[i]).to∈Jf N
 case neg=>rw[Y4 h h1' h2 h3]at h0;omega
 by_cases h4:isName (E[i]).ty
 case neg=>rw[AbI h h1' h2 h3 h4]at h0;omega
 rw[AbJ h h1' h2 h3 h4]at h0
 exact⟨fun a=>by have:=h1' a;omega,by omega,by omega,h3.1,h3.2,h4,h0⟩
def HY (g:GG):Prop:=g.nodes.length≤2000∧g.edges.length≤4000
def Jt (g:GG):Prop:=1≤g.GU∧g.GU≤1000001∧1≤g.Jq∧g.Jq≤1000001
instance (g:GG):Decidable (HY g):=by unfold HY;infer_instance
instance (g:GG):Decidable (Jt g):=by unfold Jt;infer_instance
noncomputable def Ej (g:GG):Int:=
 if¬HY g then 4 else if¬Jt g then 1 else
  if Ho (Gh g.nodes g.GU) g.nodes.length=0 then Ho (FB g.nodes g.edges g.Jq) g.edges.length else Ho (Gh g.nodes g.GU) g.nodes.length
theorem AcO {g:GG} (h:¬HY g):AV.int .i64 4=AV.int .i64 (Ej g):=by unfold Ej;rw[if_pos h]
theorem AcP {g:GG} (h:HY g) (h1:¬Jt g):AV.int .i64 1=AV.int .i64 (Ej g):=by unfold Ej;rw[if_neg (not_not_intro h),if_pos h1]
theorem checkN {g:GG} (h:HY g) (h1:Jt g) {i:Nat} (hi:i<g.nodes.length) (h2:∀k,k<i→Gh g.nodes g.GU k=0) {r:Int} (h3:Gh g.nodes g.GU i=r) (hr:r≠0):AV.int .i64 r=AV.int .i64 (Ej g):=by
 subst h3
 unfold Ej
 rw[if_neg (not_not_intro h),if_neg (not_not_intro h1),NH h2 hr hi,if_neg hr]
theorem AaH {g:GG} (h:HY g) (h1:Jt g) (hn:∀k,k<g.nodes.length→Gh g.nodes g.GU k=0) {i:Nat} (hi:i<g.edges.length) (h2:∀k,k<i→FB g.nodes g.edges g.Jq k=0) {r:Int} (h3:FB g.nodes g.edges g.Jq i=r) (hr:r≠0):AV.int .i64 r=AV.int .i64 (Ej g):=by
 subst h3
 unfold Ej
 rw[if_neg (not_not_intro h),if_neg (not_not_intro h1),if_pos (DI.2 hn),NH h2 hr hi]
theorem AcQ {g:GG} (h:HY g) (h1:Jt g) (hn:∀k,k<g.nodes.length→Gh g.nodes g.GU k=0) (h2:∀k,k<g.edges.length→FB g.nodes g.edges g.Jq k=0):AV.int .i64 0=AV.int .i64 (Ej g):=by
 unfold Ej
 rw[if_neg (not_not_intro h),if_neg (not_not_intro h1),if_pos (DI.2 hn),DI.2 h2]
theorem Y5 {g:GG} (h:Ej g=0):HY g∧Jt g∧(∀ k,k<g.nodes.length→Gh g.nodes g.GU k=0)∧∀k,k<g.edges.length→FB g.nodes g.edges g.Jq k=0:=by
 unfold Ej at h
 by_cases h1:HY g
 case neg=>rw[if_pos h1]at h;omega
 by_cases h2:Jt g
 case neg=>rw[if_neg (not_not_intro h1),if_pos h2]at h;omega
 rw[if_neg (not_not_intro h1),if_neg (not_not_intro h2)]at h
 split at h
 ·rename_i h3
  exact⟨h1,h2,DI.1 h3,DI.1 h⟩
 ·rename_i h3;exact absurd h h3
attribute [irreducible] Gh FB Ej Ho
end AI
end Go.Proofs.YthjeehjphekjmaaGreatDoor
