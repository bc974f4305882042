/- One edge more: how the counts change. The list of triangles by the relation; after a change of one edge. The triangles of a graph that need not be valid. A graph with all edges reversed: its check, triangles and betweenness; triangles counted three times. Valid values, exactly: the program's. Valid values, exactly: the reference's. Numbers among values. The null value. The program's order of a value and null. The order of values: plain. Values that differ only in whether an empty list is there: alike in order. Plain. Values of the type again, built from their parts. What a change leaves alone: plain. Changes as arguments. Looking for the first. The reference looks up nodes and edges. Looking for the first: good properties. Small values. A value cloned reads as the value. Clones: they read as what was cloned. The program looks up nodes and edges. Properties looked up. Scripts between graphs: what they are, in plain lists. The reference's order of a value and null. The order of values: the program's walks. The order of values: the reference's walks. Graphs alike: the program's way and the reference's. The reference's copies of values and properties. -/
import Derived.Test.YtiimoiecghmebaaDoorFMai
import Derived.Test.YtiimoiecghmebaaDoorFMah
import Derived.Test.YtiimoiecghmebaaDoorFMak
import Derived.Test.YtiimoiecghmebaaDoorFMaf
import Derived.Test.YtiimoiecghmebaaDoorFMaj
import Derived.Test.YtiimoiecghmebaaDoorFMae
import Derived.Test.YtiimoiecghmebaaDoorFMac
import Derived.Test.YtiimoiecghmebaaDoorFMad
import Derived.Test.YtiimoiecghmebaaDoorFMag
set_option linter.unusedVariables false
namespace Go.Proofs.YtiimoiecghmebaaDoor
namespace AI
def Ig (b:Bool):Nat:=if b then 1 else 0
def SY (N:Int→Int→Bool) (l:List Int) (v:Int):Nat:=(l.map fun x=>(l.map fun y=>Ig (N v x&&(N v y&&N x y))).sum).sum
theorem OJ {p:Int→Bool}:∀{l:List Int},(l.map fun y=>Ig (p y)).sum=(l.filter p).length
 |[]=>rfl
 |x::l=>by
  have:=OJ (p:=p) (l:=l)
  simp only[List.map_cons,List.sum_cons,List.filter_cons,this]
  cases p x<;>simp[Ig];omega
theorem sum_add {f g:Int→Nat}:∀{l:List Int},(l.map fun y=>f y+g y).sum=(l.map f).sum+(l.map g).sum
 |[]=>rfl
 |x::l=>by
  have:=sum_add (f:=f) (g:=g) (l:=l)
  simp only[List.map_cons,List.sum_cons,this]
  omega
theorem S9 {f:Int→Nat} {l:List Int} (h:∀x∈l,f x=0):(l.map f).sum=0:=by
 induction l with
 |nil=>rfl
 |cons a l ih=>simp[h a (by simp),ih fun x hx=>h x (by simp[hx])]
theorem V9 {f:Int→Nat} {b:Int}:∀{l:List Int},l.Nodup→b∈l→(l.map fun x=>if x=b then f x else 0).sum=f b
 |[],_,h=>by cases h
 |x::l,hn,h=>by
  rw[List.nodup_cons]at hn
  simp only[List.map_cons,List.sum_cons]
  by_cases e:x=b
  ·subst e
   rw[if_pos rfl,S9 fun y hy=>if_neg (fun e=>hn.1 (by rw[← e];exact hy))]
   rfl
  ·rw[if_neg e,V9 hn.2 (by rcases List.mem_cons.1 h with h|h;exact absurd h.symm e;exact h)]
   omega
theorem Aae {p:Int→Bool} {b:Int} {l:List Int} (hn:l.Nodup) (hb:b∈l):(l.map fun x=>(l.map fun y=>Ig (decide (x=b)&&p y)).sum).sum=(l.filter p).length:=by
 have:(l.map fun x=>(l.map fun y=>Ig (decide (x=b)&&p y)).sum)=l.map fun x=>if x=b then(l.filter p).length else 0:=by
  refine List.map_congr_left fun x _=>?_
  by_cases e:x=b
  ·rw[if_pos e,←OJ];simp[e]
  ·rw[if_neg e];exact S9 fun y _=>by simp[e,Ig]
 rw[this,V9 (f:=fun _=>(l.filter p).length) hn hb]
theorem AeM {p:Int→Bool} {b:Int} {l:List Int} (hn:l.Nodup) (hb:b∈l):(l.map fun x=>(l.map fun y=>Ig (decide (y=b)&&p x)).sum).sum=(l.filter p).length:=by
 have:(l.map fun x=>(l.map fun y=>Ig (decide (y=b)&&p x)).sum)=l.map fun x=>Ig (p x):=by
  refine List.map_congr_left fun x _=>?_
  have h:(l.map fun y=>Ig (decide (y=b)&&p x))=l.map fun y=>if y=b then Ig (p x)else 0:=List.map_congr_left fun y _=>by
   by_cases e:y=b<;>simp[e,Ig]
  rw[h,V9 (f:=fun _=>Ig (p x)) hn hb]
 rw[this,OJ]
section
variable {N M:Int→Int→Bool} {l:List Int} {a b:Int}
structure H7 (N M:Int→Int→Bool) (a b:Int):Prop where
 ne:a≠b
 sN:∀x y,N x y=N y x
 iN:∀x,N x x=false
 no:N a b=false
 up:∀x y,M x y=(N x y||(decide (x=a)&&decide (y=b)||decide (x=b)&&decide (y=a)))
theorem H7.flip (h:H7 N M a b):H7 N M b a:=⟨h.ne.symm,h.sN,h.iN,by rw[h.sN];exact h.no,fun x y=>by rw[h.up,Bool.or_comm (decide (x=a)&&_)]⟩
theorem H7.at_end (h:H7 N M a b) (hn:l.Nodup) (hb:b∈l):SY M l a=SY N l a+2*(l.filter fun x=>N a x&&N b x).length:=by
 have hp:∀x y,Ig (M a x&&(M a y&&M x y))=Ig (N a x&&(N a y&&N x y))+(Ig (decide (x=b)&&(N a y&&N b y))+Ig (decide (y=b)&&(N a x&&N b x))):=fun x y=>by
  have e1:=h.ne
  have e2:=h.iN a
  have e3:=h.iN b
  have e4:=h.no
  have e5:N b a=false:=by rw[h.sN];exact e4
  rw[h.up,h.up,h.up]
  by_cases hxa:x=a
  ·subst hxa
   simp[e1,e2,e5,Ig]
  by_cases hya:y=a
  ·subst hya
   simp[e1,e2,e5,Ig]
  by_cases hxb:x=b
  ·subst hxb
   by_cases hyb:y=x
   ·subst hyb
    simp[hxa,e3,e4,Ig]
   ·simp[hxa,hya,hyb,e4,Ig]
  ·by_cases hyb:y=b
   ·subst hyb
    simp[hxa,hya,hxb,e4,Ig,h.sN x y]
   ·simp[hxa,hya,hxb,hyb,Ig]
 unfold SY
 have e:(l.map fun x=>(l.map fun y=>Ig (M a x&&(M a y&&M x y))).sum)=l.map fun x=>(l.map fun y=>Ig (N a x&&(N a y&&N x y))).sum+((l.map fun y=>Ig (decide (x=b)&&(N a y&&N b y))).sum+(l.map fun y=>Ig (decide (y=b)&&(N a x&&N b x))).sum):=by
  refine List.map_congr_left fun x _=>?_
  rw[← sum_add,←sum_add]
  exact congrArg List.sum (List.map_congr_left fun y _=>hp x y)
 rw[e,sum_add,sum_add,Aae (p:=fun y=>N a y&&N b y) hn hb,AeM (p:=fun x=>N a x&&N b x) hn hb]
 omega
theorem H7.AeN (h:H7 N M a b) (hn:l.Nodup) (ha:a∈l) (hb:b∈l) {v:Int} (va:v≠a) (vb:v≠b):SY M l v=SY N l v+2*Ig (N a v&&N b v):=by
 have hp:∀x y,Ig (M v x&&(M v y&&M x y))=Ig (N v x&&(N v y&&N x y))+(Ig (decide (x=a)&&(decide (y=b)&&(N a v&&N b v)))+Ig (decide (x=b)&&(decide (y=a)&&(N a v&&N b v)))):=fun x y=>by
  have e4:=h.no
  have e5:N b a=false:=by rw[h.sN];exact e4
  have e1:=h.ne
  have e1':=h.ne.symm
  have s1:=h.sN v a
  have s2:=h.sN v b
  rw[h.up,h.up,h.up]
  simp only[va,vb,decide_false,Bool.false_and,Bool.or_false]
  by_cases hxa:x=a
  ·subst hxa
   by_cases hyb:y=b
   ·subst hyb
    simp[e4,e1,e1',s1,s2,Ig]
   ·simp[hyb,e1,Ig]
  by_cases hxb:x=b
  ·subst hxb
   by_cases hya:y=a
   ·subst hya
    simp[e5,e1,e1',s1,s2,Ig,Bool.and_comm]
   ·simp[hya,hxa,Ig]
  ·simp[hxa,hxb,Ig]
 have one:∀{a b:Int} {q:Bool},a∈l→b∈l→(l.map fun x=>(l.map fun y=>Ig (decide (x=a)&&(decide (y=b)&&q))).sum).sum=Ig q:=fun{a b q} ha hb=>by
  rw[Aae (p:=fun y=>decide (y=b)&&q) hn ha,←OJ]
  have h:(l.map fun y=>Ig (decide (y=b)&&q))=l.map fun y=>if y=b then Ig q else 0:=List.map_congr_left fun y _=>by
   by_cases e:y=b<;>simp[e,Ig]
  rw[h,V9 (f:=fun _=>Ig q) hn hb]
 unfold SY
 have e:(l.map fun x=>(l.map fun y=>Ig (M v x&&(M v y&&M x y))).sum)=l.map fun x=>(l.map fun y=>Ig (N v x&&(N v y&&N x y))).sum+((l.map fun y=>Ig (decide (x=a)&&(decide (y=b)&&(N a v&&N b v)))).sum+(l.map fun y=>Ig (decide (x=b)&&(decide (y=a)&&(N a v&&N b v)))).sum):=by
  refine List.map_congr_left fun x _=>?_
  rw[← sum_add,←sum_add]
  exact congrArg List.sum (List.map_congr_left fun y _=>hp x y)
 rw[e,sum_add,sum_add,one ha hb,one hb ha]
 omega
end
noncomputable def ZR (types:List (List UInt8)) (es:List GE) (x y:Int):Bool:=decide (NR types es x y)
theorem Aha {p:Bool} {l:List Int} {q:Int→Bool}:(l.map fun y=>Ig (p&&q y)).sum=if p then(l.filter q).length else 0:=by
 cases p
 ·exact S9 fun y _=>rfl
 ·rw[if_pos rfl,←OJ];rfl
theorem Ai0 {types:List (List UInt8)} {g:GG} (hck:AB g=0) {v:Int}:twN types g v=SY (ZR types g.edges) (Bf g) v:=by
 have h1:twN types g v=(((Bf g).filter fun x=>decide (NR types g.edges v x)).map (MH types g v)).sum:=by
  unfold twN OI
  rw[← ((PU hck).map (MH types g v)).sum_nat,List.map_map]
  rfl
 rw[h1,Ny]
 unfold SY
 refine congrArg List.sum (List.map_congr_left fun x _=>?_)
 rw[Aha (p:=ZR types g.edges v x) (q:=fun y=>ZR types g.edges v y&&ZR types g.edges x y)]
 show(if ZR types g.edges v x=true then _ else 0)=_
 have h2:MH types g v x=((Bf g).filter fun y=>ZR types g.edges v y&&ZR types g.edges x y).length:=by
  rw[Aaa hck,PS,List.filter_map,List.length_map]
  rfl
 rw[h2]
def trO (N:Int→Int→Bool) (l:List Int):List (Int×Int):=l.map fun v=>(v,((SY N l v / 2:Nat):Int))
theorem VY {types:List (List UInt8)} {g:GG} (hck:AB g=0):O7 types g=trO (ZR types g.edges) (Bf g):=by
 unfold O7 trO Bf
 rw[List.map_map]
 refine List.map_congr_left fun n _=>?_
 show(n.id,_)=(n.id,_)
 rw[Ai0 hck]
 rfl
section
variable {N M:Int→Int→Bool} {l:List Int} {a b:Int}
def stepT (a b:Int) (C:List Int) (s:Int) (p:Int×Int):Int×Int:=if p.1=a∨p.1=b then(p.1,p.2+s*C.length)else if p.1∈C then(p.1,p.2+s)else p
theorem H7.tr (h:H7 N M a b) (hn:l.Nodup) (ha:a∈l) (hb:b∈l) {C:List Int} (hC:C.length=(l.filter fun x=>N a x&&N b x).length) (hm:∀x∈l,x∈C↔(N a x&&N b x)=true):
 trO M l=(trO N l).map (stepT a b C 1)∧trO N l=(trO M l).map (stepT a b C (-1)):=by
 have key:∀v∈l,(v=a∨v=b)∧SY M l v=SY N l v+2*C.length∨¬(v=a∨v=b)∧v∈C∧SY M l v=SY N l v+2∨¬(v=a∨v=b)∧v∉C∧SY M l v=SY N l v:=fun v hv=>by
  by_cases h1:v=a
  ·subst h1
   exact .inl ⟨.inl rfl,by rw[h.at_end hn hb,hC]⟩
  by_cases h2:v=b
  ·subst h2
   refine .inl ⟨.inr rfl,?_⟩
   rw[h.flip.at_end hn ha,hC]
   rw[List.filter_congr fun x _=>Bool.and_comm (N v x) (N a x)]
  have h3:=h.AeN hn ha hb h1 h2
  have hne:¬(v=a∨v=b):=fun e=>e.elim h1 h2
  by_cases h4:v∈C
  ·refine .inr (.inl ⟨hne,h4,?_⟩)
   rw[h3,(hm v hv).1 h4];rfl
  ·refine .inr (.inr ⟨hne,h4,?_⟩)
   rw[h3,Bool.eq_false_iff.2 (fun e=>h4 ((hm v hv).2 e))];rfl
 unfold trO
 constructor
 ·rw[List.map_map]
  refine List.map_congr_left fun v hv=>?_
  show _=stepT a b C 1 (v,_)
  unfold stepT
  rcases key v hv with⟨k1,k2⟩|⟨k1,k2,k3⟩|⟨k1,k2,k3⟩
  ·rw[if_pos k1,k2]
   refine Prod.ext rfl ?_
   show(((SY N l v+2*C.length) / 2:Nat):Int)=((SY N l v / 2:Nat):Int)+1*(C.length:Int)
   omega
  ·rw[if_neg k1,if_pos k2,k3]
   refine Prod.ext rfl ?_
   show(((SY N l v+2) / 2:Nat):Int)=((SY N l v / 2:Nat):Int)+1
   omega
  ·rw[if_neg k1,if_neg k2,k3]
 ·rw[List.map_map]
  refine List.map_congr_left fun v hv=>?_
  show _=stepT a b C (-1) (v,_)
  unfold stepT
  rcases key v hv with⟨k1,k2⟩|⟨k1,k2,k3⟩|⟨k1,k2,k3⟩
  ·rw[if_pos k1,k2]
   refine Prod.ext rfl ?_
   show((SY N l v / 2:Nat):Int)=(((SY N l v+2*C.length) / 2:Nat):Int)+-1*(C.length:Int)
   omega
  ·rw[if_neg k1,if_pos k2,k3]
   refine Prod.ext rfl ?_
   show((SY N l v / 2:Nat):Int)=(((SY N l v+2) / 2:Nat):Int)+-1
   omega
  ·rw[if_neg k1,if_neg k2,k3]
end
noncomputable def QX (types:List (List UInt8)) (g:GG):List (Int×Int):=if AB g=0 then O7 types g else[]
theorem AgE {g:GG} (hg:g.ok) (hN:g.nodes.length≤1000) (hE:g.edges.length≤1000) {types:List (List UInt8)} (ht:types.length<2^63) {tn:Bool}:∃b,(b=false→QX types g=[])∧Aw (Ad SI) 6 [g.av,.sl tn (vs .str types)] (· =.sl b (vs pv (QX types g))):=by
 have h:=Y3 (q:=⟨g,tn,types⟩) ⟨hg,hN,hE,ht⟩
 unfold TQ.out at h
 unfold QX
 by_cases hck:AB g=0
 ·rw[if_pos hck]at h ⊢
  refine⟨_,fun e=>?_,h⟩
  have e:=of_decide_eq_false e
  dsimp only at e
  unfold O7
  rw[List.eq_nil_of_length_eq_zero (show g.nodes.length=0 by omega)]
  rfl
 ·rw[if_neg hck]at h ⊢
  exact⟨_,fun _=>rfl,h⟩
section
variable {t:Nat→Nat→Nat→Bool} {n:Nat}
theorem AcY {f:Nat→Nat}:∀{n:Nat},((List.range n).map f).sum=sg n f
 |0=>rfl
 |n+1=>by
  rw[List.range_succ,List.map_append,List.sum_append,AcY (n:=n)]
  simp[sg]
theorem AcZ {p:Nat→Bool}:∀{n:Nat},Ul n p=sg n fun k=>if p k then 1 else 0
 |0=>rfl
 |n+1=>by rw[SL,AcZ (n:=n)];rfl
theorem three (h1:∀a b c,t a b c=t b a c) (h2:∀a b c,t a b c=t a c b) (h3:∀a b,t a a b=false):(sg n fun v=>sg n fun i=>sg n fun k=>if decide (i<k)&&t v i k then 1 else 0)=3*sg n fun v=>sg n fun i=>sg n fun k=>if decide (v<i)&&(decide (i<k)&&t v i k)then 1 else 0:=by
 have key:∀v i k,(if decide (i<k)&&t v i k then 1 else 0)=((if decide (v<i)&&(decide (i<k)&&t v i k)then 1 else 0)+(if decide (i<v)&&(decide (v<k)&&t i v k)then 1 else 0))+(if decide (i<k)&&(decide (k<v)&&t i k v)then 1 else 0):=fun v i k=>by
  by_cases ht:t v i k=true
  ·have e1:t i v k=true:=by rw[h1,ht]
   have e2:t i k v=true:=by rw[h2,e1]
   have n1:v≠i:=fun e=>by subst e;rw[h3]at ht;cases ht
   have n2:v≠k:=fun e=>by subst e;rw[h2,h3]at ht;cases ht
   rw[ht,e1,e2]
   simp only[Bool.and_true,Bool.and_eq_true,decide_eq_true_eq]
   by_cases c1:i<k<;>by_cases c2:v<i<;>by_cases c3:i<v<;>by_cases c4:v<k<;>by_cases c5:k<v<;>simp only[c1,c2,c3,c4,c5,and_true,and_false,if_true,if_false,and_self]<;>omega
  ·have ht:t v i k=false:=by cases h:t v i k with|true=>exact absurd h ht|false=>rfl
   have e1:t i v k=false:=by rw[h1,ht]
   have e2:t i k v=false:=by rw[h2,e1]
   rw[ht,e1,e2]
   simp
 have e:(sg n fun v=>sg n fun i=>sg n fun k=>if decide (i<k)&&t v i k then 1 else 0)=(sg n fun v=>sg n fun i=>sg n fun k=>if decide (v<i)&&(decide (i<k)&&t v i k)then 1 else 0)+(sg n fun v=>sg n fun i=>sg n fun k=>if decide (i<v)&&(decide (v<k)&&t i v k)then 1 else 0)+(sg n fun v=>sg n fun i=>sg n fun k=>if decide (i<k)&&(decide (k<v)&&t i k v)then 1 else 0):=by
  rw[← JX,←JX]
  refine BK fun v _=>?_
  rw[← JX,←JX]
  refine BK fun i _=>?_
  rw[← JX,←JX]
  exact BK fun k _=>key v i k
 have e2:(sg n fun v=>sg n fun i=>sg n fun k=>if decide (i<v)&&(decide (v<k)&&t i v k)then 1 else 0)=sg n fun v=>sg n fun i=>sg n fun k=>if decide (v<i)&&(decide (i<k)&&t v i k)then 1 else 0:=by
  rw[IY]
 have e3:(sg n fun v=>sg n fun i=>sg n fun k=>if decide (i<k)&&(decide (k<v)&&t i k v)then 1 else 0)=sg n fun v=>sg n fun i=>sg n fun k=>if decide (v<i)&&(decide (i<k)&&t v i k)then 1 else 0:=by
  rw[IY]
  refine BK fun i _=>?_
  rw[IY]
 rw[e,e2,e3]
 omega
end
theorem AkE {types:List (List UInt8)} {g:GG}:3 ∣ sg g.nodes.length fun v=>cI (Ef types g) v (Ef types g).length:=by
 have hTl:(Ef types g).length=g.nodes.length:=by unfold Ef;rw[List.length_map]
 have e:(sg g.nodes.length fun v=>cI (Ef types g) v (Ef types g).length)=sg g.nodes.length fun v=>sg g.nodes.length fun i=>sg g.nodes.length fun k=>if decide (i<k)&&Js (Ef types g) v i k then 1 else 0:=by
  refine BK fun v _=>?_
  unfold cI
  rw[AcY,hTl]
  refine BK fun i _=>?_
  exact AcZ
 rw[e,three (fun a b c=>?_) (fun a b c=>?_) (fun a b=>?_)]
 ·exact⟨_,rfl⟩
 ·simp only[Js]
  rw[SS a b]
  cases WH (Ef types g) b a<;>cases WH (Ef types g) a c<;>cases WH (Ef types g) b c<;>rfl
 ·simp only[Js]
  rw[SS b c]
  cases WH (Ef types g) a b<;>cases WH (Ef types g) a c<;>cases WH (Ef types g) c b<;>rfl
 ·simp[Js,Z9]
def EU (e:GE):GE:={e with fr:=e.to,to:=e.fr}
def Ez (g:GG):GG:={g with edges:=g.edges.map EU}
theorem Abi {N:List GN} {E:List GE} {nx:Int} {i:Nat}:Dw N (E.map EU) nx i=Dw N E nx i:=by
 unfold Dw
 simp only[List.getElem?_map]
 cases E[i]? with
 |none=>rfl
 |some e=>
  cases E[i-1]? with
  |none=>simp[EU,and_comm]
  |some d=>simp[EU,and_comm]
theorem Ac0 {g:GG}:AB (Ez g)=AB g:=by
 have n2:Dw (Ez g).nodes (Ez g).edges (Ez g).CJ=Dw g.nodes g.edges g.CJ:=funext fun i=>Abi
 have n1:DR (Ez g).nodes (Ez g).BR=DR g.nodes g.BR:=rfl
 have e1:(Ez g).edges.length=g.edges.length:=List.length_map _
 have f:EK (Ez g)↔EK g:=by unfold EK;rw[e1];exact Iff.rfl
 have x:Gf (Ez g)↔Gf g:=Iff.rfl
 have e2:(Ez g).nodes.length=g.nodes.length:=rfl
 unfold AB
 rw[n1,n2,e1,e2]
 simp only[f,x]
theorem QY {g:GG}:AB (Ez g)=0↔AB g=0:=by rw[Ac0]
theorem Y5 {types:List (List UInt8)} {g:GG} {a b:Int}:JN types (Ez g).edges a b↔JN types g.edges b a:=by
 rw[Ry,Ry]
 constructor
 ·rintro⟨e,he,h1,h2,h3⟩
  obtain⟨d,hd,rfl⟩:=List.mem_map.1 (show e∈g.edges.map EU from he)
  exact⟨d,hd,h2,h1,h3⟩
 ·rintro⟨d,hd,h1,h2,h3⟩
  exact⟨EU d,List.mem_map.2 ⟨d,hd,rfl⟩,h2,h1,h3⟩
theorem AgJ {types:List (List UInt8)} {g:GG} {a b:Int}:NR types (Ez g).edges a b↔NR types g.edges a b:=by
 unfold NR
 rw[Y5,Y5,or_comm]
theorem Agw {types:List (List UInt8)} {g:GG}:QX types (Ez g)=QX types g:=by
 unfold QX
 by_cases h:AB g=0
 ·have h2:=QY.2 h
  rw[if_pos h,if_pos h2,VY h,VY h2]
  have:ZR types (Ez g).edges=ZR types g.edges:=by
   funext a b
   unfold ZR
   exact decide_eq_decide.2 AgJ
  rw[this]
  rfl
 ·rw[if_neg h,if_neg (fun k=>h (QY.1 k))]
theorem OD {types:List (List UInt8)} {g:GG} {i k:Nat} (h:¬(i<g.nodes.length∧k<g.nodes.length)):Dt types g i k=false:=by
 unfold Dt atB Ef
 by_cases hi:i<g.nodes.length
 ·have hk:¬k<g.nodes.length:=fun hk=>h ⟨hi,hk⟩
  simp[hi,hk]
 ·simp[hi]
theorem AeL {types:List (List UInt8)} {g:GG}:Dt types (Ez g)=fun a b=>Dt types g b a:=by
 funext a b
 by_cases h:a<g.nodes.length∧b<g.nodes.length
 ·rw[NZ (g:=Ez g) h.1 h.2,NZ h.2 h.1]
  exact decide_eq_decide.2 Y5
 ·rw[OD (g:=Ez g) h,OD fun k=>h ⟨k.2,k.1⟩]
theorem Agu {types:List (List UInt8)} {g:GG} (hN:g.nodes.length≤12) {l m:List (Nat×Nat)} (h1:Uf (Ho (Dt types g) g.nodes.length) (GZ (Dt types g) g.nodes.length) g.nodes.length g.nodes.length=some l) (h2:Uf (Ho (Dt types (Ez g)) g.nodes.length) (GZ (Dt types (Ez g)) g.nodes.length) g.nodes.length g.nodes.length=some m):m=l:=by
 rw[AeL]at h2
 have l1:=NV h1
 have l2:=NV h2
 apply List.ext_getElem
 ·omega
 ·intro i k1 k2
  obtain⟨x,a1,a2⟩:=Yr h1 i (by omega)
  obtain⟨y,b1,b2⟩:=Yr h2 i (by omega)
  rw[List.getElem?_eq_getElem k2]at a2
  rw[List.getElem?_eq_getElem k1]at b2
  cases a2
  cases b2
  exact(AdZ hN (by omega) a1 b1).symm
def VLi (m:Nat) (l:List AV):Prop:=∀i (h:i<l.length),∃x:GV,l[i]=x.av∧VV m x
noncomputable instance (m:Nat) (g:GV):Decidable (VV m g):=Classical.propDecidable _
noncomputable instance (l:List AV):Decidable (VPa l):=Classical.propDecidable _
noncomputable instance (m:Nat) (l:List AV):Decidable (VLi m l):=Classical.propDecidable _
def Aiq (g:GV):Prop:=VV 8 g∧(g.k=2∨g.k=3)
noncomputable instance (g:GV):Decidable (Aiq g):=by unfold Aiq;infer_instance
def dn (g:GV):Int:=if g.k=2 then 1 else g.d
def isNull (v:GV):Prop:=v.k=0∧v.n=0∧v.d=0∧v.s=[]∧v.l.length=0
instance (v:GV):Decidable (isNull v):=by unfold isNull;infer_instance
def AfV (k:Int):Int:=if k=3 then 2 else if k=7 then 9 else k
section
open Go.Sort
def AeK:AV→GV
 | .agg [.int _ k,.int _ n,.int _ d,.str s,.sl nn l]=>⟨k,n,d,s,nn,l⟩
 |_=>⟨0,0,0,[],false,[]⟩
def Lh (c:AV→AV→Int):List AV→List AV→Int
 |[],[]=>0
 |[],_::_=>-1
 |_::_,[]=>1
 |a::x,b::y=>Ue (c a b) (Lh c x y)
theorem SX {c:AV→AV→Int} (hc:PC c):∀x y,Lh c y x=-Lh c x y
 |[],[]=>rfl
 |[],_::_=>rfl
 |_::_,[]=>rfl
 |a::x,b::y=>by
  have h1:=hc.anti a b
  have h2:=SX hc x y
  simp only[Lh,Ue]
  split<;>split<;>omega
theorem Qq {c:AV→AV→Int} (hc:PC c):∀x y z,Lh c x y≤0→Lh c y z≤0→Lh c x z≤0
 |[],_,[],_,_=>Int.le_refl 0
 |[],_,_::_,_,_=>by show(-1:Int)≤0;omega
 |_::_,[],_,h,_=>absurd h (by show¬(1:Int)≤0;omega)
 |_::_,_::_,[],_,h=>absurd h (by show¬(1:Int)≤0;omega)
 |a::x,b::y,d::z,h1,h2=>by
  have ih:=Qq hc x y z
  have a1:=hc.trans a b d
  have a2:=hc.trans b d a
  have a3:=hc.trans d a b
  have b1:=hc.anti a b
  have b2:=hc.anti b d
  have b3:=hc.anti a d
  simp only[Lh,Ue]at*
  split at h1<;>split at h2<;>split<;>omega
theorem PC.lists {c:AV→AV→Int} (hc:PC c):PC (Lh c):=⟨SX hc,Qq hc⟩
def pd (g:GV):Int:=if dn g≤0 then 1 else dn g
def AiI (a b:GV):Int:=sgn (a.n*pd b-b.n*pd a)
def AiJ:Nat→GV→GV→Int
 |0,_,_=>0
 |m+1,a,b=>Ue (Qz (AfV a.k) (AfV b.k)) (if AfV a.k=2 then AiI a b else Ue (cS a.s b.s) (Ue (Qz a.n b.n) (Lh (fun x y=>AiJ m (AeK x) (AeK y)) a.l b.l)))
theorem PC.two {α:Type} {d e:α→α→Int} {p:α→Prop} [DecidablePred p] (hd:PC d) (he:PC e):PC fun x y=>if p x then if p y then d x y else -1 else if p y then 1 else e x y where
 anti x y:=by
  have h2:=hd.anti x y
  have h3:=he.anti x y
  by_cases hx:p x<;>by_cases hy:p y<;>simp only[hx,hy,if_true,if_false]<;>first|assumption|rfl
 trans x y z h1 h2:=by
  have d1:=hd.trans x y z
  have e1:=he.trans x y z
  by_cases hx:p x<;>by_cases hy:p y<;>by_cases hz:p z<;>simp only[hx,hy,hz,if_true,if_false]at* <;>first|exact d1 h1 h2|exact e1 h1 h2|omega
noncomputable def AiK:Nat→GV→GV→Int
 |0,_,_=>0
 |m+1,a,b=>if VV 8 a then if VV 8 b then AiJ (m+1) a b else -1 else if VV 8 b then 1 else
   Ue (Qz a.k b.k) (Ue (Qz a.n b.n) (Ue (Qz a.d b.d) (Ue (cS a.s b.s) (Lh (fun x y=>AiK m (AeK x) (AeK y)) a.l b.l))))
end
def Np:Nat→GV→GV→Prop
 |0,a,b=>(a.k=b.k∧a.n=b.n∧a.d=b.d∧a.s=b.s)∧a.l=[]∧b.l=[]
 |d+1,a,b=>(a.k=b.k∧a.n=b.n∧a.d=b.d∧a.s=b.s)∧a.l.length=b.l.length∧∀i (h:i<a.l.length) (h':i<b.l.length),∃x y:GV,a.l[i]=x.av∧b.l[i]=y.av∧Np d x y
theorem Np.f {d:Nat} {a b:GV} (h:Np d a b):a.k=b.k∧a.n=b.n∧a.d=b.d∧a.s=b.s:=by
 cases d<;>exact h.1
theorem Np.len {d:Nat} {a b:GV} (h:Np d a b):a.l.length=b.l.length:=by
 cases d with
 |zero=>rw[h.2.1,h.2.2]
 |succ d=>exact h.2.1
theorem Np.el {d:Nat} {a b:GV} (h:Np d a b) {i:Nat} (hi:i<a.l.length) (hi':i<b.l.length):∃d' x y,a.l[i]=x.av∧b.l[i]=y.av∧Np d' x y∧d=d'+1:=by
 cases d with
 |zero=>rw[h.2.1]at hi;simp at hi
 |succ d=>obtain⟨x,y,e1,e2,e3⟩:=h.2.2 i hi hi';exact⟨d,x,y,e1,e2,e3,rfl⟩
theorem Np.symm:∀{d:Nat} {a b:GV},Np d a b→Np d b a
 |0,a,b,h=>⟨⟨h.1.1.symm,h.1.2.1.symm,h.1.2.2.1.symm,h.1.2.2.2.symm⟩,h.2.2,h.2.1⟩
 |d+1,a,b,h=>⟨⟨h.1.1.symm,h.1.2.1.symm,h.1.2.2.1.symm,h.1.2.2.2.symm⟩,h.2.1.symm,fun i hi hi'=>by
   obtain⟨x,y,e1,e2,e3⟩:=h.2.2 i hi' hi
   exact⟨y,x,e2,e1,e3.symm⟩⟩
theorem Np.refl:∀{d:Nat} {a:GV},Pg d a.av→Np d a a
 |0,_,h=>h.elim
 |d+1,a,h=>by
  obtain⟨g,e,_,_,_,hl⟩:=h
  obtain rfl:=GV.Ve e
  refine⟨⟨rfl,rfl,rfl,rfl⟩,rfl,fun i hi _=>?_⟩
  have h2:=hl _ (List.getElem_mem hi)
  cases d with
  |zero=>exact h2.elim
  |succ d=>
   obtain⟨x,e,r⟩:=id h2
   exact⟨x,x,e,e,Np.refl (e▸h2)⟩
section
open Go
theorem Om {P:Program}:∀{d:Nat} {t:TypeId} {cs:List AV},BF P d t cs→BF P (d+1) t cs
 |0,t,cs,h=>by cases h
 |d+1,t,cs,h=>by
  cases hu:P.underlying t with
  |none=>simp only[BF,hu]at h
  |some u=>
   cases u with
   |slice e=>
    simp only[BF,hu]at h ⊢
    rcases h with h|⟨xs,h1,h2,h3,h4⟩
    ·exact .inl h
    ·exact .inr ⟨xs,h1,h2,fun x hx=>by obtain⟨cs',a,b⟩:=h3 x hx;exact⟨cs',Om a,b⟩,h4⟩
   |struct fs=>
    simp only[BF,hu]at h ⊢
    exact⟨h.1,fun f hf=>Om (h.2 f hf)⟩
   |array n e=>
    simp only[BF,hu]at h ⊢
    exact⟨h.1,fun i hi=>Om (h.2 i hi)⟩
   |_=>simp only[BF,hu]at h ⊢<;>exact h
theorem ZC {P:Program} {d e:Nat} {t:TypeId} {a:AV} (h:like P d t a) (hd:d≤e):like P e t a:=by
 obtain⟨k,rfl⟩:∃k,e=d+k:=⟨e-d,by omega⟩
 induction k with
 |zero=>exact h
 |succ k ih=>
  obtain⟨cs,h1,h2⟩:=ih (by omega)
  exact⟨cs,Om h1,h2⟩
theorem Xn {P:Program} {t:TypeId}:∀{l:List AV},(∀ x∈l,Like P t x)→∃d,∀x∈l,like P d t x
 |[],_=>⟨0,fun x h=>by cases h⟩
 |a::l,h=>by
  obtain⟨d,hd⟩:=h a (by simp)
  obtain⟨e,he⟩:=Xn (l:=l) fun x hx=>h x (by simp[hx])
  refine⟨d+e,fun x hx=>?_⟩
  rcases List.mem_cons.1 hx with rfl|hx
  ·exact ZC hd (by omega)
  ·exact ZC (he x hx) (by omega)
theorem wf_i64 {n:Int} (h:I64 n):(Lit.int .i64 n).wf=true:=by
 have h1:IntKind.i64.min=-2^63:=by rfl
 have h2:IntKind.i64.max=2^63-1:=by rfl
 unfold I64 at h
 simp[Lit.wf]
 omega
theorem bvV:Tryd.prog.bytesOf 93=64:=by kernel_rfl
theorem cvi:Tryd.prog.cellsOf 3=1:=by kernel_rfl
theorem cvs:Tryd.prog.cellsOf 9=1:=by kernel_rfl
theorem cvv:Tryd.prog.cellsOf 91=1:=by kernel_rfl
theorem UH:101000≤maxLen:=by decide
set_option maxRecDepth 20000 in
theorem Acl {v:GV} (h1:I64 v.k) (h2:I64 v.n) (h3:I64 v.d) (h4:v.s.length≤101000) (h5:v.l.length≤2000) (h6:v.nn=false→v.l=[]) (h7:∀x∈v.l,Like Tryd.prog 93 x):Like Tryd.prog 93 v.av:=by
 obtain⟨d,hd⟩:=Xn h7
 have hs:BF Tryd.prog (d+1) 91 [.sl v.nn v.l]:=by
  simp only[BF,Tryd.underlying91]
  cases hn:v.nn with
  |false=>rw[h6 hn];exact .inl rfl
  |true=>exact .inr ⟨v.l,rfl,by have:=UH;omega,fun x hx=>hd x hx,by rw[bvV];show v.l.length*64≤0x7ffffffff000;omega⟩
 refine⟨d+2,[.int .i64 v.k,.int .i64 v.n,.int .i64 v.d,.str v.s,.sl v.nn v.l],?_,by simp only[pack,Tryd.underlying93];rfl⟩
 rw[show d+2=(d+1)+1 from rfl]
 unfold BF
 rw[Tryd.underlying93]
 refine⟨by rw[VJ];rfl,?_⟩
 simp only[List.forall_mem_cons]
 simp only[cvi,cvs,cvv,List.drop_zero,List.drop_succ_cons,List.take_succ_cons,List.take_zero]
 refine⟨?_,?_,?_,?_,hs,by simp⟩
 ·unfold BF;rw[Tryd.underlying3];exact⟨_,rfl,wf_i64 h1⟩
 ·unfold BF;rw[Tryd.underlying3];exact⟨_,rfl,wf_i64 h2⟩
 ·unfold BF;rw[Tryd.underlying3];exact⟨_,rfl,wf_i64 h3⟩
 ·unfold BF;rw[Tryd.underlying9];exact⟨_,rfl,by have:=UH;omega⟩
structure CpV (d:Nat) (x y:GV):Prop where
 sim:Np d x y
 ok:y.ok
 Akt:Pg d y.av
 lk:Like Tryd.prog 93 y.av
structure CpL (d:Nat) (L M:List AV):Prop where
 len:M.length=L.length
 el:∀i (h:i<L.length) (h':i<M.length),∃x y:GV,L[i]=x.av∧M[i]=y.av∧CpV d x y
theorem CpV.mk' {d:Nat} {x:GV} (hx:Pg (d+1) x.av) {M:List AV} (h:CpL d x.l M):CpV (d+1) x ⟨x.k,x.n,x.d,x.s,decide (0<x.l.length),M⟩:=by
 obtain⟨g,e,hg,h1,h2,h3⟩:=hx
 obtain rfl:=GV.Ve e
 obtain⟨o1,o2,o3,o4,o5,o6,o7⟩:=hg
 have hlk:∀y∈M,Like Tryd.prog 93 y:=fun y hy=>by
  obtain⟨i,hi,rfl⟩:=List.getElem_of_mem hy
  obtain⟨a,b,_,e2,hc⟩:=h.el i (by rw[← h.len];exact hi) hi
  rw[e2];exact hc.lk
 have hlt:∀y∈M,Pg d y:=fun y hy=>by
  obtain⟨i,hi,rfl⟩:=List.getElem_of_mem hy
  obtain⟨a,b,_,e2,hc⟩:=h.el i (by rw[← h.len];exact hi) hi
  rw[e2];exact hc.Akt
 have hnn:decide (0<x.l.length)=false→M=[]:=fun hf=>by
  have:=of_decide_eq_false hf
  exact List.eq_nil_of_length_eq_zero (by rw[h.len];omega)
 have hok:GV.ok ⟨x.k,x.n,x.d,x.s,decide (0<x.l.length),M⟩:=⟨o1,o2,o3,o4,by unfold Ln at *;rw[h.len];exact o5,hnn,hlk⟩
 refine⟨⟨⟨rfl,rfl,rfl,rfl⟩,h.len.symm,fun i hi hi'=>?_⟩,hok,⟨_,rfl,hok,h1,by rw[h.len];exact h2,hlt⟩,Acl o1 o2 o3 h1 (by rw[h.len];exact h2) hnn hlk⟩
 obtain⟨a,b,e1,e2,hc⟩:=h.el i hi hi'
 exact⟨a,b,e1,e2,hc.sim⟩
theorem CpL.snoc {d:Nat} {L M:List AV} {x y:GV} (h:CpL d L M) (hc:CpV d x y):CpL d (L++[x.av]) (M++[y.av]):=by
 refine⟨by simp[h.len],fun i h1 h2=>?_⟩
 by_cases hi:i<L.length
 ·obtain⟨a,b,e1,e2,hc⟩:=h.el i hi (by rw[h.len];exact hi)
  exact⟨a,b,by rw[List.getElem_append_left hi];exact e1,by rw[List.getElem_append_left (by rw[h.len];exact hi)];exact e2,hc⟩
 ·have:i=L.length:=by simp at h1;omega
  subst this
  exact⟨x,y,by simp,by rw[List.getElem_append_right (by rw[h.len];exact Nat.le_refl _)];simp[h.len],hc⟩
end
structure GC where
 op:Int
 id:Int
 fr:Int
 to:Int
 name:List UInt8
 v:GV
def GC.av (c:GC):AV:=.agg [.int .i64 c.op,.int .i64 c.id,.int .i64 c.fr,.int .i64 c.to,.str c.name,.int .i64 c.v.k,.int .i64 c.v.n,.int .i64 c.v.d,.str c.v.s,.sl c.v.nn c.v.l]
def GC.ok (c:GC):Prop:=I64 c.op∧I64 c.id∧I64 c.fr∧I64 c.to∧Ln c.name∧c.v.ok
def Afj (ns:List Int) (N:List GN):List GN:=N.filter fun n=>decide (n.id∉ns)
def Afk (es:List Int) (E:List GE):List GE:=E.filter fun e=>decide (e.id∉es)
def Ph (ns es:List Int) (g h:GG):Prop:=Afj ns h.nodes=Afj ns g.nodes∧Afk es h.edges=Afk es g.edges
theorem Ph.refl (ns es:List Int) (g:GG):Ph ns es g g:=⟨rfl,rfl⟩
theorem Ph.trans {ns es:List Int} {g h k:GG} (h1:Ph ns es g h) (h2:Ph ns es h k):Ph ns es g k:=⟨h2.1.trans h1.1,h2.2.trans h1.2⟩
def cl (b:Bool) (x:AV):AV:=bif b then .agg [x]else x
section
open Go.Sort
end
section
open Go.Sort
end
def FW {α:Type} (R:α→α→Prop) (l m:List α):Prop:=l.length=m.length∧∀k (h:k<l.length) (h':k<m.length),R l[k] m[k]
noncomputable instance {α:Type} (R:α→α→Prop) (l m:List α):Decidable (FW R l m):=Classical.propDecidable _
section
variable {α:Type} {R:α→α→Prop} {l m:List α} {i:Nat}
end
def SP (x y:GP):Prop:=x.key=y.key∧AiK 12 x.v y.v=0
def SN (x y:GN):Prop:=x.id=y.id∧x.labels=y.labels∧FW SP x.props y.props
def SE (x y:GE):Prop:=x.id=y.id∧x.fr=y.fr∧x.to=y.to∧x.ty=y.ty∧FW SP x.props y.props
def SG (a b:GG):Prop:=FW SN a.nodes b.nodes∧FW SE a.edges b.edges
noncomputable instance (x y:GP):Decidable (SP x y):=Classical.propDecidable _
noncomputable instance (x y:GN):Decidable (SN x y):=Classical.propDecidable _
noncomputable instance (x y:GE):Decidable (SE x y):=Classical.propDecidable _
noncomputable instance (x y:GG):Decidable (SG x y):=Classical.propDecidable _
def AiY (v:GV):Prop:=v.ok∧Pg 12 v.av
def AbH (l:List GP):Prop:=l.length≤4000∧∀p∈l,AiY p.v
def AiZ (n:GN):Prop:=n.labels.length≤4000∧AbH n.props
def Zy (g:GG):Prop:=g.nodes.length≤4000∧g.edges.length≤4000∧(∀ n∈g.nodes,AiZ n)∧∀e∈g.edges,AbH e.props
theorem AeU {g:GG} (hg:g.ok) (hs:SmG g 24 30):Zy g:=by
 have h1:=hs.1
 have h2:=hs.2.1
 refine⟨by omega,by omega,fun n hn=>⟨by have:=(hs.2.2.1 n hn).1;omega,by have:=(hs.2.2.1 n hn).2.2.1;omega,fun p hp=>⟨((hg.2.2.1 n hn).2.2.2.2.2.2 p hp).2,((hs.2.2.1 n hn).2.2.2 p hp).2⟩⟩,fun e he=>⟨by have:=(hs.2.2.2 e he).2.1;omega,fun p hp=>⟨((hg.2.2.2.2.2.1 e he).2.2.2.2.2.2 p hp).2,((hs.2.2.2 e he).2.2 p hp).2⟩⟩⟩
theorem AdM (e:GE):e.av.cells.length=5:=rfl
theorem AdN (v:GV):v.av.cells.length=5:=rfl
theorem AdO (p:GP):p.av.cells.length=6:=rfl
theorem Afh {α:Type} {f:α→AV} {l:List α} {n:Nat} (h:n=l.length):sub (vs f l) 0 n=vs f l:=by
 subst h
 exact uV
set_option maxHeartbeats 1000000 in
theorem AfW:∀(d:Nat) {L:List AV} {nl:Bool},L.length≤2000→(∀ x∈L,Pg d x)→Aw (Ad tab) 54 [.sl nl L] (fun v=>∃Y,v=.sl (decide (0<L.length)) (vs GV.av Y)∧CpL d L (vs GV.av Y)):=by
 intro d
 induction d with
 |zero=>
  intro L nl hl hL
  have h0:L=[]:=List.eq_nil_iff_forall_not_mem.2 fun x hx=>hL x hx
  subst h0
  refine Ah rfl rfl ?_
  (conv=>whnf);repeat' (first  |(refine kA ?_;conv=>whnf)|(refine Br.mk (fun hc=>?_) fun hc=>?_<;>first|exact hc.elim|conv=>whnf)|(refine kB ?_))
  refine Au (fun m env s=>∃(c ga:Nat),m=0∧env=[(0,.sl nl []),(3,.own 0 ga 0 0),(4,.int .i64 0)]∧s=⟨[.arr ga 5 false true []],c⟩) ?_ _ _ _ ⟨_,_,rfl,rfl,rfl⟩
  rintro _ _ _ ⟨c,ga,rfl,rfl,rfl⟩
  refine⟨rfl,?_⟩
  (conv=>whnf);repeat' (first  |(refine kA ?_;conv=>whnf)|(refine Br.mk (fun hc=>?_) fun hc=>?_<;>first|exact hc.elim|conv=>whnf)|(refine kB ?_))
  all_goals first
   |(exfalso;omega)
   |exact⟨[],rfl,⟨rfl,fun i h=>absurd h (by simp)⟩⟩
 |succ d ih=>
  intro L nl hl hL
  refine Ah rfl rfl ?_
  (conv=>whnf);repeat' (first  |(refine kA ?_;conv=>whnf)|(refine Br.mk (fun hc=>?_) fun hc=>?_<;>first|exact hc.elim|conv=>whnf)|(refine kB ?_))
  refine Au (fun m env s=>∃(i c ga n:Nat) (Y:List GV),m=L.length-i∧i≤L.length∧n=i∧Y.length=i∧CpL (d+1) (L.take i) (vs GV.av Y)∧env=[(0,.sl nl L),(3,.own 0 ga 0 n),(4,.int .i64 i)]∧s=⟨[.arr ga 5 (decide (0<i)) true (vs GV.av Y)],c⟩) ?_ _ _ _ ⟨0,_,_,_,[],rfl,by omega,rfl,rfl,⟨rfl,fun i h=>absurd h (by simp)⟩,rfl,rfl⟩
  rintro _ _ _ ⟨i,c,ga,n,Y,rfl,hi,rfl,hY,hC,rfl,rfl⟩
  refine⟨rfl,?_⟩
  by_cases hlt:n<L.length
  ·have hx:=hL _ (List.getElem_mem hlt)
   obtain⟨x,ex,xok,x1,x2,x3⟩:=hx
   have hn:∀j,j=n→nth L j=some x.av:=fun j hj=>by subst hj;rw[Aj,List.getElem?_eq_getElem hlt,ex]
   obtain⟨_,⟨Z,rfl,hZ⟩,pc⟩:=(ih (L:=x.l) (nl:=x.nn) x2 x3).det
   have hcp:=CpV.mk' (d:=d) (x:=x) ⟨x,rfl,xok,x1,x2,x3⟩ hZ
   have hsn:=hC.snoc hcp
   have htk:L.take (n+1)=L.take n++[x.av]:=by rw[List.take_succ_eq_append_getElem hlt,ex]
   have hv:vs GV.av Y++[GV.av ⟨x.k,x.n,x.d,x.s,decide (0<x.l.length),vs GV.av Z⟩]=vs GV.av (Y++[⟨x.k,x.n,x.d,x.s,decide (0<x.l.length),vs GV.av Z⟩]):=by simp[vs]
   rw[← htk,hv]at hsn
   have hd:decide (0<n+1)=true:=decide_eq_true (by omega)
   clear hC hZ hcp hv htk
   (conv=>whnf);repeat' (first|(refine AA (hn _ (by omega)) ?_;conv=>whnf)|(refine Ac pc ?_;rintro _ rfl;conv=>whnf)|(refine Vb (f:=GV.av) (l:=Y) (x:=⟨x.k,x.n,x.d,x.s,decide (0<x.l.length),vs GV.av Z⟩) AdN hY.symm (by omega) ?_;conv=>whnf)|(refine kA ?_;conv=>whnf)|(refine Br.mk (fun hc=>?_) fun hc=>?_<;>first|exact hc.elim|conv=>whnf)|(refine kB ?_))
   all_goals first
        |(exfalso;omega)
        |exact again.mk ⟨_,by omega,n+1,_,_,_,_,rfl,by omega,by omega,by simp[hY],hsn,rfl,by rw[hd]⟩
  ·have hne:n=L.length:=by omega
   subst hne
   rw[List.take_length]at hC
   (conv=>whnf);repeat' (first|(refine kQ ⟨Afh hY.symm⟩ ?_;conv=>whnf)|(refine kA ?_;conv=>whnf)|(refine Br.mk (fun hc=>?_) fun hc=>?_<;>first|exact hc.elim|conv=>whnf)|(refine kB ?_))
   all_goals first
        |(exfalso;omega)
        |exact⟨Y,rfl,hC⟩
def CpP (p q:GP):Prop:=q.key=p.key∧CpV 12 p.v q.v
set_option maxHeartbeats 1000000 in
theorem AbG {l:List GP} {nl:Bool} (hl:AbH l):Aw (Ad tab) 29 [.sl nl (vs GP.av l)] (fun v=>∃Q,v=.sl (decide (0<l.length)) (vs GP.av Q)∧FW CpP l Q):=by
 obtain⟨hl1,hl2⟩:=hl
 refine Ah rfl rfl ?_
 (conv=>whnf);repeat' (first  |(refine kA ?_;conv=>whnf)|(refine Br.mk (fun hc=>?_) fun hc=>?_<;>first|exact hc.elim|conv=>whnf)|(refine kB ?_))
 refine Au (fun m env s=>∃(i c ga n:Nat) (Q:List GP),m=l.length-i∧i≤l.length∧n=i∧Q.length=i∧(∀ k (h:k<l.length) (h':k<Q.length),CpP l[k] Q[k])∧env=[(0,.sl nl (vs GP.av l)),(3,.own 0 ga 0 n),(4,.int .i64 i)]∧s=⟨[.arr ga 6 (decide (0<i)) true (vs GP.av Q)],c⟩) ?_ _ _ _ ⟨0,_,_,_,[],rfl,by omega,rfl,rfl,(fun k h h'=>absurd h' (by simp)),rfl,rfl⟩
 rintro _ _ _ ⟨i,c,ga,n,Q,rfl,hi,rfl,hQ,hC,rfl,rfl⟩
 refine⟨rfl,?_⟩
 by_cases hlt:n<l.length
 ·have hx:=hl2 _ (List.getElem_mem hlt)
  obtain⟨_,⟨Z,rfl,hZ⟩,pc⟩:=(AfW 12 (L:=[(l[n]).v.av]) (nl:=true) (by simp) (by intro x hx';rw[List.mem_singleton]at hx';subst hx';exact hx.2)).det
  obtain⟨z,rfl⟩:∃z,Z=[z]:=by
   have:=hZ.len
   rw[lV]at this
   exact List.length_eq_one_iff.1 this
  obtain⟨a,b,e1,e2,hab⟩:=hZ.el 0 (by simp) (by simp[vs])
  obtain rfl:=GV.Ve (show (l[n]).v.av=a.av from e1)
  obtain rfl:=GV.Ve (show z.av=b.av from e2)
  have hd:decide (0<n+1)=true:=decide_eq_true (by omega)
  have hC':∀k (h:k<l.length) (h':k<(Q++[GP.mk (l[n]).key z]).length),CpP l[k] (Q++[GP.mk (l[n]).key z])[k]:=fun k h h'=>by
   by_cases e:k<Q.length
   ·rw[List.getElem_append_left e];exact hC k h e
   ·have:k=n:=by simp at h';omega
    subst this
    rw[List.getElem_append_right (by omega)]
    simp only[hQ,Nat.sub_self,List.getElem_cons_zero]
    exact⟨rfl,hab⟩
  clear hC hZ e1 e2
  have pc':Aw (Ad tab) 54 [.sl true [(l[n]).v.av]] (· =.sl true [z.av]):=pc
  (conv=>whnf);repeat' (first|(refine Ac pc' ?_;rintro _ rfl;conv=>whnf)|(refine Vb (f:=GP.av) (l:=Q) (x:=⟨(l[n]).key,z⟩) AdO hQ.symm (by omega) ?_;conv=>whnf)|(refine kA ?_;conv=>whnf)|(refine Br.mk (fun hc=>?_) fun hc=>?_<;>first|exact hc.elim|conv=>whnf)|(refine kB ?_))
  all_goals first
   |(exfalso;omega)
   |exact again.mk ⟨_,by omega,n+1,_,_,_,_,rfl,by omega,by omega,by simp[hQ],hC',rfl,by rw[hd]⟩
 ·have hne:n=l.length:=by omega
  subst hne
  (conv=>whnf);repeat' (first|(refine kQ ⟨Afh hQ.symm⟩ ?_;conv=>whnf)|(refine kA ?_;conv=>whnf)|(refine Br.mk (fun hc=>?_) fun hc=>?_<;>first|exact hc.elim|conv=>whnf)|(refine kB ?_))
  all_goals first
   |(exfalso;omega)
   |exact⟨Q,rfl,hQ.symm,hC⟩
end AI
end Go.Proofs.YtiimoiecghmebaaDoor
