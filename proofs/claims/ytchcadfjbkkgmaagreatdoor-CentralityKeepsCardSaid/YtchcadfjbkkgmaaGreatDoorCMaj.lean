/- One edge more: how the counts change. The list of triangles by the relation; after a change of one edge. The reference's Weak. Labels: two edges are joined in either order. Plain. Lists in the order of a key: looking a place up, putting in, taking out. No program in sight. Lists in the order of a key, looked up by key: plain. What a change leaves alone: plain. Changes as arguments. Looking for the first. The reference looks up nodes and edges. Looking for the first: good properties. Small values. A value cloned reads as the value. Clones: they read as what was cloned. The program looks up nodes and edges. math/bits.Len and the next power of two. Orders: lexicographic, of numbers, of strings; the first that is not 0. -/
import Derived.Test.YtchcadfjbkkgmaaGreatDoorCMai
import Derived.Test.YtchcadfjbkkgmaaGreatDoorCMag
import Derived.Test.YtchcadfjbkkgmaaGreatDoorCMaf
import Derived.Test.YtchcadfjbkkgmaaGreatDoorCMaa
import Derived.Test.YtchcadfjbkkgmaaGreatDoorCMae
import Derived.Test.YtchcadfjbkkgmaaGreatDoorCMah
set_option linter.unusedVariables false
set_option maxRecDepth 4000
namespace Go.Proofs.YtchcadfjbkkgmaaGreatDoor
namespace AI
def I8 (b:Bool):Nat:=if b then 1 else 0
def TR (N:Int→Int→Bool) (l:List Int) (v:Int):Nat:=(l.map fun x=>(l.map fun y=>I8 (N v x&&(N v y&&N x y))).sum).sum
theorem PI {p:Int→Bool}:∀{l:List Int},(l.map fun y=>I8 (p y)).sum=(l.filter p).length
 |[]=>rfl
 |x::l=>by
  have:=PI (p:=p) (l:=l)
  simp only[List.map_cons,List.sum_cons,List.filter_cons,this]
  cases p x<;>simp[I8];omega
theorem sum_add {f g:Int→Nat}:∀{l:List Int},(l.map fun y=>f y+g y).sum=(l.map f).sum+(l.map g).sum
 |[]=>rfl
 |x::l=>by
  have:=sum_add (f:=f) (g:=g) (l:=l)
  simp only[List.map_cons,List.sum_cons,this]
  omega
theorem TS {f:Int→Nat} {l:List Int} (h:∀x∈l,f x=0):(l.map f).sum=0:=by
 induction l with
 |nil=>rfl
 |cons a l ih=>simp[h a (by simp),ih fun x hx=>h x (by simp[hx])]
theorem W9 {f:Int→Nat} {b:Int}:∀{l:List Int},l.Nodup→b∈l→(l.map fun x=>if x=b then f x else 0).sum=f b
 |[],_,h=>by cases h
 |x::l,hn,h=>by
  rw[List.nodup_cons]at hn
  simp only[List.map_cons,List.sum_cons]
  by_cases e:x=b
  ·subst e
   rw[if_pos rfl,TS fun y hy=>if_neg (fun e=>hn.1 (by rw[← e];exact hy))]
   rfl
  ·rw[if_neg e,W9 hn.2 (by rcases List.mem_cons.1 h with h|h;exact absurd h.symm e;exact h)]
   omega
theorem Abw {p:Int→Bool} {b:Int} {l:List Int} (hn:l.Nodup) (hb:b∈l):(l.map fun x=>(l.map fun y=>I8 (decide (x=b)&&p y)).sum).sum=(l.filter p).length:=by
 have:(l.map fun x=>(l.map fun y=>I8 (decide (x=b)&&p y)).sum)=l.map fun x=>if x=b then(l.filter p).length else 0:=by
  refine List.map_congr_left fun x _=>?_
  by_cases e:x=b
  ·rw[if_pos e,←PI];simp[e]
  ·rw[if_neg e];exact TS fun y _=>by simp[e,I8]
 rw[this,W9 (f:=fun _=>(l.filter p).length) hn hb]
theorem AgW {p:Int→Bool} {b:Int} {l:List Int} (hn:l.Nodup) (hb:b∈l):(l.map fun x=>(l.map fun y=>I8 (decide (y=b)&&p x)).sum).sum=(l.filter p).length:=by
 have:(l.map fun x=>(l.map fun y=>I8 (decide (y=b)&&p x)).sum)=l.map fun x=>I8 (p x):=by
  refine List.map_congr_left fun x _=>?_
  have h:(l.map fun y=>I8 (decide (y=b)&&p x))=l.map fun y=>if y=b then I8 (p x)else 0:=List.map_congr_left fun y _=>by
   by_cases e:y=b<;>simp[e,I8]
  rw[h,W9 (f:=fun _=>I8 (p x)) hn hb]
 rw[this,PI]
section
variable {N M:Int→Int→Bool} {l:List Int} {a b:Int}
structure Gp (N M:Int→Int→Bool) (a b:Int):Prop where
 ne:a≠b
 sN:∀x y,N x y=N y x
 iN:∀x,N x x=false
 no:N a b=false
 up:∀x y,M x y=(N x y||(decide (x=a)&&decide (y=b)||decide (x=b)&&decide (y=a)))
theorem Gp.flip (h:Gp N M a b):Gp N M b a:=⟨h.ne.symm,h.sN,h.iN,by rw[h.sN];exact h.no,fun x y=>by rw[h.up,Bool.or_comm (decide (x=a)&&_)]⟩
theorem Gp.at_end (h:Gp N M a b) (hn:l.Nodup) (hb:b∈l):TR M l a=TR N l a+2*(l.filter fun x=>N a x&&N b x).length:=by
 have hp:∀x y,I8 (M a x&&(M a y&&M x y))=I8 (N a x&&(N a y&&N x y))+(I8 (decide (x=b)&&(N a y&&N b y))+I8 (decide (y=b)&&(N a x&&N b x))):=fun x y=>by
  have e1:=h.ne
  have e2:=h.iN a
  have e3:=h.iN b
  have e4:=h.no
  have e5:N b a=false:=by rw[h.sN];exact e4
  rw[h.up,h.up,h.up]
  by_cases hxa:x=a
  ·subst hxa
   simp[e1,e2,e5,I8]
  by_cases hya:y=a
  ·subst hya
   simp[e1,e2,e5,I8]
  by_cases hxb:x=b
  ·subst hxb
   by_cases hyb:y=x
   ·subst hyb
    simp[hxa,e3,e4,I8]
   ·simp[hxa,hya,hyb,e4,I8]
  ·by_cases hyb:y=b
   ·subst hyb
    simp[hxa,hya,hxb,e4,I8,h.sN x y]
   ·simp[hxa,hya,hxb,hyb,I8]
 unfold TR
 have e:(l.map fun x=>(l.map fun y=>I8 (M a x&&(M a y&&M x y))).sum)=l.map fun x=>(l.map fun y=>I8 (N a x&&(N a y&&N x y))).sum+((l.map fun y=>I8 (decide (x=b)&&(N a y&&N b y))).sum+(l.map fun y=>I8 (decide (y=b)&&(N a x&&N b x))).sum):=by
  refine List.map_congr_left fun x _=>?_
  rw[← sum_add,←sum_add]
  exact congrArg List.sum (List.map_congr_left fun y _=>hp x y)
 rw[e,sum_add,sum_add,Abw (p:=fun y=>N a y&&N b y) hn hb,AgW (p:=fun x=>N a x&&N b x) hn hb]
 omega
theorem Gp.AgX (h:Gp N M a b) (hn:l.Nodup) (ha:a∈l) (hb:b∈l) {v:Int} (va:v≠a) (vb:v≠b):TR M l v=TR N l v+2*I8 (N a v&&N b v):=by
 have hp:∀x y,I8 (M v x&&(M v y&&M x y))=I8 (N v x&&(N v y&&N x y))+(I8 (decide (x=a)&&(decide (y=b)&&(N a v&&N b v)))+I8 (decide (x=b)&&(decide (y=a)&&(N a v&&N b v)))):=fun x y=>by
  have e4:=h.no
  have e5:N b a=false:=by rw[h.sN];exact e4
  have e1:=h.ne
  have e1':=h.ne.symm
  have s1:=h.sN v a
  have s2:=h.sN v b
  rw[h.up,h.up,h.up]
  simp only[va,vb,decide_false,Bool.false_and,Bool.or_false]
  by_cases hxa:x=a
  ·subst hxa
   by_cases hyb:y=b
   ·subst hyb
    simp[e4,e1,e1',s1,s2,I8]
   ·simp[hyb,e1,I8]
  by_cases hxb:x=b
  ·subst hxb
   by_cases hya:y=a
   ·subst hya
    simp[e5,e1,e1',s1,s2,I8,Bool.and_comm]
   ·simp[hya,hxa,I8]
  ·simp[hxa,hxb,I8]
 have one:∀{a b:Int} {q:Bool},a∈l→b∈l→(l.map fun x=>(l.map fun y=>I8 (decide (x=a)&&(decide (y=b)&&q))).sum).sum=I8 q:=fun{a b q} ha hb=>by
  rw[Abw (p:=fun y=>decide (y=b)&&q) hn ha,←PI]
  have h:(l.map fun y=>I8 (decide (y=b)&&q))=l.map fun y=>if y=b then I8 q else 0:=List.map_congr_left fun y _=>by
   by_cases e:y=b<;>simp[e,I8]
  rw[h,W9 (f:=fun _=>I8 q) hn hb]
 unfold TR
 have e:(l.map fun x=>(l.map fun y=>I8 (M v x&&(M v y&&M x y))).sum)=l.map fun x=>(l.map fun y=>I8 (N v x&&(N v y&&N x y))).sum+((l.map fun y=>I8 (decide (x=a)&&(decide (y=b)&&(N a v&&N b v)))).sum+(l.map fun y=>I8 (decide (x=b)&&(decide (y=a)&&(N a v&&N b v)))).sum):=by
  refine List.map_congr_left fun x _=>?_
  rw[← sum_add,←sum_add]
  exact congrArg List.sum (List.map_congr_left fun y _=>hp x y)
 rw[e,sum_add,sum_add,one ha hb,one hb ha]
 omega
end
noncomputable def G8 (types:List (List UInt8)) (es:List GE) (x y:Int):Bool:=decide (NR types es x y)
theorem Agk {types:List (List UInt8)} {es:List GE} (x y:Int):G8 types es x y=G8 types es y x:=by
 unfold G8
 exact decide_eq_decide.2 ⟨fun h=>⟨h.1.symm,h.2.symm⟩,fun h=>⟨h.1.symm,h.2.symm⟩⟩
theorem Air {types:List (List UInt8)} {es:List GE} (x:Int):G8 types es x x=false:=decide_eq_false fun h=>h.1 rfl
theorem AkL {p:Bool} {l:List Int} {q:Int→Bool}:(l.map fun y=>I8 (p&&q y)).sum=if p then(l.filter q).length else 0:=by
 cases p
 ·exact TS fun y _=>rfl
 ·rw[if_pos rfl,←PI];rfl
theorem Am2 {types:List (List UInt8)} {g:GG} (hck:AB g=0) {v:Int}:ZL types g v=TR (G8 types g.edges) (Dc g) v:=by
 have h1:ZL types g v=(((Dc g).filter fun x=>decide (NR types g.edges v x)).map (LU types g v)).sum:=by
  unfold ZL Py
  rw[← ((QM hck).map (LU types g v)).sum_nat,List.map_map]
  rfl
 rw[h1,OG]
 unfold TR
 refine congrArg List.sum (List.map_congr_left fun x _=>?_)
 rw[AkL (p:=G8 types g.edges v x) (q:=fun y=>G8 types g.edges v y&&G8 types g.edges x y)]
 show(if G8 types g.edges v x=true then _ else 0)=_
 have h2:LU types g v x=((Dc g).filter fun y=>G8 types g.edges v y&&G8 types g.edges x y).length:=by
  rw[WR hck,NK,List.filter_map,List.length_map]
  rfl
 rw[h2]
def trO (N:Int→Int→Bool) (l:List Int):List (Int×Int):=l.map fun v=>(v,((TR N l v / 2:Nat):Int))
theorem L6 {types:List (List UInt8)} {g:GG} (hck:AB g=0):Ik types g=trO (G8 types g.edges) (Dc g):=by
 unfold Ik trO Dc
 rw[List.map_map]
 refine List.map_congr_left fun n _=>?_
 show(n.id,_)=(n.id,_)
 rw[Am2 hck]
 rfl
section
variable {N M:Int→Int→Bool} {l:List Int} {a b:Int}
theorem Gp.com (h:Gp N M a b) (x:Int):(M a x&&M b x)=(N a x&&N b x):=by
 have e1:=h.ne
 have e2:=h.iN a
 have e3:=h.iN b
 rw[h.up,h.up]
 by_cases hxa:x=a
 ·subst hxa;simp[e1,e2]
 ·by_cases hxb:x=b
  ·subst hxb;simp[e3,e1.symm]
  ·simp[hxa,hxb]
def stepT (a b:Int) (C:List Int) (s:Int) (p:Int×Int):Int×Int:=if p.1=a∨p.1=b then(p.1,p.2+s*C.length)else if p.1∈C then(p.1,p.2+s)else p
theorem Gp.tr (h:Gp N M a b) (hn:l.Nodup) (ha:a∈l) (hb:b∈l) {C:List Int} (hC:C.length=(l.filter fun x=>N a x&&N b x).length) (hm:∀x∈l,x∈C↔(N a x&&N b x)=true):
 trO M l=(trO N l).map (stepT a b C 1)∧trO N l=(trO M l).map (stepT a b C (-1)):=by
 have key:∀v∈l,(v=a∨v=b)∧TR M l v=TR N l v+2*C.length∨¬(v=a∨v=b)∧v∈C∧TR M l v=TR N l v+2∨¬(v=a∨v=b)∧v∉C∧TR M l v=TR N l v:=fun v hv=>by
  by_cases h1:v=a
  ·subst h1
   exact .inl ⟨.inl rfl,by rw[h.at_end hn hb,hC]⟩
  by_cases h2:v=b
  ·subst h2
   refine .inl ⟨.inr rfl,?_⟩
   rw[h.flip.at_end hn ha,hC]
   rw[List.filter_congr fun x _=>Bool.and_comm (N v x) (N a x)]
  have h3:=h.AgX hn ha hb h1 h2
  have hne:¬(v=a∨v=b):=fun e=>e.elim h1 h2
  by_cases h4:v∈C
  ·refine .inr (.inl ⟨hne,h4,?_⟩)
   rw[h3,(hm v hv).1 h4];rfl
  ·refine .inr (.inr ⟨hne,h4,?_⟩)
   rw[h3,Bool.eq_false_iff.2 (fun e=>h4 ((hm v hv).2 e))];rfl
 unfold trO
 constructor
 ·rw[List.map_map]
  refine List.map_congr_left fun v hv=>?_
  show _=stepT a b C 1 (v,_)
  unfold stepT
  rcases key v hv with⟨k1,k2⟩|⟨k1,k2,k3⟩|⟨k1,k2,k3⟩
  ·rw[if_pos k1,k2]
   refine Prod.ext rfl ?_
   show(((TR N l v+2*C.length) / 2:Nat):Int)=((TR N l v / 2:Nat):Int)+1*(C.length:Int)
   omega
  ·rw[if_neg k1,if_pos k2,k3]
   refine Prod.ext rfl ?_
   show(((TR N l v+2) / 2:Nat):Int)=((TR N l v / 2:Nat):Int)+1
   omega
  ·rw[if_neg k1,if_neg k2,k3]
 ·rw[List.map_map]
  refine List.map_congr_left fun v hv=>?_
  show _=stepT a b C (-1) (v,_)
  unfold stepT
  rcases key v hv with⟨k1,k2⟩|⟨k1,k2,k3⟩|⟨k1,k2,k3⟩
  ·rw[if_pos k1,k2]
   refine Prod.ext rfl ?_
   show((TR N l v / 2:Nat):Int)=(((TR N l v+2*C.length) / 2:Nat):Int)+-1*(C.length:Int)
   omega
  ·rw[if_neg k1,if_pos k2,k3]
   refine Prod.ext rfl ?_
   show((TR N l v / 2:Nat):Int)=(((TR N l v+2) / 2:Nat):Int)+-1
   omega
  ·rw[if_neg k1,if_neg k2,k3]
end
theorem X8 {types:List (List UInt8)} {es fs:List GE} {e:GE} (hmem:∀x,x∈fs↔x∈es∨x=e) (hne:e.fr≠e.to) (ht:HT types e) (hno:G8 types es e.fr e.to=false):Gp (G8 types es) (G8 types fs) e.fr e.to:=by
 refine⟨hne,Agk,Air,hno,fun x y=>?_⟩
 have hj:∀x y,JN types fs x y↔JN types es x y∨(x=e.fr∧y=e.to):=fun x y=>by
  rw[Ej,Ej]
  constructor
  ·rintro⟨f,hf,hp⟩
   rcases(hmem f).1 hf with hf|rfl
   ·exact .inl ⟨f,hf,hp⟩
   ·exact .inr ⟨hp.1.symm,hp.2.1.symm⟩
  ·rintro(⟨f,hf,hp⟩|⟨rfl,rfl⟩)
   ·exact⟨f,(hmem f).2 (.inl hf),hp⟩
   ·exact⟨e,(hmem e).2 (.inr rfl),rfl,rfl,ht⟩
 have hN:NR types fs x y↔NR types es x y∨(x=e.fr∧y=e.to∨x=e.to∧y=e.fr):=by
  unfold NR
  rw[hj,hj]
  constructor
  ·rintro⟨h1,(h|h)|(h|h)⟩
   ·exact .inl ⟨h1,.inl h⟩
   ·exact .inr (.inl h)
   ·exact .inl ⟨h1,.inr h⟩
   ·exact .inr (.inr ⟨h.2,h.1⟩)
  ·rintro(⟨h1,h|h⟩|⟨h1,h2⟩|⟨h1,h2⟩)
   ·exact⟨h1,.inl (.inl h)⟩
   ·exact⟨h1,.inr (.inl h)⟩
   ·exact⟨by rw[h1,h2];exact hne,.inl (.inr ⟨h1,h2⟩)⟩
   ·exact⟨by rw[h1,h2];exact hne.symm,.inr (.inr ⟨h2,h1⟩)⟩
 unfold G8
 rw[decide_eq_decide.2 hN,Bool.decide_or,Bool.decide_or,Bool.decide_and,Bool.decide_and]
theorem Vu {types:List (List UInt8)} {es fs:List GE} {e:GE} (hmem:∀x,x∈fs↔x∈es∨x=e) (hno:e.fr=e.to∨¬HT types e∨G8 types es e.fr e.to=true):G8 types fs=G8 types es:=by
 funext x y
 unfold G8
 rw[decide_eq_decide]
 unfold NR
 rw[Ej,Ej,Ej,Ej]
 have up:∀x y,(∃ f∈es,JP types x y f)→∃f∈fs,JP types x y f:=fun x y ⟨f,hf,hp⟩=>⟨f,(hmem f).2 (.inl hf),hp⟩
 refine⟨fun ⟨h1,h2⟩=>⟨h1,?_⟩,fun⟨h1,h2⟩=>⟨h1,h2.imp (up _ _) (up _ _)⟩⟩
 rcases h2 with⟨f,hf,hp⟩|⟨f,hf,hp⟩
 ·rcases(hmem f).1 hf with hf|rfl
  ·exact .inl ⟨f,hf,hp⟩
  ·rcases hno with h|h|h
   ·exact absurd (hp.1.symm.trans (h.trans hp.2.1)) h1
   ·exact absurd hp.2.2 h
   ·have:=(of_decide_eq_true h).2
    rw[Ej,Ej,hp.1,hp.2.1]at this
    exact this
 ·rcases(hmem f).1 hf with hf|rfl
  ·exact .inr ⟨f,hf,hp⟩
  ·rcases hno with h|h|h
   ·exact absurd (hp.2.1.symm.trans (h.symm.trans hp.1)) h1
   ·exact absurd hp.2.2 h
   ·have:=(of_decide_eq_true h).2
    rw[Ej,Ej,hp.1,hp.2.1]at this
    exact this.symm
theorem min_self (A:Int):AcU A A=A:=by unfold AcU;split<;>omega
structure OM {κ:Type} (lt:κ→κ→Bool):Prop where
 Og:∀x,lt x x=false
 tr:∀x y z,lt x y=true→lt y z=true→lt x z=true
 tot:∀x y,lt x y=false→lt y x=false→x=y
def Cc (a b:Int):Bool:=decide (a<b)
theorem Ag:OM Cc where
 Og:=fun x=>by simp[Cc]
 tr:=fun x y z h1 h2=>by simp[Cc]at *;omega
 tot:=fun x y h1 h2=>by simp[Cc]at *;omega
section
variable {α κ:Type} {lt:κ→κ→Bool} {key:α→κ}
def Inc (lt:κ→κ→Bool) (key:α→κ) (l:List α):Prop:=l.Pairwise fun a b=>lt (key a) (key b)=true
def below (lt:κ→κ→Bool) (key:α→κ) (k:κ) (l:List α):List α:=l.filter fun a=>lt (key a) k
def above (lt:κ→κ→Bool) (key:α→κ) (k:κ) (l:List α):List α:=l.filter fun a=>lt k (key a)
def Ba (lt:κ→κ→Bool) (key:α→κ) (x:α) (l:List α):List α:=below lt key (key x) l++[x]++above lt key (key x) l
def CP (lt:κ→κ→Bool) (key:α→κ) (k:κ) (l:List α):List α:=below lt key k l++above lt key k l
structure AtK (lt:κ→κ→Bool) (key:α→κ) (k:κ) (l:List α) (i:Nat):Prop where
 le:i≤l.length
 lo:∀j (h:j<l.length),j<i→lt (key l[j]) k=true
 hi:∀j (h:j<l.length),i≤j→lt (key l[j]) k=false
theorem filter_all {p:α→Bool}:∀{l:List α},(∀ x∈l,p x=true)→l.filter p=l
 |[],_=>rfl
 |x::l,h=>by rw[List.filter_cons_of_pos (h x (by simp)),filter_all fun y hy=>h y (by simp[hy])]
theorem filter_none {p:α→Bool}:∀{l:List α},(∀ x∈l,p x=false)→l.filter p=[]
 |[],_=>rfl
 |x::l,h=>by rw[List.filter_cons_of_neg (by rw[h x (by simp)];simp),filter_none fun y hy=>h y (by simp[hy])]
theorem AtK.take {k:κ} {l:List α} {i:Nat} (h:AtK lt key k l i):l.take i=below lt key k l:=by
 unfold below
 conv=>rhs;rw[← List.take_append_drop i l]
 rw[List.filter_append,filter_all,filter_none,List.append_nil]
 ·intro x hx
  obtain⟨j,hj⟩:=List.mem_iff_getElem?.1 hx
  rw[List.getElem?_drop]at hj
  obtain⟨hlt,rfl⟩:=List.getElem?_eq_some_iff.1 hj
  exact h.hi _ hlt (by omega)
 ·intro x hx
  obtain⟨j,hj⟩:=List.mem_iff_getElem?.1 hx
  have hji:j<i:=by
   have:=(List.getElem?_eq_some_iff.1 hj).1
   rw[List.length_take]at this;omega
  rw[List.getElem?_take_of_lt hji]at hj
  obtain⟨hlt,rfl⟩:=List.getElem?_eq_some_iff.1 hj
  exact h.lo _ hlt hji
theorem AtK.WC (hs:OM lt) {k:κ} {l:List α} {i:Nat} (h:AtK lt key k l i) (hn:∀x∈l,key x≠k):l.drop i=above lt key k l:=by
 unfold above
 conv=>rhs;rw[← List.take_append_drop i l]
 rw[List.filter_append,filter_none,filter_all,List.nil_append]
 ·intro x hx
  have hm:=List.mem_of_mem_drop hx
  obtain⟨j,hj⟩:=List.mem_iff_getElem?.1 hx
  rw[List.getElem?_drop]at hj
  obtain⟨hlt,rfl⟩:=List.getElem?_eq_some_iff.1 hj
  have h1:=h.hi _ hlt (by omega)
  cases h2:lt k (key l[i+j])
  ·exact absurd (hs.tot _ _ h1 h2) (hn _ hm)
  ·rfl
 ·intro x hx
  obtain⟨j,hj⟩:=List.mem_iff_getElem?.1 hx
  have hji:j<i:=by
   have:=(List.getElem?_eq_some_iff.1 hj).1
   rw[List.length_take]at this;omega
  rw[List.getElem?_take_of_lt hji]at hj
  obtain⟨hlt,rfl⟩:=List.getElem?_eq_some_iff.1 hj
  have h1:=h.lo _ hlt hji
  cases h2:lt k (key l[j])
  ·rfl
  ·have:=hs.tr _ _ _ h1 h2
   rw[hs.Og]at this
   cases this
theorem Inc.get {l:List α} (h:Inc lt key l) {i j:Nat} (hij:i<j) (hj:j<l.length):lt (key l[i]) (key l[j])=true:=List.pairwise_iff_getElem.1 h i j (by omega) hj hij
theorem AtK.found (hs:OM lt) {k:κ} {l:List α} {i:Nat} (hl:Inc lt key l) (h:AtK lt key k l i) (hf:∃x∈l,key x=k):∃hi:i<l.length,key l[i]=k∧l.drop (i+1)=above lt key k l:=by
 obtain⟨x,hx,hk⟩:=hf
 obtain⟨j,hj,rfl⟩:=List.getElem_of_mem hx
 have hij:i≤j:=by
  rcases Nat.lt_or_ge j i with h1|h1
  ·have:=h.lo j hj h1
   rw[hk,hs.Og]at this
   cases this
  ·exact h1
 have hik:i<l.length:=by omega
 have hki:key l[i]=k:=by
  rcases Nat.lt_or_ge i j with h1|h1
  ·have h2:=hl.get h1 hj
   rw[hk,h.hi i hik (Nat.le_refl _)]at h2
   cases h2
  ·obtain rfl:i=j:=by omega
   exact hk
 refine⟨hik,hki,?_⟩
 unfold above
 conv=>rhs;rw[← List.take_append_drop (i+1) l]
 rw[List.filter_append,filter_none,filter_all,List.nil_append]
 ·intro x hx
  obtain⟨q,hq⟩:=List.mem_iff_getElem?.1 hx
  rw[List.getElem?_drop]at hq
  obtain⟨hlt,rfl⟩:=List.getElem?_eq_some_iff.1 hq
  rw[← hki]
  exact hl.get (by omega) hlt
 ·intro x hx
  obtain⟨q,hq⟩:=List.mem_iff_getElem?.1 hx
  have hqi:q<i+1:=by
   have:=(List.getElem?_eq_some_iff.1 hq).1
   rw[List.length_take]at this;omega
  rw[List.getElem?_take_of_lt hqi]at hq
  obtain⟨hlt,rfl⟩:=List.getElem?_eq_some_iff.1 hq
  rcases Nat.lt_or_ge q i with h1|h1
  ·have h2:=h.lo _ hlt h1
   cases h3:lt k (key l[q])
   ·rfl
   ·have:=hs.tr _ _ _ h2 h3
    rw[hs.Og]at this
    cases this
  ·obtain rfl:q=i:=by omega
   rw[hki,hs.Og]
theorem AtK.ins (hs:OM lt) {x:α} {l:List α} {i:Nat} (h:AtK lt key (key x) l i) (hn:∀y∈l,key y≠key x):l.take i++[x]++l.drop i=Ba lt key x l:=by
 rw[h.take,h.WC hs hn];rfl
theorem AtK.set (hs:OM lt) {x:α} {l:List α} {i:Nat} (hl:Inc lt key l) (h:AtK lt key (key x) l i) (hf:∃y∈l,key y=key x):l.set i x=Ba lt key x l:=by
 obtain⟨hi,_,hd⟩:=h.found hs hl hf
 rw[List.set_eq_take_append_cons_drop,if_pos hi,h.take,hd]
 simp[Ba]
theorem AtK.del (hs:OM lt) {k:κ} {l:List α} {i:Nat} (hl:Inc lt key l) (h:AtK lt key k l i) (hf:∃y∈l,key y=k):l.take i++l.drop (i+1)=CP lt key k l:=by
 obtain⟨hi,_,hd⟩:=h.found hs hl hf
 rw[h.take,hd];rfl
theorem Bg (hs:OM lt) {x y:α} {l:List α}:y∈Ba lt key x l→y=x∨y∈l:=by
 intro h
 simp only[Ba,below,above,List.mem_append,List.mem_filter,List.mem_singleton]at h
 rcases h with(h|h)|h
 ·exact .inr h.1
 ·exact .inl h
 ·exact .inr h.1
theorem Cj {k:κ} {y:α} {l:List α}:y∈CP lt key k l→y∈l:=by
 intro h
 simp only[CP,below,above,List.mem_append,List.mem_filter]at h
 rcases h with h|h<;>exact h.1
theorem FM (hs:OM lt) {x:α} {l:List α} (hl:Inc lt key l):Inc lt key (Ba lt key x l):=by
 unfold Ba Inc
 refine List.pairwise_append.2 ⟨List.pairwise_append.2 ⟨hl.filter _,List.pairwise_singleton _ _,?_⟩,hl.filter _,?_⟩
 ·intro a ha b hb
  simp only[below,List.mem_filter,List.mem_singleton]at ha hb
  subst hb
  exact ha.2
 ·intro a ha b hb
  simp only[above,List.mem_filter]at hb
  rcases List.mem_append.1 ha with ha|ha
  ·simp only[below,List.mem_filter]at ha
   exact hs.tr _ _ _ ha.2 hb.2
  ·simp only[List.mem_singleton]at ha
   subst ha
   exact hb.2
theorem Gn (hs:OM lt) {k:κ} {l:List α} (hl:Inc lt key l):Inc lt key (CP lt key k l):=by
 unfold CP Inc
 refine List.pairwise_append.2 ⟨hl.filter _,hl.filter _,?_⟩
 intro a ha b hb
 simp only[below,above,List.mem_filter]at ha hb
 exact hs.tr _ _ _ ha.2 hb.2
theorem JC (hs:OM lt) [DecidableEq κ] {k:κ} {l:List α} (hl:Inc lt key l):CP lt key k l=l.filter fun a=>decide (key a≠k):=by
 induction l with
 |nil=>rfl
 |cons a l ih=>
  have hl':=List.pairwise_cons.1 hl
  have ih:=ih hl'.2
  by_cases hk:key a=k
  ·subst hk
   have h1:below lt key (key a) (a::l)=[]:=filter_none fun x hx=>by
        rcases List.mem_cons.1 hx with rfl|hx
        ·exact hs.Og _
        ·cases h3:lt (key x) (key a)
         ·rfl
         ·have:=hs.tr _ _ _ (hl'.1 x hx) h3
          rw[hs.Og]at this;cases this
   have h2:above lt key (key a) (a::l)=l:=by
        unfold above
        rw[List.filter_cons_of_neg (by simp[hs.Og]),filter_all hl'.1]
   rw[CP,h1,h2,List.nil_append,List.filter_cons_of_neg (by simp),filter_all]
   intro x hx
   have:=hl'.1 x hx
   simp only[ne_eq,decide_not,Bool.not_eq_true',decide_eq_false_iff_not]
   rintro e
   rw[e,hs.Og]at this
   cases this
  ·rw[List.filter_cons_of_pos (by simpa using hk),←ih]
   cases h1:lt (key a) k
   ·have h2:lt k (key a)=true:=by
      cases h2:lt k (key a)
      ·exact absurd (hs.tot _ _ h1 h2) hk
      ·rfl
    have hb:below lt key k l=[]:=filter_none fun x hx=>by
      cases h3:lt (key x) k
      ·rfl
      ·have:=hs.tr _ _ _ (hs.tr _ _ _ h2 (hl'.1 x hx)) h3
       rw[hs.Og]at this;cases this
    unfold CP
    have hb':below lt key k (a::l)=[]:=by
      unfold below at hb ⊢
      rw[List.filter_cons_of_neg (by simp[h1]),hb]
    rw[hb,hb',List.nil_append,List.nil_append]
    simp only[above,List.filter_cons,h2,if_true]
   ·have h2:lt k (key a)=false:=by
      cases h2:lt k (key a)
      ·rfl
      ·have:=hs.tr _ _ _ h1 h2
       rw[hs.Og]at this;cases this
    simp[CP,below,above,h1,h2]
end
section
variable {α κ:Type} {lt:κ→κ→Bool} {key:α→κ}
def lk [DecidableEq κ] (key:α→κ) (l:List α) (k:κ):Option α:=l.find? fun a=>decide (key a=k)
theorem Acl [DecidableEq κ] {l:List α} {k:κ} {a:α} (h:lk key l k=some a):a∈l∧key a=k:=⟨List.mem_of_find?_eq_some h,of_decide_eq_true (List.find?_some (p:=fun a=>decide (key a=k)) h)⟩
theorem XY [DecidableEq κ] (hs:OM lt):∀{l:List α},Inc lt key l→∀{a:α} {k:κ},a∈l→key a=k→lk key l k=some a
 |[],_,_,_,h,_=>by simp at h
 |b::l,hl,a,k,h,e=>by
  have hl':=List.pairwise_cons.1 hl
  unfold lk
  rcases List.mem_cons.1 h with rfl|hm
  ·rw[List.find?_cons,decide_eq_true e]
  ·have hb:key b≠k:=fun e2=>by
        have:=hl'.1 a hm
        rw[e,e2,hs.Og]at this;cases this
   rw[List.find?_cons,decide_eq_false hb]
   exact XY hs hl'.2 hm e
theorem Agl [DecidableEq κ] (hs:OM lt) {l:List α} (hl:Inc lt key l) {k:κ} {a:α}:lk key l k=some a↔a∈l∧key a=k:=⟨Acl,fun h=>XY hs hl h.1 h.2⟩
theorem ne_iff (hs:OM lt) {x y:κ}:(lt x y=true∨lt y x=true)↔x≠y:=by
 constructor
 ·rintro(h|h) rfl<;>(rw [hs.Og]at h;cases h)
 ·intro h
  cases h1:lt x y
  ·cases h2:lt y x
   ·exact absurd (hs.tot _ _ h1 h2) h
   ·exact .inr rfl
  ·exact .inl rfl
theorem Hf (hs:OM lt) {x y:α} {l:List α}:y∈Ba lt key x l↔y=x∨y∈l∧key y≠key x:=by
 rw[← ne_iff hs]
 simp only[Ba,below,above,List.mem_append,List.mem_filter,List.mem_singleton]
 constructor
 ·rintro((h|h)|h)
  ·exact .inr ⟨h.1,.inl h.2⟩
  ·exact .inl h
  ·exact .inr ⟨h.1,.inr h.2⟩
 ·rintro(h|⟨h,h2|h2⟩)
  ·exact .inl (.inr h)
  ·exact .inl (.inl ⟨h,h2⟩)
  ·exact .inr ⟨h,h2⟩
theorem Ag4 (hs:OM lt) {k:κ} {y:α} {l:List α}:y∈CP lt key k l↔y∈l∧key y≠k:=by
 rw[← ne_iff hs]
 simp only[CP,below,above,List.mem_append,List.mem_filter]
 constructor
 ·rintro(h|h)
  ·exact⟨h.1,.inl h.2⟩
  ·exact⟨h.1,.inr h.2⟩
 ·rintro⟨h,h2|h2⟩
  ·exact .inl ⟨h,h2⟩
  ·exact .inr ⟨h,h2⟩
theorem Agi [DecidableEq κ] (hs:OM lt) {x:α} {l:List α} (hl:Inc lt key l) {k:κ}:lk key (Ba lt key x l) k=if k=key x then some x else lk key l k:=by
 have hp:=FM (x:=x) hs hl
 by_cases e:k=key x
 ·rw[if_pos e]
  exact XY hs hp ((Hf hs).2 (.inl rfl)) e.symm
 ·rw[if_neg e]
  apply Option.ext
  intro a
  rw[Agl hs hp,Agl hs hl,Hf hs]
  constructor
  ·rintro⟨rfl|h,h2⟩
   ·exact absurd h2.symm e
   ·exact⟨h.1,h2⟩
  ·rintro⟨h,h2⟩
   exact⟨.inr ⟨h,by rw[h2];exact e⟩,h2⟩
theorem AeB {l:List α} (h:Inc lt key l):(l.map key).Pairwise fun x y=>lt x y=true:=by
 rw[List.pairwise_map];exact h
end
structure GC where
 op:Int
 id:Int
 fr:Int
 to:Int
 name:List UInt8
 v:GV
def GC.av (c:GC):AV:=.agg [.int .i64 c.op,.int .i64 c.id,.int .i64 c.fr,.int .i64 c.to,.str c.name,.int .i64 c.v.k,.int .i64 c.v.n,.int .i64 c.v.d,.str c.v.s,.sl c.v.nn c.v.l]
def GC.ok (c:GC):Prop:=I64 c.op∧I64 c.id∧I64 c.fr∧I64 c.to∧Ln c.name∧c.v.ok
def Ai3 (ns:List Int) (N:List GN):List GN:=N.filter fun n=>decide (n.id∉ns)
def Ai4 (es:List Int) (E:List GE):List GE:=E.filter fun e=>decide (e.id∉es)
theorem TD:∀n:GN,n.av.cells.length=3:=fun _=>rfl
theorem cellsE:∀n:GE,n.av.cells.length=5:=fun _=>rfl
theorem QI:∀n:GP,n.av.cells.length=6:=fun _=>rfl
def Q5 (ns es:List Int) (g h:GG):Prop:=Ai3 ns h.nodes=Ai3 ns g.nodes∧Ai4 es h.edges=Ai4 es g.edges
theorem Q5.refl (ns es:List Int) (g:GG):Q5 ns es g g:=⟨rfl,rfl⟩
theorem Q5.trans {ns es:List Int} {g h k:GG} (h1:Q5 ns es g h) (h2:Q5 ns es h k):Q5 ns es g k:=⟨h2.1.trans h1.1,h2.2.trans h1.2⟩
theorem WT {α:Type} {p:α→Bool} {l:List α} {i:Nat} (hi:i<l.length) (h:∀x∈l.take i,p x=false) (hp:p l[i]=true):l.find? p=some l[i]:=by
 have e:l=l.take i++l[i]::l.drop (i+1):=by rw[← List.drop_eq_getElem_cons hi,List.take_append_drop]
 have h1:(l.take i).find? p=none:=List.find?_eq_none.2 fun x hx=>by simp[h x hx]
 refine(congrArg (List.find? p) e).trans ?_
 rw[List.find?_append,h1,List.find?_cons_of_pos hp]
 rfl
theorem WV {α:Type} {p:α→Bool} {l:List α} (h:∀x∈l,p x=false):l.find? p=none:=List.find?_eq_none.2 fun x hx=>by simp[h x hx]
theorem WU {α:Type} {p:α→Bool} {l:List α} {i:Nat} (hi:i<l.length) (h:∀x∈l.take i,p x=false) (hp:p l[i]=false):∀x∈l.take (i+1),p x=false:=BN hi h hp
def N0:GN:=⟨0,false,[],false,[]⟩
def E0:GE:=⟨0,0,0,[],false,[]⟩
def isN (id:Int) (n:GN):Bool:=decide (n.id=id)
def isE (id:Int) (n:GE):Bool:=decide (n.id=id)
def VI (l:List GN) (id:Int):AV:=match l.find? (isN id)with
 |some n=>.Cb [n.av,.bool true]
 |none=>.Cb [N0.av,.bool false]
def MJ (l:List GE) (id:Int):AV:=match l.find? (isE id)with
 |some n=>.Cb [n.av,.bool true]
 |none=>.Cb [E0.av,.bool false]
theorem Aee {g:GG} (hl:g.nodes.length<2^63) {id:Int}:Af (Ad tab) 80 [g.av,.int .i64 id] (· =VI g.nodes id):=by
 refine Ac rfl rfl ?_
 (conv=>whnf);repeat' (first|(refine kA ?_;conv=>whnf)|(refine Br.mk (fun hc=>?_) fun hc=>?_<;>first|exact hc.elim|conv=>whnf)  |(refine kB ?_))
 refine Ap (fun m env s=>∃i:Nat,m=g.nodes.length-i∧(∀ x∈g.nodes.take i,isN id x=false)∧env=[(1,.int .i64 id),(2,.ref 0 0 0 0),(4,.ref 1 1 0 0),(6,.int .i64 i)]∧s=⟨[.arr 0 4 true true [g.av],.arr 1 3 true true [.agg [.int .i64 0,.sl false [],.sl false []]]],2⟩) ?_ _ _ _ ⟨0,rfl,by simp,rfl,rfl⟩
 rintro _ _ _ ⟨i,rfl,hx,rfl,rfl⟩
 refine⟨rfl,?_⟩
 (conv=>whnf);repeat' (first|(refine kA ?_;conv=>whnf)|(refine Br.mk (fun hc=>?_) fun hc=>?_<;>first|exact hc.elim|conv=>whnf)  |(refine kB ?_))
 ·rw[VI,WT (by omega) hx (decide_eq_true hc)];rfl
 ·exact again.mk ⟨_,by omega,i+1,rfl,WU (by omega) hx (decide_eq_false hc),rfl,rfl⟩
 ·rw[Df hc]at hx
  rw[VI,WV hx];rfl
theorem Alq {g:GG} (hl:g.edges.length<2^63) {id:Int}:Af (Ad tab) 90 [g.av,.int .i64 id] (· =MJ g.edges id):=by
 refine Ac rfl rfl ?_
 (conv=>whnf);repeat' (first|(refine kA ?_;conv=>whnf)|(refine Br.mk (fun hc=>?_) fun hc=>?_<;>first|exact hc.elim|conv=>whnf)  |(refine kB ?_))
 refine Ap (fun m env s=>∃i:Nat,m=g.edges.length-i∧(∀ x∈g.edges.take i,isE id x=false)∧env=[(1,.int .i64 id),(2,.ref 0 0 0 0),(4,.ref 1 1 0 0),(6,.int .i64 i)]∧s=⟨[.arr 0 4 true true [g.av],.arr 1 5 true true [.agg [.int .i64 0,.int .i64 0,.int .i64 0,.str [],.sl false []]]],2⟩) ?_ _ _ _ ⟨0,rfl,by simp,rfl,rfl⟩
 rintro _ _ _ ⟨i,rfl,hx,rfl,rfl⟩
 refine⟨rfl,?_⟩
 (conv=>whnf);repeat' (first|(refine kA ?_;conv=>whnf)|(refine Br.mk (fun hc=>?_) fun hc=>?_<;>first|exact hc.elim|conv=>whnf)  |(refine kB ?_))
 ·rw[MJ,WT (by omega) hx (decide_eq_true hc)];rfl
 ·exact again.mk ⟨_,by omega,i+1,rfl,WU (by omega) hx (decide_eq_false hc),rfl,rfl⟩
 ·rw[Df hc]at hx
  rw[MJ,WV hx];rfl
def Ali (ps:List GP):Prop:=ps.length≤2000∧∀p∈ps,p.ok∧KJ 12 p.v.av
theorem WX {d:Nat} {a:AV} (h:KJ d a):∃g:GV,a=g.av∧g.ok∧g.l.length≤2000∧∃d',d=d'+1∧∀x∈g.l,KJ d' x:=by
 cases d with
 |zero=>cases h
 |succ d=>
  obtain⟨g,e,h1,h2,h3,h4⟩:=h
  exact⟨g,e,h1,h3,d,rfl,h4⟩
theorem AgO {d:Nat} {l:List AV} (h:∀x∈l,KJ d x) (i:Nat):∃g:GV,∀hi:i<l.length,nth l (Int.toNat (Nat.cast i))=some g.av∧l[i]=g.av∧g.ok∧KJ d g.av:=by
 by_cases hi:i<l.length
 ·obtain⟨g,e,hg,_⟩:=WX (h _ (List.getElem_mem hi))
  exact⟨g,fun _=>⟨by rw[← e];exact nR hi,e,hg,e▸h _ (List.getElem_mem hi)⟩⟩
 ·exact⟨⟨0,0,0,[],true,[]⟩,fun h=>absurd h hi⟩
theorem Rl {g es:Nat} {ys:List AV} {bytes:Nat} {K:Nat→Bool→Bool→List AV→Prop} (hs:Bo es ys) (hr:ys.length*bytes≤2 ^ 46) (h:K ys.length true true ys):
 KI g g es es 0 true true true [] ys bytes K:=by
 refine⟨⟨rfl,rfl,by simp,hs,?_⟩,?_⟩
 ·rw[Nat.zero_add];exact Jd hr
 ·rw[Nat.zero_add];exact h
theorem AgN:A8 (Ad tab) 178 [.sl false []] ⟨[],0⟩ fun out _=>out=.ok (.sl false []):=by
 refine Ar rfl rfl ?_
 (conv=>whnf);repeat' (first|(refine kA ?_;conv=>whnf)|(refine Br.mk (fun hc=>?_) fun hc=>?_<;>first|exact hc.elim|conv=>whnf)  |(refine kB ?_))
 rfl
theorem Ajy {l:List AV} (hs:Bo 5 l) (hl:l.length≤2000):A8 (Ad tab) 178 [.sl true l] ⟨[],0⟩ fun out s'=>∃o g,out=.ok (.own o g 0 l.length)∧nth s'.σ o=some (.arr g 5 true true l):=by
 refine Ar rfl rfl ?_
 (conv=>whnf);repeat' (first|(refine kA ?_;conv=>whnf)|(refine Br.mk (fun hc=>?_) fun hc=>?_<;>first|exact hc.elim|conv=>whnf)  |(refine kB ?_))
 refine Rl hs (by omega) ?_
 (conv=>whnf);repeat' (first|(refine kA ?_;conv=>whnf)|(refine Br.mk (fun hc=>?_) fun hc=>?_<;>first|exact hc.elim|conv=>whnf)  |(refine kB ?_))
 exact⟨_,_,rfl,rfl⟩
theorem AcB {d:Nat} {l:List AV} (h:∀x∈l,KJ d x):Bo 5 l:=by
 intro x hx
 obtain⟨g,rfl,_⟩:=WX (h x hx)
 rfl
theorem VK {l:List AV} {z:Nat} {x:AV} (h:nth l z=some x):l.set z x=l:=by
 rw[AA]at h
 obtain⟨hz,rfl⟩:=List.getElem?_eq_some_iff.1 h
 exact List.set_getElem_self hz
theorem Ael (l:List AV):sub l 0 l.length=l:=by unfold sub;exact List.take_of_length_le (by simp)
theorem AcC {d:Nat} {g:GV} (hg:g.ok) (h2:g.l.length≤2000) (h3:∀x∈g.l,KJ d x) (ih:∀{g:GV},g.ok→KJ d g.av→Af (Ad tab) 155 [g.av] (· =g.av)):
 Af (Ad tab) 155 [g.av] (· =g.av):=by
 obtain⟨g1,g2,g3,g4,g5,g6,g7⟩:=hg
 obtain⟨k,n,dd,s,nn,l⟩:=g
 simp only at*
 cases nn with
 |false=>
  obtain rfl:=g6 rfl
  refine Ac rfl rfl ?_
  (conv=>whnf);repeat' (first|(refine kA ?_;conv=>whnf)|(refine Br.mk (fun hc=>?_) fun hc=>?_<;>first|exact hc.elim|conv=>whnf)  |(refine kB ?_))
  refine PD rfl AgN ?_
  (conv=>whnf);repeat' (first|(refine kA ?_;conv=>whnf)|(refine Br.mk (fun hc=>?_) fun hc=>?_<;>first|exact hc.elim|conv=>whnf)  |(refine kB ?_))
  refine I7 ?_ rfl
  (conv=>whnf);repeat' (first|(refine kA ?_;conv=>whnf)|(refine Br.mk (fun hc=>?_) fun hc=>?_<;>first|exact hc.elim|conv=>whnf)  |(refine kB ?_))
  rfl
 |true=>
  refine Ac rfl rfl ?_
  (conv=>whnf);repeat' (first|(refine kA ?_;conv=>whnf)|(refine Br.mk (fun hc=>?_) fun hc=>?_<;>first|exact hc.elim|conv=>whnf)  |(refine kB ?_))
  refine Aec rfl (Ajy (AcB h3) h2) ?_
  (conv=>whnf);repeat' (first|(refine kA ?_;conv=>whnf)|(refine Br.mk (fun hc=>?_) fun hc=>?_<;>first|exact hc.elim|conv=>whnf)  |(refine kB ?_))
  refine Ap (fun m env st=>∃i:Nat,m=l.length-i∧env=[(1,.ref 0 0 0 0),(2,.ref 1 1 0 0),(10,.int .i64 l.length),(11,.int .i64 i)]∧st=⟨[.arr 0 5 true false [.agg [.int .i64 k,.int .i64 n,.int .i64 dd,.str s,.own 2 2 0 l.length]],.arr 1 5 true true [.agg [.int .i64 0,.int .i64 0,.int .i64 0,.str [],.sl false []]],.arr 2 5 true true l],3⟩) ?_ _ _ _ ⟨0,rfl,rfl,rfl⟩
  rintro _ _ _ ⟨i,rfl,rfl,rfl⟩
  refine⟨rfl,?_⟩
  unfold Ln at g5
  obtain⟨gx,hgx⟩:=AgO h3 i
  (conv=>whnf);repeat' (first|(apply Ah;(· exact(hgx (by omega)).1);conv=>whnf)|(refine Aa (ih (g:=gx) (hgx (by omega)).2.2.1 (hgx (by omega)).2.2.2) ?_;rintro _ rfl;conv=>whnf)|(apply CB;(· exact VK (x:=gx.av) (hgx (by omega)).1);conv=>whnf)|(refine kA ?_;conv=>whnf)|(refine Br.mk (fun hc=>?_) fun hc=>?_<;>first|exact hc.elim|conv=>whnf)|(refine kB ?_))
  ·exact again.mk ⟨_,by omega,i+1,rfl,rfl,rfl⟩
  ·rw[Ael];rfl
theorem Yf:∀(d:Nat) {g:GV},g.ok→KJ d g.av→Af (Ad tab) 155 [g.av] (· =g.av)
 |0,_,_,h=>by cases h
 |d+1,g,hg,h=>by
  obtain⟨g',e,h1,h2,d',e2,h3⟩:=WX h
  obtain rfl:d=d':=by omega
  have:g.l=g'.l:=by injection e with e;simp only[List.cons.injEq,AV.sl.injEq]at e;exact e.2.2.2.2.1.2
  exact AcC hg (by rw[this];exact h2) (by rw[this];exact h3) (Yf d)
theorem AhB:A8 (Ad tab) 149 [.sl false []] ⟨[],0⟩ fun out _=>out=.ok (.sl false []):=by
 refine Ar rfl rfl ?_
 (conv=>whnf);repeat' (first|(refine kA ?_;conv=>whnf)|(refine Br.mk (fun hc=>?_) fun hc=>?_<;>first|exact hc.elim|conv=>whnf)  |(refine kB ?_))
 rfl
theorem Ake {l:List GP} (hl:l.length≤2000):A8 (Ad tab) 149 [.sl true (vs GP.av l)] ⟨[],0⟩ fun out s'=>∃o g,out=.ok (.own o g 0 (vs GP.av l).length)∧nth s'.σ o=some (.arr g 6 true true (vs GP.av l)):=by
 refine Ar rfl rfl ?_
 (conv=>whnf);repeat' (first|(refine kA ?_;conv=>whnf)|(refine Br.mk (fun hc=>?_) fun hc=>?_<;>first|exact hc.elim|conv=>whnf)  |(refine kB ?_))
 refine Rl (FB (f:=GP.av) (fun _=>rfl) l) (by rw[lV];omega) ?_
 (conv=>whnf);repeat' (first|(refine kA ?_;conv=>whnf)|(refine Br.mk (fun hc=>?_) fun hc=>?_<;>first|exact hc.elim|conv=>whnf)  |(refine kB ?_))
 exact⟨_,_,rfl,rfl⟩
theorem AhC {ps:List GP} {nn:Bool} (hl:ps.length≤2000) (hn:nn=false→ps=[]) (hok:∀p∈ps,p.ok) (hL:∀p∈ps,KJ 12 p.v.av):Af (Ad tab) 122 [.sl nn (vs GP.av ps)] (· =.sl nn (vs GP.av ps)):=by
 cases nn with
 |false=>
  obtain rfl:=hn rfl
  refine Ac rfl rfl ?_
  (conv=>whnf);repeat' (first|(refine kA ?_;conv=>whnf)|(refine Br.mk (fun hc=>?_) fun hc=>?_<;>first|exact hc.elim|conv=>whnf)  |(refine kB ?_))
  refine PD rfl AhB ?_
  (conv=>whnf);repeat' (first|(refine kA ?_;conv=>whnf)|(refine Br.mk (fun hc=>?_) fun hc=>?_<;>first|exact hc.elim|conv=>whnf)  |(refine kB ?_))
  refine I7 ?_ rfl
  (conv=>whnf);repeat' (first|(refine kA ?_;conv=>whnf)|(refine Br.mk (fun hc=>?_) fun hc=>?_<;>first|exact hc.elim|conv=>whnf)  |(refine kB ?_))
  rfl
 |true=>
  refine Ac rfl rfl ?_
  (conv=>whnf);repeat' (first|(refine kA ?_;conv=>whnf)|(refine Br.mk (fun hc=>?_) fun hc=>?_<;>first|exact hc.elim|conv=>whnf)  |(refine kB ?_))
  refine Aec rfl (Ake hl) ?_
  (conv=>whnf);repeat' (first|(refine kA ?_;conv=>whnf)|(refine Br.mk (fun hc=>?_) fun hc=>?_<;>first|exact hc.elim|conv=>whnf)  |(refine kB ?_))
  refine Ap (fun m env st=>∃i:Nat,m=ps.length-i∧env=[(3,.own 0 0 0 (vs GP.av ps).length),(8,.int .i64 (vs GP.av ps).length),(9,.int .i64 i)]∧st=⟨[.arr 0 6 true true (vs GP.av ps)],1⟩) ?_ _ _ _ ⟨0,rfl,rfl,rfl⟩
  rintro _ _ _ ⟨i,rfl,rfl,rfl⟩
  refine⟨rfl,?_⟩
  have hll:(vs GP.av ps).length=ps.length:=lV _
  have ho:∀h:i<ps.length,(ps[i]).v.ok∧KJ 12 (ps[i]).v.av:=fun h=>⟨(hok _ (List.getElem_mem h)).2,hL _ (List.getElem_mem h)⟩
  (conv=>whnf);repeat' (first|(refine Aa (Yf 12 (g:=ps[i].v) (ho (by omega)).1 (ho (by omega)).2) ?_;rintro _ rfl;conv=>whnf)|(apply CB;(· exact VK (x:=(ps[i]).av) (nVN (by omega)));conv=>whnf)|(refine kA ?_;conv=>whnf)|(refine Br.mk (fun hc=>?_) fun hc=>?_<;>first|exact hc.elim|conv=>whnf)|(refine kB ?_))
  ·exact again.mk ⟨_,by omega,i+1,rfl,rfl,rfl⟩
  ·rw[Ael]
def Rk (e:GE):Prop:=(e.pn=false→e.props=[])∧Ali e.props
theorem AlP {g:GG} (hl:g.edges.length<2^63) (hg:∀n∈g.edges,Rk n) {id:Int}:Af (Ad tab) 88 [g.av,.int .i64 id] (· =MJ g.edges id):=by
 refine Ac rfl rfl ?_
 (conv=>whnf);repeat' (first|(refine kA ?_;conv=>whnf)|(refine Br.mk (fun hc=>?_) fun hc=>?_<;>first|exact hc.elim|conv=>whnf)  |(refine kB ?_))
 refine Ap (fun m env s=>∃i c:Nat,m=g.edges.length-i∧(∀ x∈g.edges.take i,isE id x=false)∧env=[(1,.int .i64 id),(4,.ref 1 1 0 0),(9,.sl g.en (vs GE.av g.edges)),(10,.int .i64 g.edges.length),(11,.int .i64 i)]∧s=⟨[.arr 0 4 true true [g.av],.arr 1 5 true true [.agg [.int .i64 0,.int .i64 0,.int .i64 0,.str [],.sl false []]]],c⟩) ?_ _ _ _ ⟨0,_,rfl,by simp,rfl,rfl⟩
 rintro _ _ _ ⟨i,c,rfl,hx,rfl,rfl⟩
 refine⟨rfl,?_⟩
 have ho:∀h:i<g.edges.length,Rk g.edges[i]:=fun h=>hg _ (List.getElem_mem h)
 (conv=>whnf);repeat' (first|(refine kA ?_;conv=>whnf)|(refine Br.mk (fun hc=>?_) fun hc=>?_<;>first|exact hc.elim|conv=>whnf)|(refine Aa (AhC (ps:=g.edges[i].props) (ho (by omega)).2.1 (ho (by omega)).1 (fun p hp=>((ho (by omega)).2.2 p hp).1) (fun p hp=>((ho (by omega)).2.2 p hp).2)) ?_;rintro _ rfl;conv=>whnf)|(refine kB ?_))
 ·rw[MJ,WT (by omega) hx (decide_eq_true hc)];rfl
 ·exact again.mk ⟨_,by omega,i+1,_,rfl,WU (by omega) hx (decide_eq_false hc),rfl,rfl⟩
 ·rw[Df hc]at hx
  rw[MJ,WV hx];rfl
section
open Go.Sort
section
variable {α:Type} [Inhabited α] {lt:α→α→Bool} {a b i j:Nat} {d:Array α}
@[simp] theorem Akd:∀{j:Nat} {d:Array α},(shiftDown lt j d).size=d.size
 |0,d=>rfl
 |j+1,d=>by
  rw[shiftDown]
  split
  ·rfl
  ·rw[Akd,Uw]
theorem AbQ:∀(n j:Nat) (d:Array α),b-j≤n→(shiftUp lt b j d).size=d.size
 |0,j,d,h=>by rw[shiftUp,if_neg (by omega)]
 |n+1,j,d,h=>by
  rw[shiftUp]
  split
  ·split
   ·rfl
   ·rw[AbQ n _ _ (by omega),Uw]
  ·rfl
@[simp] theorem AoC:(shiftUp lt b j d).size=d.size:=AbQ (b-j) j d (Nat.le_refl _)
@[simp] theorem Ant:(fixDown lt a i d).size=d.size:=by unfold fixDown;split<;>simp
@[simp] theorem Anu:(fixUp lt b i d).size=d.size:=by unfold fixUp;split<;>simp
variable {p:α→Bool}
end
end
section
open Go.Sort
def TF (a b:Int):Int:=if a=0 then b else a
def cS (x y:List UInt8):Int:=if Op.bytesLess x y=true then -1 else if Op.bytesLess y x=true then 1 else 0
structure PC {α:Type} (c:α→α→Int):Prop where
 anti:∀x y,c y x=-c x y
 trans:∀x y z,c x y≤0→c y z≤0→c x z≤0
theorem PC.on {α β:Type} {c:β→β→Int} (h:PC c) (p:α→β):PC fun x y=>c (p x) (p y):=⟨fun x y=>h.anti _ _,fun x y z=>h.trans _ _ _⟩
theorem Tq:∀(x y:List UInt8),Op.bytesLess x y=decide (x<y)
 |[],[]=>by simp[Op.bytesLess]
 |_::_,[]=>by simp[Op.bytesLess]
 |[],_::_=>by simp[Op.bytesLess]
 |a::x,b::y=>by
  rw[Op.bytesLess,Tq x y]
  simp only[List.cons_lt_cons_iff]
  by_cases h1:a<b<;>by_cases h2:a=b<;>by_cases h3:x<y<;>simp[h1,h2,h3]
theorem ZG (x y:List UInt8):Op.bytesLess x y=ltStr x y:=Tq x y
theorem Abg {x y:List UInt8} (h1:Op.bytesLess x y=false) (h2:Op.bytesLess y x=false):x=y:=by
 rw[ZG]at h1 h2
 simp only[ltStr,decide_eq_false_iff_not]at h1 h2
 exact List.le_antisymm (List.not_lt.1 h2) (List.not_lt.1 h1)
theorem AkO:PC cS where
 anti x y:=by
  have h:Op.bytesLess x y=true→Op.bytesLess y x=true→False:=fun a b=>by
   rw[ZG]at a b
   have:=swo_ltStr.trans x y x a b
   rw[swo_ltStr.irrefl]at this;cases this
  unfold cS
  by_cases a:Op.bytesLess x y=true<;>by_cases b:Op.bytesLess y x=true<;>simp[a,b]
  exact h a b
 trans x y z h1 h2:=by
  have n1:Op.bytesLess y x=false:=by
   unfold cS at h1
   split at h1
   ·rename_i a
    cases hb:Op.bytesLess y x with
    |false=>rfl
    |true=>
     rw[ZG]at a hb
     have:=swo_ltStr.trans x y x a hb
     rw[swo_ltStr.irrefl]at this;cases this
   ·split at h1
    ·omega
    ·rename_i b;simpa using b
  have n2:Op.bytesLess z y=false:=by
   unfold cS at h2
   split at h2
   ·rename_i a
    cases hb:Op.bytesLess z y with
    |false=>rfl
    |true=>
     rw[ZG]at a hb
     have:=swo_ltStr.trans y z y a hb
     rw[swo_ltStr.irrefl]at this;cases this
   ·split at h2
    ·omega
    ·rename_i b;simpa using b
  have n3:Op.bytesLess z x=false:=by rw[ZG]at *;exact swo_ltStr.ntrans z y x n2 n1
  unfold cS
  split
  ·omega
  ·rw[n3];simp
theorem XQ {x y:List UInt8}:cS x y=0↔x=y:=by
 constructor
 ·intro h
  unfold cS at h
  split at h
  ·omega
  ·split at h
   ·omega
   ·rename_i a b;exact Abg (by simpa using a) (by simpa using b)
 ·rintro rfl
  have:=AkO.anti x x
  omega
theorem AiT {x:List UInt8}:Af (Ad tab) 218 [.str x] (· =.bool false):=by
 refine Ac rfl rfl ?_
 (conv=>whnf);repeat' (first  |(refine kA ?_;conv=>whnf)|(refine Br.mk (fun hc=>?_) fun hc=>?_<;>first|exact hc.elim|conv=>whnf)|(refine kB ?_))
 all_goals first|rfl|(exfalso;simp_all)
theorem Am3 {x y:List UInt8} (h:Op.bytesLess x y=true):AV.int .i64 (-1)=.int .i64 (cS x y):=by unfold cS;rw[if_pos h]
theorem Am4 {x y:List UInt8} (h:Op.bytesLess x y=false) (h2:(Op.bytesLess x y||x==y)=true):AV.int .i64 0=.int .i64 (cS x y):=by
 rw[h,Bool.false_or,beq_iff_eq]at h2
 rw[XQ.2 h2]
theorem Am5 {x y:List UInt8} (h2:(Op.bytesLess x y||x==y)=false):AV.int .i64 1=.int .i64 (cS x y):=by
 rw[Bool.or_eq_false_iff,beq_eq_false_iff_ne]at h2
 have h3:Op.bytesLess y x=true:=by
  cases h:Op.bytesLess y x with
  |true=>rfl
  |false=>exact absurd (Abg h2.1 h) h2.2
 unfold cS;rw[h2.1,h3];rfl
theorem Af8 {x y:List UInt8}:Af (Ad tab) 204 [.str x,.str y] (· =.int .i64 (cS x y)):=by
 refine Ac rfl rfl ?_
 (conv=>whnf);repeat' (first|(refine Aa AiT ?_;rintro _ rfl;conv=>whnf)|(refine kA ?_;conv=>whnf)|(refine Br.mk (fun hc=>?_) fun hc=>?_<;>first|exact hc.elim|conv=>whnf)|(refine kB ?_))
 all_goals first|exact Am3 hc|exact Am4 (by assumption) hc|exact Am5 hc
end
end AI
end Go.Proofs.YtchcadfjbkkgmaaGreatDoor
