/- Lists in the order of a key, looked up by key: plain. What a change leaves alone: plain. Changes as arguments. Looking for the first. The reference looks up nodes and edges. Looking for the first: good properties. Small values. A value cloned reads as the value. Clones: they read as what was cloned. The program looks up nodes and edges. Valid values, exactly: the program's. Valid values, exactly: the reference's. Numbers among values. The null value. The program's order of a value and null. The order of values: plain. Properties looked up. Scripts between graphs: what they are, in plain lists. The reference's order of a value and null. The order of values: the program's walks. The order of values: the reference's walks. Graphs alike: the program's way and the reference's. Looking up a key in nodes: slices.BinarySearchFunc, on memory that stays. Looking up a key in edges: slices.BinarySearchFunc, on memory that stays. Looking up a key in properties: slices.BinarySearchFunc, on memory that stays. Looking up a key in strings: slices.BinarySearch, on memory that stays. Walks through what an editor calls: must, node, edge. Setting a property of a node or an edge that an editor edits. change.Check. What becomes of an edited graph when its store changes. An editor's change of a node. An editor's change of a node: labels. An editor's change of a node: labels taken away, properties set. An editor's change of an edge: looking it up; taking one away. An editor's change of an edge: a property set. An editor's change of an edge: one more. An editor's change of a node: taken away. An editor's change of a node: taken away. What a change makes of a graph; an editor's functions make just that. A step keeps what an editor asks. Walks through a function that defers a recovering closure. -/
import Derived.Test.YtchcadfjbkkgmaaGreatDoorDMam
import Derived.Test.YtchcadfjbkkgmaaGreatDoorDMag
import Derived.Test.YtchcadfjbkkgmaaGreatDoorDMaf
import Derived.Test.YtchcadfjbkkgmaaGreatDoorDMan
import Derived.Test.YtchcadfjbkkgmaaGreatDoorDMai
import Derived.Test.YtchcadfjbkkgmaaGreatDoorDMao
import Derived.Test.YtchcadfjbkkgmaaGreatDoorDMae
import Derived.Test.YtchcadfjbkkgmaaGreatDoorDMah
import Derived.Test.YtchcadfjbkkgmaaGreatDoorDMaj
import Derived.Test.YtchcadfjbkkgmaaGreatDoorDVa
set_option linter.unusedVariables false
set_option maxRecDepth 4000
namespace Go.Proofs.YtchcadfjbkkgmaaGreatDoor
namespace AI
section
variable {α κ:Type} {lt:κ→κ→Bool} {key:α→κ}
def lk [DecidableEq κ] (key:α→κ) (l:List α) (k:κ):Option α:=l.find? fun a=>decide (key a=k)
theorem AaD [DecidableEq κ] {l:List α} {k:κ} {a:α} (h:lk key l k=some a):a∈l∧key a=k:=⟨List.mem_of_find?_eq_some h,of_decide_eq_true (List.find?_some (p:=fun a=>decide (key a=k)) h)⟩
theorem Xd [DecidableEq κ] (hs:XG lt):∀{l:List α},Inc lt key l→∀{a:α} {k:κ},a∈l→key a=k→lk key l k=some a
 |[],_,_,_,h,_=>by simp at h
 |b::l,hl,a,k,h,e=>by
  have hl':=List.pairwise_cons.1 hl
  unfold lk
  rcases List.mem_cons.1 h with rfl|hm
  ·rw[List.find?_cons,decide_eq_true e]
  ·have hb:key b≠k:=fun e2=>by
        have:=hl'.1 a hm
        rw[e,e2,hs.irr]at this;cases this
   rw[List.find?_cons,decide_eq_false hb]
   exact Xd hs hl'.2 hm e
theorem AeQ [DecidableEq κ] (hs:XG lt) {l:List α} (hl:Inc lt key l) {k:κ} {a:α}:lk key l k=some a↔a∈l∧key a=k:=⟨AaD,fun h=>Xd hs hl h.1 h.2⟩
theorem ne_iff (hs:XG lt) {x y:κ}:(lt x y=true∨lt y x=true)↔x≠y:=by
 constructor
 ·rintro(h|h) rfl<;>(rw [hs.irr]at h;cases h)
 ·intro h
  cases h1:lt x y
  ·cases h2:lt y x
   ·exact absurd (hs.tot _ _ h1 h2) h
   ·exact .inr rfl
  ·exact .inl rfl
theorem Q8 (hs:XG lt) {x y:α} {l:List α}:y∈EF lt key x l↔y=x∨y∈l∧key y≠key x:=by
 rw[← ne_iff hs]
 simp only[EF,below,above,List.mem_append,List.mem_filter,List.mem_singleton]
 constructor
 ·rintro((h|h)|h)
  ·exact .inr ⟨h.1,.inl h.2⟩
  ·exact .inl h
  ·exact .inr ⟨h.1,.inr h.2⟩
 ·rintro(h|⟨h,h2|h2⟩)
  ·exact .inl (.inr h)
  ·exact .inl (.inl ⟨h,h2⟩)
  ·exact .inr ⟨h,h2⟩
theorem AdL [DecidableEq κ] (hs:XG lt) {x:α} {l:List α} (hl:Inc lt key l) {k:κ}:lk key (EF lt key x l) k=if k=key x then some x else lk key l k:=by
 have hp:=Hf (x:=x) hs hl
 by_cases e:k=key x
 ·rw[if_pos e]
  exact Xd hs hp ((Q8 hs).2 (.inl rfl)) e.symm
 ·rw[if_neg e]
  apply Option.ext
  intro a
  rw[AeQ hs hp,AeQ hs hl,Q8 hs]
  constructor
  ·rintro⟨rfl|h,h2⟩
   ·exact absurd h2.symm e
   ·exact⟨h.1,h2⟩
  ·rintro⟨h,h2⟩
   exact⟨.inr ⟨h,by rw[h2];exact e⟩,h2⟩
end
structure GC where
 op:Int
 id:Int
 fr:Int
 to:Int
 name:List UInt8
 v:GV
def GC.av (c:GC):AV:=.agg [.int .i64 c.op,.int .i64 c.id,.int .i64 c.fr,.int .i64 c.to,.str c.name,.int .i64 c.v.k,.int .i64 c.v.n,.int .i64 c.v.d,.str c.v.s,.sl c.v.nn c.v.l]
def GC.ok (c:GC):Prop:=I64 c.op∧I64 c.id∧I64 c.fr∧I64 c.to∧Ln c.name∧c.v.ok
def Ag2 (ns:List Int) (N:List GN):List GN:=N.filter fun n=>decide (n.id∉ns)
def Ag3 (es:List Int) (E:List GE):List GE:=E.filter fun e=>decide (e.id∉es)
def Qj (ns es:List Int) (g h:GG):Prop:=Ag2 ns h.nodes=Ag2 ns g.nodes∧Ag3 es h.edges=Ag3 es g.edges
theorem Qj.refl (ns es:List Int) (g:GG):Qj ns es g g:=⟨rfl,rfl⟩
theorem Qj.trans {ns es:List Int} {g h k:GG} (h1:Qj ns es g h) (h2:Qj ns es h k):Qj ns es g k:=⟨h2.1.trans h1.1,h2.2.trans h1.2⟩
def VLi (m:Nat) (l:List AV):Prop:=∀i (h:i<l.length),∃x:GV,l[i]=x.av∧VV m x
noncomputable instance (m:Nat) (g:GV):Decidable (VV m g):=Classical.propDecidable _
noncomputable instance (l:List AV):Decidable (VPa l):=Classical.propDecidable _
noncomputable instance (m:Nat) (l:List AV):Decidable (VLi m l):=Classical.propDecidable _
def Akr (g:GV):Prop:=VV 8 g∧(g.k=2∨g.k=3)
noncomputable instance (g:GV):Decidable (Akr g):=by unfold Akr;infer_instance
def dn (g:GV):Int:=if g.k=2 then 1 else g.d
def isNull (v:GV):Prop:=v.k=0∧v.n=0∧v.d=0∧v.s=[]∧v.l.length=0
instance (v:GV):Decidable (isNull v):=by unfold isNull;infer_instance
def Aiz (k:Int):Int:=if k=3 then 2 else if k=7 then 9 else k
section
open Go.Sort
def Agm:AV→GV
 | .agg [.int _ k,.int _ n,.int _ d,.str s,.sl nn l]=>⟨k,n,d,s,nn,l⟩
 |_=>⟨0,0,0,[],false,[]⟩
def LW (c:AV→AV→Int):List AV→List AV→Int
 |[],[]=>0
 |[],_::_=>-1
 |_::_,[]=>1
 |a::x,b::y=>SY (c a b) (LW c x y)
theorem Um {c:AV→AV→Int} (hc:PC c):∀x y,LW c y x=-LW c x y
 |[],[]=>rfl
 |[],_::_=>rfl
 |_::_,[]=>rfl
 |a::x,b::y=>by
  have h1:=hc.anti a b
  have h2:=Um hc x y
  simp only[LW,SY]
  split<;>split<;>omega
theorem QL {c:AV→AV→Int} (hc:PC c):∀x y z,LW c x y≤0→LW c y z≤0→LW c x z≤0
 |[],_,[],_,_=>Int.le_refl 0
 |[],_,_::_,_,_=>by show(-1:Int)≤0;omega
 |_::_,[],_,h,_=>absurd h (by show¬(1:Int)≤0;omega)
 |_::_,_::_,[],_,h=>absurd h (by show¬(1:Int)≤0;omega)
 |a::x,b::y,d::z,h1,h2=>by
  have ih:=QL hc x y z
  have a1:=hc.trans a b d
  have a2:=hc.trans b d a
  have a3:=hc.trans d a b
  have b1:=hc.anti a b
  have b2:=hc.anti b d
  have b3:=hc.anti a d
  simp only[LW,SY]at*
  split at h1<;>split at h2<;>split<;>omega
theorem PC.lists {c:AV→AV→Int} (hc:PC c):PC (LW c):=⟨Um hc,QL hc⟩
def pd (g:GV):Int:=if dn g≤0 then 1 else dn g
def AkC (a b:GV):Int:=sgn (a.n*pd b-b.n*pd a)
def AkD:Nat→GV→GV→Int
 |0,_,_=>0
 |m+1,a,b=>SY (MW (Aiz a.k) (Aiz b.k)) (if Aiz a.k=2 then AkC a b else SY (cS a.s b.s) (SY (MW a.n b.n) (LW (fun x y=>AkD m (Agm x) (Agm y)) a.l b.l)))
theorem PC.two {α:Type} {d e:α→α→Int} {p:α→Prop} [DecidablePred p] (hd:PC d) (he:PC e):PC fun x y=>if p x then if p y then d x y else -1 else if p y then 1 else e x y where
 anti x y:=by
  have h2:=hd.anti x y
  have h3:=he.anti x y
  by_cases hx:p x<;>by_cases hy:p y<;>simp only[hx,hy,if_true,if_false]<;>first|assumption|rfl
 trans x y z h1 h2:=by
  have d1:=hd.trans x y z
  have e1:=he.trans x y z
  by_cases hx:p x<;>by_cases hy:p y<;>by_cases hz:p z<;>simp only[hx,hy,hz,if_true,if_false]at* <;>first|exact d1 h1 h2|exact e1 h1 h2|omega
noncomputable def AhH:Nat→GV→GV→Int
 |0,_,_=>0
 |m+1,a,b=>if VV 8 a then if VV 8 b then AkD (m+1) a b else -1 else if VV 8 b then 1 else
   SY (MW a.k b.k) (SY (MW a.n b.n) (SY (MW a.d b.d) (SY (cS a.s b.s) (LW (fun x y=>AhH m (Agm x) (Agm y)) a.l b.l))))
end
def cl (b:Bool) (x:AV):AV:=bif b then .agg [x]else x
section
open Go.Sort
end
section
open Go.Sort
end
def AdD {α:Type} (R:α→α→Prop) (l m:List α):Prop:=l.length=m.length∧∀k (h:k<l.length) (h':k<m.length),R l[k] m[k]
noncomputable instance {α:Type} (R:α→α→Prop) (l m:List α):Decidable (AdD R l m):=Classical.propDecidable _
section
variable {α:Type} {R:α→α→Prop} {l m:List α} {i:Nat}
end
def SP (x y:GP):Prop:=x.key=y.key∧AhH 12 x.v y.v=0
def SN (x y:GN):Prop:=x.id=y.id∧x.labels=y.labels∧AdD SP x.props y.props
def SE (x y:GE):Prop:=x.id=y.id∧x.fr=y.fr∧x.to=y.to∧x.ty=y.ty∧AdD SP x.props y.props
def SG (a b:GG):Prop:=AdD SN a.nodes b.nodes∧AdD SE a.edges b.edges
noncomputable instance (x y:GP):Decidable (SP x y):=Classical.propDecidable _
noncomputable instance (x y:GN):Decidable (SN x y):=Classical.propDecidable _
noncomputable instance (x y:GE):Decidable (SE x y):=Classical.propDecidable _
noncomputable instance (x y:GG):Decidable (SG x y):=Classical.propDecidable _
theorem Afk {a b:Int} (h:MW a b<0):H6 a b=true:=by simpa[H6]using OA.1 h
theorem Afl {a b:Int} (h:¬MW a b<0):H6 a b=false:=by simpa[H6]using mt OA.2 h
theorem AlC {n:GN} {x:Int}:Ah (Ac tab) 195 [n.av,.int .i64 x] (· =.int .i64 (MW n.id x)):=by
 refine Ad rfl rfl ?_
 (conv=>whnf);repeat' (first|(refine kA ?_;conv=>whnf)|(refine Br.mk (fun hc=>?_) fun hc=>?_<;>first|exact hc.elim|conv=>whnf)|(refine Aa compare ?_;rintro _ rfl;conv=>whnf)|(refine kB ?_))
 rfl
theorem bsN {l:List GN} {nn:Bool} {x:Int} (hl:l.length<2^62) (hi:Inc H6 GN.id l):Ah (Ac tab) 99 [.sl nn (vs GN.av l),.int .i64 x,.fn 195 []] (fun v=>∃(i:Nat) (b:Bool),v=.Ce [.int .i64 i,.bool b]∧AtK H6 GN.id x l i∧(b=true↔∃y∈l,GN.id y=x)):=by
 have fin:∀i:Nat,AtK H6 GN.id x l i→((∃ y∈l,GN.id y=x)↔∃h:i<l.length,GN.id l[i]=x):=by
  intro i h
  constructor
  ·intro hf
   obtain⟨h1,h2,_⟩:=h.found Bq hi hf
   exact⟨h1,h2⟩
  ·rintro⟨h1,h2⟩
   exact⟨_,List.getElem_mem h1,h2⟩
 refine Ad rfl rfl ?_
 (conv=>whnf);repeat' (first|(refine kA ?_;conv=>whnf)|(refine Br.mk (fun hc=>?_) fun hc=>?_<;>first|exact hc.elim|conv=>whnf)  |(refine kB ?_))
 refine Ai (fun m env s=>∃(i j:Nat),m=j-i∧i≤j∧j≤l.length∧env=[(0,.sl nn (vs GN.av l)),(1,.int .i64 x),(2,.fn 195 []),(8,.int .i64 l.length),(9,.int .i64 i),(10,.int .i64 j)]∧s=⟨[],0⟩∧
  (∀ k (h:k<l.length),k<i→H6 (GN.id l[k]) x=true)∧(∀ k (h:k<l.length),j≤k→H6 (GN.id l[k]) x=false)) ?_ _ _ _ ⟨0,l.length,rfl,by omega,by omega,by simp,rfl,fun k _ h=>absurd h (by omega),fun k h1 h=>absurd h (by omega)⟩
 rintro _ _ _ ⟨i,j,rfl,hij,hj,rfl,rfl,h1,h2⟩
 refine⟨rfl,?_⟩
 have lo:∀{q:Nat} (hq:q<l.length),H6 (GN.id l[q]) x=true→∀k (h:k<l.length),k<q+1→H6 (GN.id l[k]) x=true:=fun{q} hq hm k hk hlt=>by
  rcases Nat.lt_or_ge k q with h|h
  ·exact(Bq).tr _ _ _ (hi.get h hq) hm
  ·obtain rfl:k=q:=by omega
   exact hm
 have up:∀{q:Nat} (hq:q<l.length),H6 (GN.id l[q]) x=false→∀k (h:k<l.length),q≤k→H6 (GN.id l[k]) x=false:=fun{q} hq hm k hk hle=>by
  rcases Nat.lt_or_ge q k with h|h
  ·cases h3:H6 (GN.id l[k]) x
   ·rfl
   ·have:=(Bq).tr _ _ _ (hi.get h hk) h3
    rw[hm]at this;cases this
  ·obtain rfl:k=q:=by omega
   exact hm
 (conv=>whnf);repeat' (first|(refine Aaj (i+j) (by omega) (by omega) ?_;conv=>whnf)|(apply AU;(· exact Afm _);conv=>whnf)|(refine Aa AlC ?_;rintro _ rfl;conv=>whnf)|(refine kA ?_;conv=>whnf)|(refine Br.mk (fun hc=>?_) fun hc=>?_<;>first|exact hc.elim|conv=>whnf)|(refine kB ?_))
 all_goals first
  |exact again.mk ⟨_,by omega,(i+j) / 2+1,j,rfl,by omega,hj,rfl,rfl,lo (by omega) (Afk hc),h2⟩
  |exact again.mk ⟨_,by omega,i,(i+j) / 2,rfl,by omega,by omega,rfl,rfl,h1,up (by omega) (Afl hc)⟩
  |skip
 all_goals
  obtain rfl:i=j:=by omega
  have ha:AtK H6 GN.id x l i:=⟨by omega,h1,h2⟩
  have hf:=fin i ha
  first
   |exact⟨i,_,rfl,ha,fun _=>hf.2 ⟨by omega,Md.1 hc⟩,fun _=>rfl⟩
   |exact⟨i,_,rfl,ha,fun h=>(by cases h),fun h=>(by obtain⟨_,e⟩:=hf.1 h;exact absurd (Md.2 e) hc)⟩
   |exact⟨i,_,rfl,ha,fun h=>(by cases h),fun h=>by obtain⟨e,_⟩:=hf.1 h;omega⟩
theorem ED:XG Op.bytesLess where
 irr:=fun x=>by rw[Ri];simp
 tr:=fun x y z h1 h2=>by rw[Ri]at *;simp only[decide_eq_true_eq]at *;exact List.lt_trans h1 h2
 tot:=fun x y h1 h2=>AhA h1 h2
theorem Ahz {g:GG} {x:Int} (hl:g.nodes.length<2^62) (hi:Inc H6 GN.id g.nodes):Ah (Ac tab) 167 [.BR g.av.cells,.int .i64 x] (fun v=>∃(i:Nat) (b:Bool),v=.Ce [.int .i64 i,.bool b]∧AtK H6 GN.id x g.nodes i∧(b=true↔∃y∈g.nodes,GN.id y=x)):=by
 refine Ad rfl rfl ?_
 (conv=>whnf);repeat' (first|(refine Aa (bsN hl hi) ?_;rintro _ ⟨i,b,rfl,h1,h2⟩;conv=>whnf)|(refine kA ?_;conv=>whnf)|(refine Br.mk (fun hc=>?_) fun hc=>?_<;>first|exact hc.elim|conv=>whnf)|(refine kB ?_))
 all_goals exact⟨i,_,rfl,h1,by rw[hc]at h2;exact h2⟩
structure Fr (σ σ':List Obj) (F:List Nat):Prop where
 len:σ.length≤σ'.length
 eq:∀o,o<σ.length→o∉F→nth σ' o=nth σ o
theorem Fr.refl {σ:List Obj} {F:List Nat}:Fr σ σ F:=⟨Nat.le_refl _,fun _ _ _=>rfl⟩
theorem Fr.trans {σ σ1 σ2:List Obj} {F:List Nat} (h:Fr σ σ1 F) (k:Fr σ1 σ2 F):Fr σ σ2 F:=
 ⟨Nat.le_trans h.len k.len,fun o ho hf=>(k.eq o (Nat.lt_of_lt_of_le ho h.len) hf).trans (h.eq o ho hf)⟩
theorem Fr.mono {σ σ':List Obj} {F F':List Nat} (h:Fr σ σ' F) (hf:∀o∈F,o∈F'∨σ.length≤o):Fr σ σ' F':=
 ⟨h.len,fun o ho hn=>h.eq o ho fun hm=>(hf o hm).elim hn fun h=>by omega⟩
theorem Fr.get {σ σ':List Obj} {F:List Nat} {o:Nat} {x:Obj} (h:Fr σ σ' F) (hx:nth σ o=some x) (hf:o∉F):nth σ' o=some x:=(h.eq o (BZ hx) hf).trans hx
def nmd (op:Int):Prop:=op=3∨op=4∨op=5∨op=6∨op=8
instance (op:Int):Decidable (nmd op):=by unfold nmd;infer_instance
def vlu (op:Int):Prop:=op=5∨op=8
instance (op:Int):Decidable (vlu op):=by unfold vlu;infer_instance
def idG (z:Int):Prop:=1≤z∧z≤1000000
instance (z:Int):Decidable (idG z):=by unfold idG;infer_instance
def Afe (c:GC):Prop:=¬(1≤c.op∧c.op≤8)∨¬idG c.id∨(¬ nmd c.op∧c.name≠[])∨(¬ vlu c.op∧¬isNull c.v)∨(c.op=6∧(¬ idG c.fr∨¬idG c.to))∨(c.op≠6∧(c.fr≠0∨c.to≠0))
instance (c:GC):Decidable (Afe c):=by unfold Afe;infer_instance
def ckC (c:GC):Int:=if Afe c then 1 else if nmd c.op∧¬isName c.name then 6 else if vlu c.op∧¬isNull c.v∧¬Ew c.v then 8 else 0
theorem Alv {c:GC} (h:ckC c=0):(1≤c.op∧c.op≤8)∧idG c.id∧(nmd c.op→isName c.name)∧(c.op=6→idG c.fr∧idG c.to)∧(vlu c.op→isNull c.v∨Ew c.v):=by
 unfold ckC at h
 split at h
 ·cases h
 rename_i h1
 split at h
 ·cases h
 rename_i h2
 split at h
 ·cases h
 rename_i h3
 simp only[Afe,not_or,Classical.not_not,not_and]at h1 h2 h3
 refine⟨by omega,h1.2.1,fun hn=>h2 hn,fun h6=>?_,fun hv=>?_⟩
 ·have:=h1.2.2.2.2.1 h6;exact this
 ·by_cases hn:isNull c.v
  ·exact .inl hn
  ·exact .inr (h3 hv hn)
theorem Hd.diff {α:Type} {f:α→AV} {es:Nat} {σ:List Obj} {v:AV} {b c:Bool} {l:List α} (h:Hd f es σ v b l c) {o g es':Nat} {c':Bool} {xs:List AV} (ho:nth σ o=some (.arr g es' true c' xs)) (hne:es'≠es):o∉v.obj:=by
 intro hm
 obtain⟨g1,e1,nn,c1,x1,h1,h2⟩:=h.obj hm
 rw[ho]at h1
 simp only[Option.some.injEq,Obj.arr.injEq]at h1
 obtain⟨_,rfl,rfl,_,_⟩:=h1
 exact hne (h2 rfl)
theorem Hd.nodup {α:Type} {f:α→AV} {es:Nat} {σ:List Obj} {v:AV} {b c:Bool} {l:List α} (h:Hd f es σ v b l c):v.obj.Nodup:=by
 rcases h with⟨_,_,rfl|⟨o',g,es',rfl,h⟩⟩|⟨_,o',g,rfl,h⟩<;>simp[AV.obj]
theorem EN.Ok.lt {σ:List Obj} {e:EN} (h:e.Ok σ):∀o∈e.objs,o<σ.length:=fun o ho=>by
 rcases List.mem_append.1 ho with ho|ho
 ·exact h.1.lt o ho
 ·exact h.2.lt o ho
theorem EE.Ok.lt {σ:List Obj} {e:EE} (h:e.Ok σ):∀o∈e.objs,o<σ.length:=fun o ho=>Hd.lt h o ho
theorem EN.Ok.keep {σ σ':List Obj} {e:EN} (h:e.Ok σ) (hk:∀o∈e.objs,nth σ' o=nth σ o):e.Ok σ':=
 ⟨h.1.keep fun o ho=>hk o (List.mem_append_left _ ho),h.2.keep fun o ho=>hk o (List.mem_append_right _ ho)⟩
theorem EE.Ok.keep {σ σ':List Obj} {e:EE} (h:e.Ok σ) (hk:∀o∈e.objs,nth σ' o=nth σ o):e.Ok σ':=Hd.keep h hk
section
variable {σ σ':List Obj} {d gd:Nat} {vN vE:AV} {nb eb:Bool} {N:List EN} {E:List EE} {x y:Int}
theorem ZG {α:Type} {f:α→List Nat} {l:List α} {i:Nat} (hi:i<l.length):l.flatMap f=(l.take i).flatMap f++(f l[i]++(l.drop (i+1)).flatMap f):=by
 have e:l.take i++l[i]::l.drop (i+1)=l:=by rw[← List.drop_eq_getElem_cons hi,List.take_append_drop]
 rw[← List.flatMap_cons,←List.flatMap_append,e]
theorem ZH {N:List EN} {E:List EE} {i:Nat} (hi:i<N.length):Jd N E=(N.take i).flatMap EN.objs++(N[i]).objs++((N.drop (i+1)).flatMap EN.objs++E.flatMap EE.objs):=by
 rw[Jd,ZG hi]
 simp only[List.append_assoc]
theorem Vo {N:List EN} {E:List EE} {e:EN} (he:e∈N) {o:Nat} (ho:o∈e.objs):o∈Jd N E:=List.mem_append_left _ (List.mem_flatMap.2 ⟨e,he,ho⟩)
theorem Ab3 {N:List EN} {E:List EE} {e:EE} (he:e∈E) {o:Nat} (ho:o∈e.objs):o∈Jd N E:=List.mem_append_right _ (List.mem_flatMap.2 ⟨e,he,ho⟩)
theorem Ed.fr (h:Ed σ d gd vN vE nb eb N E x y) {F:List Nat} (hF:Fr σ σ' F) (ho:∀o∈d::(vN.obj++(vE.obj++Jd N E)),o∉F):Ed σ' d gd vN vE nb eb N E x y:=by
 obtain⟨cn,hn1,hn2⟩:=h.hn
 obtain⟨ce,he1,he2⟩:=h.he
 exact⟨hF.get h.box (ho _ (by simp)),⟨cn,hn1.keep fun o hm=>hF.eq o (hn1.lt o hm) (ho o (by simp[hm])),hn2⟩,⟨ce,he1.keep fun o hm=>hF.eq o (he1.lt o hm) (ho o (by simp[hm])),he2⟩,
  fun e he=>(h.hN e he).keep fun o hm=>hF.eq o ((h.hN e he).lt o hm) (ho o (by simp[Vo (E:=E) he hm])),
  fun e he=>(h.hE e he).keep fun o hm=>hF.eq o ((h.hE e he).lt o hm) (ho o (by simp[Ab3 (N:=N) he hm])),h.nd,h.oN,h.oE⟩
theorem Ed.nodes (h:Ed σ d gd vN vE nb eb N E x y) {F:List Nat} (hF:Fr σ σ' F) (hFE:∀o∈F,o∉vE.obj∧o∉E.flatMap EE.objs) {vN':AV} {nb':Bool} {N':List EN} {x':Int} {c':Bool}
 (hb:nth σ' d=some (.arr gd 4 true false [.agg [vN',vE,.int .i64 x',.int .i64 y]]))
 (hn:Hd EN.av 3 σ' vN' nb' N' c') (hc:c'=true→∀e∈N',e.av.closed=true) (hm:∀e∈N',e.Ok σ') (hnd:(d::(vN'.obj++(vE.obj++Jd N' E))).Nodup) (hv:vN'≠.sl false []):Ed σ' d gd vN' vE nb' eb N' E x' y:=by
 obtain⟨ce,he1,he2⟩:=h.he
 exact⟨hb,⟨c',hn,hc⟩,⟨ce,he1.keep fun o hm=>hF.eq o (he1.lt o hm) (fun hf=>(hFE o hf).1 hm),he2⟩,hm,
  fun e he=>(h.hE e he).keep fun o hm=>hF.eq o ((h.hE e he).lt o hm) (fun hf=>(hFE o hf).2 (List.mem_flatMap.2 ⟨e,he,hm⟩)),hnd,hv,h.oE⟩
theorem Ed.edges (h:Ed σ d gd vN vE nb eb N E x y) {F:List Nat} (hF:Fr σ σ' F) (hFE:∀o∈F,o∉vN.obj∧o∉N.flatMap EN.objs) {vE':AV} {eb':Bool} {E':List EE} {y':Int} {c':Bool}
 (hb:nth σ' d=some (.arr gd 4 true false [.agg [vN,vE',.int .i64 x,.int .i64 y']]))
 (hn:Hd EE.av 5 σ' vE' eb' E' c') (hc:c'=true→∀e∈E',e.av.closed=true) (hm:∀e∈E',e.Ok σ') (hnd:(d::(vN.obj++(vE'.obj++Jd N E'))).Nodup) (hv:vE'≠.sl false []):Ed σ' d gd vN vE' nb eb' N E' x y':=by
 obtain⟨cn,he1,he2⟩:=h.hn
 exact⟨hb,⟨cn,he1.keep fun o hm=>hF.eq o (he1.lt o hm) (fun hf=>(hFE o hf).1 hm),he2⟩,⟨c',hn,hc⟩,
  fun e he=>(h.hN e he).keep fun o hm=>hF.eq o ((h.hN e he).lt o hm) (fun hf=>(hFE o hf).2 (List.mem_flatMap.2 ⟨e,he,hm⟩)),hm,hnd,h.oN,hv⟩
theorem Ed.NY (h:Ed σ d gd vN vE nb eb N E x y) {i:Nat} (hi:i<N.length):∀o,o∈vN.obj∨o∈(N[i]).objs→o≠d∧o∉vE.obj∧o∉E.flatMap EE.objs∧(o∈vN.obj→o∉Jd N E)∧(o∈(N[i]).objs→o∉vN.obj∧∀j (hj:j<N.length),j≠i→o∉(N[j]).objs):=by
 have hnd:=h.nd
 have hsp:=ZH (E:=E) hi
 rw[List.nodup_cons,List.nodup_append,List.nodup_append]at hnd
 obtain⟨h1,h2,⟨h3,h4,h5⟩,h6⟩:=hnd
 have hmem:∀o∈(N[i]).objs,o∈Jd N E:=fun o ho=>Vo (List.getElem_mem hi) ho
 intro o ho
 refine⟨?_,?_,?_,?_,?_⟩
 ·rintro rfl
  rcases ho with ho|ho
  ·exact h1 (by simp[ho])
  ·exact h1 (by simp[hmem _ ho])
 ·intro hm
  rcases ho with ho|ho
  ·exact h6 o ho o (by simp[hm]) rfl
  ·exact h5 o hm o (hmem _ ho) rfl
 ·intro hm
  rcases ho with ho|ho
  ·exact h6 o ho o (by simp[Jd];exact .inr (.inr (by simpa using hm))) rfl
  ·rw[hsp,List.nodup_append]at h4
   exact h4.2.2 o (List.mem_append_right _ ho) o (List.mem_append_right _ hm) rfl
 ·exact fun hv hm=>h6 o hv o (by simp[hm]) rfl
 ·intro hoi
  refine⟨fun hv=>h6 o hv o (by simp[hmem _ hoi]) rfl,fun j hj hji hm=>?_⟩
  rw[hsp,List.nodup_append,List.nodup_append]at h4
  obtain⟨⟨_,_,k1⟩,_,k2⟩:=h4
  rcases Nat.lt_or_ge j i with hlt|hge
  ·exact k1 o (List.mem_flatMap.2 ⟨N[j],List.mem_take_iff_getElem.2 ⟨j,by omega,rfl⟩,hm⟩) o hoi rfl
  ·exact k2 o (List.mem_append_right _ hoi) o (List.mem_append_left _ (List.mem_flatMap.2 ⟨N[j],List.mem_drop_iff_getElem.2 ⟨j-(i+1),by omega,by congr 1;omega⟩,hm⟩)) rfl
end
structure Ask (N:List EN) (E:List EE) (x y:Int):Prop where
 lN:N.length≤2000
 lE:E.length≤4000
 iN:Inc H6 GN.id (N.map EN.n)
 iE:Inc H6 GE.id (E.map EE.e)
 iL:∀e∈N,Inc Op.bytesLess id e.n.labels∧e.n.labels.length≤8
 iP:∀e∈N,Inc Op.bytesLess GP.key e.n.props∧e.n.props.length≤16
 iQ:∀e∈E,Inc Op.bytesLess GP.key e.e.props∧e.e.props.length≤16
 bx:-2^62≤x∧x≤2^62
 by_:-2^62≤y∧y≤2^62
section
variable {σ:List Obj} {d gd:Nat} {vN vE:AV} {nb eb:Bool} {N:List EN} {E:List EE} {x y:Int} {ct:Nat} {K:AA→Aj→Prop}
theorem Ae4 {nb eb:Bool} {z:Int} (hq:Ask N E x y) (hf:∃n∈N,n.n.id=z):∃i,AtK H6 GN.id z (N.map EN.n) i∧Ah (Ac tab) 167 [.BR (gOf nb eb N E x y).av.cells,.int .i64 z] (· =.Ce [.int .i64 (i:Nat),.bool true]):=by
 obtain⟨_,⟨i,b,rfl,h1,h2⟩,hd⟩:=(Ahz (g:=gOf nb eb N E x y) (x:=z) (by have:=hq.lN;simp[gOf];omega) hq.iN).YI
 obtain⟨n,hn,e⟩:=hf
 rw[h2.2 ⟨n.n,by simp only[gOf,List.mem_map];exact⟨n,hn,rfl⟩,e⟩]at hd
 exact⟨i,h1,hd⟩
end
section
variable {σ:List Obj} {d gd:Nat} {vN vE:AV} {nb eb:Bool} {N:List EN} {E:List EE} {x y:Int} {ct:Nat} {K:AA→Aj→Prop}
theorem Ed.at (h:Ed σ d gd vN vE nb eb N E x y) (hq:Ask N E x y) {z:Int} (hf:∃n∈N,n.n.id=z):nb=true∧∃o g c i,∃hi:i<N.length,vN=.own o g 0 N.length∧nth σ o=some (.arr g 3 true c (vs EN.av N))∧(c=true→∀e∈N,e.av.closed=true)∧(N[i]).n.id=z∧AtK H6 GN.id z (N.map EN.n) i∧
 Ah (Ac tab) 167 [.BR (gOf nb eb N E x y).av.cells,.int .i64 z] (· =.Ce [.int .i64 (i:Nat),.bool true]):=by
 obtain⟨i,q1,hbt⟩:=Ae4 (nb:=nb) (eb:=eb) hq hf
 obtain⟨n,hn,e⟩:=hf
 obtain⟨hil,hid,_⟩:=q1.found Bq hq.iN ⟨n.n,List.mem_map_of_mem hn,e⟩
 rw[List.length_map]at hil
 obtain⟨cn,hn1,hn2⟩:=h.hn
 rcases hn1 with⟨_,rfl,_⟩|⟨rfl,o,g,rfl,ho⟩
 ·simp at hil
 ·exact⟨rfl,o,g,cn,i,hil,rfl,ho,hn2,by simpa using hid,q1,hbt⟩
end
section
variable {σ σ1 σ2 σ3:List Obj} {d gd:Nat} {vN vE:AV} {nb eb:Bool} {N:List EN} {E:List EE} {x y:Int} {ct:Nat} {K:AA→Aj→Prop}
end
section
variable {σ σ1 σ2 σ3:List Obj} {d gd:Nat} {vN vE:AV} {nb eb:Bool} {N:List EN} {E:List EE} {x y:Int} {ct:Nat} {K:AA→Aj→Prop}
end
section
variable {σ σ1 σ2 σ3:List Obj} {d gd:Nat} {vN vE:AV} {nb eb:Bool} {N:List EN} {E:List EE} {x y:Int} {ct:Nat} {K:AA→Aj→Prop}
end
section
variable {σ:List Obj} {d gd:Nat} {vN vE:AV} {nb eb:Bool} {N:List EN} {E:List EE} {x y:Int} {ct:Nat} {K:AA→Aj→Prop}
end
section
variable {σ:List Obj} {d gd:Nat} {vN vE:AV} {nb eb:Bool} {N:List EN} {E:List EE} {x y:Int} {ct:Nat} {K:AA→Aj→Prop}
end
section
variable {σ:List Obj} {d gd:Nat} {vN vE:AV} {nb eb:Bool} {N:List EN} {E:List EE} {x y:Int} {ct:Nat} {K:AA→Aj→Prop}
end
def Td (g:GG) (c:GC):Int×GG:=
 if c.op=1 then
    if∃n∈g.nodes,n.id=c.id then(7,g)else if g.nodes.length<2000 then(0,{g with nn:=true,nodes:=EF H6 GN.id ⟨c.id,false,[],false,[]⟩ g.nodes,Dn:=if c.id+1>g.Dn then c.id+1 else g.Dn})else(20,g)
 else match g.nodes.find? (fun n=>decide (n.id=c.id))with
    |none=>(10,g)
    |some n=>
     if c.op=2 then if∃e∈g.edges,e.fr=c.id∨e.to=c.id then(12,g)else(0,{g with nodes:=Tc H6 GN.id c.id g.nodes})
     else if c.op=3 then if c.name∈n.labels then(7,g)else if n.labels.length<8 then(0,{g with nodes:=EF H6 GN.id {n with ln:=true,labels:=EF Op.bytesLess id c.name n.labels} g.nodes})else(20,g)
     else if c.op=4 then if c.name∈n.labels then(0,{g with nodes:=EF H6 GN.id {n with ln:=true,labels:=Tc Op.bytesLess id c.name n.labels} g.nodes})else(23,g)
     else if isNull c.v then(0,{g with nodes:=EF H6 GN.id {n with props:=Tc Op.bytesLess GP.key c.name n.props} g.nodes})
     else if(∃ p∈n.props,GP.key p=c.name)∨n.props.length<16 then(0,{g with nodes:=EF H6 GN.id {n with pn:=true,props:=EF Op.bytesLess GP.key ⟨c.name,c.v⟩ n.props} g.nodes})else(20,g)
def Tf (g:GG) (c:GC):Int×GG:=
 if c.op=6 then
    if∃n∈g.edges,n.id=c.id then(7,g)else if(∃ n∈g.nodes,n.id=c.fr)∧(∃ n∈g.nodes,n.id=c.to)then
     if g.edges.length<4000 then(0,{g with en:=true,edges:=EF H6 GE.id ⟨c.id,c.fr,c.to,c.name,false,[]⟩ g.edges,DJ:=if c.id+1>g.DJ then c.id+1 else g.DJ})else(20,g)
    else(10,g)
 else match g.edges.find? (fun n=>decide (n.id=c.id))with
    |none=>(11,g)
    |some n=>
     if c.op=7 then(0,{g with edges:=Tc H6 GE.id c.id g.edges})
     else if isNull c.v then(0,{g with edges:=EF H6 GE.id {n with props:=Tc Op.bytesLess GP.key c.name n.props} g.edges})
     else if(∃ p∈n.props,GP.key p=c.name)∨n.props.length<16 then(0,{g with edges:=EF H6 GE.id {n with pn:=true,props:=EF Op.bytesLess GP.key ⟨c.name,c.v⟩ n.props} g.edges})else(20,g)
def stepG (g:GG) (c:GC):Int×GG:=if ckC c≠0 then(ckC c,g)else if c.op≤5 then Td g c else Tf g c
section
variable {σ:List Obj} {d gd:Nat} {vN vE:AV} {nb eb:Bool} {N:List EN} {E:List EE} {x y:Int} {ct:Nat} {K:AA→Aj→Prop}
def EdG (σ:List Obj) (d gd:Nat) (g:GG):Prop:=∃vN vE nb eb N E x y,Ed σ d gd vN vE nb eb N E x y∧gOf nb eb N E x y=g
end
section
variable {α κ:Type} {lt:κ→κ→Bool} {key:α→κ}
theorem WB (hs:XG lt) {k:κ}:∀{l:List α},(below lt key k l).length+(above lt key k l).length≤l.length
 |[]=>by simp[below,above]
 |a::l=>by
  have ih:=WB hs (k:=k) (l:=l)
  unfold below above at ih ⊢
  cases h1:lt (key a) k<;>cases h2:lt k (key a)
  ·rw[List.filter_cons_of_neg (by simp[h1]),List.filter_cons_of_neg (by simp[h2])];simp;omega
  ·rw[List.filter_cons_of_neg (by simp[h1]),List.filter_cons_of_pos (by simp[h2])];simp;omega
  ·rw[List.filter_cons_of_pos (by simp[h1]),List.filter_cons_of_neg (by simp[h2])];simp;omega
  ·have:=hs.tr _ _ _ h1 h2;rw[hs.irr]at this;cases this
theorem AaG (hs:XG lt) {k:κ}:∀{l:List α},(∃ y∈l,key y=k)→(below lt key k l).length+(above lt key k l).length+1≤l.length
 |[],h=>by simp at h
 |a::l,h=>by
  by_cases hk:key a=k
  ·have ih:=WB hs (key:=key) (k:=k) (l:=l)
   unfold below above at ih ⊢
   have h1:lt (key a) k=false:=by rw[hk];exact hs.irr _
   have h2:lt k (key a)=false:=by rw[hk];exact hs.irr _
   rw[List.filter_cons_of_neg (by simp[h1]),List.filter_cons_of_neg (by simp[h2])];simp;omega
  ·have hm:∃y∈l,key y=k:=by
        obtain⟨y,hy,e⟩:=h
        rcases List.mem_cons.1 hy with rfl|hy
        ·exact absurd e hk
        ·exact⟨y,hy,e⟩
   have ih:=AaG hs hm
   unfold below above at ih ⊢
   cases h1:lt (key a) k<;>cases h2:lt k (key a)
   ·rw[List.filter_cons_of_neg (by simp[h1]),List.filter_cons_of_neg (by simp[h2])];simp;omega
   ·rw[List.filter_cons_of_neg (by simp[h1]),List.filter_cons_of_pos (by simp[h2])];simp;omega
   ·rw[List.filter_cons_of_pos (by simp[h1]),List.filter_cons_of_neg (by simp[h2])];simp;omega
   ·have:=hs.tr _ _ _ h1 h2;rw[hs.irr]at this;cases this
theorem OZ (hs:XG lt) {x:α} {l:List α}:(EF lt key x l).length≤l.length+1:=by
 have:=WB hs (key:=key) (k:=key x) (l:=l)
 simp only[EF,List.length_append,List.length_singleton];omega
theorem O1 (hs:XG lt) {x:α} {l:List α} (h:∃y∈l,key y=key x):(EF lt key x l).length≤l.length:=by
 have:=AaG hs (key:=key) (k:=key x) (l:=l) h
 simp only[EF,List.length_append,List.length_singleton];omega
theorem O4 (hs:XG lt) {k:κ} {l:List α}:(Tc lt key k l).length≤l.length:=by
 have:=WB hs (key:=key) (k:=k) (l:=l)
 simp only[Tc,List.length_append];omega
end
structure AaC (n:GN):Prop where
 iL:Inc Op.bytesLess id n.labels
 lL:n.labels.length≤8
 iP:Inc Op.bytesLess GP.key n.props
 lP:n.props.length≤16
structure AdK (n:GE):Prop where
 iP:Inc Op.bytesLess GP.key n.props
 lP:n.props.length≤16
structure Ko (g:GG):Prop where
 lN:g.nodes.length≤2000
 lE:g.edges.length≤4000
 iN:Inc H6 GN.id g.nodes
 iE:Inc H6 GE.id g.edges
 aN:∀n∈g.nodes,AaC n
 aE:∀n∈g.edges,AdK n
 bx:-2^62≤g.Dn∧g.Dn≤2^62
 by_:-2^62≤g.DJ∧g.DJ≤2^62
theorem Ko.ask {nb eb:Bool} {N:List EN} {E:List EE} {x y:Int} (h:Ko (gOf nb eb N E x y)):Ask N E x y where
 lN:=by have:=h.lN;simpa[gOf]using this
 lE:=by have:=h.lE;simpa[gOf]using this
 iN:=h.iN
 iE:=h.iE
 iL:=fun e he=>by have:=h.aN e.n (List.mem_map_of_mem he);exact⟨this.iL,this.lL⟩
 iP:=fun e he=>by have:=h.aN e.n (List.mem_map_of_mem he);exact⟨this.iP,this.lP⟩
 iQ:=fun e he=>by have:=h.aE e.e (List.mem_map_of_mem he);exact⟨this.iP,this.lP⟩
 bx:=h.bx
 by_:=h.by_
theorem Ko.QO {g:GG} (h:Ko g) {n:GN} (hn:AaC n) (hm:∃m∈g.nodes,m.id=n.id):Ko {g with nodes:=EF H6 GN.id n g.nodes}:=
 {h with
  lN:=Nat.le_trans (O1 Bq hm) h.lN
  iN:=Hf Bq h.iN
  aN:=fun m hm=>by rcases DR Bq hm with rfl|hm;exact hn;exact h.aN _ hm}
theorem Ko.Y9 {g:GG} (h:Ko g) {n:GE} (hn:AdK n) (hm:∃m∈g.edges,m.id=n.id):Ko {g with edges:=EF H6 GE.id n g.edges}:=
 {h with
  lE:=Nat.le_trans (O1 Bq hm) h.lE
  iE:=Hf Bq h.iE
  aE:=fun m hm=>by rcases DR Bq hm with rfl|hm;exact hn;exact h.aE _ hm}
theorem OG {α:Type} {p:α→Bool} {l:List α} {n:α} (h:l.find? p=some n):n∈l∧p n=true:=⟨List.mem_of_find?_eq_some h,List.find?_some h⟩
theorem Ko.node {g:GG} (h:Ko g) {c:GC} (hid:idG c.id):Ko (Td g c).2:=by
 unfold Td
 split
 ·split
  ·exact h
  split
  ·rename_i hl
   exact{h with
        lN:=by have:=OZ (key:=GN.id) Bq (x:=⟨c.id,false,[],false,[]⟩) (l:=g.nodes);show(EF H6 GN.id _ g.nodes).length≤2000;omega
        iN:=Hf Bq h.iN
        aN:=fun m hm=>by
         rcases DR Bq hm with rfl|hm
         ·exact⟨List.Pairwise.nil,by simp,List.Pairwise.nil,by simp⟩
         ·exact h.aN _ hm
        bx:=by have:=h.bx;have:=hid.2;have:=hid.1;show _≤(if c.id+1>g.Dn then c.id+1 else g.Dn)∧(if c.id+1>g.Dn then c.id+1 else g.Dn)≤_;split<;>omega}
  ·exact h
 split
 ·exact h
 rename_i n hf
 obtain⟨hn,hz⟩:=OG hf
 replace hz:=of_decide_eq_true hz
 have ha:=h.aN n hn
 split
 ·split
  ·exact h
  ·exact{h with lN:=Nat.le_trans (O4 Bq) h.lN,iN:=Lp Bq h.iN,aN:=fun m hm=>h.aN m (OE hm)}
 split
 ·split
  ·exact h
  split
  ·rename_i hl
   exact h.QO ⟨Hf ED ha.iL,Nat.le_trans (OZ ED) (by omega),ha.iP,ha.lP⟩ ⟨n,hn,rfl⟩
  ·exact h
 split
 ·split
  ·exact h.QO ⟨Lp ED ha.iL,Nat.le_trans (O4 ED) ha.lL,ha.iP,ha.lP⟩ ⟨n,hn,rfl⟩
  ·exact h
 split
 ·exact h.QO ⟨ha.iL,ha.lL,Lp ED ha.iP,Nat.le_trans (O4 ED) ha.lP⟩ ⟨n,hn,rfl⟩
 split
 ·rename_i hx
  refine h.QO ⟨ha.iL,ha.lL,Hf ED ha.iP,?_⟩ ⟨n,hn,rfl⟩
  rcases hx with hx|hx
  ·exact Nat.le_trans (O1 ED hx) ha.lP
  ·exact Nat.le_trans (OZ ED) (by omega)
 ·exact h
theorem Ko.edge {g:GG} (h:Ko g) {c:GC} (hid:idG c.id):Ko (Tf g c).2:=by
 unfold Tf
 split
 ·split
  ·exact h
  split
  ·split
   ·rename_i hl
    exact{h with
     lE:=by have:=OZ (key:=GE.id) Bq (x:=⟨c.id,c.fr,c.to,c.name,false,[]⟩) (l:=g.edges);show(EF H6 GE.id _ g.edges).length≤4000;omega
     iE:=Hf Bq h.iE
     aE:=fun m hm=>by
      rcases DR Bq hm with rfl|hm
      ·exact⟨List.Pairwise.nil,by simp⟩
      ·exact h.aE _ hm
     by_:=by have:=h.by_;have:=hid.2;have:=hid.1;show _≤(if c.id+1>g.DJ then c.id+1 else g.DJ)∧(if c.id+1>g.DJ then c.id+1 else g.DJ)≤_;split<;>omega}
   ·exact h
  ·exact h
 split
 ·exact h
 rename_i n hf
 obtain⟨hn,hz⟩:=OG hf
 have ha:=h.aE n hn
 split
 ·exact{h with lE:=Nat.le_trans (O4 Bq) h.lE,iE:=Lp Bq h.iE,aE:=fun m hm=>h.aE m (OE hm)}
 split
 ·exact h.Y9 ⟨Lp ED ha.iP,Nat.le_trans (O4 ED) ha.lP⟩ ⟨n,hn,rfl⟩
 split
 ·rename_i hx
  refine h.Y9 ⟨Hf ED ha.iP,?_⟩ ⟨n,hn,rfl⟩
  rcases hx with hx|hx
  ·exact Nat.le_trans (O1 ED hx) ha.lP
  ·exact Nat.le_trans (OZ ED) (by omega)
 ·exact h
theorem Ko.step {g:GG} (h:Ko g) {c:GC}:Ko (stepG g c).2:=by
 unfold stepG
 split
 ·exact h
 rename_i hk
 have h0:=Alv (Classical.not_not.1 hk)
 split
 ·exact h.node h0.2.1
 ·exact h.edge h0.2.1
section
variable {AP:Nat→Option Hy}
end
end AI
end Go.Proofs.YtchcadfjbkkgmaaGreatDoor
