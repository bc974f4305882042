/- Lists in the order of a key: looking a place up, putting in, taking out. No program in sight. The graph that an editor edits, in the store: nodes and edges with lists of their own. build: the program's net of a valid graph. -/
import Derived.Test.YtchcadfjbkkgmaaGreatDoorDMaf
import Derived.Test.YtchcadfjbkkgmaaGreatDoorDMag
import Derived.Test.YtchcadfjbkkgmaaGreatDoorDMak
import Derived.Test.YtchcadfjbkkgmaaGreatDoorDMal
set_option linter.unusedVariables false
set_option maxRecDepth 4000
namespace Go.Proofs.YtchcadfjbkkgmaaGreatDoor
namespace AI
structure XG {κ:Type} (lt:κ→κ→Bool):Prop where
 irr:∀x,lt x x=false
 tr:∀x y z,lt x y=true→lt y z=true→lt x z=true
 tot:∀x y,lt x y=false→lt y x=false→x=y
def H6 (a b:Int):Bool:=decide (a<b)
theorem Bq:XG H6 where
 irr:=fun x=>by simp[H6]
 tr:=fun x y z h1 h2=>by simp[H6]at *;omega
 tot:=fun x y h1 h2=>by simp[H6]at *;omega
section
variable {α κ:Type} {lt:κ→κ→Bool} {key:α→κ}
def Inc (lt:κ→κ→Bool) (key:α→κ) (l:List α):Prop:=l.Pairwise fun a b=>lt (key a) (key b)=true
def below (lt:κ→κ→Bool) (key:α→κ) (k:κ) (l:List α):List α:=l.filter fun a=>lt (key a) k
def above (lt:κ→κ→Bool) (key:α→κ) (k:κ) (l:List α):List α:=l.filter fun a=>lt k (key a)
def EF (lt:κ→κ→Bool) (key:α→κ) (x:α) (l:List α):List α:=below lt key (key x) l++[x]++above lt key (key x) l
def Tc (lt:κ→κ→Bool) (key:α→κ) (k:κ) (l:List α):List α:=below lt key k l++above lt key k l
structure AtK (lt:κ→κ→Bool) (key:α→κ) (k:κ) (l:List α) (i:Nat):Prop where
 le:i≤l.length
 lo:∀j (h:j<l.length),j<i→lt (key l[j]) k=true
 hi:∀j (h:j<l.length),i≤j→lt (key l[j]) k=false
theorem filter_all {p:α→Bool}:∀{l:List α},(∀ x∈l,p x=true)→l.filter p=l
 |[],_=>rfl
 |x::l,h=>by rw[List.filter_cons_of_pos (h x (by simp)),filter_all fun y hy=>h y (by simp[hy])]
theorem filter_none {p:α→Bool}:∀{l:List α},(∀ x∈l,p x=false)→l.filter p=[]
 |[],_=>rfl
 |x::l,h=>by rw[List.filter_cons_of_neg (by rw[h x (by simp)];simp),filter_none fun y hy=>h y (by simp[hy])]
theorem AtK.take {k:κ} {l:List α} {i:Nat} (h:AtK lt key k l i):l.take i=below lt key k l:=by
 unfold below
 conv=>rhs;rw[← List.take_append_drop i l]
 rw[List.filter_append,filter_all,filter_none,List.append_nil]
 ·intro x hx
  obtain⟨j,hj⟩:=List.mem_iff_getElem?.1 hx
  rw[List.getElem?_drop]at hj
  obtain⟨hlt,rfl⟩:=List.getElem?_eq_some_iff.1 hj
  exact h.hi _ hlt (by omega)
 ·intro x hx
  obtain⟨j,hj⟩:=List.mem_iff_getElem?.1 hx
  have hji:j<i:=by
   have:=(List.getElem?_eq_some_iff.1 hj).1
   rw[List.length_take]at this;omega
  rw[List.getElem?_take_of_lt hji]at hj
  obtain⟨hlt,rfl⟩:=List.getElem?_eq_some_iff.1 hj
  exact h.lo _ hlt hji
theorem Inc.get {l:List α} (h:Inc lt key l) {i j:Nat} (hij:i<j) (hj:j<l.length):lt (key l[i]) (key l[j])=true:=List.pairwise_iff_getElem.1 h i j (by omega) hj hij
theorem AtK.found (hs:XG lt) {k:κ} {l:List α} {i:Nat} (hl:Inc lt key l) (h:AtK lt key k l i) (hf:∃x∈l,key x=k):∃hi:i<l.length,key l[i]=k∧l.drop (i+1)=above lt key k l:=by
 obtain⟨x,hx,hk⟩:=hf
 obtain⟨j,hj,rfl⟩:=List.getElem_of_mem hx
 have hij:i≤j:=by
  rcases Nat.lt_or_ge j i with h1|h1
  ·have:=h.lo j hj h1
   rw[hk,hs.irr]at this
   cases this
  ·exact h1
 have hik:i<l.length:=by omega
 have hki:key l[i]=k:=by
  rcases Nat.lt_or_ge i j with h1|h1
  ·have h2:=hl.get h1 hj
   rw[hk,h.hi i hik (Nat.le_refl _)]at h2
   cases h2
  ·obtain rfl:i=j:=by omega
   exact hk
 refine⟨hik,hki,?_⟩
 unfold above
 conv=>rhs;rw[← List.take_append_drop (i+1) l]
 rw[List.filter_append,filter_none,filter_all,List.nil_append]
 ·intro x hx
  obtain⟨q,hq⟩:=List.mem_iff_getElem?.1 hx
  rw[List.getElem?_drop]at hq
  obtain⟨hlt,rfl⟩:=List.getElem?_eq_some_iff.1 hq
  rw[← hki]
  exact hl.get (by omega) hlt
 ·intro x hx
  obtain⟨q,hq⟩:=List.mem_iff_getElem?.1 hx
  have hqi:q<i+1:=by
   have:=(List.getElem?_eq_some_iff.1 hq).1
   rw[List.length_take]at this;omega
  rw[List.getElem?_take_of_lt hqi]at hq
  obtain⟨hlt,rfl⟩:=List.getElem?_eq_some_iff.1 hq
  rcases Nat.lt_or_ge q i with h1|h1
  ·have h2:=h.lo _ hlt h1
   cases h3:lt k (key l[q])
   ·rfl
   ·have:=hs.tr _ _ _ h2 h3
    rw[hs.irr]at this
    cases this
  ·obtain rfl:q=i:=by omega
   rw[hki,hs.irr]
theorem AtK.set (hs:XG lt) {x:α} {l:List α} {i:Nat} (hl:Inc lt key l) (h:AtK lt key (key x) l i) (hf:∃y∈l,key y=key x):l.set i x=EF lt key x l:=by
 obtain⟨hi,_,hd⟩:=h.found hs hl hf
 rw[List.set_eq_take_append_cons_drop,if_pos hi,h.take,hd]
 simp[EF]
theorem DR (hs:XG lt) {x y:α} {l:List α}:y∈EF lt key x l→y=x∨y∈l:=by
 intro h
 simp only[EF,below,above,List.mem_append,List.mem_filter,List.mem_singleton]at h
 rcases h with(h|h)|h
 ·exact .inr h.1
 ·exact .inl h
 ·exact .inr h.1
theorem OE {k:κ} {y:α} {l:List α}:y∈Tc lt key k l→y∈l:=by
 intro h
 simp only[Tc,below,above,List.mem_append,List.mem_filter]at h
 rcases h with h|h<;>exact h.1
theorem Hf (hs:XG lt) {x:α} {l:List α} (hl:Inc lt key l):Inc lt key (EF lt key x l):=by
 unfold EF Inc
 refine List.pairwise_append.2 ⟨List.pairwise_append.2 ⟨hl.filter _,List.pairwise_singleton _ _,?_⟩,hl.filter _,?_⟩
 ·intro a ha b hb
  simp only[below,List.mem_filter,List.mem_singleton]at ha hb
  subst hb
  exact ha.2
 ·intro a ha b hb
  simp only[above,List.mem_filter]at hb
  rcases List.mem_append.1 ha with ha|ha
  ·simp only[below,List.mem_filter]at ha
   exact hs.tr _ _ _ ha.2 hb.2
  ·simp only[List.mem_singleton]at ha
   subst ha
   exact hb.2
theorem Lp (hs:XG lt) {k:κ} {l:List α} (hl:Inc lt key l):Inc lt key (Tc lt key k l):=by
 unfold Tc Inc
 refine List.pairwise_append.2 ⟨hl.filter _,hl.filter _,?_⟩
 intro a ha b hb
 simp only[below,above,List.mem_filter]at ha hb
 exact hs.tr _ _ _ ha.2 hb.2
end
def Rd (σ:List Obj) (D:Nat) (x y:AV):Prop:=∀m,D≤m→snap σ m x=some y
def Oc (σ:List Obj) (D:Nat) (xs ys:List AV):Prop:=∀m,D≤m→G5 σ m xs=some ys
theorem Rd.mono {σ:List Obj} {D D':Nat} {x y:AV} (h:Rd σ D x y) (hd:D≤D'):Rd σ D' x y:=fun m hm=>h m (by omega)
theorem Oc.mono {σ:List Obj} {D D':Nat} {x y:List AV} (h:Oc σ D x y) (hd:D≤D'):Oc σ D' x y:=fun m hm=>h m (by omega)
theorem Oc.nil {σ:List Obj}:Oc σ 0 [] []:=fun m _=>by cases m<;>rfl
theorem Oc.cons {σ:List Obj} {D:Nat} {x y:AV} {xs ys:List AV} (h:Rd σ D x y) (k:Oc σ D xs ys):Oc σ (D+1) (x::xs) (y::ys):=fun m hm=>by
 obtain⟨m,rfl⟩:∃m',m=m'+1:=⟨m-1,by omega⟩
 simp only[G5,h m (by omega),k m (by omega)]
theorem Oc.map {α:Type} {σ:List Obj} {D:Nat} {f g:α→AV}:∀{l:List α},(∀ e∈l,Rd σ D (f e) (g e))→Oc σ (D+l.length) (vs f l) (vs g l)
 |[],_=>Oc.nil.mono (by omega)
 |e::l,h=>(Oc.cons ((h e (by simp)).mono (D':=D+l.length) (by omega)) (Oc.map fun x hx=>h x (by simp[hx]))).mono (by simp;omega)
theorem Rd.agg {σ:List Obj} {D:Nat} {xs ys:List AV} (h:Oc σ D xs ys):Rd σ (D+1) (.agg xs) (.agg ys):=fun m hm=>by
 obtain⟨m,rfl⟩:∃m',m=m'+1:=⟨m-1,by omega⟩
 simp only[snap,h m (by omega),Option.map_some]
theorem Rd.int {σ:List Obj} {k:IntKind} {z:Int}:Rd σ 1 (.int k z) (.int k z):=fun m hm=>by
 obtain⟨m,rfl⟩:∃m',m=m'+1:=⟨m-1,by omega⟩
 rfl
theorem Rd.str {σ:List Obj} {z:List UInt8}:Rd σ 1 (.str z) (.str z):=fun m hm=>by
 obtain⟨m,rfl⟩:∃m',m=m'+1:=⟨m-1,by omega⟩
 rfl
def Hd {α:Type} (f:α→AV) (es:Nat) (σ:List Obj) (v:AV) (b:Bool) (l:List α) (c:Bool):Prop:=
 (b=false∧l=[]∧(v=.sl false []∨∃o g es',v=.own o g 0 0∧nth σ o=some (.arr g es' false true [])))∨
 (b=true∧∃o g,v=.own o g 0 l.length∧nth σ o=some (.arr g es true c (vs f l)))
theorem Hd.lt {α:Type} {f:α→AV} {es:Nat} {σ:List Obj} {v:AV} {b c:Bool} {l:List α} (h:Hd f es σ v b l c):∀o∈v.obj,o<σ.length:=by
 intro o ho
 rcases h with⟨_,_,rfl|⟨o',g,es',rfl,h⟩⟩|⟨_,o',g,rfl,h⟩
 ·simp[AV.obj]at ho
 ·simp only[AV.obj,List.mem_singleton]at ho;subst ho;exact BZ h
 ·simp only[AV.obj,List.mem_singleton]at ho;subst ho;exact BZ h
theorem Hd.obj {α:Type} {f:α→AV} {es:Nat} {σ:List Obj} {v:AV} {b c:Bool} {l:List α} (h:Hd f es σ v b l c) {o:Nat} (ho:o∈v.obj):∃g es' nn c' xs,nth σ o=some (.arr g es' nn c' xs)∧(nn=true→es'=es):=by
 rcases h with⟨_,_,rfl|⟨o',g,es',rfl,h⟩⟩|⟨_,o',g,rfl,h⟩
 ·simp[AV.obj]at ho
 ·simp only[AV.obj,List.mem_singleton]at ho;subst ho;exact⟨_,_,_,_,_,h,by simp⟩
 ·simp only[AV.obj,List.mem_singleton]at ho;subst ho;exact⟨_,_,_,_,_,h,fun _=>rfl⟩
theorem Hd.keep {α:Type} {f:α→AV} {es:Nat} {σ σ':List Obj} {v:AV} {b c:Bool} {l:List α} (h:Hd f es σ v b l c) (hk:∀o∈v.obj,nth σ' o=nth σ o):Hd f es σ' v b l c:=by
 rcases h with⟨h1,h2,rfl|⟨o',g,es',rfl,h⟩⟩|⟨h1,o',g,rfl,h⟩
 ·exact .inl ⟨h1,h2,.inl rfl⟩
 ·exact .inl ⟨h1,h2,.inr ⟨o',g,es',rfl,by rw[hk o' (by simp[AV.obj]),h]⟩⟩
 ·exact .inr ⟨h1,o',g,rfl,by rw[hk o' (by simp[AV.obj]),h]⟩
theorem Hd.sn {α:Type} {f:α→AV} {es:Nat} {σ:List Obj} {v:AV} {b:Bool} {l:List α} (h:Hd f es σ v b l true):Rd σ 1 v (.sl b (vs f l)):=fun m hm=>by
 obtain⟨m,rfl⟩:∃m',m=m'+1:=⟨m-1,by omega⟩
 rcases h with⟨rfl,rfl,rfl|⟨o',g,es',rfl,h⟩⟩|⟨rfl,o',g,rfl,h⟩
 ·rfl
 ·simp[snap,h,sub,vs]
 ·have:sub (vs f l) 0 l.length=vs f l:=uV
  simp[snap,h,this]
theorem Hd.one {α:Type} {f:α→AV} {es:Nat} {σ:List Obj} {v:AV} {b c:Bool} {l:List α} (h:Hd f es σ v b l c):v.cells.length=1∧v.storable=true:=by
 rcases h with⟨_,_,rfl|⟨o',g,es',rfl,h⟩⟩|⟨_,o',g,rfl,h⟩<;>exact⟨rfl,rfl⟩
theorem Hd.bool {α:Type} {f:α→AV} {es:Nat} {σ:List Obj} {v:AV} {b c:Bool} {l:List α} (h:Hd f es σ v b l c):b=false→l=[]:=by
 rcases h with⟨_,h,_⟩|⟨h,_⟩
 ·exact fun _=>h
 ·intro h';rw[h']at h;cases h
theorem Hd.closed {α:Type} {f:α→AV} {es:Nat} {σ:List Obj} {v:AV} {b c:Bool} {l:List α} (h:Hd f es σ v b l c) (hc:v.closed=true):v=.sl false []∧b=false∧l=[]:=by
 rcases h with⟨h1,h2,rfl|⟨o',g,es',rfl,h⟩⟩|⟨_,o',g,rfl,h⟩
 ·exact⟨rfl,h1,h2⟩
 ·cases hc
 ·cases hc
structure EN where
 n:GN
 lv:AV
 pv:AV
def EN.av (e:EN):AV:=.agg [.int .i64 e.n.id,e.lv,e.pv]
def EN.objs (e:EN):List Nat:=e.lv.obj++e.pv.obj
def EN.Ok (σ:List Obj) (e:EN):Prop:=Hd .str 1 σ e.lv e.n.ln e.n.labels true∧Hd GP.av 6 σ e.pv e.n.pn e.n.props true
structure EE where
 e:GE
 pv:AV
def EE.av (e:EE):AV:=.agg [.int .i64 e.e.id,.int .i64 e.e.fr,.int .i64 e.e.to,.str e.e.ty,e.pv]
def EE.objs (e:EE):List Nat:=e.pv.obj
def EE.Ok (σ:List Obj) (e:EE):Prop:=Hd GP.av 6 σ e.pv e.e.pn e.e.props true
def Jd (N:List EN) (E:List EE):List Nat:=N.flatMap EN.objs++E.flatMap EE.objs
structure Ed (σ:List Obj) (d gd:Nat) (vN vE:AV) (nb eb:Bool) (N:List EN) (E:List EE) (x y:Int):Prop where
 box:nth σ d=some (.arr gd 4 true false [.agg [vN,vE,.int .i64 x,.int .i64 y]])
 hn:∃c,Hd EN.av 3 σ vN nb N c∧(c=true→∀e∈N,e.av.closed=true)
 he:∃c,Hd EE.av 5 σ vE eb E c∧(c=true→∀e∈E,e.av.closed=true)
 hN:∀e∈N,e.Ok σ
 hE:∀e∈E,e.Ok σ
 nd:(d::(vN.obj++(vE.obj++Jd N E))).Nodup
 oN:vN≠.sl false []
 oE:vE≠.sl false []
def gOf (nb eb:Bool) (N:List EN) (E:List EE) (x y:Int):GG:=⟨nb,N.map EN.n,eb,E.map EE.e,x,y⟩
theorem EN.sn {σ:List Obj} {e:EN} (h:e.Ok σ):Rd σ 5 e.av e.n.av:=
 Rd.agg (Oc.cons (Rd.int.mono (by omega)) (Oc.cons (h.1.sn.mono (by omega)) (Oc.cons (h.2.sn.mono (D':=1) (by omega)) (Oc.nil.mono (D':=1) (by omega)))))
theorem EE.sn {σ:List Obj} {e:EE} (h:e.Ok σ):Rd σ 7 e.av e.e.av:=
 Rd.agg (Oc.cons (Rd.int.mono (by omega)) (Oc.cons (Rd.int.mono (by omega)) (Oc.cons (Rd.int.mono (by omega)) (Oc.cons (Rd.str.mono (by omega)) (Oc.cons (h.sn.mono (D':=1) (by omega)) (Oc.nil.mono (D':=1) (by omega)))))))
section
variable {σ σ':List Obj} {d gd:Nat} {vN vE:AV} {nb eb:Bool} {N:List EN} {E:List EE} {x y:Int}
end
section
open Go.Sort
noncomputable def DI (types:List (List UInt8)) (g:GG) (u v:Nat):Bool:=MZ (Gs types g) u v
theorem Afn {types:List (List UInt8)} {g:GG} {i k:Nat} (hi:i<g.nodes.length) (hk:k<g.nodes.length):DI types g i k=decide (JN types g.edges (idA g i) (idA g k)):=by
 unfold DI
 rw[Js hi,Js hk]
 simp[MZ,Gs,adj,hi,hk]
def JA (g:GG) (x:Int):Nat:=(Ba g).idxOf x
theorem KW {g:GG} {x:Int} (h:x∈Ba g):JA g x<g.nodes.length:=by
 have:=List.idxOf_lt_length_of_mem h
 rwa [CV]at this
theorem Rz {g:GG} {x:Int} (h:x∈Ba g):idA g (JA g x)=x:=by
 have hl:=KW h
 rw[Js hl,←Gg hl]
 exact List.getElem_idxOf _
theorem VX {g:GG} (hck:Bd g=0) {i:Nat} (hi:i<g.nodes.length):JA g (idA g i)=i:=by
 have hm:idA g i∈Ba g:=by rw[Js hi,←Gg hi];exact List.getElem_mem _
 exact(Afp hck (KW hm) hi).1 (Rz hm)
noncomputable def KO (types:List (List UInt8)) (g:GG) (es:List GE) (u:Nat):List Int:=(es.filter fun e=>decide (HT types e)&&decide (JA g e.fr=u)).map fun e=>(JA g e.to:Int)
theorem Sv {types:List (List UInt8)} {g:GG} {es:List GE} {e:GE} {u:Nat}:KO types g (es++[e]) u=KO types g es u++if HT types e∧JA g e.fr=u then[(JA g e.to:Int)]else[]:=by
 unfold KO
 rw[List.filter_append,List.map_append]
 by_cases h1:HT types e<;>by_cases h2:JA g e.fr=u<;>simp[h1,h2]
theorem Aaf {types:List (List UInt8)} {g:GG} {es:List GE} {u:Nat}:(KO types g es u).length≤es.length:=by
 unfold KO
 rw[List.length_map]
 exact List.length_filter_le _ _
theorem VZ {types:List (List UInt8)} {g:GG} (hck:Bd g=0) {u v:Nat} (hu:u<g.nodes.length) (hv:v<g.nodes.length):(v:Int)∈KO types g g.edges u↔DI types g u v=true:=by
 rw[Afn hu hv,decide_eq_true_iff,Ahn]
 unfold KO
 rw[List.mem_map]
 constructor
 ·rintro⟨e,he,h⟩
  rw[List.mem_filter,Bool.and_eq_true,decide_eq_true_iff,decide_eq_true_iff]at he
  obtain⟨he,ht,hf⟩:=he
  obtain⟨m1,m2⟩:=Lc hck e he
  have h:JA g e.to=v:=by omega
  exact⟨e,he,by rw[← hf,Rz m1],by rw[← h,Rz m2],ht⟩
 ·rintro⟨e,he,h1,h2,h3⟩
  refine⟨e,List.mem_filter.2 ⟨he,?_⟩,?_⟩
  ·rw[Bool.and_eq_true,decide_eq_true_iff,decide_eq_true_iff]
   exact⟨h3,by rw[h1,VX hck hu]⟩
  ·rw[h2,VX hck hv]
theorem AcU {types:List (List UInt8)} {g:GG} (hck:Bd g=0) {u:Nat} {x:Int} (h:x∈KO types g g.edges u):∃v:Nat,x=v∧v<g.nodes.length:=by
 unfold KO at h
 obtain⟨e,he,rfl⟩:=List.mem_map.1 h
 exact⟨_,rfl,KW (Lc hck e (List.mem_filter.1 he).1).2⟩
def Hz (l:List Nat):List Int:=l.map fun(k:Nat)=>(k:Int)
theorem Ac5 (l:List Nat):ints (Hz l)=vs PX l:=by unfold ints Hz vs;rw[List.map_map];rfl
theorem row_done {types:List (List UInt8)} {g:GG} (hck:Bd g=0) {u:Nat} (hu:u<g.nodes.length) {W:List Int} (hW:W=Gf (KO types g g.edges u)):PI W.toArray W.length=Hz (MS (DI types g) g.nodes.length u):=by
 have hlt:∀a b:Int,ltJ a b=false→ltJ b a=false→a=b:=fun a b h1 h2=>by
  have:=Jv.1 h1;have:=Jv.1 h2;omega
 have hs:SortedIn ltJ 0 W.toArray.size W.toArray:=by
  intro a b h0 h1 h2
  have hp:W.Pairwise (·≤·):=by rw[hW];exact OB _
  have hb:b<W.length:=by simpa using h2
  rw[getElem!_pos W.toArray a (by simp;omega),getElem!_pos W.toArray b (by simpa using h2)]
  simp only[List.getElem_toArray]
  have:=List.pairwise_iff_getElem.1 hp a b (by omega) hb h1
  exact Jv.2 (by omega)
 have h1:=Ac6 Aak hlt hs W.length (by simp)
 refine Nh Aak h1 ?_ fun x=>?_
 ·unfold Hz MS
  rw[List.pairwise_map]
  refine List.Pairwise.filter _ (List.Pairwise.imp (fun h=>Me.2 (by omega)) List.pairwise_lt_range)
 ·rw[Q9 W.length (by simp)]
  simp only[List.take_length]
  rw[hW,(Gy _).mem_iff]
  unfold Hz
  rw[List.mem_map]
  constructor
  ·intro h
   obtain⟨v,rfl,hv⟩:=AcU hck h
   exact⟨v,H8.2 ⟨hv,(VZ hck hu hv).1 h⟩,rfl⟩
  ·rintro⟨v,hv,rfl⟩
   obtain⟨h1,h2⟩:=H8.1 hv
   exact(VZ hck hu h1).2 h2
structure NH (σ:List Obj) (nx:List AV) (R:Nat→List Int) (n oi q:Nat):Prop where
 len:nx.length=n
 row:∀u,u<n→(R u=[]∧nth nx u=some (.sl false []))∨(R u≠[]∧∃o g T,nth nx u=some (.own o g 0 (R u).length)∧nth σ o=some (.arr g 1 true true (ints (R u++T)))∧4<o∧o≠oi∧(q≤u→T=[]))
 inj:∀u v o g l g' l',u<n→v<n→nth nx u=some (.own o g 0 l)→nth nx v=some (.own o g' 0 l')→u=v
section
variable {σ σ':List Obj} {nx:List AV} {R R':Nat→List Int} {n oi q q':Nat} {F:List Nat}
theorem NH.keep (h:NH σ nx R n oi q) (f:Gq σ σ' F) (hF:∀o∈F,o≤4∨o=oi∨σ.length≤o):NH σ' nx R n oi q:=
 ⟨h.len,fun u hu=>by
  rcases h.row u hu with h1|⟨h1,o,g,T,h2,h3,h4,h5,h6⟩
  ·exact .inl h1
  ·exact .inr ⟨h1,o,g,T,h2,f.get h3 (fun hm=>by have:=hF o hm;have:=BZ h3;omega),h4,h5,h6⟩,h.inj⟩
theorem NH.more (h:NH σ nx R n oi q) (hq:q≤q'):NH σ nx R n oi q':=
 ⟨h.len,fun u hu=>by
  rcases h.row u hu with h1|⟨h1,o,g,T,h2,h3,h4,h5,h6⟩
  ·exact .inl h1
  ·exact .inr ⟨h1,o,g,T,h2,h3,h4,h5,fun e=>h6 (by omega)⟩,h.inj⟩
theorem NH.upd (h:NH σ nx R n oi q) {u0:Nat} (hu0:u0<n) (f:Gq σ σ' F) (hq:q≤q') (hF:∀o∈F,o≤4∨o=oi∨σ.length≤o∨∃g l,nth nx u0=some (.own o g 0 l)) {o g:Nat} {S T:List Int} (hS:S≠[]) (ho:nth σ' o=some (.arr g 1 true true (ints (S++T)))) (h4:4<o) (hoi:o≠oi) (hT:q'≤u0→T=[])
 (hfr:σ.length≤o∨∃g l,nth nx u0=some (.own o g 0 l)) (hR0:R' u0=S) (hR:∀u,u≠u0→R' u=R u):NH σ' (nx.set u0 (.own o g 0 S.length)) R' n oi q':=by
 have hl:u0<nx.length:=by rw[h.len];exact hu0
 have g0:nth (nx.set u0 (.own o g 0 S.length)) u0=some (.own o g 0 S.length):=by rw[Ar];simp[hl]
 have g1:∀u,u≠u0→nth (nx.set u0 (.own o g 0 S.length)) u=nth nx u:=fun u hu=>by rw[Ar,Ar,List.getElem?_set_ne (fun e=>hu e.symm)]
 have hne:∀u,u<n→u≠u0→∀o2 g2 l2,nth nx u=some (.own o2 g2 0 l2)→o2≠o∧∀o3 g3 l3,nth nx u0=some (.own o3 g3 0 l3)→o2≠o3:=fun u hu hne o2 g2 l2 e=>by
  have hlt:o2<σ.length:=by
   rcases h.row u hu with⟨_,h2⟩|⟨_,o,g,T,h2,h3,_⟩
   ·rw[e]at h2;cases h2
   ·rw[e]at h2;cases h2;exact BZ h3
  refine⟨fun e2=>?_,fun o3 g3 l3 e3 e2=>hne (h.inj u u0 o2 g2 l2 g3 l3 hu hu0 e (by rw[e2];exact e3))⟩
  rcases hfr with h1|⟨g3,l3,e3⟩
  ·omega
  ·exact hne (h.inj u u0 o2 g2 l2 g3 l3 hu hu0 e (by rw[e2];exact e3))
 refine⟨by rw[List.length_set];exact h.len,fun u hu=>?_,fun u v o2 g2 l2 g3 l3 hu hv e1 e2=>?_⟩
 ·by_cases e:u=u0
  ·subst e
   rw[hR0]
   exact .inr ⟨hS,o,g,T,g0,ho,h4,hoi,hT⟩
  ·rw[hR u e,g1 u e]
   rcases h.row u hu with h1|⟨h1,o2,g2,T2,h2,h3,k4,k5,k6⟩
   ·exact .inl h1
   ·obtain⟨n1,n2⟩:=hne u hu e o2 g2 _ h2
    exact .inr ⟨h1,o2,g2,T2,h2,f.get h3 (fun hm=>by
      rcases hF o2 hm with h|h|h|⟨g3,l3,h⟩
      ·omega
      ·exact k5 h
      ·have:=BZ h3;omega
      ·exact n2 _ _ _ h rfl),k4,k5,fun e=>k6 (by omega)⟩
 ·by_cases eu:u=u0<;>by_cases ev:v=u0
  ·rw[eu,ev]
  ·subst eu
   rw[g0]at e1;cases e1
   rw[g1 v ev]at e2
   exact absurd rfl (hne v hv ev _ _ _ e2).1
  ·subst ev
   rw[g0]at e2;cases e2
   rw[g1 u eu]at e1
   exact absurd rfl (hne u hu eu _ _ _ e1).1
  ·rw[g1 u eu]at e1;rw[g1 v ev]at e2
   exact h.inj u v o2 g2 l2 g3 l3 hu hv e1 e2
theorem NH.read (h:NH σ nx R n oi q) {rows:List (List Nat)} (hr:rows.length=n) (hR:∀u (hu:u<rows.length),R u=Hz rows[u]) {cl:Bool} {g:Nat} (h3:nth σ 3=some (.arr g 1 true cl nx)) (hcl:cl=true→∀u,u<n→R u=[]):Rd σ (n+10) (.own 3 g 0 n) (.sl true (vs Ut rows)):=fun m hm=>by
 obtain⟨k,rfl⟩:∃k,m=k+1:=⟨m-1,by omega⟩
 have hsub:sub nx 0 n=nx:=by rw[← h.len];exact List.take_of_length_le (by simp)
 have hel:∀u (hu:u<n),Ut (rows[u]'(by omega))=if R u=[]then .sl false []else .sl true (ints (R u)):=fun u hu=>by
  have e:=hR u (by omega)
  unfold Ut
  rw[← Ac5,←e]
  by_cases h0:R u=[]
  ·have:rows[u]'(by omega)=[]:=by
        rw[e]at h0
        unfold Hz at h0
        simpa using h0
   rw[if_pos h0,h0,this];rfl
  ·have:rows[u]'(by omega)≠[]:=fun h1=>h0 (by rw[e,h1];rfl)
   rw[if_neg h0]
   simp only[decide_eq_true this]
 have hlist:Oc σ (5+n) nx (vs Ut rows):=by
  have e1:nx=vs (fun u=>(nth nx u).getD .junk) (List.range n):=by
   apply List.ext_getElem
   ·simp[h.len]
   ·intro i h1 h2
    simp only[vs,List.getElem_map,List.getElem_range]
    rw[Ar,List.getElem?_eq_getElem h1];rfl
  have e2:vs Ut rows=vs (fun u=>Ut (rows.getD u [])) (List.range n):=by
   apply List.ext_getElem
   ·simp[hr]
   ·intro i h1 h2
    have:i<rows.length:=by simpa using h1
    simp[vs,this]
  rw[e1,e2]
  have:=Oc.map (σ:=σ) (D:=5) (f:=fun u=>(nth nx u).getD .junk) (g:=fun u=>Ut (rows.getD u [])) (l:=List.range n) fun u hu=>by
   have hu:=List.mem_range.1 hu
   have e3:rows.getD u []=rows[u]'(by omega):=by simp[show u<rows.length by omega]
   rw[e3,hel u hu]
   rcases h.row u hu with⟨h1,h2⟩|⟨h1,o,g,T,h2,h3,_⟩
   ·rw[h2,if_pos h1]
    intro m hm
    obtain⟨j,rfl⟩:∃j,m=j+1:=⟨m-1,by omega⟩
    rfl
   ·rw[h2,if_neg h1]
    intro m hm
    obtain⟨j,rfl⟩:∃j,m=j+1:=⟨m-1,by omega⟩
    have hs:sub (ints (R u++T)) 0 (R u).length=ints (R u):=by
     unfold sub ints
     rw[List.drop_zero,←List.map_take,List.take_left]
    simp only[Option.getD_some,snap,h3,if_true,lI,List.length_append,hs]
    rw[if_pos (by first|exact⟨rfl,by omega⟩|exact⟨trivial,by omega⟩)]
  rw[List.length_range]at this
  exact this
 simp only[snap,h3,hsub]
 rw[if_pos (by first|exact⟨rfl,by rw[h.len];omega⟩|exact⟨trivial,by rw[h.len];omega⟩)]
 cases cl with
 |true=>
  simp only[if_true]
  have h0:=hcl rfl
  have:nx=vs Ut rows:=by
   apply List.ext_getElem
   ·simp[h.len,hr]
   ·intro i h1 h2
    have hi:i<n:=by rw[← h.len];exact h1
    simp only[vs,List.getElem_map]
    rw[hel i hi,if_pos (h0 i hi)]
    rcases h.row i hi with⟨_,h2⟩|⟨h2,_⟩
    ·rw[Ar,List.getElem?_eq_getElem h1]at h2
     exact Option.some.inj h2
    ·exact absurd (h0 i hi) h2
  rw[this]
 |false=>
  simp only[Bool.false_eq_true,if_false]
  rw[hlist k (by omega)];rfl
end
end
end AI
end Go.Proofs.YtchcadfjbkkgmaaGreatDoor
