/- The graph that an editor edits, in the store: nodes and edges with lists of their own. Looking up a key in nodes: slices.BinarySearchFunc, on memory that stays. Looking up a key in edges: slices.BinarySearchFunc, on memory that stays. Looking up a key in properties: slices.BinarySearchFunc, on memory that stays. Looking up a key in strings: slices.BinarySearch, on memory that stays. Walks through what an editor calls: must, node, edge. Setting a property of a node or an edge that an editor edits. change.Check. -/
import Derived.Test.YtchcadfjbkkgmaaGreatDoorCMae
import Derived.Test.YtchcadfjbkkgmaaGreatDoorCMaj
import Derived.Test.YtchcadfjbkkgmaaGreatDoorCMah
import Derived.Test.YtchcadfjbkkgmaaGreatDoorCMak
set_option linter.unusedVariables false
set_option maxRecDepth 4000
namespace Go.Proofs.YtchcadfjbkkgmaaGreatDoor
namespace AI
theorem Qe {α:Type} {l r:List α} {i:Nat} (h:i<l.length):nth (l++r) i=nth l i:=by
 rw[AA,AA,List.getElem?_append_left h]
theorem Nk {α:Type} {l:List α} {x:α}:nth (l++[x]) l.length=some x:=by
 rw[AA,List.getElem?_append_right (Nat.le_refl _)];simp
theorem Ho {α:Type} {l:List α} {i:Nat} {x y:α} (h:nth l i=some y):nth (l.set i x) i=some x:=by
 rw[AA,List.getElem?_set_self (BH h)]
theorem OV {α:Type} {l:List α} {i j:Nat} {x:α} (h:i≠j):nth (l.set i x) j=nth l j:=by
 rw[AA,AA,List.getElem?_set_ne h]
def Rd (σ:List Obj) (D:Nat) (x y:AV):Prop:=∀m,D≤m→snap σ m x=some y
def Kt (σ:List Obj) (D:Nat) (xs ys:List AV):Prop:=∀m,D≤m→Gf σ m xs=some ys
theorem Rd.mono {σ:List Obj} {D D':Nat} {x y:AV} (h:Rd σ D x y) (hd:D≤D'):Rd σ D' x y:=fun m hm=>h m (by omega)
theorem Kt.mono {σ:List Obj} {D D':Nat} {x y:List AV} (h:Kt σ D x y) (hd:D≤D'):Kt σ D' x y:=fun m hm=>h m (by omega)
theorem Kt.nil {σ:List Obj}:Kt σ 0 [] []:=fun m _=>by cases m<;>rfl
theorem Kt.cons {σ:List Obj} {D:Nat} {x y:AV} {xs ys:List AV} (h:Rd σ D x y) (k:Kt σ D xs ys):Kt σ (D+1) (x::xs) (y::ys):=fun m hm=>by
 obtain⟨m,rfl⟩:∃m',m=m'+1:=⟨m-1,by omega⟩
 simp only[Gf,h m (by omega),k m (by omega)]
theorem Kt.map {α:Type} {σ:List Obj} {D:Nat} {f g:α→AV}:∀{l:List α},(∀ e∈l,Rd σ D (f e) (g e))→Kt σ (D+l.length) (vs f l) (vs g l)
 |[],_=>Kt.nil.mono (by omega)
 |e::l,h=>(Kt.cons ((h e (by simp)).mono (D':=D+l.length) (by omega)) (Kt.map fun x hx=>h x (by simp[hx]))).mono (by simp;omega)
theorem Rd.agg {σ:List Obj} {D:Nat} {xs ys:List AV} (h:Kt σ D xs ys):Rd σ (D+1) (.agg xs) (.agg ys):=fun m hm=>by
 obtain⟨m,rfl⟩:∃m',m=m'+1:=⟨m-1,by omega⟩
 simp only[snap,h m (by omega),Option.map_some]
theorem Rd.int {σ:List Obj} {k:IntKind} {z:Int}:Rd σ 1 (.int k z) (.int k z):=fun m hm=>by
 obtain⟨m,rfl⟩:∃m',m=m'+1:=⟨m-1,by omega⟩
 rfl
theorem Rd.str {σ:List Obj} {z:List UInt8}:Rd σ 1 (.str z) (.str z):=fun m hm=>by
 obtain⟨m,rfl⟩:∃m',m=m'+1:=⟨m-1,by omega⟩
 rfl
def Hd {α:Type} (f:α→AV) (es:Nat) (σ:List Obj) (v:AV) (b:Bool) (l:List α) (c:Bool):Prop:=
 (b=false∧l=[]∧(v=.sl false []∨∃o g es',v=.own o g 0 0∧nth σ o=some (.arr g es' false true [])))∨
 (b=true∧∃o g,v=.own o g 0 l.length∧nth σ o=some (.arr g es true c (vs f l)))
theorem Hd.lt {α:Type} {f:α→AV} {es:Nat} {σ:List Obj} {v:AV} {b c:Bool} {l:List α} (h:Hd f es σ v b l c):∀o∈v.obj,o<σ.length:=by
 intro o ho
 rcases h with⟨_,_,rfl|⟨o',g,es',rfl,h⟩⟩|⟨_,o',g,rfl,h⟩
 ·simp[AV.obj]at ho
 ·simp only[AV.obj,List.mem_singleton]at ho;subst ho;exact BH h
 ·simp only[AV.obj,List.mem_singleton]at ho;subst ho;exact BH h
theorem Hd.obj {α:Type} {f:α→AV} {es:Nat} {σ:List Obj} {v:AV} {b c:Bool} {l:List α} (h:Hd f es σ v b l c) {o:Nat} (ho:o∈v.obj):∃g es' nn c' xs,nth σ o=some (.arr g es' nn c' xs)∧(nn=true→es'=es):=by
 rcases h with⟨_,_,rfl|⟨o',g,es',rfl,h⟩⟩|⟨_,o',g,rfl,h⟩
 ·simp[AV.obj]at ho
 ·simp only[AV.obj,List.mem_singleton]at ho;subst ho;exact⟨_,_,_,_,_,h,by simp⟩
 ·simp only[AV.obj,List.mem_singleton]at ho;subst ho;exact⟨_,_,_,_,_,h,fun _=>rfl⟩
theorem Hd.keep {α:Type} {f:α→AV} {es:Nat} {σ σ':List Obj} {v:AV} {b c:Bool} {l:List α} (h:Hd f es σ v b l c) (hk:∀o∈v.obj,nth σ' o=nth σ o):Hd f es σ' v b l c:=by
 rcases h with⟨h1,h2,rfl|⟨o',g,es',rfl,h⟩⟩|⟨h1,o',g,rfl,h⟩
 ·exact .inl ⟨h1,h2,.inl rfl⟩
 ·exact .inl ⟨h1,h2,.inr ⟨o',g,es',rfl,by rw[hk o' (by simp[AV.obj]),h]⟩⟩
 ·exact .inr ⟨h1,o',g,rfl,by rw[hk o' (by simp[AV.obj]),h]⟩
theorem Hd.sn {α:Type} {f:α→AV} {es:Nat} {σ:List Obj} {v:AV} {b:Bool} {l:List α} (h:Hd f es σ v b l true):Rd σ 1 v (.sl b (vs f l)):=fun m hm=>by
 obtain⟨m,rfl⟩:∃m',m=m'+1:=⟨m-1,by omega⟩
 rcases h with⟨rfl,rfl,rfl|⟨o',g,es',rfl,h⟩⟩|⟨rfl,o',g,rfl,h⟩
 ·rfl
 ·simp[snap,h,sub,vs]
 ·have:sub (vs f l) 0 l.length=vs f l:=uV
  simp[snap,h,this]
theorem Hd.one {α:Type} {f:α→AV} {es:Nat} {σ:List Obj} {v:AV} {b c:Bool} {l:List α} (h:Hd f es σ v b l c):v.cells.length=1∧v.storable=true:=by
 rcases h with⟨_,_,rfl|⟨o',g,es',rfl,h⟩⟩|⟨_,o',g,rfl,h⟩<;>exact⟨rfl,rfl⟩
theorem Hd.bool {α:Type} {f:α→AV} {es:Nat} {σ:List Obj} {v:AV} {b c:Bool} {l:List α} (h:Hd f es σ v b l c):b=false→l=[]:=by
 rcases h with⟨_,h,_⟩|⟨h,_⟩
 ·exact fun _=>h
 ·intro h';rw[h']at h;cases h
theorem Hd.closed {α:Type} {f:α→AV} {es:Nat} {σ:List Obj} {v:AV} {b c:Bool} {l:List α} (h:Hd f es σ v b l c) (hc:v.closed=true):v=.sl false []∧b=false∧l=[]:=by
 rcases h with⟨h1,h2,rfl|⟨o',g,es',rfl,h⟩⟩|⟨_,o',g,rfl,h⟩
 ·exact⟨rfl,h1,h2⟩
 ·cases hc
 ·cases hc
structure EN where
 n:GN
 lv:AV
 pv:AV
def EN.av (e:EN):AV:=.agg [.int .i64 e.n.id,e.lv,e.pv]
def EN.objs (e:EN):List Nat:=e.lv.obj++e.pv.obj
def EN.Ok (σ:List Obj) (e:EN):Prop:=Hd .str 1 σ e.lv e.n.ln e.n.labels true∧Hd GP.av 6 σ e.pv e.n.pn e.n.props true
structure EE where
 e:GE
 pv:AV
def EE.av (e:EE):AV:=.agg [.int .i64 e.e.id,.int .i64 e.e.fr,.int .i64 e.e.to,.str e.e.ty,e.pv]
def EE.objs (e:EE):List Nat:=e.pv.obj
def EE.Ok (σ:List Obj) (e:EE):Prop:=Hd GP.av 6 σ e.pv e.e.pn e.e.props true
def BO (N:List EN) (E:List EE):List Nat:=N.flatMap EN.objs++E.flatMap EE.objs
structure Ed (σ:List Obj) (d gd:Nat) (vN vE:AV) (nb eb:Bool) (N:List EN) (E:List EE) (x y:Int):Prop where
 box:nth σ d=some (.arr gd 4 true false [.agg [vN,vE,.int .i64 x,.int .i64 y]])
 hn:∃c,Hd EN.av 3 σ vN nb N c∧(c=true→∀e∈N,e.av.closed=true)
 he:∃c,Hd EE.av 5 σ vE eb E c∧(c=true→∀e∈E,e.av.closed=true)
 hN:∀e∈N,e.Ok σ
 hE:∀e∈E,e.Ok σ
 nd:(d::(vN.obj++(vE.obj++BO N E))).Nodup
 oN:vN≠.sl false []
 oE:vE≠.sl false []
def J3 (nb eb:Bool) (N:List EN) (E:List EE) (x y:Int):GG:=⟨nb,N.map EN.n,eb,E.map EE.e,x,y⟩
theorem EN.sn {σ:List Obj} {e:EN} (h:e.Ok σ):Rd σ 5 e.av e.n.av:=
 Rd.agg (Kt.cons (Rd.int.mono (by omega)) (Kt.cons (h.1.sn.mono (by omega)) (Kt.cons (h.2.sn.mono (D':=1) (by omega)) (Kt.nil.mono (D':=1) (by omega)))))
theorem EE.sn {σ:List Obj} {e:EE} (h:e.Ok σ):Rd σ 7 e.av e.e.av:=
 Rd.agg (Kt.cons (Rd.int.mono (by omega)) (Kt.cons (Rd.int.mono (by omega)) (Kt.cons (Rd.int.mono (by omega)) (Kt.cons (Rd.str.mono (by omega)) (Kt.cons (h.sn.mono (D':=1) (by omega)) (Kt.nil.mono (D':=1) (by omega)))))))
theorem Hd.snE {α:Type} {f g:α→AV} {es D:Nat} {σ:List Obj} {v:AV} {b c:Bool} {l:List α} (h:Hd f es σ v b l c) (hs:∀e∈l,Rd σ D (f e) (g e)) (hc:c=true→∀e∈l,f e=g e):Rd σ (D+l.length+1) v (.sl b (vs g l)):=fun m hm=>by
 obtain⟨m,rfl⟩:∃m',m=m'+1:=⟨m-1,by omega⟩
 rcases h with⟨rfl,rfl,rfl|⟨o',g,es',rfl,h⟩⟩|⟨rfl,o',g',rfl,h⟩
 ·rfl
 ·simp[snap,h,sub,vs]
 ·have e1:sub (vs f l) 0 l.length=vs f l:=uV
  cases c with
  |false=>
   have:=Kt.map hs m (by omega)
   simp[snap,h,e1,this]
  |true=>
   have e2:vs f l=vs g l:=List.map_congr_left (hc rfl)
   simp[snap,h,e2,show sub (vs g l) 0 l.length=vs g l from uV]
theorem EN.QY {σ:List Obj} {e:EN} (h:e.Ok σ) (hc:e.av.closed=true):e.av=e.n.av:=by
 simp only[EN.av,AV.closed,DK,Bool.and_eq_true,Bool.and_true]at hc
 obtain⟨a1,a2,a3⟩:=h.1.closed hc.2.1
 obtain⟨b1,b2,b3⟩:=h.2.closed hc.2.2
 simp[EN.av,GN.av,a1,a2,a3,b1,b2,b3,vs]
theorem EE.QY {σ:List Obj} {e:EE} (h:e.Ok σ) (hc:e.av.closed=true):e.av=e.e.av:=by
 simp only[EE.av,AV.closed,DK,Bool.and_eq_true,Bool.and_true]at hc
 obtain⟨b1,b2,b3⟩:=h.closed hc.2.2.2.2
 simp[EE.av,GE.av,b1,b2,b3,vs]
section
variable {σ σ':List Obj} {d gd:Nat} {vN vE:AV} {nb eb:Bool} {N:List EN} {E:List EE} {x y:Int}
theorem Ed.snN (h:Ed σ d gd vN vE nb eb N E x y):Rd σ (5+N.length+1) vN (.sl nb (vs GN.av (N.map EN.n))):=by
 obtain⟨c,h1,h2⟩:=h.hn
 have:=h1.snE (g:=fun e=>e.n.av) (D:=5) (fun e he=>EN.sn (h.hN e he)) (fun hc e he=>EN.QY (h.hN e he) (h2 hc e he))
 simpa[vs,Function.comp_def]using this
theorem Ed.snE (h:Ed σ d gd vN vE nb eb N E x y):Rd σ (7+E.length+1) vE (.sl eb (vs GE.av (E.map EE.e))):=by
 obtain⟨c,h1,h2⟩:=h.he
 have:=h1.snE (g:=fun e=>e.e.av) (D:=7) (fun e he=>EE.sn (h.hE e he)) (fun hc e he=>EE.QY (h.hE e he) (h2 hc e he))
 simpa[vs,Function.comp_def]using this
theorem Ed.snL (h:Ed σ d gd vN vE nb eb N E x y):Kt σ (20+N.length+E.length) [vN,vE,.int .i64 x,.int .i64 y] [.sl nb (vs GN.av (N.map EN.n)),.sl eb (vs GE.av (E.map EE.e)),.int .i64 x,.int .i64 y]:=
 (Kt.cons (h.snN.mono (D':=N.length+E.length+15) (by omega)) (Kt.cons (h.snE.mono (D':=N.length+E.length+14) (by omega)) (Kt.cons (Rd.int.mono (D':=N.length+E.length+13) (by omega)) (Kt.cons (Rd.int.mono (D':=N.length+E.length+12) (by omega)) (Kt.nil.mono (by omega)))))).mono (by omega)
theorem Ed.snG (h:Ed σ d gd vN vE nb eb N E x y):Rd σ (21+N.length+E.length) (.agg [vN,vE,.int .i64 x,.int .i64 y]) (J3 nb eb N E x y).av:=(Rd.agg h.snL).mono (by omega)
theorem Ed.RF (h:Ed σ d gd vN vE nb eb N E x y):Rd σ (21+N.length+E.length) (.ref d gd 0 0) (.CV (J3 nb eb N E x y).av.cells):=fun m hm=>by
 obtain⟨m,rfl⟩:∃m',m=m'+1:=⟨m-1,by omega⟩
 have:=h.snL m (by omega)
 simp[snap,h.box,nth,AV.cells,this,J3,GG.av]
end
theorem Abz {a b:Int} (h:LV a b<0):Cc a b=true:=by simpa[Cc]using Qr.1 h
theorem AbA {a b:Int} (h:¬LV a b<0):Cc a b=false:=by simpa[Cc]using mt Qr.2 h
theorem Apn {n:GN} {x:Int}:Af (Ad tab) 195 [n.av,.int .i64 x] (· =.int .i64 (LV n.id x)):=by
 refine Ac rfl rfl ?_
 (conv=>whnf);repeat' (first|(refine kA ?_;conv=>whnf)|(refine Br.mk (fun hc=>?_) fun hc=>?_<;>first|exact hc.elim|conv=>whnf)|(refine Aa compare ?_;rintro _ rfl;conv=>whnf)|(refine kB ?_))
 rfl
theorem bsN {l:List GN} {nn:Bool} {x:Int} (hl:l.length<2^62) (hi:Inc Cc GN.id l):Af (Ad tab) 99 [.sl nn (vs GN.av l),.int .i64 x,.fn 195 []] (fun v=>∃(i:Nat) (b:Bool),v=.Cb [.int .i64 i,.bool b]∧AtK Cc GN.id x l i∧(b=true↔∃y∈l,GN.id y=x)):=by
 have fin:∀i:Nat,AtK Cc GN.id x l i→((∃ y∈l,GN.id y=x)↔∃h:i<l.length,GN.id l[i]=x):=by
  intro i h
  constructor
  ·intro hf
   obtain⟨h1,h2,_⟩:=h.found Ag hi hf
   exact⟨h1,h2⟩
  ·rintro⟨h1,h2⟩
   exact⟨_,List.getElem_mem h1,h2⟩
 refine Ac rfl rfl ?_
 (conv=>whnf);repeat' (first|(refine kA ?_;conv=>whnf)|(refine Br.mk (fun hc=>?_) fun hc=>?_<;>first|exact hc.elim|conv=>whnf)  |(refine kB ?_))
 refine Ap (fun m env s=>∃(i j:Nat),m=j-i∧i≤j∧j≤l.length∧env=[(0,.sl nn (vs GN.av l)),(1,.int .i64 x),(2,.fn 195 []),(8,.int .i64 l.length),(9,.int .i64 i),(10,.int .i64 j)]∧s=⟨[],0⟩∧
  (∀ k (h:k<l.length),k<i→Cc (GN.id l[k]) x=true)∧(∀ k (h:k<l.length),j≤k→Cc (GN.id l[k]) x=false)) ?_ _ _ _ ⟨0,l.length,rfl,by omega,by omega,by simp,rfl,fun k _ h=>absurd h (by omega),fun k h1 h=>absurd h (by omega)⟩
 rintro _ _ _ ⟨i,j,rfl,hij,hj,rfl,rfl,h1,h2⟩
 refine⟨rfl,?_⟩
 have lo:∀{q:Nat} (hq:q<l.length),Cc (GN.id l[q]) x=true→∀k (h:k<l.length),k<q+1→Cc (GN.id l[k]) x=true:=fun{q} hq hm k hk hlt=>by
  rcases Nat.lt_or_ge k q with h|h
  ·exact(Ag).tr _ _ _ (hi.get h hq) hm
  ·obtain rfl:k=q:=by omega
   exact hm
 have up:∀{q:Nat} (hq:q<l.length),Cc (GN.id l[q]) x=false→∀k (h:k<l.length),q≤k→Cc (GN.id l[k]) x=false:=fun{q} hq hm k hk hle=>by
  rcases Nat.lt_or_ge q k with h|h
  ·cases h3:Cc (GN.id l[k]) x
   ·rfl
   ·have:=(Ag).tr _ _ _ (hi.get h hk) h3
    rw[hm]at this;cases this
  ·obtain rfl:k=q:=by omega
   exact hm
 (conv=>whnf);repeat' (first|(refine Ua (i+j) (by omega) (by omega) ?_;conv=>whnf)|(apply CB;(· exact Aaj _);conv=>whnf)|(refine Aa Apn ?_;rintro _ rfl;conv=>whnf)|(refine kA ?_;conv=>whnf)|(refine Br.mk (fun hc=>?_) fun hc=>?_<;>first|exact hc.elim|conv=>whnf)|(refine kB ?_))
 all_goals first
  |exact again.mk ⟨_,by omega,(i+j) / 2+1,j,rfl,by omega,hj,rfl,rfl,lo (by omega) (Abz hc),h2⟩
  |exact again.mk ⟨_,by omega,i,(i+j) / 2,rfl,by omega,by omega,rfl,rfl,h1,up (by omega) (AbA hc)⟩
  |skip
 all_goals
  obtain rfl:i=j:=by omega
  have ha:AtK Cc GN.id x l i:=⟨by omega,h1,h2⟩
  have hf:=fin i ha
  first
   |exact⟨i,_,rfl,ha,fun _=>hf.2 ⟨by omega,Hy.1 hc⟩,fun _=>rfl⟩
   |exact⟨i,_,rfl,ha,fun h=>(by cases h),fun h=>(by obtain⟨_,e⟩:=hf.1 h;exact absurd (Hy.2 e) hc)⟩
   |exact⟨i,_,rfl,ha,fun h=>(by cases h),fun h=>by obtain⟨e,_⟩:=hf.1 h;omega⟩
theorem An4 {n:GE} {x:Int}:Af (Ad tab) 208 [n.av,.int .i64 x] (· =.int .i64 (LV n.id x)):=by
 refine Ac rfl rfl ?_
 (conv=>whnf);repeat' (first|(refine kA ?_;conv=>whnf)|(refine Br.mk (fun hc=>?_) fun hc=>?_<;>first|exact hc.elim|conv=>whnf)|(refine Aa compare ?_;rintro _ rfl;conv=>whnf)|(refine kB ?_))
 rfl
theorem bsE {l:List GE} {nn:Bool} {x:Int} (hl:l.length<2^62) (hi:Inc Cc GE.id l):Af (Ad tab) 207 [.sl nn (vs GE.av l),.int .i64 x,.fn 208 []] (fun v=>∃(i:Nat) (b:Bool),v=.Cb [.int .i64 i,.bool b]∧AtK Cc GE.id x l i∧(b=true↔∃y∈l,GE.id y=x)):=by
 have fin:∀i:Nat,AtK Cc GE.id x l i→((∃ y∈l,GE.id y=x)↔∃h:i<l.length,GE.id l[i]=x):=by
  intro i h
  constructor
  ·intro hf
   obtain⟨h1,h2,_⟩:=h.found Ag hi hf
   exact⟨h1,h2⟩
  ·rintro⟨h1,h2⟩
   exact⟨_,List.getElem_mem h1,h2⟩
 refine Ac rfl rfl ?_
 (conv=>whnf);repeat' (first|(refine kA ?_;conv=>whnf)|(refine Br.mk (fun hc=>?_) fun hc=>?_<;>first|exact hc.elim|conv=>whnf)  |(refine kB ?_))
 refine Ap (fun m env s=>∃(i j:Nat),m=j-i∧i≤j∧j≤l.length∧env=[(0,.sl nn (vs GE.av l)),(1,.int .i64 x),(2,.fn 208 []),(8,.int .i64 l.length),(9,.int .i64 i),(10,.int .i64 j)]∧s=⟨[],0⟩∧
  (∀ k (h:k<l.length),k<i→Cc (GE.id l[k]) x=true)∧(∀ k (h:k<l.length),j≤k→Cc (GE.id l[k]) x=false)) ?_ _ _ _ ⟨0,l.length,rfl,by omega,by omega,by simp,rfl,fun k _ h=>absurd h (by omega),fun k h1 h=>absurd h (by omega)⟩
 rintro _ _ _ ⟨i,j,rfl,hij,hj,rfl,rfl,h1,h2⟩
 refine⟨rfl,?_⟩
 have lo:∀{q:Nat} (hq:q<l.length),Cc (GE.id l[q]) x=true→∀k (h:k<l.length),k<q+1→Cc (GE.id l[k]) x=true:=fun{q} hq hm k hk hlt=>by
  rcases Nat.lt_or_ge k q with h|h
  ·exact(Ag).tr _ _ _ (hi.get h hq) hm
  ·obtain rfl:k=q:=by omega
   exact hm
 have up:∀{q:Nat} (hq:q<l.length),Cc (GE.id l[q]) x=false→∀k (h:k<l.length),q≤k→Cc (GE.id l[k]) x=false:=fun{q} hq hm k hk hle=>by
  rcases Nat.lt_or_ge q k with h|h
  ·cases h3:Cc (GE.id l[k]) x
   ·rfl
   ·have:=(Ag).tr _ _ _ (hi.get h hk) h3
    rw[hm]at this;cases this
  ·obtain rfl:k=q:=by omega
   exact hm
 (conv=>whnf);repeat' (first|(refine Ua (i+j) (by omega) (by omega) ?_;conv=>whnf)|(apply CB;(· exact Aaj _);conv=>whnf)|(refine Aa An4 ?_;rintro _ rfl;conv=>whnf)|(refine kA ?_;conv=>whnf)|(refine Br.mk (fun hc=>?_) fun hc=>?_<;>first|exact hc.elim|conv=>whnf)|(refine kB ?_))
 all_goals first
  |exact again.mk ⟨_,by omega,(i+j) / 2+1,j,rfl,by omega,hj,rfl,rfl,lo (by omega) (Abz hc),h2⟩
  |exact again.mk ⟨_,by omega,i,(i+j) / 2,rfl,by omega,by omega,rfl,rfl,h1,up (by omega) (AbA hc)⟩
  |skip
 all_goals
  obtain rfl:i=j:=by omega
  have ha:AtK Cc GE.id x l i:=⟨by omega,h1,h2⟩
  have hf:=fin i ha
  first
   |exact⟨i,_,rfl,ha,fun _=>hf.2 ⟨by omega,Hy.1 hc⟩,fun _=>rfl⟩
   |exact⟨i,_,rfl,ha,fun h=>(by cases h),fun h=>(by obtain⟨_,e⟩:=hf.1 h;exact absurd (Hy.2 e) hc)⟩
   |exact⟨i,_,rfl,ha,fun h=>(by cases h),fun h=>by obtain⟨e,_⟩:=hf.1 h;omega⟩
theorem Aq:OM Op.bytesLess where
 Og:=fun x=>by rw[Tq];simp
 tr:=fun x y z h1 h2=>by rw[Tq]at *;simp only[decide_eq_true_eq]at *;exact List.lt_trans h1 h2
 tot:=fun x y h1 h2=>Abg h1 h2
theorem AmP {a b:List UInt8} (h:cS a b<0):Op.bytesLess a b=true:=by
 unfold cS at h
 split at h
 ·assumption
 ·split at h<;>omega
theorem AkD {a b:List UInt8} (h:¬cS a b<0):Op.bytesLess a b=false:=by
 cases h1:Op.bytesLess a b
 ·rfl
 ·exact absurd (by unfold cS;rw[if_pos h1];omega) h
theorem Apf {n:GP} {x:List UInt8}:Af (Ad tab) 203 [n.av,.str x] (· =.int .i64 (cS n.key x)):=by
 refine Ac rfl rfl ?_
 (conv=>whnf);repeat' (first|(refine kA ?_;conv=>whnf)|(refine Br.mk (fun hc=>?_) fun hc=>?_<;>first|exact hc.elim|conv=>whnf)|(refine Aa Af8 ?_;rintro _ rfl;conv=>whnf)|(refine kB ?_))
 rfl
theorem bsP {l:List GP} {nn:Bool} {x:(List UInt8)} (hl:l.length<2^62) (hi:Inc Op.bytesLess GP.key l):Af (Ad tab) 202 [.sl nn (vs GP.av l),.str x,.fn 203 []] (fun v=>∃(i:Nat) (b:Bool),v=.Cb [.int .i64 i,.bool b]∧AtK Op.bytesLess GP.key x l i∧(b=true↔∃y∈l,GP.key y=x)):=by
 have fin:∀i:Nat,AtK Op.bytesLess GP.key x l i→((∃ y∈l,GP.key y=x)↔∃h:i<l.length,GP.key l[i]=x):=by
  intro i h
  constructor
  ·intro hf
   obtain⟨h1,h2,_⟩:=h.found Aq hi hf
   exact⟨h1,h2⟩
  ·rintro⟨h1,h2⟩
   exact⟨_,List.getElem_mem h1,h2⟩
 refine Ac rfl rfl ?_
 (conv=>whnf);repeat' (first|(refine kA ?_;conv=>whnf)|(refine Br.mk (fun hc=>?_) fun hc=>?_<;>first|exact hc.elim|conv=>whnf)  |(refine kB ?_))
 refine Ap (fun m env s=>∃(i j:Nat),m=j-i∧i≤j∧j≤l.length∧env=[(0,.sl nn (vs GP.av l)),(1,.str x),(2,.fn 203 []),(8,.int .i64 l.length),(9,.int .i64 i),(10,.int .i64 j)]∧s=⟨[],0⟩∧
  (∀ k (h:k<l.length),k<i→Op.bytesLess (GP.key l[k]) x=true)∧(∀ k (h:k<l.length),j≤k→Op.bytesLess (GP.key l[k]) x=false)) ?_ _ _ _ ⟨0,l.length,rfl,by omega,by omega,by simp,rfl,fun k _ h=>absurd h (by omega),fun k h1 h=>absurd h (by omega)⟩
 rintro _ _ _ ⟨i,j,rfl,hij,hj,rfl,rfl,h1,h2⟩
 refine⟨rfl,?_⟩
 have lo:∀{q:Nat} (hq:q<l.length),Op.bytesLess (GP.key l[q]) x=true→∀k (h:k<l.length),k<q+1→Op.bytesLess (GP.key l[k]) x=true:=fun{q} hq hm k hk hlt=>by
  rcases Nat.lt_or_ge k q with h|h
  ·exact(Aq).tr _ _ _ (hi.get h hq) hm
  ·obtain rfl:k=q:=by omega
   exact hm
 have up:∀{q:Nat} (hq:q<l.length),Op.bytesLess (GP.key l[q]) x=false→∀k (h:k<l.length),q≤k→Op.bytesLess (GP.key l[k]) x=false:=fun{q} hq hm k hk hle=>by
  rcases Nat.lt_or_ge q k with h|h
  ·cases h3:Op.bytesLess (GP.key l[k]) x
   ·rfl
   ·have:=(Aq).tr _ _ _ (hi.get h hk) h3
    rw[hm]at this;cases this
  ·obtain rfl:k=q:=by omega
   exact hm
 (conv=>whnf);repeat' (first|(refine Ua (i+j) (by omega) (by omega) ?_;conv=>whnf)|(apply CB;(· exact Aaj _);conv=>whnf)|(refine Aa Apf ?_;rintro _ rfl;conv=>whnf)|(refine kA ?_;conv=>whnf)|(refine Br.mk (fun hc=>?_) fun hc=>?_<;>first|exact hc.elim|conv=>whnf)|(refine kB ?_))
 all_goals first
  |exact again.mk ⟨_,by omega,(i+j) / 2+1,j,rfl,by omega,hj,rfl,rfl,lo (by omega) (AmP hc),h2⟩
  |exact again.mk ⟨_,by omega,i,(i+j) / 2,rfl,by omega,by omega,rfl,rfl,h1,up (by omega) (AkD hc)⟩
  |skip
 all_goals
  obtain rfl:i=j:=by omega
  have ha:AtK Op.bytesLess GP.key x l i:=⟨by omega,h1,h2⟩
  have hf:=fin i ha
  first
   |exact⟨i,_,rfl,ha,fun _=>hf.2 ⟨by omega,XQ.1 hc⟩,fun _=>rfl⟩
   |exact⟨i,_,rfl,ha,fun h=>(by cases h),fun h=>(by obtain⟨_,e⟩:=hf.1 h;exact absurd (XQ.2 e) hc)⟩
   |exact⟨i,_,rfl,ha,fun h=>(by cases h),fun h=>by obtain⟨e,_⟩:=hf.1 h;omega⟩
theorem Al3 {x y:List UInt8}:Af (Ad tab) 198 [.str x,.str y] (· =.bool (Op.bytesLess x y)):=by
 refine Ac rfl rfl ?_
 (conv=>whnf);repeat' (first|(refine Aa AiT ?_;rintro _ rfl;conv=>whnf)|(refine kA ?_;conv=>whnf)|(refine Br.mk (fun hc=>?_) fun hc=>?_<;>first|exact hc.elim|conv=>whnf)|(refine kB ?_))
 all_goals first|(rw [hc];rfl)|rfl|(exfalso;simp_all;done)
theorem Aot {x:List UInt8}:Af (Ad tab) 199 [.str x] (· =.bool false):=by
 refine Ac rfl rfl ?_
 (conv=>whnf);repeat' (first  |(refine kA ?_;conv=>whnf)|(refine Br.mk (fun hc=>?_) fun hc=>?_<;>first|exact hc.elim|conv=>whnf)|(refine kB ?_))
 all_goals first|rfl|(exfalso;simp_all)
theorem bsS {l:List (List UInt8)} {nn:Bool} {x:(List UInt8)} (hl:l.length<2^62) (hi:Inc Op.bytesLess id l):Af (Ad tab) 171 [.sl nn (vs .str l),.str x] (fun v=>∃(i:Nat) (b:Bool),v=.Cb [.int .i64 i,.bool b]∧AtK Op.bytesLess id x l i∧(b=true↔∃y∈l,id y=x)):=by
 have fin:∀i:Nat,AtK Op.bytesLess id x l i→((∃ y∈l,id y=x)↔∃h:i<l.length,id l[i]=x):=by
  intro i h
  constructor
  ·intro hf
   obtain⟨h1,h2,_⟩:=h.found Aq hi hf
   exact⟨h1,h2⟩
  ·rintro⟨h1,h2⟩
   exact⟨_,List.getElem_mem h1,h2⟩
 refine Ac rfl rfl ?_
 (conv=>whnf);repeat' (first|(refine kA ?_;conv=>whnf)|(refine Br.mk (fun hc=>?_) fun hc=>?_<;>first|exact hc.elim|conv=>whnf)  |(refine kB ?_))
 refine Ap (fun m env s=>∃(i j:Nat),m=j-i∧i≤j∧j≤l.length∧env=[(0,.sl nn (vs .str l)),(1,.str x),(6,.int .i64 l.length),(7,.int .i64 i),(8,.int .i64 j)]∧s=⟨[],0⟩∧
  (∀ k (h:k<l.length),k<i→Op.bytesLess (id l[k]) x=true)∧(∀ k (h:k<l.length),j≤k→Op.bytesLess (id l[k]) x=false)) ?_ _ _ _ ⟨0,l.length,rfl,by omega,by omega,by simp,rfl,fun k _ h=>absurd h (by omega),fun k h1 h=>absurd h (by omega)⟩
 rintro _ _ _ ⟨i,j,rfl,hij,hj,rfl,rfl,h1,h2⟩
 refine⟨rfl,?_⟩
 have lo:∀{q:Nat} (hq:q<l.length),Op.bytesLess (id l[q]) x=true→∀k (h:k<l.length),k<q+1→Op.bytesLess (id l[k]) x=true:=fun{q} hq hm k hk hlt=>by
  rcases Nat.lt_or_ge k q with h|h
  ·exact(Aq).tr _ _ _ (hi.get h hq) hm
  ·obtain rfl:k=q:=by omega
   exact hm
 have up:∀{q:Nat} (hq:q<l.length),Op.bytesLess (id l[q]) x=false→∀k (h:k<l.length),q≤k→Op.bytesLess (id l[k]) x=false:=fun{q} hq hm k hk hle=>by
  rcases Nat.lt_or_ge q k with h|h
  ·cases h3:Op.bytesLess (id l[k]) x
   ·rfl
   ·have:=(Aq).tr _ _ _ (hi.get h hk) h3
    rw[hm]at this;cases this
  ·obtain rfl:k=q:=by omega
   exact hm
 (conv=>whnf);repeat' (first|(refine Ua (i+j) (by omega) (by omega) ?_;conv=>whnf)|(apply CB;(· exact Aaj _);conv=>whnf)|((first|refine Aa Al3 ?_|refine Aa Aot ?_);rintro _ rfl;conv=>whnf)|(refine Ry (fun hb=>?_) (fun hb=>?_)<;>conv=>whnf)|(refine kA ?_;conv=>whnf)|(refine Br.mk (fun hc=>?_) fun hc=>?_<;>first|exact hc.elim|conv=>whnf)|(refine kB ?_))
 all_goals first
  |exact again.mk ⟨_,by omega,(i+j) / 2+1,j,rfl,by omega,hj,rfl,rfl,lo (by omega) hb,h2⟩
  |exact again.mk ⟨_,by omega,i,(i+j) / 2,rfl,by omega,by omega,rfl,rfl,h1,up (by omega) hb⟩
  |skip
 all_goals
  obtain rfl:i=j:=by omega
  have ha:AtK Op.bytesLess id x l i:=⟨by omega,h1,h2⟩
  have hf:=fin i ha
  first
   |exact⟨i,_,rfl,ha,fun _=>hf.2 ⟨by omega,hc⟩,fun _=>rfl⟩
   |exact⟨i,_,rfl,ha,fun h=>(by cases h),fun h=>by obtain⟨_,e⟩:=hf.1 h;exact absurd e hc⟩
   |exact⟨i,_,rfl,ha,fun h=>(by cases h),fun h=>by obtain⟨e,_⟩:=hf.1 h;omega⟩
theorem Ez {e:Int} {s:Am} {K:AX→Am→Prop} (h:K (.ok (.Cb [])) s):A8 (Ad tab) 168 [.bool true,.int .i64 e] s K:=by
 refine Ar rfl rfl ?_
 (conv=>whnf);repeat' (first  |(refine kA ?_;conv=>whnf)|(refine Br.mk (fun hc=>?_) fun hc=>?_<;>first|exact hc.elim|conv=>whnf)|(refine kB ?_))
 exact h
theorem Ji {e:Int} {s:Am} {K:AX→Am→Prop} (h:K (.DI (.iface 199 (.int .i64 e))) s):A8 (Ad tab) 168 [.bool false,.int .i64 e] s K:=by
 refine Ar rfl rfl ?_
 (conv=>whnf);repeat' (first  |(refine kA ?_;conv=>whnf)|(refine Br.mk (fun hc=>?_) fun hc=>?_<;>first|exact hc.elim|conv=>whnf)|(refine kB ?_))
 exact h
theorem AeH {g:GG} {x:Int} (hl:g.nodes.length<2^62) (hi:Inc Cc GN.id g.nodes):Af (Ad tab) 167 [.CV g.av.cells,.int .i64 x] (fun v=>∃(i:Nat) (b:Bool),v=.Cb [.int .i64 i,.bool b]∧AtK Cc GN.id x g.nodes i∧(b=true↔∃y∈g.nodes,GN.id y=x)):=by
 refine Ac rfl rfl ?_
 (conv=>whnf);repeat' (first|(refine Aa (bsN hl hi) ?_;rintro _ ⟨i,b,rfl,h1,h2⟩;conv=>whnf)|(refine kA ?_;conv=>whnf)|(refine Br.mk (fun hc=>?_) fun hc=>?_<;>first|exact hc.elim|conv=>whnf)|(refine kB ?_))
 all_goals exact⟨i,_,rfl,h1,by rw[hc]at h2;exact h2⟩
theorem AeI {g:GG} {x:Int} (hl:g.edges.length<2^62) (hi:Inc Cc GE.id g.edges):Af (Ad tab) 175 [.CV g.av.cells,.int .i64 x] (fun v=>∃(i:Nat) (b:Bool),v=.Cb [.int .i64 i,.bool b]∧AtK Cc GE.id x g.edges i∧(b=true↔∃y∈g.edges,GE.id y=x)):=by
 refine Ac rfl rfl ?_
 (conv=>whnf);repeat' (first|(refine Aa (bsE hl hi) ?_;rintro _ ⟨i,b,rfl,h1,h2⟩;conv=>whnf)|(refine kA ?_;conv=>whnf)|(refine Br.mk (fun hc=>?_) fun hc=>?_<;>first|exact hc.elim|conv=>whnf)|(refine kB ?_))
 all_goals exact⟨i,_,rfl,h1,by rw[hc]at h2;exact h2⟩
structure Fr (σ σ':List Obj) (F:List Nat):Prop where
 len:σ.length≤σ'.length
 eq:∀o,o<σ.length→o∉F→nth σ' o=nth σ o
theorem Fr.refl {σ:List Obj} {F:List Nat}:Fr σ σ F:=⟨Nat.le_refl _,fun _ _ _=>rfl⟩
theorem Fr.trans {σ σ1 σ2:List Obj} {F:List Nat} (h:Fr σ σ1 F) (k:Fr σ1 σ2 F):Fr σ σ2 F:=
 ⟨Nat.le_trans h.len k.len,fun o ho hf=>(k.eq o (Nat.lt_of_lt_of_le ho h.len) hf).trans (h.eq o ho hf)⟩
theorem Fr.mono {σ σ':List Obj} {F F':List Nat} (h:Fr σ σ' F) (hf:∀o∈F,o∈F'∨σ.length≤o):Fr σ σ' F':=
 ⟨h.len,fun o ho hn=>h.eq o ho fun hm=>(hf o hm).elim hn fun h=>by omega⟩
theorem Fr.get {σ σ':List Obj} {F:List Nat} {o:Nat} {x:Obj} (h:Fr σ σ' F) (hx:nth σ o=some x) (hf:o∉F):nth σ' o=some x:=(h.eq o (BH hx) hf).trans hx
theorem CJ {σ:List Obj} {y:Obj} {K:List Obj→Prop} (h:∀σ',Fr σ σ' []→nth σ' σ.length=some y→σ'.length=σ.length+1→K σ'):Zj σ y K:=
 (Ob _ _ _).2 (h _ ⟨by simp,fun o ho _=>Qe ho⟩ Nk (by simp))
theorem E8 {σ:List Obj} {o:Nat} {x y:Obj} {K:List Obj→Prop} (hx:nth σ o=some x) (h:∀σ',Fr σ σ' [o]→nth σ' o=some y→σ'.length=σ.length→K σ'):QA σ o y K:=
 (Eu _ _ _ _).2 (h _ ⟨by simp,fun p hp hn=>OV (by simpa using fun e=>hn (by simp[e]))⟩ (Ho hx) (by simp))
theorem Agj {AP:Nat→Option G9} {f es bytes:Nat} {x:AV} {s:Am} {K:AX→Am→Prop} (hf:AP f=some (.ext (FZ es bytes))) (hx:x.cells.length=es) (hb:bytes≤2 ^ 46)
 (h:∀σ',Fr s.σ σ' []→nth σ' s.σ.length=some (.arr s.ctr es true true [x])→K (.ok (.own s.σ.length s.ctr 0 1)) ⟨σ',s.ctr+1⟩):A8 AP f [.sl false [],.int .i64 0,.sl true [x]] s K:=
 Kw hf (by simp only[FZ,hx,if_true];rw[if_pos ⟨trivial,hb⟩];rfl) (h _ ⟨by simp,fun o ho _=>Qe ho⟩ Nk)
theorem Tt {AP:Nat→Option G9} {f es bytes es' o g:Nat} {x:AV} {s:Am} {K:AX→Am→Prop} (hf:AP f=some (.ext (FZ es bytes))) (hx:x.cells.length=es) (hb:bytes≤2 ^ 46) (ho:nth s.σ o=some (.arr g es' false true []))
 (h:∀σ',Fr s.σ σ' []→nth σ' s.σ.length=some (.arr s.ctr es true true [x])→K (.ok (.own s.σ.length s.ctr 0 1)) ⟨σ',s.ctr+1⟩):A8 AP f [.own o g 0 0,.int .i64 0,.sl true [x]] s K:=
 Kw hf (by simp only[FZ,hx,ho,if_true];rw[if_pos ⟨trivial,trivial,trivial,hb⟩];rfl) (h _ ⟨by simp,fun o ho _=>Qe ho⟩ Nk)
theorem XW {α:Type} {fv:α→AV} {AP:Nat→Option G9} {f es bytes o g i n:Nat} {c:Bool} {l:List α} {x:α} {s:Am} {K:AX→Am→Prop} (hf:AP f=some (.ext (FZ es bytes))) (hx:(fv x).cells.length=es) (hb:(n+1)*bytes≤2 ^ 46) (hn:n=l.length) (hi:i≤n) (ho:nth s.σ o=some (.arr g es true c (vs fv l)))
 (h:∀σ',Fr s.σ σ' [o]→nth σ' o=some (.arr s.ctr es true c (vs fv (l.take i++[x]++l.drop i)))→K (.ok (.own o s.ctr 0 (n+1))) ⟨σ',s.ctr+1⟩):A8 AP f [.own o g 0 n,.int .i64 i,.sl true [fv x]] s K:=by
 subst hn
 have e1:((vs fv l).take l.length)=vs fv l:=List.take_of_length_le (by simp)
 refine Kw hf (by simp only[FZ,hx,ho,if_true,Bool.true_eq_false,if_false];rw[if_pos ⟨trivial,trivial,by omega,by simpa using hi,by simp,hb⟩]) (h _ ⟨by simp,fun p hp hn=>OV (by simpa using fun e=>hn (by simp[e]))⟩ ?_)
 rw[Ho ho]
 simp only[Int.toNat_natCast,e1]
 simp[vs,List.map_take,List.map_drop]
theorem Ux {α:Type} {fv:α→AV} {AP:Nat→Option G9} {f es o g i n:Nat} {c:Bool} {z:Int} {l:List α} {s:Am} {K:AX→Am→Prop} (hf:AP f=some (.ext (delSpec es))) (hn:n=l.length) (hi:i<n) (hz:z=(i:Int)+1) (ho:nth s.σ o=some (.arr g es true c (vs fv l)))
 (h:∀σ',Fr s.σ σ' [o]→nth σ' o=some (.arr s.ctr es true c (vs fv (l.take i++l.drop (i+1))))→K (.ok (.own o s.ctr 0 (i+(n-(i+1))))) ⟨σ',s.ctr+1⟩):A8 AP f [.own o g 0 n,.int .i64 i,.int .i64 z] s K:=by
 subst hn hz
 have e1:((vs fv l).take l.length)=vs fv l:=List.take_of_length_le (by simp)
 have e2:((i:Int)+1).toNat=i+1:=by omega
 refine Kw hf (by simp only[delSpec,ho];rw[if_pos ⟨trivial,trivial,by omega,by omega,by omega,by simp⟩]) ?_
 simp only[Int.toNat_natCast,e1,e2]
 refine h _ ⟨by simp,fun p hp hn=>OV (by simpa using fun e=>hn (by simp[e]))⟩ ?_
 rw[Ho ho]
 simp[vs,List.map_take,List.map_drop]
theorem ZC {v:GV} (hv:v.ok) (h:isNull v):Af (Ad tab) 166 [v.av] (· =.bool true):=by
 refine Ac rfl rfl ?_
 (conv=>whnf);repeat' (first|(refine Aa (AbF hv) ?_;rintro _ ⟨z,rfl,hz⟩;conv=>whnf)|(refine kA ?_;conv=>whnf)|(refine Br.mk (fun hc=>?_) fun hc=>?_<;>first|exact hc.elim|conv=>whnf)|(refine kB ?_))
 all_goals first|rfl|exact absurd (hz.2 h) hc
theorem ZE {v:GV} (hv:v.ok) (h:¬isNull v):Af (Ad tab) 166 [v.av] (· =.bool false):=by
 refine Ac rfl rfl ?_
 (conv=>whnf);repeat' (first|(refine Aa (AbF hv) ?_;rintro _ ⟨z,rfl,hz⟩;conv=>whnf)|(refine kA ?_;conv=>whnf)|(refine Br.mk (fun hc=>?_) fun hc=>?_<;>first|exact hc.elim|conv=>whnf)|(refine kB ?_))
 all_goals first|rfl|exact absurd (hz.1 hc) h
set_option maxHeartbeats 1000000 in
theorem AlY {σ:List Obj} {c:Nat} {lv:AV} {b:Bool} {l:List GP} {k:List UInt8} {v:GV} {K:AX→Am→Prop} (h:Hd GP.av 6 σ lv b l true) (hi:Inc Op.bytesLess GP.key l) (hl:l.length≤100) (hv:v.ok)
 (hA:isNull v→∀σ' c' lv',Hd GP.av 6 σ' lv' b (CP Op.bytesLess GP.key k l) true→Fr σ σ' lv.obj→(∀ o∈lv'.obj,o∈lv.obj∨σ.length≤o)→K (.ok lv') ⟨σ',c'⟩)
 (hB:¬isNull v→((∃ y∈l,GP.key y=k)∨l.length<16)→∀σ' c' lv',Hd GP.av 6 σ' lv' true (Ba Op.bytesLess GP.key ⟨k,v⟩ l) true→Fr σ σ' lv.obj→(∀ o∈lv'.obj,o∈lv.obj∨σ.length≤o)→K (.ok lv') ⟨σ',c'⟩)
 (hC:¬isNull v→(¬ ∃y∈l,GP.key y=k)→¬l.length<16→∀σ' c',Fr σ σ' []→K (.DI (.iface 199 (.int .i64 20))) ⟨σ',c'⟩):
 A8 (Ad tab) 174 [lv,.str k,v.av] ⟨σ,c⟩ K:=by
 rcases h with⟨rfl,rfl,h⟩|⟨rfl,o,g,rfl,ho⟩
 ·have hbs:∀{nn:Bool},Af (Ad tab) 202 [.sl nn (vs GP.av []),.str k,.fn 203 []] (· =.Cb [.int .i64 (0:Nat),.bool false]):=fun{nn}=>by
   refine(bsP (l:=[]) (nn:=nn) (x:=k) (by simp) List.Pairwise.nil).mono ?_
   rintro _ ⟨i,fb,rfl,q1,q2⟩
   obtain rfl:i=0:=by have:=q1.le;simpa using this
   cases fb
   ·rfl
   ·exact absurd (q2.1 rfl) (by simp)
  have fin:∀σ1 σ2 c',Fr σ σ1 []→Fr σ1 σ2 []→nth σ2 σ1.length=some (.arr c' 6 true true [GP.av ⟨k,v⟩])→¬isNull v→lv.obj=[]∨True→K (.ok (.own σ1.length c' 0 1)) ⟨σ2,c'+1⟩:=fun σ1 σ2 c' f1 f2 h2 hn _=>
   hB hn (.inr (by simp)) _ _ _ (.inr ⟨rfl,_,_,rfl,h2⟩) ((f1.trans f2).mono (by simp)) (fun o ho=>by simp only[AV.obj,List.mem_singleton]at ho;subst ho;exact .inr f1.len)
  rcases h with rfl|⟨o,g,es',rfl,ho⟩
  ·by_cases hn:isNull v
   ·refine Ar rfl rfl ?_
    (conv=>whnf);repeat' (first|(refine CJ fun σ1 f1 h1 l1=>?_;conv=>whnf)|((first|refine Aa hbs ?_|refine Aa (ZC hv hn) ?_);rintro _ rfl;conv=>whnf)|(rw [h1];conv=>whnf)|(refine kA ?_;conv=>whnf)|(refine Br.mk (fun hc=>?_) fun hc=>?_<;>first|exact hc.elim|conv=>whnf)|(refine kB ?_))
    exact hA hn _ _ (.sl false []) (.inl ⟨rfl,rfl,.inl rfl⟩) (f1.mono (by simp)) (fun o ho=>by simp[AV.obj]at ho)
   ·refine Ar rfl rfl ?_
    (conv=>whnf);repeat' (first|(refine CJ fun σ1 f1 h1 l1=>?_;conv=>whnf)|((first|refine Aa hbs ?_|refine Aa (ZE hv hn) ?_);rintro _ rfl;conv=>whnf)|(rw [h1];conv=>whnf)|(refine Ez ?_;conv=>whnf)|(refine Agj (x:=GP.av ⟨k,v⟩) rfl rfl (by omega) fun σ2 f2 h2=>?_;conv=>whnf)|(refine kA ?_;conv=>whnf)|(refine Br.mk (fun hc=>?_) fun hc=>?_<;>first|exact hc.elim|conv=>whnf)|(refine kB ?_))
    all_goals first|exact fin _ _ _ f1 f2 h2 hn (.inr trivial)
  ·by_cases hn:isNull v
   ·refine Ar rfl rfl ?_
    (conv=>whnf);repeat' (first|(refine CJ fun σ1 f1 h1 l1=>?_;have ho1:=f1.get ho (by simp);conv=>whnf)|((first|refine Aa hbs ?_|refine Aa (ZC hv hn) ?_);rintro _ rfl;conv=>whnf)|(rw [h1];conv=>whnf)|(rw [ho1];conv=>whnf)|(refine kA ?_;conv=>whnf)|(refine Br.mk (fun hc=>?_) fun hc=>?_<;>first|exact hc.elim|conv=>whnf)|(refine kB ?_))
    all_goals first|exact hA hn _ _ _ (.inl ⟨rfl,rfl,.inr ⟨_,_,_,rfl,ho1⟩⟩) (f1.mono (by simp)) (fun o ho=>.inl ho)
   ·refine Ar rfl rfl ?_
    (conv=>whnf);repeat' (first|(refine CJ fun σ1 f1 h1 l1=>?_;have ho1:=f1.get ho (by simp);conv=>whnf)|((first|refine Aa hbs ?_|refine Aa (ZE hv hn) ?_);rintro _ rfl;conv=>whnf)|(rw [h1];conv=>whnf)|(rw [ho1];conv=>whnf)|(refine Ez ?_;conv=>whnf)|(refine Tt (x:=GP.av ⟨k,v⟩) rfl rfl (by omega) ho1 fun σ2 f2 h2=>?_;conv=>whnf)|(refine kA ?_;conv=>whnf)|(refine Br.mk (fun hc=>?_) fun hc=>?_<;>first|exact hc.elim|conv=>whnf)|(refine kB ?_))
    all_goals first|exact fin _ _ _ f1 f2 h2 hn (.inr trivial)
 ·have hlen:l.length<2 ^ 62:=by omega
  have hbs:=fun(nn:Bool)=>(bsP (nn:=nn) (x:=k) hlen hi)
  by_cases hf:∃y∈l,GP.key y=k
  ·have hbt:∃i,AtK Op.bytesLess GP.key k l i∧Af (Ad tab) 202 [.sl true (vs GP.av l),.str k,.fn 203 []] (· =.Cb [.int .i64 (i:Nat),.bool true]):=by
        obtain⟨_,⟨i,fb,rfl,q1,q2⟩,hd⟩:=(hbs true).JF
        rw[q2.2 hf]at hd
        exact⟨i,q1,hd⟩
   obtain⟨i,q1,hbt⟩:=hbt
   obtain⟨hil,hik,_⟩:=q1.found Aq hi hf
   by_cases hn:isNull v
   ·refine Ar rfl rfl ?_
    (conv=>whnf);repeat' (first|(refine CJ fun σ1 f1 h1 l1=>?_;have ho1:=f1.get ho (by simp);conv=>whnf)|((first|refine Aa hbt ?_|refine Aa (ZC hv hn) ?_);rintro _ rfl;conv=>whnf)|(rw [h1];conv=>whnf)|(rw [ho1];conv=>whnf)|(refine Ux rfl rfl hil rfl ho1 fun σ2 f2 h2=>?_;conv=>whnf)|(refine kA ?_;conv=>whnf)|(refine Br.mk (fun hc=>?_) fun hc=>?_<;>first|exact hc.elim|conv=>whnf)|(refine kB ?_))
    all_goals first
     |(rw [q1.del Aq hi hf]at h2
       have hlen2:i+(l.length-(i+1))=(CP Op.bytesLess GP.key k l).length:=by rw[← q1.del Aq hi hf,List.length_append,List.length_take,List.length_drop];omega
       exact hA hn _ _ _ (.inr ⟨rfl,_,_,by rw[← hlen2];rfl,h2⟩) ((f1.mono (by simp)).trans f2) (fun o ho=>.inl ho))
   ·refine Ar rfl rfl ?_
    (conv=>whnf);repeat' (first|(refine CJ fun σ1 f1 h1 l1=>?_;have ho1:=f1.get ho (by simp);conv=>whnf)|((first|refine Aa hbt ?_|refine Aa (ZE hv hn) ?_);rintro _ rfl;conv=>whnf)|(rw [h1];conv=>whnf)|(rw [ho1];conv=>whnf)|(refine E8 ho1 fun σ2 f2 h2 l2=>?_;conv=>whnf)|(refine kA ?_;conv=>whnf)|(refine Br.mk (fun hc=>?_) fun hc=>?_<;>first|exact hc.elim|conv=>whnf)|(refine kB ?_))
    have e:(vs GP.av l).set (Int.toNat (i:Int)) (BQ (l[i]).av (0+1) (AV.agg (List.take 5 (List.drop 0 v.av.cells))))=vs GP.av (Ba Op.bytesLess GP.key ⟨k,v⟩ l):=by
     have e0:BQ (l[i]).av (0+1) (AV.agg (List.take 5 (List.drop 0 v.av.cells)))=GP.av ⟨(l[i]).key,v⟩:=rfl
     rw[e0,hik,←q1.set (x:=⟨k,v⟩) Aq hi hf]
     simp[vs,List.map_set]
    replace h2:nth σ2 o=some (.arr g 6 true true (vs GP.av (Ba Op.bytesLess GP.key ⟨k,v⟩ l))):=by rw[← e];exact h2
    have hlen2:l.length=(Ba Op.bytesLess GP.key ⟨k,v⟩ l).length:=by rw[← q1.set (x:=⟨k,v⟩) Aq hi hf,List.length_set]
    exact hB hn (.inl hf) _ _ _ (.inr ⟨rfl,_,_,by rw[← hlen2];rfl,h2⟩) ((f1.mono (by simp)).trans f2) (fun o ho=>.inl ho)
  ·have hbt:∃i,AtK Op.bytesLess GP.key k l i∧Af (Ad tab) 202 [.sl true (vs GP.av l),.str k,.fn 203 []] (· =.Cb [.int .i64 (i:Nat),.bool false]):=by
        obtain⟨_,⟨i,fb,rfl,q1,q2⟩,hd⟩:=(hbs true).JF
        cases fb
        ·exact⟨i,q1,hd⟩
        ·exact absurd (q2.1 rfl) hf
   obtain⟨i,q1,hbt⟩:=hbt
   have hil:=q1.le
   by_cases hn:isNull v
   ·refine Ar rfl rfl ?_
    (conv=>whnf);repeat' (first|(refine CJ fun σ1 f1 h1 l1=>?_;have ho1:=f1.get ho (by simp);conv=>whnf)|((first|refine Aa hbt ?_|refine Aa (ZC hv hn) ?_);rintro _ rfl;conv=>whnf)|(rw [h1];conv=>whnf)|(rw [ho1];conv=>whnf)|(refine kA ?_;conv=>whnf)|(refine Br.mk (fun hc=>?_) fun hc=>?_<;>first|exact hc.elim|conv=>whnf)|(refine kB ?_))
    all_goals first
     |(have e:CP Op.bytesLess GP.key k l=l:=by
           rw[CP,←q1.take,←q1.WC Aq (fun x hx e=>hf ⟨x,hx,e⟩),List.take_append_drop]
       exact hA hn _ _ _ (by rw[e];exact .inr ⟨rfl,_,_,rfl,ho1⟩) (f1.mono (by simp)) (fun o ho=>.inl ho))
   ·refine Ar rfl rfl ?_
    (conv=>whnf);repeat' (first|(refine CJ fun σ1 f1 h1 l1=>?_;have ho1:=f1.get ho (by simp);conv=>whnf)|((first|refine Aa hbt ?_|refine Aa (ZE hv hn) ?_);rintro _ rfl;conv=>whnf)|(rw [h1];conv=>whnf)|(rw [ho1];conv=>whnf)|(refine Ez ?_;conv=>whnf)|(refine Ji ?_;conv=>whnf)|(refine XW (fv:=GP.av) (x:=⟨k,v⟩) rfl rfl (by omega) rfl hil ho1 fun σ2 f2 h2=>?_;conv=>whnf)|(refine kA ?_;conv=>whnf)|(refine Br.mk (fun hc=>?_) fun hc=>?_<;>first|exact hc.elim|conv=>whnf)|(refine kB ?_))
    all_goals first
     |exact hC hn hf (by omega) _ _ f1
     |(rw [q1.ins (x:=⟨k,v⟩) Aq (fun x hx e=>hf ⟨x,hx,e⟩)]at h2
       have hlen2:l.length+1=(Ba Op.bytesLess GP.key ⟨k,v⟩ l).length:=by rw[← q1.ins (x:=⟨k,v⟩) Aq (fun x hx e=>hf ⟨x,hx,e⟩),List.length_append,List.length_append,List.length_take,List.length_drop,List.length_singleton];omega
       exact hB hn (.inr (by omega)) _ _ _ (.inr ⟨rfl,_,_,by rw[← hlen2];rfl,h2⟩) ((f1.mono (by simp)).trans f2) (fun o ho=>.inl ho))
def Ri (op:Int):Prop:=op=3∨op=4∨op=5∨op=6∨op=8
instance (op:Int):Decidable (Ri op):=by unfold Ri;infer_instance
def Ve (op:Int):Prop:=op=5∨op=8
instance (op:Int):Decidable (Ve op):=by unfold Ve;infer_instance
def Md (z:Int):Prop:=1≤z∧z≤1000000
instance (z:Int):Decidable (Md z):=by unfold Md;infer_instance
def Gl (c:GC):Prop:=¬(1≤c.op∧c.op≤8)∨¬Md c.id∨(¬ Ri c.op∧c.name≠[])∨(¬ Ve c.op∧¬isNull c.v)∨(c.op=6∧(¬ Md c.fr∨¬Md c.to))∨(c.op≠6∧(c.fr≠0∨c.to≠0))
instance (c:GC):Decidable (Gl c):=by unfold Gl;infer_instance
def IC (c:GC):Int:=if Gl c then 1 else if Ri c.op∧¬isName c.name then 6 else if Ve c.op∧¬isNull c.v∧¬D9 c.v then 8 else 0
theorem AeF {c:GC} (h:IC c=0):(1≤c.op∧c.op≤8)∧Md c.id∧(Ri c.op→isName c.name)∧(c.op=6→Md c.fr∧Md c.to)∧(Ve c.op→isNull c.v∨D9 c.v):=by
 unfold IC at h
 split at h
 ·cases h
 rename_i h1
 split at h
 ·cases h
 rename_i h2
 split at h
 ·cases h
 rename_i h3
 simp only[Gl,not_or,Classical.not_not,not_and]at h1 h2 h3
 refine⟨by omega,h1.2.1,fun hn=>h2 hn,fun h6=>?_,fun hv=>?_⟩
 ·have:=h1.2.2.2.2.1 h6;exact this
 ·by_cases hn:isNull c.v
  ·exact .inl hn
  ·exact .inr (h3 hv hn)
theorem idP {z:Int}:Af (Ad tab) 165 [.int .i64 z] (· =.bool (decide (Md z))):=by
 refine Ac rfl rfl ?_
 (conv=>whnf);repeat' (first  |(refine kA ?_;conv=>whnf)|(refine Br.mk (fun hc=>?_) fun hc=>?_<;>first|exact hc.elim|conv=>whnf)|(refine kB ?_))
 all_goals first|exact BD (by unfold Md;omega)|exact AY (by unfold Md;omega)
theorem Aiu {op:Int}:Af (Ad tab) 164 [.int .i64 op] (· =.Cb [.agg [.bool (decide (op=6)),.bool (decide (Ri op)),.bool (decide (Ve op))],.bool (decide (1≤op∧op≤8))]):=by
 refine Ac rfl rfl ?_
 (conv=>whnf);repeat' (first  |(refine kA ?_;conv=>whnf)|(refine Br.mk (fun hc=>?_) fun hc=>?_<;>first|exact hc.elim|conv=>whnf)|(refine kB ?_))
 all_goals first
  |(subst_vars;rfl)
  |(have e1:decide (op=6)=false:=decide_eq_false (by omega)
    have e2:decide (Ri op)=false:=decide_eq_false (by unfold Ri;omega)
    have e3:decide (Ve op)=false:=decide_eq_false (by unfold Ve;omega)
    have e4:decide (1≤op∧op≤8)=false:=decide_eq_false (by omega)
    rw[e1,e2,e3,e4];rfl)
theorem Am7 {v:GV} (hv:v.ok):Af (Ad tab) 166 [v.av] (· =.bool (decide (isNull v))):=by
 by_cases h:isNull v
 ·rw[decide_eq_true h];exact ZC hv h
 ·rw[decide_eq_false h];exact ZE hv h
set_option maxHeartbeats 8000000 in
theorem Amm {c:GC} (h:c.ok):Af (Ad tab) 151 [c.av] (· =.int .i64 (IC c)):=by
 obtain⟨op,z,fr,to,nm,v⟩:=c
 obtain⟨h1,h2,h3,h4,h5,h6⟩:=h
 have hn:=name1 (s:=nm) (by have:=h5;simp only[Ln]at this;omega)
 have hp:=AeA (v:=v) h6
 have hu:=Am7 (v:=v) h6
 have hf:=Aiu (op:=op)
 have e1:=IC
 have hd:op=1∨op=2∨op=3∨op=4∨op=5∨op=6∨op=7∨op=8∨¬(1≤op∧op≤8):=by omega
 rcases hd with rfl|rfl|rfl|rfl|rfl|rfl|rfl|rfl|hd
 all_goals
  clear e1
  refine Ac rfl rfl ?_
  show vC _ _ [(0,.agg [.int .i64 _,.int .i64 z,.int .i64 fr,.int .i64 to,.str nm,.int .i64 v.k,.int .i64 v.n,.int .i64 v.d,.str v.s,.sl v.nn v.l])] _ _
  (conv=>whnf);repeat' (first|(refine Aa hf ?_;rintro _ rfl;conv=>whnf)|(refine BX idP (fun hi=>?_) (fun hi=>?_)<;>conv=>whnf)|(refine BX hu (fun hz=>?_) (fun hz=>?_)<;>conv=>whnf)|(refine BX hn (fun hx=>?_) (fun hx=>?_)<;>conv=>whnf)|(refine BX hp (fun hy=>?_) (fun hy=>?_)<;>conv=>whnf)|(refine kA ?_;conv=>whnf)|(refine Br.mk (fun hc=>?_) fun hc=>?_<;>first|exact hc.elim|conv=>whnf)|(refine kB ?_))
 all_goals first
  |(exfalso;omega)
  |exact absurd (of_decide_eq_true (by assumption)) hd
  |(refine congrArg (AV.int .i64) ?_;simp_all [IC,Gl,Ri,Ve];done)
end AI
end Go.Proofs.YtchcadfjbkkgmaaGreatDoor
