/- The graph that an editor edits, in the store: nodes and edges with lists of their own. Looking up a key in nodes: slices.BinarySearchFunc, on memory that stays. Looking up a key in edges: slices.BinarySearchFunc, on memory that stays. Looking up a key in strings: slices.BinarySearch, on memory that stays. A call of an entry that the model answers. Walks through what an editor calls: must, node, edge. Valid values, and values that are alike: plain. Valid fractions: the program's. Valid values, exactly: the program's. The program's order of a value and null. -/
import Derived.Test.YthnehejdkajjhaaGreatDoorUMad
import Derived.Test.YthnehejdkajjhaaGreatDoorBMaa
import Derived.Test.YthnehejdkajjhaaGreatDoorUMak
import Derived.Test.YthnehejdkajjhaaGreatDoorBVa
import Derived.Test.YthnehejdkajjhaaGreatDoorUMaf
import Derived.Test.YthnehejdkajjhaaGreatDoorUMag
set_option linter.unusedVariables false
set_option maxRecDepth 4000
namespace Go.Proofs.YthnehejdkajjhaaGreatDoor
namespace AI
theorem RD {α:Type} {l r:List α} {i:Nat} (h:i<l.length):nth (l++r) i=nth l i:=by
 rw[Bl,Bl,List.getElem?_append_left h]
theorem OI {α:Type} {l:List α} {x:α}:nth (l++[x]) l.length=some x:=by
 rw[Bl,List.getElem?_append_right (Nat.le_refl _)];simp
theorem Iw {α:Type} {l:List α} {i:Nat} {x y:α} (h:nth l i=some y):nth (l.set i x) i=some x:=by
 rw[Bl,List.getElem?_set_self (Dc h)]
theorem QB {α:Type} {l:List α} {i j:Nat} {x:α} (h:i≠j):nth (l.set i x) j=nth l j:=by
 rw[Bl,Bl,List.getElem?_set_ne h]
def Rd (σ:List Obj) (D:Nat) (x y:AV):Prop:=∀m,D≤m→snap σ m x=some y
def MJ (σ:List Obj) (D:Nat) (xs ys:List AV):Prop:=∀m,D≤m→EW σ m xs=some ys
theorem Rd.mono {σ:List Obj} {D D':Nat} {x y:AV} (h:Rd σ D x y) (hd:D≤D'):Rd σ D' x y:=fun m hm=>h m (by omega)
theorem MJ.mono {σ:List Obj} {D D':Nat} {x y:List AV} (h:MJ σ D x y) (hd:D≤D'):MJ σ D' x y:=fun m hm=>h m (by omega)
theorem MJ.nil {σ:List Obj}:MJ σ 0 [] []:=fun m _=>by cases m<;>rfl
theorem MJ.cons {σ:List Obj} {D:Nat} {x y:AV} {xs ys:List AV} (h:Rd σ D x y) (k:MJ σ D xs ys):MJ σ (D+1) (x::xs) (y::ys):=fun m hm=>by
 obtain⟨m,rfl⟩:∃m',m=m'+1:=⟨m-1,by omega⟩
 simp only[EW,h m (by omega),k m (by omega)]
theorem MJ.map {α:Type} {σ:List Obj} {D:Nat} {f g:α→AV}:∀{l:List α},(∀ e∈l,Rd σ D (f e) (g e))→MJ σ (D+l.length) (vs f l) (vs g l)
 |[],_=>MJ.nil.mono (by omega)
 |e::l,h=>(MJ.cons ((h e (by simp)).mono (D':=D+l.length) (by omega)) (MJ.map fun x hx=>h x (by simp[hx]))).mono (by simp;omega)
theorem Rd.agg {σ:List Obj} {D:Nat} {xs ys:List AV} (h:MJ σ D xs ys):Rd σ (D+1) (.agg xs) (.agg ys):=fun m hm=>by
 obtain⟨m,rfl⟩:∃m',m=m'+1:=⟨m-1,by omega⟩
 simp only[snap,h m (by omega),Option.map_some]
theorem Rd.int {σ:List Obj} {k:IntKind} {z:Int}:Rd σ 1 (.int k z) (.int k z):=fun m hm=>by
 obtain⟨m,rfl⟩:∃m',m=m'+1:=⟨m-1,by omega⟩
 rfl
theorem Rd.str {σ:List Obj} {z:List UInt8}:Rd σ 1 (.str z) (.str z):=fun m hm=>by
 obtain⟨m,rfl⟩:∃m',m=m'+1:=⟨m-1,by omega⟩
 rfl
def Hd {α:Type} (f:α→AV) (es:Nat) (σ:List Obj) (v:AV) (b:Bool) (l:List α) (c:Bool):Prop:=
 (b=false∧l=[]∧(v=.sl false []∨∃o g es',v=.own o g 0 0∧nth σ o=some (.arr g es' false true [])))∨
 (b=true∧∃o g,v=.own o g 0 l.length∧nth σ o=some (.arr g es true c (vs f l)))
theorem Hd.lt {α:Type} {f:α→AV} {es:Nat} {σ:List Obj} {v:AV} {b c:Bool} {l:List α} (h:Hd f es σ v b l c):∀o∈v.obj,o<σ.length:=by
 intro o ho
 rcases h with⟨_,_,rfl|⟨o',g,es',rfl,h⟩⟩|⟨_,o',g,rfl,h⟩
 ·simp[AV.obj]at ho
 ·simp only[AV.obj,List.mem_singleton]at ho;subst ho;exact Dc h
 ·simp only[AV.obj,List.mem_singleton]at ho;subst ho;exact Dc h
theorem Hd.obj {α:Type} {f:α→AV} {es:Nat} {σ:List Obj} {v:AV} {b c:Bool} {l:List α} (h:Hd f es σ v b l c) {o:Nat} (ho:o∈v.obj):∃g es' nn c' xs,nth σ o=some (.arr g es' nn c' xs)∧(nn=true→es'=es):=by
 rcases h with⟨_,_,rfl|⟨o',g,es',rfl,h⟩⟩|⟨_,o',g,rfl,h⟩
 ·simp[AV.obj]at ho
 ·simp only[AV.obj,List.mem_singleton]at ho;subst ho;exact⟨_,_,_,_,_,h,by simp⟩
 ·simp only[AV.obj,List.mem_singleton]at ho;subst ho;exact⟨_,_,_,_,_,h,fun _=>rfl⟩
theorem Hd.keep {α:Type} {f:α→AV} {es:Nat} {σ σ':List Obj} {v:AV} {b c:Bool} {l:List α} (h:Hd f es σ v b l c) (hk:∀o∈v.obj,nth σ' o=nth σ o):Hd f es σ' v b l c:=by
 rcases h with⟨h1,h2,rfl|⟨o',g,es',rfl,h⟩⟩|⟨h1,o',g,rfl,h⟩
 ·exact .inl ⟨h1,h2,.inl rfl⟩
 ·exact .inl ⟨h1,h2,.inr ⟨o',g,es',rfl,by rw[hk o' (by simp[AV.obj]),h]⟩⟩
 ·exact .inr ⟨h1,o',g,rfl,by rw[hk o' (by simp[AV.obj]),h]⟩
theorem Hd.sn {α:Type} {f:α→AV} {es:Nat} {σ:List Obj} {v:AV} {b:Bool} {l:List α} (h:Hd f es σ v b l true):Rd σ 1 v (.sl b (vs f l)):=fun m hm=>by
 obtain⟨m,rfl⟩:∃m',m=m'+1:=⟨m-1,by omega⟩
 rcases h with⟨rfl,rfl,rfl|⟨o',g,es',rfl,h⟩⟩|⟨rfl,o',g,rfl,h⟩
 ·rfl
 ·simp[snap,h,sub,vs]
 ·have:sub (vs f l) 0 l.length=vs f l:=uV
  simp[snap,h,this]
theorem Hd.one {α:Type} {f:α→AV} {es:Nat} {σ:List Obj} {v:AV} {b c:Bool} {l:List α} (h:Hd f es σ v b l c):v.cells.length=1∧v.storable=true:=by
 rcases h with⟨_,_,rfl|⟨o',g,es',rfl,h⟩⟩|⟨_,o',g,rfl,h⟩<;>exact⟨rfl,rfl⟩
theorem Hd.bool {α:Type} {f:α→AV} {es:Nat} {σ:List Obj} {v:AV} {b c:Bool} {l:List α} (h:Hd f es σ v b l c):b=false→l=[]:=by
 rcases h with⟨_,h,_⟩|⟨h,_⟩
 ·exact fun _=>h
 ·intro h';rw[h']at h;cases h
theorem Hd.closed {α:Type} {f:α→AV} {es:Nat} {σ:List Obj} {v:AV} {b c:Bool} {l:List α} (h:Hd f es σ v b l c) (hc:v.closed=true):v=.sl false []∧b=false∧l=[]:=by
 rcases h with⟨h1,h2,rfl|⟨o',g,es',rfl,h⟩⟩|⟨_,o',g,rfl,h⟩
 ·exact⟨rfl,h1,h2⟩
 ·cases hc
 ·cases hc
structure EN where
 n:GN
 lv:AV
 pv:AV
def EN.av (e:EN):AV:=.agg [.int .i64 e.n.id,e.lv,e.pv]
def EN.objs (e:EN):List Nat:=e.lv.obj++e.pv.obj
def EN.Ok (σ:List Obj) (e:EN):Prop:=Hd .str 1 σ e.lv e.n.ln e.n.labels true∧Hd GP.av 6 σ e.pv e.n.pn e.n.props true
structure EE where
 e:GE
 pv:AV
def EE.av (e:EE):AV:=.agg [.int .i64 e.e.id,.int .i64 e.e.fr,.int .i64 e.e.to,.str e.e.ty,e.pv]
def EE.objs (e:EE):List Nat:=e.pv.obj
def EE.Ok (σ:List Obj) (e:EE):Prop:=Hd GP.av 6 σ e.pv e.e.pn e.e.props true
def Cj (N:List EN) (E:List EE):List Nat:=N.flatMap EN.objs++E.flatMap EE.objs
structure Ed (σ:List Obj) (d gd:Nat) (vN vE:AV) (nb eb:Bool) (N:List EN) (E:List EE) (x y:Int):Prop where
 box:nth σ d=some (.arr gd 4 true false [.agg [vN,vE,.int .i64 x,.int .i64 y]])
 hn:∃c,Hd EN.av 3 σ vN nb N c∧(c=true→∀e∈N,e.av.closed=true)
 he:∃c,Hd EE.av 5 σ vE eb E c∧(c=true→∀e∈E,e.av.closed=true)
 hN:∀e∈N,e.Ok σ
 hE:∀e∈E,e.Ok σ
 nd:(d::(vN.obj++(vE.obj++Cj N E))).Nodup
 oN:vN≠.sl false []
 oE:vE≠.sl false []
def LP (nb eb:Bool) (N:List EN) (E:List EE) (x y:Int):GG:=⟨nb,N.map EN.n,eb,E.map EE.e,x,y⟩
theorem EN.sn {σ:List Obj} {e:EN} (h:e.Ok σ):Rd σ 5 e.av e.n.av:=
 Rd.agg (MJ.cons (Rd.int.mono (by omega)) (MJ.cons (h.1.sn.mono (by omega)) (MJ.cons (h.2.sn.mono (D':=1) (by omega)) (MJ.nil.mono (D':=1) (by omega)))))
theorem EE.sn {σ:List Obj} {e:EE} (h:e.Ok σ):Rd σ 7 e.av e.e.av:=
 Rd.agg (MJ.cons (Rd.int.mono (by omega)) (MJ.cons (Rd.int.mono (by omega)) (MJ.cons (Rd.int.mono (by omega)) (MJ.cons (Rd.str.mono (by omega)) (MJ.cons (h.sn.mono (D':=1) (by omega)) (MJ.nil.mono (D':=1) (by omega)))))))
theorem Hd.snE {α:Type} {f g:α→AV} {es D:Nat} {σ:List Obj} {v:AV} {b c:Bool} {l:List α} (h:Hd f es σ v b l c) (hs:∀e∈l,Rd σ D (f e) (g e)) (hc:c=true→∀e∈l,f e=g e):Rd σ (D+l.length+1) v (.sl b (vs g l)):=fun m hm=>by
 obtain⟨m,rfl⟩:∃m',m=m'+1:=⟨m-1,by omega⟩
 rcases h with⟨rfl,rfl,rfl|⟨o',g,es',rfl,h⟩⟩|⟨rfl,o',g',rfl,h⟩
 ·rfl
 ·simp[snap,h,sub,vs]
 ·have e1:sub (vs f l) 0 l.length=vs f l:=uV
  cases c with
  |false=>
   have:=MJ.map hs m (by omega)
   simp[snap,h,e1,this]
  |true=>
   have e2:vs f l=vs g l:=List.map_congr_left (hc rfl)
   simp[snap,h,e2,show sub (vs g l) 0 l.length=vs g l from uV]
theorem EN.TT {σ:List Obj} {e:EN} (h:e.Ok σ) (hc:e.av.closed=true):e.av=e.n.av:=by
 simp only[EN.av,AV.closed,D9,Bool.and_eq_true,Bool.and_true]at hc
 obtain⟨a1,a2,a3⟩:=h.1.closed hc.2.1
 obtain⟨b1,b2,b3⟩:=h.2.closed hc.2.2
 simp[EN.av,GN.av,a1,a2,a3,b1,b2,b3,vs]
theorem EE.TT {σ:List Obj} {e:EE} (h:e.Ok σ) (hc:e.av.closed=true):e.av=e.e.av:=by
 simp only[EE.av,AV.closed,D9,Bool.and_eq_true,Bool.and_true]at hc
 obtain⟨b1,b2,b3⟩:=h.closed hc.2.2.2.2
 simp[EE.av,GE.av,b1,b2,b3,vs]
section
variable {σ σ':List Obj} {d gd:Nat} {vN vE:AV} {nb eb:Bool} {N:List EN} {E:List EE} {x y:Int}
theorem Ed.snN (h:Ed σ d gd vN vE nb eb N E x y):Rd σ (5+N.length+1) vN (.sl nb (vs GN.av (N.map EN.n))):=by
 obtain⟨c,h1,h2⟩:=h.hn
 have:=h1.snE (g:=fun e=>e.n.av) (D:=5) (fun e he=>EN.sn (h.hN e he)) (fun hc e he=>EN.TT (h.hN e he) (h2 hc e he))
 simpa[vs,Function.comp_def]using this
theorem Ed.snE (h:Ed σ d gd vN vE nb eb N E x y):Rd σ (7+E.length+1) vE (.sl eb (vs GE.av (E.map EE.e))):=by
 obtain⟨c,h1,h2⟩:=h.he
 have:=h1.snE (g:=fun e=>e.e.av) (D:=7) (fun e he=>EE.sn (h.hE e he)) (fun hc e he=>EE.TT (h.hE e he) (h2 hc e he))
 simpa[vs,Function.comp_def]using this
theorem Ed.snL (h:Ed σ d gd vN vE nb eb N E x y):MJ σ (20+N.length+E.length) [vN,vE,.int .i64 x,.int .i64 y] [.sl nb (vs GN.av (N.map EN.n)),.sl eb (vs GE.av (E.map EE.e)),.int .i64 x,.int .i64 y]:=
 (MJ.cons (h.snN.mono (D':=N.length+E.length+15) (by omega)) (MJ.cons (h.snE.mono (D':=N.length+E.length+14) (by omega)) (MJ.cons (Rd.int.mono (D':=N.length+E.length+13) (by omega)) (MJ.cons (Rd.int.mono (D':=N.length+E.length+12) (by omega)) (MJ.nil.mono (by omega)))))).mono (by omega)
theorem Ed.snG (h:Ed σ d gd vN vE nb eb N E x y):Rd σ (21+N.length+E.length) (.agg [vN,vE,.int .i64 x,.int .i64 y]) (LP nb eb N E x y).av:=(Rd.agg h.snL).mono (by omega)
theorem Ed.Ux (h:Ed σ d gd vN vE nb eb N E x y):Rd σ (21+N.length+E.length) (.ref d gd 0 0) (.DR (LP nb eb N E x y).av.cells):=fun m hm=>by
 obtain⟨m,rfl⟩:∃m',m=m'+1:=⟨m-1,by omega⟩
 have:=h.snL m (by omega)
 simp[snap,h.box,nth,AV.cells,this,LP,GG.av]
end
theorem Aex {a b:Int} (h:Dq a b<0):BX a b=true:=by simpa[BX]using Oj.1 h
theorem Aey {a b:Int} (h:¬Dq a b<0):BX a b=false:=by simpa[BX]using mt Oj.2 h
theorem Avu {n:GN} {x:Int}:Ag (Ac tab) 193 [n.av,.int .i64 x] (· =.int .i64 (Dq n.id x)):=by
 refine Ad rfl rfl ?_
 (conv=>whnf);repeat' (first|(refine kA ?_;conv=>whnf)|(refine Br.mk (fun hc=>?_) fun hc=>?_<;>first|exact hc.elim|conv=>whnf)|(refine Aa compare ?_;rintro _ rfl;conv=>whnf)|(refine kB ?_))
 rfl
theorem bsN {l:List GN} {nn:Bool} {x:Int} (hl:l.length<2^62) (hi:Inc BX GN.id l):Ag (Ac tab) 133 [.sl nn (vs GN.av l),.int .i64 x,.fn 193 []] (fun v=>∃(i:Nat) (b:Bool),v=.BG [.int .i64 i,.bool b]∧AtK BX GN.id x l i∧(b=true↔∃y∈l,GN.id y=x)):=by
 have fin:∀i:Nat,AtK BX GN.id x l i→((∃ y∈l,GN.id y=x)↔∃h:i<l.length,GN.id l[i]=x):=by
  intro i h
  constructor
  ·intro hf
   obtain⟨h1,h2,_⟩:=h.found Ak hi hf
   exact⟨h1,h2⟩
  ·rintro⟨h1,h2⟩
   exact⟨_,List.getElem_mem h1,h2⟩
 refine Ad rfl rfl ?_
 (conv=>whnf);repeat' (first|(refine kA ?_;conv=>whnf)|(refine Br.mk (fun hc=>?_) fun hc=>?_<;>first|exact hc.elim|conv=>whnf)  |(refine kB ?_))
 refine Af (fun m env s=>∃(i j:Nat),m=j-i∧i≤j∧j≤l.length∧env=[(0,.sl nn (vs GN.av l)),(1,.int .i64 x),(2,.fn 193 []),(8,.int .i64 l.length),(9,.int .i64 i),(10,.int .i64 j)]∧s=⟨[],0⟩∧
  (∀ k (h:k<l.length),k<i→BX (GN.id l[k]) x=true)∧(∀ k (h:k<l.length),j≤k→BX (GN.id l[k]) x=false)) ?_ _ _ _ ⟨0,l.length,rfl,by omega,by omega,by simp,rfl,fun k _ h=>absurd h (by omega),fun k h1 h=>absurd h (by omega)⟩
 rintro _ _ _ ⟨i,j,rfl,hij,hj,rfl,rfl,h1,h2⟩
 refine⟨rfl,?_⟩
 have lo:∀{q:Nat} (hq:q<l.length),BX (GN.id l[q]) x=true→∀k (h:k<l.length),k<q+1→BX (GN.id l[k]) x=true:=fun{q} hq hm k hk hlt=>by
  rcases Nat.lt_or_ge k q with h|h
  ·exact(Ak).tr _ _ _ (hi.get h hq) hm
  ·obtain rfl:k=q:=by omega
   exact hm
 have up:∀{q:Nat} (hq:q<l.length),BX (GN.id l[q]) x=false→∀k (h:k<l.length),q≤k→BX (GN.id l[k]) x=false:=fun{q} hq hm k hk hle=>by
  rcases Nat.lt_or_ge q k with h|h
  ·cases h3:BX (GN.id l[k]) x
   ·rfl
   ·have:=(Ak).tr _ _ _ (hi.get h hk) h3
    rw[hm]at this;cases this
  ·obtain rfl:k=q:=by omega
   exact hm
 (conv=>whnf);repeat' (first|(refine Abl (i+j) (by omega) (by omega) ?_;conv=>whnf)|(apply BK;(· exact Ahi _);conv=>whnf)|(refine Aa Avu ?_;rintro _ rfl;conv=>whnf)|(refine kA ?_;conv=>whnf)|(refine Br.mk (fun hc=>?_) fun hc=>?_<;>first|exact hc.elim|conv=>whnf)|(refine kB ?_))
 all_goals first
  |exact again.mk ⟨_,by omega,(i+j) / 2+1,j,rfl,by omega,hj,rfl,rfl,lo (by omega) (Aex hc),h2⟩
  |exact again.mk ⟨_,by omega,i,(i+j) / 2,rfl,by omega,by omega,rfl,rfl,h1,up (by omega) (Aey hc)⟩
  |skip
 all_goals
  obtain rfl:i=j:=by omega
  have ha:AtK BX GN.id x l i:=⟨by omega,h1,h2⟩
  have hf:=fin i ha
  first
   |exact⟨i,_,rfl,ha,fun _=>hf.2 ⟨by omega,D6.1 hc⟩,fun _=>rfl⟩
   |exact⟨i,_,rfl,ha,fun h=>(by cases h),fun h=>(by obtain⟨_,e⟩:=hf.1 h;exact absurd (D6.2 e) hc)⟩
   |exact⟨i,_,rfl,ha,fun h=>(by cases h),fun h=>by obtain⟨e,_⟩:=hf.1 h;omega⟩
theorem AvG {n:GE} {x:Int}:Ag (Ac tab) 206 [n.av,.int .i64 x] (· =.int .i64 (Dq n.id x)):=by
 refine Ad rfl rfl ?_
 (conv=>whnf);repeat' (first|(refine kA ?_;conv=>whnf)|(refine Br.mk (fun hc=>?_) fun hc=>?_<;>first|exact hc.elim|conv=>whnf)|(refine Aa compare ?_;rintro _ rfl;conv=>whnf)|(refine kB ?_))
 rfl
theorem bsE {l:List GE} {nn:Bool} {x:Int} (hl:l.length<2^62) (hi:Inc BX GE.id l):Ag (Ac tab) 205 [.sl nn (vs GE.av l),.int .i64 x,.fn 206 []] (fun v=>∃(i:Nat) (b:Bool),v=.BG [.int .i64 i,.bool b]∧AtK BX GE.id x l i∧(b=true↔∃y∈l,GE.id y=x)):=by
 have fin:∀i:Nat,AtK BX GE.id x l i→((∃ y∈l,GE.id y=x)↔∃h:i<l.length,GE.id l[i]=x):=by
  intro i h
  constructor
  ·intro hf
   obtain⟨h1,h2,_⟩:=h.found Ak hi hf
   exact⟨h1,h2⟩
  ·rintro⟨h1,h2⟩
   exact⟨_,List.getElem_mem h1,h2⟩
 refine Ad rfl rfl ?_
 (conv=>whnf);repeat' (first|(refine kA ?_;conv=>whnf)|(refine Br.mk (fun hc=>?_) fun hc=>?_<;>first|exact hc.elim|conv=>whnf)  |(refine kB ?_))
 refine Af (fun m env s=>∃(i j:Nat),m=j-i∧i≤j∧j≤l.length∧env=[(0,.sl nn (vs GE.av l)),(1,.int .i64 x),(2,.fn 206 []),(8,.int .i64 l.length),(9,.int .i64 i),(10,.int .i64 j)]∧s=⟨[],0⟩∧
  (∀ k (h:k<l.length),k<i→BX (GE.id l[k]) x=true)∧(∀ k (h:k<l.length),j≤k→BX (GE.id l[k]) x=false)) ?_ _ _ _ ⟨0,l.length,rfl,by omega,by omega,by simp,rfl,fun k _ h=>absurd h (by omega),fun k h1 h=>absurd h (by omega)⟩
 rintro _ _ _ ⟨i,j,rfl,hij,hj,rfl,rfl,h1,h2⟩
 refine⟨rfl,?_⟩
 have lo:∀{q:Nat} (hq:q<l.length),BX (GE.id l[q]) x=true→∀k (h:k<l.length),k<q+1→BX (GE.id l[k]) x=true:=fun{q} hq hm k hk hlt=>by
  rcases Nat.lt_or_ge k q with h|h
  ·exact(Ak).tr _ _ _ (hi.get h hq) hm
  ·obtain rfl:k=q:=by omega
   exact hm
 have up:∀{q:Nat} (hq:q<l.length),BX (GE.id l[q]) x=false→∀k (h:k<l.length),q≤k→BX (GE.id l[k]) x=false:=fun{q} hq hm k hk hle=>by
  rcases Nat.lt_or_ge q k with h|h
  ·cases h3:BX (GE.id l[k]) x
   ·rfl
   ·have:=(Ak).tr _ _ _ (hi.get h hk) h3
    rw[hm]at this;cases this
  ·obtain rfl:k=q:=by omega
   exact hm
 (conv=>whnf);repeat' (first|(refine Abl (i+j) (by omega) (by omega) ?_;conv=>whnf)|(apply BK;(· exact Ahi _);conv=>whnf)|(refine Aa AvG ?_;rintro _ rfl;conv=>whnf)|(refine kA ?_;conv=>whnf)|(refine Br.mk (fun hc=>?_) fun hc=>?_<;>first|exact hc.elim|conv=>whnf)|(refine kB ?_))
 all_goals first
  |exact again.mk ⟨_,by omega,(i+j) / 2+1,j,rfl,by omega,hj,rfl,rfl,lo (by omega) (Aex hc),h2⟩
  |exact again.mk ⟨_,by omega,i,(i+j) / 2,rfl,by omega,by omega,rfl,rfl,h1,up (by omega) (Aey hc)⟩
  |skip
 all_goals
  obtain rfl:i=j:=by omega
  have ha:AtK BX GE.id x l i:=⟨by omega,h1,h2⟩
  have hf:=fin i ha
  first
   |exact⟨i,_,rfl,ha,fun _=>hf.2 ⟨by omega,D6.1 hc⟩,fun _=>rfl⟩
   |exact⟨i,_,rfl,ha,fun h=>(by cases h),fun h=>(by obtain⟨_,e⟩:=hf.1 h;exact absurd (D6.2 e) hc)⟩
   |exact⟨i,_,rfl,ha,fun h=>(by cases h),fun h=>by obtain⟨e,_⟩:=hf.1 h;omega⟩
theorem Atd {x y:List UInt8}:Ag (Ac tab) 196 [.str x,.str y] (· =.bool (Op.bytesLess x y)):=by
 refine Ad rfl rfl ?_
 (conv=>whnf);repeat' (first|(refine Aa Anc ?_;rintro _ rfl;conv=>whnf)|(refine kA ?_;conv=>whnf)|(refine Br.mk (fun hc=>?_) fun hc=>?_<;>first|exact hc.elim|conv=>whnf)|(refine kB ?_))
 all_goals first|(rw [hc];rfl)|rfl|(exfalso;simp_all;done)
theorem AvO {x:List UInt8}:Ag (Ac tab) 197 [.str x] (· =.bool false):=by
 refine Ad rfl rfl ?_
 (conv=>whnf);repeat' (first  |(refine kA ?_;conv=>whnf)|(refine Br.mk (fun hc=>?_) fun hc=>?_<;>first|exact hc.elim|conv=>whnf)|(refine kB ?_))
 all_goals first|rfl|(exfalso;simp_all)
theorem bsS {l:List (List UInt8)} {nn:Bool} {x:(List UInt8)} (hl:l.length<2^62) (hi:Inc Op.bytesLess id l):Ag (Ac tab) 144 [.sl nn (vs .str l),.str x] (fun v=>∃(i:Nat) (b:Bool),v=.BG [.int .i64 i,.bool b]∧AtK Op.bytesLess id x l i∧(b=true↔∃y∈l,id y=x)):=by
 have fin:∀i:Nat,AtK Op.bytesLess id x l i→((∃ y∈l,id y=x)↔∃h:i<l.length,id l[i]=x):=by
  intro i h
  constructor
  ·intro hf
   obtain⟨h1,h2,_⟩:=h.found Ai hi hf
   exact⟨h1,h2⟩
  ·rintro⟨h1,h2⟩
   exact⟨_,List.getElem_mem h1,h2⟩
 refine Ad rfl rfl ?_
 (conv=>whnf);repeat' (first|(refine kA ?_;conv=>whnf)|(refine Br.mk (fun hc=>?_) fun hc=>?_<;>first|exact hc.elim|conv=>whnf)  |(refine kB ?_))
 refine Af (fun m env s=>∃(i j:Nat),m=j-i∧i≤j∧j≤l.length∧env=[(0,.sl nn (vs .str l)),(1,.str x),(6,.int .i64 l.length),(7,.int .i64 i),(8,.int .i64 j)]∧s=⟨[],0⟩∧
  (∀ k (h:k<l.length),k<i→Op.bytesLess (id l[k]) x=true)∧(∀ k (h:k<l.length),j≤k→Op.bytesLess (id l[k]) x=false)) ?_ _ _ _ ⟨0,l.length,rfl,by omega,by omega,by simp,rfl,fun k _ h=>absurd h (by omega),fun k h1 h=>absurd h (by omega)⟩
 rintro _ _ _ ⟨i,j,rfl,hij,hj,rfl,rfl,h1,h2⟩
 refine⟨rfl,?_⟩
 have lo:∀{q:Nat} (hq:q<l.length),Op.bytesLess (id l[q]) x=true→∀k (h:k<l.length),k<q+1→Op.bytesLess (id l[k]) x=true:=fun{q} hq hm k hk hlt=>by
  rcases Nat.lt_or_ge k q with h|h
  ·exact(Ai).tr _ _ _ (hi.get h hq) hm
  ·obtain rfl:k=q:=by omega
   exact hm
 have up:∀{q:Nat} (hq:q<l.length),Op.bytesLess (id l[q]) x=false→∀k (h:k<l.length),q≤k→Op.bytesLess (id l[k]) x=false:=fun{q} hq hm k hk hle=>by
  rcases Nat.lt_or_ge q k with h|h
  ·cases h3:Op.bytesLess (id l[k]) x
   ·rfl
   ·have:=(Ai).tr _ _ _ (hi.get h hk) h3
    rw[hm]at this;cases this
  ·obtain rfl:k=q:=by omega
   exact hm
 (conv=>whnf);repeat' (first|(refine Abl (i+j) (by omega) (by omega) ?_;conv=>whnf)|(apply BK;(· exact Ahi _);conv=>whnf)|((first|refine Aa Atd ?_|refine Aa AvO ?_);rintro _ rfl;conv=>whnf)|(refine UF (fun hb=>?_) (fun hb=>?_)<;>conv=>whnf)|(refine kA ?_;conv=>whnf)|(refine Br.mk (fun hc=>?_) fun hc=>?_<;>first|exact hc.elim|conv=>whnf)|(refine kB ?_))
 all_goals first
  |exact again.mk ⟨_,by omega,(i+j) / 2+1,j,rfl,by omega,hj,rfl,rfl,lo (by omega) hb,h2⟩
  |exact again.mk ⟨_,by omega,i,(i+j) / 2,rfl,by omega,by omega,rfl,rfl,h1,up (by omega) hb⟩
  |skip
 all_goals
  obtain rfl:i=j:=by omega
  have ha:AtK Op.bytesLess id x l i:=⟨by omega,h1,h2⟩
  have hf:=fin i ha
  first
   |exact⟨i,_,rfl,ha,fun _=>hf.2 ⟨by omega,hc⟩,fun _=>rfl⟩
   |exact⟨i,_,rfl,ha,fun h=>(by cases h),fun h=>by obtain⟨_,e⟩:=hf.1 h;exact absurd e hc⟩
   |exact⟨i,_,rfl,ha,fun h=>(by cases h),fun h=>by obtain⟨e,_⟩:=hf.1 h;omega⟩
theorem MG {AP:Nat→Option Jc} {f:Nat} {sp:List AV→Aq→Option (Bf×Aq)} {args:List AV} {s s':Aq} {out:Bf} {K:Bf→Aq→Prop} (hf:AP f=some (.ext sp)) (h:sp args s=some (out,s')) (hK:K out s'):Am AP f args s K:=
 ⟨1,out,s',by simp only[run,hf];exact h,hK⟩
theorem Fp {e:Int} {s:Aq} {K:Bf→Aq→Prop} (h:K (.ok (.BG [])) s):Am (Ac tab) 141 [.bool true,.int .i64 e] s K:=by
 refine Ah rfl rfl ?_
 (conv=>whnf);repeat' (first  |(refine kA ?_;conv=>whnf)|(refine Br.mk (fun hc=>?_) fun hc=>?_<;>first|exact hc.elim|conv=>whnf)|(refine kB ?_))
 exact h
theorem Kz {e:Int} {s:Aq} {K:Bf→Aq→Prop} (h:K (.Ei (.iface 118 (.int .i64 e))) s):Am (Ac tab) 141 [.bool false,.int .i64 e] s K:=by
 refine Ah rfl rfl ?_
 (conv=>whnf);repeat' (first  |(refine kA ?_;conv=>whnf)|(refine Br.mk (fun hc=>?_) fun hc=>?_<;>first|exact hc.elim|conv=>whnf)|(refine kB ?_))
 exact h
theorem AhG {g:GG} {x:Int} (hl:g.nodes.length<2^62) (hi:Inc BX GN.id g.nodes):Ag (Ac tab) 140 [.DR g.av.cells,.int .i64 x] (fun v=>∃(i:Nat) (b:Bool),v=.BG [.int .i64 i,.bool b]∧AtK BX GN.id x g.nodes i∧(b=true↔∃y∈g.nodes,GN.id y=x)):=by
 refine Ad rfl rfl ?_
 (conv=>whnf);repeat' (first|(refine Aa (bsN hl hi) ?_;rintro _ ⟨i,b,rfl,h1,h2⟩;conv=>whnf)|(refine kA ?_;conv=>whnf)|(refine Br.mk (fun hc=>?_) fun hc=>?_<;>first|exact hc.elim|conv=>whnf)|(refine kB ?_))
 all_goals exact⟨i,_,rfl,h1,by rw[hc]at h2;exact h2⟩
theorem AhH {g:GG} {x:Int} (hl:g.edges.length<2^62) (hi:Inc BX GE.id g.edges):Ag (Ac tab) 148 [.DR g.av.cells,.int .i64 x] (fun v=>∃(i:Nat) (b:Bool),v=.BG [.int .i64 i,.bool b]∧AtK BX GE.id x g.edges i∧(b=true↔∃y∈g.edges,GE.id y=x)):=by
 refine Ad rfl rfl ?_
 (conv=>whnf);repeat' (first|(refine Aa (bsE hl hi) ?_;rintro _ ⟨i,b,rfl,h1,h2⟩;conv=>whnf)|(refine kA ?_;conv=>whnf)|(refine Br.mk (fun hc=>?_) fun hc=>?_<;>first|exact hc.elim|conv=>whnf)|(refine kB ?_))
 all_goals exact⟨i,_,rfl,h1,by rw[hc]at h2;exact h2⟩
def VF (n d:Int):Prop:=1≤d∧d≤1000000000000000∧MR n∧Nat.gcd n.natAbs d.natAbs=1
instance (n d:Int):Decidable (VF n d):=by unfold VF;infer_instance
def VB (g:GV):Prop:=g.l.length=0∧(g.k=0∧g.n=0∧g.d=0∧g.s=[]∨g.k=1∧(g.n=0∨g.n=1)∧g.d=0∧g.s=[]∨g.k=2∧MR g.n∧g.d=0∧g.s=[]∨
 g.k=3∧2≤g.d∧VF g.n g.d∧g.s=[]∨g.k=4∧g.n=0∧g.d=0∧okS g.s∨(g.k=5∨g.k=6)∧1≤g.n∧g.n≤1000000∧g.d=0∧g.s=[])
instance (g:GV):Decidable (VB g):=by unfold VB;infer_instance
def VPa (l:List AV):Prop:=l.length % 2=1∧l.length≤25∧∀i (h:i<l.length),∃x:GV,l[i]=x.av∧x.k=5+i % 2∧VB x
def VV:Nat→GV→Prop
 |0,g=>VB g∨g.k=7∧g.n=0∧g.d=0∧g.s=[]∧VPa g.l
 |m+1,g=>VB g∨g.k=7∧g.n=0∧g.d=0∧g.s=[]∧VPa g.l∨g.k=8∧g.n=0∧g.d=0∧g.s=[]∧g.l.length≤64∧∀i (h:i<g.l.length),∃x:GV,g.l[i]=x.av∧VV m x
theorem GV.TS {g h:GV} (e:g.av=h.av):g=h:=by
 obtain⟨k,n,d,s,nn,l⟩:=g
 obtain⟨k',n',d',s',nn',l'⟩:=h
 simp only[GV.av,AV.agg.injEq,List.cons.injEq,AV.int.injEq,AV.str.injEq,AV.sl.injEq,true_and,and_true]at e
 obtain⟨rfl,rfl,rfl,rfl,rfl,rfl⟩:=e
 rfl
theorem AbB (x y:Nat):Nat.gcd y (x % y)=Nat.gcd x y:=by
 rw[Nat.gcd_comm x y,Nat.gcd_rec y x,Nat.gcd_comm]
theorem absP {n:Int} (h:MR n):Ag (Ac tab) 298 [.int .i64 n] (· =.int .i64 n.natAbs):=by
 unfold MR at h
 have e:(if 0-n>n then 0-n else n)=(n.natAbs:Int):=by split<;>omega
 refine Ad rfl rfl ?_
 (conv=>whnf);repeat' (first  |(refine kA ?_;conv=>whnf)|(refine Br.mk (fun hc=>?_) fun hc=>?_<;>first|exact hc.elim|conv=>whnf)|(refine kB ?_))
 rw[← e];rfl
theorem Avr {n d:Int} (hn:MR n) (hd:MR d):Ag (Ac tab) 290 [.int .i64 n,.int .i64 d] (· =.int .i64 (Nat.gcd n.natAbs d.natAbs)):=by
 have hn':=hn
 have hd':=hd
 unfold MR at hn' hd'
 refine Ad rfl rfl ?_
 (conv=>whnf);repeat' (first|(refine Bo (inP (n:=n)) (fun hr=>?_) (fun hr=>absurd hn hr);conv=>whnf)|(refine Bo (inP (n:=d)) (fun hr=>?_) (fun hr=>absurd hd hr);conv=>whnf)|((first|refine Aa (absP hn) ?_|refine Aa (absP hd) ?_);rintro _ rfl;conv=>whnf)|(refine kA ?_;conv=>whnf)|(refine Br.mk (fun hc=>?_) fun hc=>?_<;>first|exact hc.elim|conv=>whnf)|(refine kB ?_))
 refine Af (fun m env s=>∃(x y:Nat),m=1*y∧x<2^63∧y<2^63∧Nat.gcd x y=Nat.gcd n.natAbs d.natAbs∧env=[(0,.int .i64 x),(1,.int .i64 y)]∧s=⟨[],0⟩) ?_ _ _ _ ⟨n.natAbs,d.natAbs,(Nat.one_mul _).symm,by omega,by omega,rfl,rfl,rfl⟩
 clear hn hd hn' hd'
 rintro m _ _ ⟨x,y,hm,hx,hy,hg,rfl,rfl⟩
 have hm2:y=m:=by omega
 subst hm2
 refine⟨rfl,?_⟩
 (conv=>whnf);repeat' (first  |(refine kA ?_;conv=>whnf)|(refine Br.mk (fun hc=>?_) fun hc=>?_<;>first|exact hc.elim|conv=>whnf)|(refine kB ?_))
 ·have h0:y=0:=by omega
  subst h0
  rw[Nat.gcd_zero_right]at hg
  rw[← hg];rfl
 ·have h0:0<y:=by omega
  have:=Nat.mod_lt x h0
  exact again.mk ⟨_,this,y,x % y,(Nat.one_mul _).symm,hy,by omega,by rw[AbB];exact hg,by rw[Int.ofNat_tmod],rfl⟩
theorem Aio {n d:Int} (h:¬(1≤d∧d≤1000000000000000∧MR n)):¬VF n d:=fun hv=>h ⟨hv.1,hv.2.1,hv.2.2.1⟩
theorem fvP {n d:Int}:Ag (Ac tab) 277 [.agg [.int .i64 n,.int .i64 d]] (· =.bool (decide (VF n d))):=by
 by_cases h:1≤d∧d≤1000000000000000∧MR n
 ·obtain⟨h1,h2,h3⟩:=h
  have hg:=Avr h3 (show MR d by unfold MR;omega)
  refine Ad rfl rfl ?_
  (conv=>whnf);repeat' (first|(refine Bo (inP (n:=n)) (fun hr=>?_) (fun hr=>absurd h3 hr);conv=>whnf)|(refine Aa hg ?_;rintro _ rfl;conv=>whnf)|(refine kA ?_;conv=>whnf)|(refine Br.mk (fun hc=>?_) fun hc=>?_<;>first|exact hc.elim|conv=>whnf)|(refine kB ?_))
  all_goals first
   |exact Bh ⟨h1,h2,h3,by omega⟩
   |exact Ar fun hv=>by have:=hv.2.2.2;omega
   |trace_state
 ·have hno:=Aio h
  have hnr:¬MR n∨¬(1≤d∧d≤1000000000000000):=by
   by_cases h3:MR n
   ·exact .inr fun h12=>h ⟨h12.1,h12.2,h3⟩
   ·exact .inl h3
  refine Ad rfl rfl ?_
  (conv=>whnf);repeat' (first|(refine Bo (inP (n:=n)) (fun hr=>?_) (fun hr=>?_)<;>conv=>whnf)|(refine kA ?_;conv=>whnf)|(refine Br.mk (fun hc=>?_) fun hc=>?_<;>first|exact hc.elim|conv=>whnf)|(refine kB ?_))
  all_goals first
   |exact Ar hno
   |(exfalso;rcases hnr with h|h;exact h hr;omega)
   |trace_state
theorem ApT {g:GV} (h:VB g):g.k≤6:=by
 obtain⟨_,h⟩:=h
 rcases h with⟨h,_⟩|⟨h,_⟩|⟨h,_⟩|⟨h,_⟩|⟨h,_⟩|⟨h,_⟩<;>omega
theorem XO {m:Nat} {g:GV} (h7:g.k≠7) (h8:g.k≠8):VV m g↔VB g:=by
 cases m with
 |zero=>exact⟨fun h=>h.elim id fun h=>absurd h.1 h7,.inl⟩
 |succ m=>exact⟨fun h=>h.elim id fun h=>h.elim (fun h=>absurd h.1 h7) fun h=>absurd h.1 h8,.inl⟩
theorem Ae5 {m:Nat} {g:GV} (hk:g.k=7):VV m g↔g.n=0∧g.d=0∧g.s=[]∧VPa g.l:=by
 have hb:¬VB g:=fun h=>by have:=ApT h;omega
 cases m with
 |zero=>exact⟨fun h=>h.elim (fun h=>absurd h hb) fun h=>h.2,fun h=>.inr ⟨hk,h⟩⟩
 |succ m=>exact⟨fun h=>h.elim (fun h=>absurd h hb) fun h=>h.elim (fun h=>h.2) fun h=>absurd h.1 (by omega),fun h=>.inr (.inl ⟨hk,h⟩)⟩
def VLi (m:Nat) (l:List AV):Prop:=∀i (h:i<l.length),∃x:GV,l[i]=x.av∧VV m x
theorem Aj7 {m:Nat} {g:GV} (hk:g.k=8):VV (m+1) g↔g.n=0∧g.d=0∧g.s=[]∧g.l.length≤64∧VLi m g.l:=by
 have hb:¬VB g:=fun h=>by have:=ApT h;omega
 exact⟨fun h=>h.elim (fun h=>absurd h hb) fun h=>h.elim (fun h=>absurd h.1 (by omega)) fun h=>h.2,fun h=>.inr (.inr ⟨hk,h⟩)⟩
theorem AmH {g:GV} (hk:g.k=8):¬VV 0 g:=fun h=>h.elim (fun h=>by have:=ApT h;omega) fun h=>by have:=h.1;omega
noncomputable instance (m:Nat) (g:GV):Decidable (VV m g):=Classical.propDecidable _
noncomputable instance (l:List AV):Decidable (VPa l):=Classical.propDecidable _
noncomputable instance (m:Nat) (l:List AV):Decidable (VLi m l):=Classical.propDecidable _
theorem Iy {p q:Prop} [Decidable p] [Decidable q] (h:p↔q):AV.bool (decide p)=AV.bool (decide q):=by
 by_cases hp:p
 ·rw[decide_eq_true hp,decide_eq_true (h.1 hp)]
 ·rw[decide_eq_false hp,decide_eq_false (mt h.2 hp)]
set_option maxHeartbeats 1000000 in
theorem vbP {g:GV} (hg:g.ok) (h7:g.k≠7) (h8:g.k≠8) {n:Int}:Ag (Ac tab) 249 [g.av,.int .i64 n] (· =.bool (decide (VB g))):=by
 obtain⟨g1,g2,g3,g4,g5,g6,g7⟩:=hg
 unfold Ln at g4 g5
 refine Ad rfl rfl ?_
 (conv=>whnf);repeat' (first|(refine Bo (inP (n:=g.n)) (fun hr=>?_) (fun hr=>?_)<;>conv=>whnf)|(refine Bo (fvP (n:=g.n) (d:=g.d)) (fun hr=>?_) (fun hr=>?_)<;>conv=>whnf)|(refine Aa (ixP (l:=g.s)) ?_;rintro _ rfl;conv=>whnf)|(refine kA ?_;conv=>whnf)|(refine Br.mk (fun hc=>?_) fun hc=>?_<;>first|exact hc.elim|conv=>whnf)|(refine kB ?_))
 all_goals clear g7 g6
 all_goals first
  |exact Ar fun h=>by have:=h.1;omega
  |(refine Bh ?_;unfold VB okS;rw[← JX];first|(simp_all;done)|(simp_all;omega))
  |(refine Ar ?_;unfold VB okS;rw[← JX];first|(simp_all;done)|(simp_all;omega))
  |trace_state
theorem Abf {l:List AV} {i:Nat} (hi:i<l.length) {x:GV} (e:l[i]=x.av) (hk:x.k=5+(i:Int) % 2) (hv:VB x) (h:∀j (hj:j<l.length),j<i→∃x:GV,l[j]=x.av∧x.k=5+(j:Int) % 2∧VB x):
 ∀j (hj:j<l.length),j<i+1→∃x:GV,l[j]=x.av∧x.k=5+(j:Int) % 2∧VB x:=by
 intro j hj hji
 rcases Nat.lt_or_ge j i with h1|h1
 ·exact h j hj h1
 ·obtain rfl:j=i:=by omega
  exact⟨x,e,hk,hv⟩
set_option maxHeartbeats 1000000 in
theorem Atl {l:List AV} {nn:Bool} (hl:l.length<2^63) (h:∀x∈l,Like Tryz.prog 51 x):Ag (Ac tab) 280 [.sl nn l] (· =.bool (decide (VPa l))):=by
 have htm:(l.length:Int).tmod 2=(l.length:Int) % 2:=Int.tmod_eq_emod_of_nonneg (by omega)
 by_cases hlen:l.length % 2=1∧l.length≤25
 ·obtain⟨hl1,hl2⟩:=hlen
  refine Ad rfl rfl ?_
  (conv=>whnf);repeat' (first  |(refine kA ?_;conv=>whnf)|(refine Br.mk (fun hc=>?_) fun hc=>?_<;>first|exact hc.elim|conv=>whnf)|(refine kB ?_))
  refine Af (fun m env s=>∃i c:Nat,m=l.length-i∧i≤l.length∧(∀ j (hj:j<l.length),j<i→∃x:GV,l[j]=x.av∧x.k=5+(j:Int) % 2∧VB x)∧env=[(15,.sl nn l),(16,.int .i64 l.length),(17,.int .i64 i)]∧s=⟨[],c⟩) ?_ _ _ _ ⟨0,_,rfl,by omega,fun j _ hj=>absurd hj (by omega),rfl,rfl⟩
  rintro _ _ _ ⟨i,c,rfl,hi,hx,rfl,rfl⟩
  refine⟨rfl,?_⟩
  by_cases hlt:i<l.length
  ·obtain⟨gx,hgx⟩:=Nz h i
   obtain⟨hn,he,hok⟩:=hgx hlt
   have hno:¬(gx.k=5+(i:Int) % 2∧VB gx)→¬VPa l:=fun hh hv=>by
        obtain⟨x,e,hx2⟩:=hv.2.2 i hlt
        rw[he]at e
        rw[GV.TS e]at hh
        exact hh hx2
   have h2:(i:Int).tmod 2=(i:Int) % 2:=Int.tmod_eq_emod_of_nonneg (by omega)
   have AnJ:nth [AV.int .i64 5,AV.int .i64 6] (Int.toNat ((i:Int).tmod 2))=some (.int .i64 (5+(i:Int) % 2)):=by
        rw[h2]
        rcases Nat.mod_two_eq_zero_or_one i with hm|hm
        ·rw[show (i:Int) % 2=0 by omega];rfl
        ·rw[show (i:Int) % 2=1 by omega];rfl
   (conv=>whnf);repeat' (first|(apply Au;(· first|exact hn|exact AnJ);conv=>whnf)|(refine Bo (vbP (g:=gx) hok (by omega) (by omega) (n:=0)) (fun hr=>?_) (fun hr=>?_)<;>conv=>whnf)|(refine kA ?_;conv=>whnf)|(refine Br.mk (fun hc=>?_) fun hc=>?_<;>first|exact hc.elim|conv=>whnf)|(refine kB ?_))
   all_goals first
        |exact again.mk ⟨_,by omega,i+1,_,rfl,by omega,Abf hlt he (by omega) hr hx,rfl,rfl⟩
        |exact Ar (hno fun hh=>by have:=hh.1;omega)
        |exact Ar (hno fun hh=>hr hh.2)
        |trace_state
  ·rw[show i=l.length by omega]at hx
   (conv=>whnf);repeat' (first  |(refine kA ?_;conv=>whnf)|(refine Br.mk (fun hc=>?_) fun hc=>?_<;>first|exact hc.elim|conv=>whnf)|(refine kB ?_))
   exact Bh ⟨hl1,hl2,fun j hj=>hx j hj hj⟩
 ·have hno:¬VPa l:=fun hv=>hlen ⟨hv.1,hv.2.1⟩
  refine Ad rfl rfl ?_
  (conv=>whnf);repeat' (first  |(refine kA ?_;conv=>whnf)|(refine Br.mk (fun hc=>?_) fun hc=>?_<;>first|exact hc.elim|conv=>whnf)|(refine kB ?_))
  all_goals first|exact Ar hno|trace_state
theorem v7 {g:GV} (hg:g.ok) (hk:g.k=7) {n:Int}:Ag (Ac tab) 249 [g.av,.int .i64 n] (· =.bool (decide (g.n=0∧g.d=0∧g.s=[]∧VPa g.l))):=by
 obtain⟨g1,g2,g3,g4,g5,g6,g7⟩:=hg
 unfold Ln at g4 g5
 refine Ad rfl rfl ?_
 (conv=>whnf);repeat' (first|(refine Bo (Atl (l:=g.l) (nn:=g.nn) g5 g7) (fun hr=>?_) (fun hr=>?_)<;>conv=>whnf)|(refine kA ?_;conv=>whnf)|(refine Br.mk (fun hc=>?_) fun hc=>?_<;>first|exact hc.elim|conv=>whnf)|(refine kB ?_))
 all_goals first
  |exact Bh ⟨by omega,by omega,by assumption,hr⟩
  |exact Ar fun h=>hr h.2.2.2
  |exact Ar fun h=>by have:=h.1;omega
  |exact Ar fun h=>by have:=h.2.1;omega
  |exact Ar fun h=>absurd h.2.2.1 (by assumption)
  |trace_state
theorem Ad0 {m:Nat} {l:List AV} {i:Nat} (hi:i<l.length) {x:GV} (e:l[i]=x.av) (hv:VV m x) (h:∀j (hj:j<l.length),j<i→∃x:GV,l[j]=x.av∧VV m x):
 ∀j (hj:j<l.length),j<i+1→∃x:GV,l[j]=x.av∧VV m x:=by
 intro j hj hji
 rcases Nat.lt_or_ge j i with h1|h1
 ·exact h j hj h1
 ·obtain rfl:j=i:=by omega
  exact⟨x,e,hv⟩
set_option maxHeartbeats 1000000 in
theorem v8 {g:GV} (hg:g.ok) (hk:g.k=8) {z:Int} (hz:0≤z∧z<8) {m:Nat} (ih:∀{x:GV},x.ok→Ag (Ac tab) 249 [x.av,.int .i64 (z+1)] (· =.bool (decide (VV m x)))):
 Ag (Ac tab) 249 [g.av,.int .i64 z] (· =.bool (decide (g.n=0∧g.d=0∧g.s=[]∧g.l.length≤64∧VLi m g.l))):=by
 obtain⟨g1,g2,g3,g4,g5,g6,g7⟩:=hg
 unfold Ln at g4 g5
 refine Ad rfl rfl ?_
 (conv=>whnf);repeat' (first  |(refine kA ?_;conv=>whnf)|(refine Br.mk (fun hc=>?_) fun hc=>?_<;>first|exact hc.elim|conv=>whnf)|(refine kB ?_))
 all_goals first
  |exact Ar fun h=>by have:=h.1;omega
  |exact Ar fun h=>by have:=h.2.1;omega
  |exact Ar fun h=>by have:=h.2.2.2.1;omega
  |exact Ar fun h=>absurd h.2.2.1 (by assumption)
  |skip
 have hs:g.s=[]:=by assumption
 have hn0:g.n=0:=by omega
 have hd0:g.d=0:=by omega
 have hl0:g.l.length≤64:=by omega
 refine Af (fun mm env s=>∃i c:Nat,mm=g.l.length-i∧i≤g.l.length∧(∀ j (hj:j<g.l.length),j<i→∃x:GV,g.l[j]=x.av∧VV m x)∧env=[(1,.int .i64 z),(120,.sl g.nn g.l),(121,.int .i64 g.l.length),(122,.int .i64 i)]∧s=⟨[.arr 0 5 true true [g.av]],c⟩) ?_ _ _ _ ⟨0,_,rfl,by omega,fun j _ hj=>absurd hj (by omega),rfl,rfl⟩
 rintro _ _ _ ⟨i,c,rfl,hi,hx,rfl,rfl⟩
 refine⟨rfl,?_⟩
 by_cases hlt:i<g.l.length
 ·obtain⟨gx,hgx⟩:=Nz g7 i
  obtain⟨hn,he,hok⟩:=hgx hlt
  (conv=>whnf);repeat' (first|(apply Au;(· exact hn);conv=>whnf)|(refine Bo (ih hok) (fun hr=>?_) (fun hr=>?_)<;>conv=>whnf)|(refine kA ?_;conv=>whnf)|(refine Br.mk (fun hc=>?_) fun hc=>?_<;>first|exact hc.elim|conv=>whnf)|(refine kB ?_))
  all_goals first
   |exact again.mk ⟨_,by omega,i+1,_,rfl,by omega,Ad0 hlt he hr hx,rfl,rfl⟩
   |exact Ar fun hh=>by
     obtain⟨x,e,hv⟩:=hh.2.2.2.2 i hlt
     rw[he]at e
     rw[GV.TS e]at hr
     exact hr hv
   |trace_state
 ·rw[show i=g.l.length by omega]at hx
  (conv=>whnf);repeat' (first  |(refine kA ?_;conv=>whnf)|(refine Br.mk (fun hc=>?_) fun hc=>?_<;>first|exact hc.elim|conv=>whnf)|(refine kB ?_))
  exact Bh ⟨hn0,hd0,hs,hl0,fun j hj=>hx j hj hj⟩
theorem AvV {g:GV} (hg:g.ok) (hk:g.k=8):Ag (Ac tab) 249 [g.av,.int .i64 8] (· =.bool false):=by
 obtain⟨g1,g2,g3,g4,g5,g6,g7⟩:=hg
 unfold Ln at g4 g5
 refine Ad rfl rfl ?_
 (conv=>whnf);repeat' (first  |(refine kA ?_;conv=>whnf)|(refine Br.mk (fun hc=>?_) fun hc=>?_<;>first|exact hc.elim|conv=>whnf)|(refine kB ?_))
 all_goals rfl
theorem ApU:∀(m:Nat),m≤8→∀{g:GV},g.ok→Ag (Ac tab) 249 [g.av,.int .i64 (8-(m:Int))] (· =.bool (decide (VV m g))):=by
 intro m
 induction m with
 |zero=>
  intro _ g hg
  by_cases h7:g.k=7
  ·rw[show AV.bool (decide (VV 0 g))=_ from Iy (Ae5 h7)]
   exact v7 hg h7
  by_cases h8:g.k=8
  ·rw[decide_eq_false (AmH h8)]
   exact AvV hg h8
  rw[show AV.bool (decide (VV 0 g))=AV.bool (decide (VB g)) from Iy (XO h7 h8)]
  exact vbP hg h7 h8
 |succ m ih=>
  intro hm g hg
  by_cases h7:g.k=7
  ·rw[show AV.bool (decide (VV (m+1) g))=_ from Iy (Ae5 h7)]
   exact v7 hg h7
  by_cases h8:g.k=8
  ·rw[show AV.bool (decide (VV (m+1) g))=_ from Iy (Aj7 h8)]
   exact v8 hg h8 (by omega) fun{x} hx=>by
        rw[show (8-((m+1:Nat):Int))+1=8-(m:Int) by omega]
        exact ih (by omega) hx
  rw[show AV.bool (decide (VV (m+1) g))=AV.bool (decide (VB g)) from Iy (XO h7 h8)]
  exact vbP hg h7 h8
theorem ZT {g:GV} (hg:g.ok):Ag (Ac tab) 191 [g.av] (· =.bool (decide (VV 8 g))):=by
 have h:=ApU 8 (by omega) hg
 rw[show (8-((8:Nat):Int))=0 by omega]at h
 refine Ad rfl rfl ?_
 (conv=>whnf);repeat' (first|(refine Bo h (fun hr=>?_) (fun hr=>?_)<;>conv=>whnf)|(refine kA ?_;conv=>whnf)|(refine Br.mk (fun hc=>?_) fun hc=>?_<;>first|exact hc.elim|conv=>whnf)|(refine kB ?_))
 all_goals first|exact Bh hr|exact Ar hr
theorem ZX {v:GV} (hk:v.k=0):VV 8 v↔isNull v:=by
 rw[XO (by omega) (by omega)]
 unfold VB isNull
 constructor
 ·rintro⟨h1,h⟩
  rcases h with h|h|h|h|h|h<;>first|exact⟨hk,h.2.1,h.2.2.1,h.2.2.2,h1⟩|(exfalso;omega)
 ·rintro⟨_,h1,h2,h3,h4⟩
  exact⟨h4,.inl ⟨hk,h1,h2,h3⟩⟩
def EY (k:Int):Int:=if k=3 then 2 else if k=7 then 9 else k
theorem TU {v:GV}:Ag (Ac tab) 273 [v.av] (· =.int .i64 (EY v.k)):=by
 refine Ad rfl rfl ?_
 (conv=>whnf);repeat' (first  |(refine kA ?_;conv=>whnf)|(refine Br.mk (fun hc=>?_) fun hc=>?_<;>first|exact hc.elim|conv=>whnf)|(refine kB ?_))
 all_goals first|(unfold EY;rw[if_pos (by assumption)];rfl)|(unfold EY;rw[if_neg (by assumption),if_pos (by assumption)];rfl)|(unfold EY;rw[if_neg (by assumption),if_neg (by assumption)];rfl)
theorem ArP {k:Int}:EY k=0↔k=0:=by unfold EY;split<;>(try split)<;>omega
theorem ArQ:Ag (Ac tab) 202 [.str [],.str []] (· =.int .i64 0):=⟨_,⟨20,by kernel_rfl⟩,rfl⟩
theorem or3 {nn:Bool}:Ag (Ac tab) 244 [.sl nn [.int .i64 0,.int .i64 0,.int .i64 0]] (· =.int .i64 0):=by
 cases nn
 ·exact⟨_,⟨20,by kernel_rfl⟩,rfl⟩
 ·exact⟨_,⟨20,by kernel_rfl⟩,rfl⟩
theorem ArR {nn:Bool} {f:Nat}:Ag (Ac tab) 245 [.sl nn [],.sl false [],.fn f []] (· =.int .i64 0):=by
 refine Ad rfl rfl ?_
 (conv=>whnf);repeat' (first  |(refine kA ?_;conv=>whnf)|(refine Br.mk (fun hc=>?_) fun hc=>?_<;>first|exact hc.elim|conv=>whnf)|(refine kB ?_))
 refine Af (fun m env s=>m=0∧env=[(0,.sl nn []),(1,.sl false []),(2,.fn f []),(11,.sl nn []),(12,.int .i64 0),(13,.int .i64 0)]∧s=⟨[],0⟩) ?_ _ _ _ ⟨rfl,rfl,rfl⟩
 rintro _ _ _ ⟨rfl,rfl,rfl⟩
 refine⟨rfl,?_⟩
 (conv=>whnf);repeat' (first  |(refine kA ?_;conv=>whnf)|(refine Br.mk (fun hc=>?_) fun hc=>?_<;>first|exact hc.elim|conv=>whnf)|(refine kB ?_))
 all_goals first|rfl|(exfalso;simp_all)
theorem AoL {v:GV} (h:isNull v):Ag (Ac tab) 243 [v.av,XK.av] (· =.int .i64 0):=by
 obtain⟨k,n,d,s,nn,l⟩:=v
 obtain⟨h1,h2,h3,h4,h5⟩:=h
 dsimp only at h1 h2 h3 h4 h5
 subst h1 h2 h3 h4
 obtain rfl:l=[]:=List.eq_nil_of_length_eq_zero h5
 have hc1:Ag (Ac tab) 273 [GV.av ⟨0,0,0,[],nn,[]⟩] (· =.int .i64 0):=TU (v:=⟨0,0,0,[],nn,[]⟩)
 have hc2:Ag (Ac tab) 273 [XK.av] (· =.int .i64 0):=TU (v:=XK)
 have hc3:Ag (Ac tab) 135 [.int .i64 0,.int .i64 0] (· =.int .i64 0):=compare
 refine Ad rfl rfl ?_
 (conv=>whnf);repeat' (first|((first|refine Aa hc1 ?_|refine Aa hc2 ?_|refine Aa hc3 ?_|refine Aa ArQ ?_|refine Aa ArR ?_|refine Aa or3 ?_);rintro _ rfl;conv=>whnf)|(refine kA ?_;conv=>whnf)|(refine Br.mk (fun hc=>?_) fun hc=>?_<;>first|exact hc.elim|conv=>whnf)|(refine kB ?_))
 all_goals first|rfl|(exfalso;simp_all)
theorem Alc {v:GV} (h:v.k≠0):Ag (Ac tab) 243 [v.av,XK.av] (fun w=>∃z,w=.int .i64 z∧z≠0):=by
 have hc2:Ag (Ac tab) 273 [XK.av] (· =.int .i64 0):=TU (v:=XK)
 obtain⟨z,hz,hz0⟩:∃z,Dq (EY v.k) 0=z∧z≠0:=⟨_,rfl,fun h0=>h (ArP.1 (D6.1 h0))⟩
 have hc3:Ag (Ac tab) 135 [.int .i64 (EY v.k),.int .i64 0] (· =.int .i64 z):=hz▸compare
 refine Ad rfl rfl ?_
 (conv=>whnf);repeat' (first|((first|refine Aa (TU (v:=v)) ?_|refine Aa hc2 ?_|refine Aa hc3 ?_);rintro _ rfl;conv=>whnf)|(refine kA ?_;conv=>whnf)|(refine Br.mk (fun hc=>?_) fun hc=>?_<;>first|exact hc.elim|conv=>whnf)|(refine kB ?_))
 all_goals first|exact⟨_,rfl,hz0⟩|(exfalso;omega)
theorem AdY {v:GV} (hv:v.ok):Ag (Ac tab) 184 [v.av,XK.av] (fun w=>∃z,w=.int .i64 z∧(z=0↔isNull v)):=by
 have hq:Ag (Ac tab) 191 [XK.av] (· =.bool true):=by
  have:=ZT AcA;rwa [decide_eq_true ((ZX rfl).2 Aa5)]at this
 have hp:=ZT hv
 by_cases hVV:VV 8 v
 ·rw[decide_eq_true hVV]at hp
  by_cases hk:v.k=0
  ·have hn:=(ZX hk).1 hVV
   refine Ad rfl rfl ?_
   (conv=>whnf);repeat' (first|((first|refine Aa hp ?_|refine Aa hq ?_|refine Aa (AoL hn) ?_);rintro _ rfl;conv=>whnf)|(refine kA ?_;conv=>whnf)|(refine Br.mk (fun hc=>?_) fun hc=>?_<;>first|exact hc.elim|conv=>whnf)|(refine kB ?_))
   all_goals first|exact⟨_,rfl,fun _=>hn,fun _=>rfl⟩
  ·refine Ad rfl rfl ?_
   (conv=>whnf);repeat' (first|((first|refine Aa hp ?_|refine Aa hq ?_);rintro _ rfl;conv=>whnf)|(refine Aa (Alc hk) ?_;rintro _ ⟨z,rfl,hz⟩;conv=>whnf)|(refine kA ?_;conv=>whnf)|(refine Br.mk (fun hc=>?_) fun hc=>?_<;>first|exact hc.elim|conv=>whnf)|(refine kB ?_))
   all_goals first|exact⟨_,rfl,fun h=>absurd h hz,fun h=>absurd h.1 hk⟩
 ·rw[decide_eq_false hVV]at hp
  have hn:¬isNull v:=fun h=>hVV ((ZX h.1).2 h)
  refine Ad rfl rfl ?_
  (conv=>whnf);repeat' (first|((first|refine Aa hp ?_|refine Aa hq ?_);rintro _ rfl;conv=>whnf)|(refine kA ?_;conv=>whnf)|(refine Br.mk (fun hc=>?_) fun hc=>?_<;>first|exact hc.elim|conv=>whnf)|(refine kB ?_))
  all_goals first|exact⟨_,rfl,fun h=>absurd h (by decide),fun h=>absurd h hn⟩
end AI
end Go.Proofs.YthnehejdkajjhaaGreatDoor
