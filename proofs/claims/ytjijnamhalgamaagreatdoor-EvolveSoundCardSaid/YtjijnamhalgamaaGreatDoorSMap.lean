/- The graph that an editor edits, in the store: nodes and edges with lists of their own. Looking up a key in nodes: slices.BinarySearchFunc, on memory that stays. Looking up a key in edges: slices.BinarySearchFunc, on memory that stays. Looking up a key in properties: slices.BinarySearchFunc, on memory that stays. Looking up a key in strings: slices.BinarySearch, on memory that stays. Walks through what an editor calls: must, node, edge. Setting a property of a node or an edge that an editor edits. change.Check. -/
import Derived.Test.YtjijnamhalgamaaGreatDoorSMad
import Derived.Test.YtjijnamhalgamaaGreatDoorBMaa
import Derived.Test.YtjijnamhalgamaaGreatDoorSMae
import Derived.Test.YtjijnamhalgamaaGreatDoorSMak
import Derived.Test.YtjijnamhalgamaaGreatDoorSMaj
import Derived.Test.YtjijnamhalgamaaGreatDoorSMaf
set_option linter.unusedVariables false
set_option maxRecDepth 4000
namespace Go.Proofs.YtjijnamhalgamaaGreatDoor
namespace AI
theorem PZ {α:Type} {l r:List α} {i:Nat} (h:i<l.length):nth (l++r) i=nth l i:=by
 rw[AU,AU,List.getElem?_append_left h]
theorem MR {α:Type} {l:List α} {x:α}:nth (l++[x]) l.length=some x:=by
 rw[AU,List.getElem?_append_right (Nat.le_refl _)];simp
theorem G5 {α:Type} {l:List α} {i:Nat} {x y:α} (h:nth l i=some y):nth (l.set i x) i=some x:=by
 rw[AU,List.getElem?_set_self (BR h)]
theorem OJ {α:Type} {l:List α} {i j:Nat} {x:α} (h:i≠j):nth (l.set i x) j=nth l j:=by
 rw[AU,AU,List.getElem?_set_ne h]
def Rd (σ:List Obj) (D:Nat) (x y:AV):Prop:=∀m,D≤m→snap σ m x=some y
def Ky (σ:List Obj) (D:Nat) (xs ys:List AV):Prop:=∀m,D≤m→He σ m xs=some ys
theorem Rd.mono {σ:List Obj} {D D':Nat} {x y:AV} (h:Rd σ D x y) (hd:D≤D'):Rd σ D' x y:=fun m hm=>h m (by omega)
theorem Ky.mono {σ:List Obj} {D D':Nat} {x y:List AV} (h:Ky σ D x y) (hd:D≤D'):Ky σ D' x y:=fun m hm=>h m (by omega)
theorem Ky.nil {σ:List Obj}:Ky σ 0 [] []:=fun m _=>by cases m<;>rfl
theorem Ky.cons {σ:List Obj} {D:Nat} {x y:AV} {xs ys:List AV} (h:Rd σ D x y) (k:Ky σ D xs ys):Ky σ (D+1) (x::xs) (y::ys):=fun m hm=>by
 obtain⟨m,rfl⟩:∃m',m=m'+1:=⟨m-1,by omega⟩
 simp only[He,h m (by omega),k m (by omega)]
theorem Ky.map {α:Type} {σ:List Obj} {D:Nat} {f g:α→AV}:∀{l:List α},(∀ e∈l,Rd σ D (f e) (g e))→Ky σ (D+l.length) (vs f l) (vs g l)
 |[],_=>Ky.nil.mono (by omega)
 |e::l,h=>(Ky.cons ((h e (by simp)).mono (D':=D+l.length) (by omega)) (Ky.map fun x hx=>h x (by simp[hx]))).mono (by simp;omega)
theorem Rd.agg {σ:List Obj} {D:Nat} {xs ys:List AV} (h:Ky σ D xs ys):Rd σ (D+1) (.agg xs) (.agg ys):=fun m hm=>by
 obtain⟨m,rfl⟩:∃m',m=m'+1:=⟨m-1,by omega⟩
 simp only[snap,h m (by omega),Option.map_some]
theorem Rd.int {σ:List Obj} {k:IntKind} {z:Int}:Rd σ 1 (.int k z) (.int k z):=fun m hm=>by
 obtain⟨m,rfl⟩:∃m',m=m'+1:=⟨m-1,by omega⟩
 rfl
theorem Rd.str {σ:List Obj} {z:List UInt8}:Rd σ 1 (.str z) (.str z):=fun m hm=>by
 obtain⟨m,rfl⟩:∃m',m=m'+1:=⟨m-1,by omega⟩
 rfl
def Hd {α:Type} (f:α→AV) (es:Nat) (σ:List Obj) (v:AV) (b:Bool) (l:List α) (c:Bool):Prop:=
 (b=false∧l=[]∧(v=.sl false []∨∃o g es',v=.own o g 0 0∧nth σ o=some (.arr g es' false true [])))∨
 (b=true∧∃o g,v=.own o g 0 l.length∧nth σ o=some (.arr g es true c (vs f l)))
theorem Hd.lt {α:Type} {f:α→AV} {es:Nat} {σ:List Obj} {v:AV} {b c:Bool} {l:List α} (h:Hd f es σ v b l c):∀o∈v.obj,o<σ.length:=by
 intro o ho
 rcases h with⟨_,_,rfl|⟨o',g,es',rfl,h⟩⟩|⟨_,o',g,rfl,h⟩
 ·simp[AV.obj]at ho
 ·simp only[AV.obj,List.mem_singleton]at ho;subst ho;exact BR h
 ·simp only[AV.obj,List.mem_singleton]at ho;subst ho;exact BR h
theorem Hd.obj {α:Type} {f:α→AV} {es:Nat} {σ:List Obj} {v:AV} {b c:Bool} {l:List α} (h:Hd f es σ v b l c) {o:Nat} (ho:o∈v.obj):∃g es' nn c' xs,nth σ o=some (.arr g es' nn c' xs)∧(nn=true→es'=es):=by
 rcases h with⟨_,_,rfl|⟨o',g,es',rfl,h⟩⟩|⟨_,o',g,rfl,h⟩
 ·simp[AV.obj]at ho
 ·simp only[AV.obj,List.mem_singleton]at ho;subst ho;exact⟨_,_,_,_,_,h,by simp⟩
 ·simp only[AV.obj,List.mem_singleton]at ho;subst ho;exact⟨_,_,_,_,_,h,fun _=>rfl⟩
theorem Hd.keep {α:Type} {f:α→AV} {es:Nat} {σ σ':List Obj} {v:AV} {b c:Bool} {l:List α} (h:Hd f es σ v b l c) (hk:∀o∈v.obj,nth σ' o=nth σ o):Hd f es σ' v b l c:=by
 rcases h with⟨h1,h2,rfl|⟨o',g,es',rfl,h⟩⟩|⟨h1,o',g,rfl,h⟩
 ·exact .inl ⟨h1,h2,.inl rfl⟩
 ·exact .inl ⟨h1,h2,.inr ⟨o',g,es',rfl,by rw[hk o' (by simp[AV.obj]),h]⟩⟩
 ·exact .inr ⟨h1,o',g,rfl,by rw[hk o' (by simp[AV.obj]),h]⟩
theorem Hd.sn {α:Type} {f:α→AV} {es:Nat} {σ:List Obj} {v:AV} {b:Bool} {l:List α} (h:Hd f es σ v b l true):Rd σ 1 v (.sl b (vs f l)):=fun m hm=>by
 obtain⟨m,rfl⟩:∃m',m=m'+1:=⟨m-1,by omega⟩
 rcases h with⟨rfl,rfl,rfl|⟨o',g,es',rfl,h⟩⟩|⟨rfl,o',g,rfl,h⟩
 ·rfl
 ·simp[snap,h,sub,vs]
 ·have:sub (vs f l) 0 l.length=vs f l:=uV
  simp[snap,h,this]
theorem Hd.one {α:Type} {f:α→AV} {es:Nat} {σ:List Obj} {v:AV} {b c:Bool} {l:List α} (h:Hd f es σ v b l c):v.cells.length=1∧v.storable=true:=by
 rcases h with⟨_,_,rfl|⟨o',g,es',rfl,h⟩⟩|⟨_,o',g,rfl,h⟩<;>exact⟨rfl,rfl⟩
theorem Hd.bool {α:Type} {f:α→AV} {es:Nat} {σ:List Obj} {v:AV} {b c:Bool} {l:List α} (h:Hd f es σ v b l c):b=false→l=[]:=by
 rcases h with⟨_,h,_⟩|⟨h,_⟩
 ·exact fun _=>h
 ·intro h';rw[h']at h;cases h
theorem Hd.closed {α:Type} {f:α→AV} {es:Nat} {σ:List Obj} {v:AV} {b c:Bool} {l:List α} (h:Hd f es σ v b l c) (hc:v.closed=true):v=.sl false []∧b=false∧l=[]:=by
 rcases h with⟨h1,h2,rfl|⟨o',g,es',rfl,h⟩⟩|⟨_,o',g,rfl,h⟩
 ·exact⟨rfl,h1,h2⟩
 ·cases hc
 ·cases hc
structure EN where
 n:GN
 lv:AV
 pv:AV
def EN.av (e:EN):AV:=.agg [.int .i64 e.n.id,e.lv,e.pv]
def EN.objs (e:EN):List Nat:=e.lv.obj++e.pv.obj
def EN.Ok (σ:List Obj) (e:EN):Prop:=Hd .str 1 σ e.lv e.n.ln e.n.labels true∧Hd GP.av 6 σ e.pv e.n.pn e.n.props true
structure EE where
 e:GE
 pv:AV
def EE.av (e:EE):AV:=.agg [.int .i64 e.e.id,.int .i64 e.e.fr,.int .i64 e.e.to,.str e.e.ty,e.pv]
def EE.objs (e:EE):List Nat:=e.pv.obj
def EE.Ok (σ:List Obj) (e:EE):Prop:=Hd GP.av 6 σ e.pv e.e.pn e.e.props true
def Bz (N:List EN) (E:List EE):List Nat:=N.flatMap EN.objs++E.flatMap EE.objs
structure Ed (σ:List Obj) (d gd:Nat) (vN vE:AV) (nb eb:Bool) (N:List EN) (E:List EE) (x y:Int):Prop where
 box:nth σ d=some (.arr gd 4 true false [.agg [vN,vE,.int .i64 x,.int .i64 y]])
 hn:∃c,Hd EN.av 3 σ vN nb N c∧(c=true→∀e∈N,e.av.closed=true)
 he:∃c,Hd EE.av 5 σ vE eb E c∧(c=true→∀e∈E,e.av.closed=true)
 hN:∀e∈N,e.Ok σ
 hE:∀e∈E,e.Ok σ
 nd:(d::(vN.obj++(vE.obj++Bz N E))).Nodup
 oN:vN≠.sl false []
 oE:vE≠.sl false []
def J4 (nb eb:Bool) (N:List EN) (E:List EE) (x y:Int):GG:=⟨nb,N.map EN.n,eb,E.map EE.e,x,y⟩
theorem EN.sn {σ:List Obj} {e:EN} (h:e.Ok σ):Rd σ 5 e.av e.n.av:=
 Rd.agg (Ky.cons (Rd.int.mono (by omega)) (Ky.cons (h.1.sn.mono (by omega)) (Ky.cons (h.2.sn.mono (D':=1) (by omega)) (Ky.nil.mono (D':=1) (by omega)))))
theorem EE.sn {σ:List Obj} {e:EE} (h:e.Ok σ):Rd σ 7 e.av e.e.av:=
 Rd.agg (Ky.cons (Rd.int.mono (by omega)) (Ky.cons (Rd.int.mono (by omega)) (Ky.cons (Rd.int.mono (by omega)) (Ky.cons (Rd.str.mono (by omega)) (Ky.cons (h.sn.mono (D':=1) (by omega)) (Ky.nil.mono (D':=1) (by omega)))))))
theorem Hd.snE {α:Type} {f g:α→AV} {es D:Nat} {σ:List Obj} {v:AV} {b c:Bool} {l:List α} (h:Hd f es σ v b l c) (hs:∀e∈l,Rd σ D (f e) (g e)) (hc:c=true→∀e∈l,f e=g e):Rd σ (D+l.length+1) v (.sl b (vs g l)):=fun m hm=>by
 obtain⟨m,rfl⟩:∃m',m=m'+1:=⟨m-1,by omega⟩
 rcases h with⟨rfl,rfl,rfl|⟨o',g,es',rfl,h⟩⟩|⟨rfl,o',g',rfl,h⟩
 ·rfl
 ·simp[snap,h,sub,vs]
 ·have e1:sub (vs f l) 0 l.length=vs f l:=uV
  cases c with
  |false=>
   have:=Ky.map hs m (by omega)
   simp[snap,h,e1,this]
  |true=>
   have e2:vs f l=vs g l:=List.map_congr_left (hc rfl)
   simp[snap,h,e2,show sub (vs g l) 0 l.length=vs g l from uV]
theorem EN.QC {σ:List Obj} {e:EN} (h:e.Ok σ) (hc:e.av.closed=true):e.av=e.n.av:=by
 simp only[EN.av,AV.closed,DK,Bool.and_eq_true,Bool.and_true]at hc
 obtain⟨a1,a2,a3⟩:=h.1.closed hc.2.1
 obtain⟨b1,b2,b3⟩:=h.2.closed hc.2.2
 simp[EN.av,GN.av,a1,a2,a3,b1,b2,b3,vs]
theorem EE.QC {σ:List Obj} {e:EE} (h:e.Ok σ) (hc:e.av.closed=true):e.av=e.e.av:=by
 simp only[EE.av,AV.closed,DK,Bool.and_eq_true,Bool.and_true]at hc
 obtain⟨b1,b2,b3⟩:=h.closed hc.2.2.2.2
 simp[EE.av,GE.av,b1,b2,b3,vs]
section
variable {σ σ':List Obj} {d gd:Nat} {vN vE:AV} {nb eb:Bool} {N:List EN} {E:List EE} {x y:Int}
theorem Ed.snN (h:Ed σ d gd vN vE nb eb N E x y):Rd σ (5+N.length+1) vN (.sl nb (vs GN.av (N.map EN.n))):=by
 obtain⟨c,h1,h2⟩:=h.hn
 have:=h1.snE (g:=fun e=>e.n.av) (D:=5) (fun e he=>EN.sn (h.hN e he)) (fun hc e he=>EN.QC (h.hN e he) (h2 hc e he))
 simpa[vs,Function.comp_def]using this
theorem Ed.snE (h:Ed σ d gd vN vE nb eb N E x y):Rd σ (7+E.length+1) vE (.sl eb (vs GE.av (E.map EE.e))):=by
 obtain⟨c,h1,h2⟩:=h.he
 have:=h1.snE (g:=fun e=>e.e.av) (D:=7) (fun e he=>EE.sn (h.hE e he)) (fun hc e he=>EE.QC (h.hE e he) (h2 hc e he))
 simpa[vs,Function.comp_def]using this
theorem Ed.snL (h:Ed σ d gd vN vE nb eb N E x y):Ky σ (20+N.length+E.length) [vN,vE,.int .i64 x,.int .i64 y] [.sl nb (vs GN.av (N.map EN.n)),.sl eb (vs GE.av (E.map EE.e)),.int .i64 x,.int .i64 y]:=
 (Ky.cons (h.snN.mono (D':=N.length+E.length+15) (by omega)) (Ky.cons (h.snE.mono (D':=N.length+E.length+14) (by omega)) (Ky.cons (Rd.int.mono (D':=N.length+E.length+13) (by omega)) (Ky.cons (Rd.int.mono (D':=N.length+E.length+12) (by omega)) (Ky.nil.mono (by omega)))))).mono (by omega)
theorem Ed.snG (h:Ed σ d gd vN vE nb eb N E x y):Rd σ (21+N.length+E.length) (.agg [vN,vE,.int .i64 x,.int .i64 y]) (J4 nb eb N E x y).av:=(Rd.agg h.snL).mono (by omega)
theorem Ed.QY (h:Ed σ d gd vN vE nb eb N E x y):Rd σ (21+N.length+E.length) (.ref d gd 0 0) (.CJ (J4 nb eb N E x y).av.cells):=fun m hm=>by
 obtain⟨m,rfl⟩:∃m',m=m'+1:=⟨m-1,by omega⟩
 have:=h.snL m (by omega)
 simp[snap,h.box,nth,AV.cells,this,J4,GG.av]
end
theorem Aai {a b:Int} (h:GK a b<0):DY a b=true:=by simpa[DY]using OV.1 h
theorem Aaj {a b:Int} (h:¬GK a b<0):DY a b=false:=by simpa[DY]using mt OV.2 h
theorem An5 {n:GN} {x:Int}:Ae (Ad tab) 247 [n.av,.int .i64 x] (· =.int .i64 (GK n.id x)):=by
 refine Ac rfl rfl ?_
 (conv=>whnf);repeat' (first|((first|refine kA ?_|(apply Br.mk<;>intro hc)|refine kE compare ?_)<;>first|exact hc.elim|conv=>whnf)|refine kB ?_)
 rfl
theorem bsN {l:List GN} {nn:Bool} {x:Int} (hl:l.length<2^62) (hi:Inc DY GN.id l):Ae (Ad tab) 171 [.sl nn (vs GN.av l),.int .i64 x,.fn 247 []] (fun v=>∃(i:Nat) (b:Bool),v=.BD [.int .i64 i,.bool b]∧AtK DY GN.id x l i∧(b=true↔∃y∈l,GN.id y=x)):=by
 have fin:∀i:Nat,AtK DY GN.id x l i→((∃ y∈l,GN.id y=x)↔∃h:i<l.length,GN.id l[i]=x):=by
  intro i h
  constructor
  ·intro hf
   obtain⟨h1,h2,_⟩:=h.found Aw hi hf
   exact⟨h1,h2⟩
  ·rintro⟨h1,h2⟩
   exact⟨_,List.getElem_mem h1,h2⟩
 refine Ac rfl rfl ?_
 (conv=>whnf);repeat' (first|((first|refine kA ?_|(apply Br.mk<;>intro hc))<;>first|exact hc.elim|conv=>whnf)|refine kB ?_)
 refine Ag (fun m env s=>∃(i j:Nat),m=j-i∧i≤j∧j≤l.length∧env=[(0,.sl nn (vs GN.av l)),(1,.int .i64 x),(2,.fn 247 []),(8,.int .i64 l.length),(9,.int .i64 i),(10,.int .i64 j)]∧s=⟨[],0⟩∧
  (∀ k (h:k<l.length),k<i→DY (GN.id l[k]) x=true)∧(∀ k (h:k<l.length),j≤k→DY (GN.id l[k]) x=false)) ?_ _ _ _ ⟨0,l.length,rfl,by omega,by omega,by simp,rfl,fun k _ h=>absurd h (by omega),fun k h1 h=>absurd h (by omega)⟩
 rintro _ _ _ ⟨i,j,rfl,hij,hj,rfl,rfl,h1,h2⟩
 refine⟨rfl,?_⟩
 have lo:∀{q:Nat} (hq:q<l.length),DY (GN.id l[q]) x=true→∀k (h:k<l.length),k<q+1→DY (GN.id l[k]) x=true:=fun{q} hq hm k hk hlt=>by
  rcases Nat.lt_or_ge k q with h|h
  ·exact(Aw).tr _ _ _ (hi.get h hq) hm
  ·obtain rfl:k=q:=by omega
   exact hm
 have up:∀{q:Nat} (hq:q<l.length),DY (GN.id l[q]) x=false→∀k (h:k<l.length),q≤k→DY (GN.id l[k]) x=false:=fun{q} hq hm k hk hle=>by
  rcases Nat.lt_or_ge q k with h|h
  ·cases h3:DY (GN.id l[k]) x
   ·rfl
   ·have:=(Aw).tr _ _ _ (hi.get h hk) h3
    rw[hm]at this;cases this
  ·obtain rfl:k=q:=by omega
   exact hm
 (conv=>whnf);repeat' (first|((first|refine UQ (i+j) (by omega) (by omega) ?_|(apply Cb;(· exact Abr _))|refine kE An5 ?_|refine kA ?_|(apply Br.mk<;>intro hc))<;>first|exact hc.elim|conv=>whnf)|refine kB ?_)
 all_goals first
  |exact again.mk ⟨_,by omega,(i+j) / 2+1,j,rfl,by omega,hj,rfl,rfl,lo (by omega) (Aai hc),h2⟩
  |exact again.mk ⟨_,by omega,i,(i+j) / 2,rfl,by omega,by omega,rfl,rfl,h1,up (by omega) (Aaj hc)⟩
  |skip
 all_goals
  obtain rfl:i=j:=by omega
  have ha:AtK DY GN.id x l i:=⟨by omega,h1,h2⟩
  have hf:=fin i ha
  first
   |exact⟨i,_,rfl,ha,fun _=>hf.2 ⟨by omega,Gj.1 hc⟩,fun _=>rfl⟩
   |exact⟨i,_,rfl,ha,fun h=>(by cases h),fun h=>(by obtain⟨_,e⟩:=hf.1 h;exact absurd (Gj.2 e) hc)⟩
   |exact⟨i,_,rfl,ha,fun h=>(by cases h),fun h=>by obtain⟨e,_⟩:=hf.1 h;omega⟩
theorem AoR {n:GE} {x:Int}:Ae (Ad tab) 259 [n.av,.int .i64 x] (· =.int .i64 (GK n.id x)):=by
 refine Ac rfl rfl ?_
 (conv=>whnf);repeat' (first|((first|refine kA ?_|(apply Br.mk<;>intro hc)|refine kE compare ?_)<;>first|exact hc.elim|conv=>whnf)|refine kB ?_)
 rfl
theorem bsE {l:List GE} {nn:Bool} {x:Int} (hl:l.length<2^62) (hi:Inc DY GE.id l):Ae (Ad tab) 258 [.sl nn (vs GE.av l),.int .i64 x,.fn 259 []] (fun v=>∃(i:Nat) (b:Bool),v=.BD [.int .i64 i,.bool b]∧AtK DY GE.id x l i∧(b=true↔∃y∈l,GE.id y=x)):=by
 have fin:∀i:Nat,AtK DY GE.id x l i→((∃ y∈l,GE.id y=x)↔∃h:i<l.length,GE.id l[i]=x):=by
  intro i h
  constructor
  ·intro hf
   obtain⟨h1,h2,_⟩:=h.found Aw hi hf
   exact⟨h1,h2⟩
  ·rintro⟨h1,h2⟩
   exact⟨_,List.getElem_mem h1,h2⟩
 refine Ac rfl rfl ?_
 (conv=>whnf);repeat' (first|((first|refine kA ?_|(apply Br.mk<;>intro hc))<;>first|exact hc.elim|conv=>whnf)|refine kB ?_)
 refine Ag (fun m env s=>∃(i j:Nat),m=j-i∧i≤j∧j≤l.length∧env=[(0,.sl nn (vs GE.av l)),(1,.int .i64 x),(2,.fn 259 []),(8,.int .i64 l.length),(9,.int .i64 i),(10,.int .i64 j)]∧s=⟨[],0⟩∧
  (∀ k (h:k<l.length),k<i→DY (GE.id l[k]) x=true)∧(∀ k (h:k<l.length),j≤k→DY (GE.id l[k]) x=false)) ?_ _ _ _ ⟨0,l.length,rfl,by omega,by omega,by simp,rfl,fun k _ h=>absurd h (by omega),fun k h1 h=>absurd h (by omega)⟩
 rintro _ _ _ ⟨i,j,rfl,hij,hj,rfl,rfl,h1,h2⟩
 refine⟨rfl,?_⟩
 have lo:∀{q:Nat} (hq:q<l.length),DY (GE.id l[q]) x=true→∀k (h:k<l.length),k<q+1→DY (GE.id l[k]) x=true:=fun{q} hq hm k hk hlt=>by
  rcases Nat.lt_or_ge k q with h|h
  ·exact(Aw).tr _ _ _ (hi.get h hq) hm
  ·obtain rfl:k=q:=by omega
   exact hm
 have up:∀{q:Nat} (hq:q<l.length),DY (GE.id l[q]) x=false→∀k (h:k<l.length),q≤k→DY (GE.id l[k]) x=false:=fun{q} hq hm k hk hle=>by
  rcases Nat.lt_or_ge q k with h|h
  ·cases h3:DY (GE.id l[k]) x
   ·rfl
   ·have:=(Aw).tr _ _ _ (hi.get h hk) h3
    rw[hm]at this;cases this
  ·obtain rfl:k=q:=by omega
   exact hm
 (conv=>whnf);repeat' (first|((first|refine UQ (i+j) (by omega) (by omega) ?_|(apply Cb;(· exact Abr _))|refine kE AoR ?_|refine kA ?_|(apply Br.mk<;>intro hc))<;>first|exact hc.elim|conv=>whnf)|refine kB ?_)
 all_goals first
  |exact again.mk ⟨_,by omega,(i+j) / 2+1,j,rfl,by omega,hj,rfl,rfl,lo (by omega) (Aai hc),h2⟩
  |exact again.mk ⟨_,by omega,i,(i+j) / 2,rfl,by omega,by omega,rfl,rfl,h1,up (by omega) (Aaj hc)⟩
  |skip
 all_goals
  obtain rfl:i=j:=by omega
  have ha:AtK DY GE.id x l i:=⟨by omega,h1,h2⟩
  have hf:=fin i ha
  first
   |exact⟨i,_,rfl,ha,fun _=>hf.2 ⟨by omega,Gj.1 hc⟩,fun _=>rfl⟩
   |exact⟨i,_,rfl,ha,fun h=>(by cases h),fun h=>(by obtain⟨_,e⟩:=hf.1 h;exact absurd (Gj.2 e) hc)⟩
   |exact⟨i,_,rfl,ha,fun h=>(by cases h),fun h=>by obtain⟨e,_⟩:=hf.1 h;omega⟩
theorem AA:Tq Op.bytesLess where
 irr:=fun x=>by rw[RI];simp
 tr:=fun x y z h1 h2=>by rw[RI]at *;simp only[decide_eq_true_eq]at *;exact List.lt_trans h1 h2
 tot:=fun x y h1 h2=>ZK h1 h2
theorem AmK {a b:List UInt8} (h:cS a b<0):Op.bytesLess a b=true:=by
 unfold cS at h
 split at h
 ·assumption
 ·split at h<;>omega
theorem Akl {a b:List UInt8} (h:¬cS a b<0):Op.bytesLess a b=false:=by
 cases h1:Op.bytesLess a b
 ·rfl
 ·exact absurd (by unfold cS;rw[if_pos h1];omega) h
theorem AoJ {n:GP} {x:List UInt8}:Ae (Ad tab) 255 [n.av,.str x] (· =.int .i64 (cS n.key x)):=by
 refine Ac rfl rfl ?_
 (conv=>whnf);repeat' (first|((first|refine kA ?_|(apply Br.mk<;>intro hc)|refine kE Xx ?_)<;>first|exact hc.elim|conv=>whnf)|refine kB ?_)
 rfl
theorem bsP {l:List GP} {nn:Bool} {x:(List UInt8)} (hl:l.length<2^62) (hi:Inc Op.bytesLess GP.key l):Ae (Ad tab) 254 [.sl nn (vs GP.av l),.str x,.fn 255 []] (fun v=>∃(i:Nat) (b:Bool),v=.BD [.int .i64 i,.bool b]∧AtK Op.bytesLess GP.key x l i∧(b=true↔∃y∈l,GP.key y=x)):=by
 have fin:∀i:Nat,AtK Op.bytesLess GP.key x l i→((∃ y∈l,GP.key y=x)↔∃h:i<l.length,GP.key l[i]=x):=by
  intro i h
  constructor
  ·intro hf
   obtain⟨h1,h2,_⟩:=h.found AA hi hf
   exact⟨h1,h2⟩
  ·rintro⟨h1,h2⟩
   exact⟨_,List.getElem_mem h1,h2⟩
 refine Ac rfl rfl ?_
 (conv=>whnf);repeat' (first|((first|refine kA ?_|(apply Br.mk<;>intro hc))<;>first|exact hc.elim|conv=>whnf)|refine kB ?_)
 refine Ag (fun m env s=>∃(i j:Nat),m=j-i∧i≤j∧j≤l.length∧env=[(0,.sl nn (vs GP.av l)),(1,.str x),(2,.fn 255 []),(8,.int .i64 l.length),(9,.int .i64 i),(10,.int .i64 j)]∧s=⟨[],0⟩∧
  (∀ k (h:k<l.length),k<i→Op.bytesLess (GP.key l[k]) x=true)∧(∀ k (h:k<l.length),j≤k→Op.bytesLess (GP.key l[k]) x=false)) ?_ _ _ _ ⟨0,l.length,rfl,by omega,by omega,by simp,rfl,fun k _ h=>absurd h (by omega),fun k h1 h=>absurd h (by omega)⟩
 rintro _ _ _ ⟨i,j,rfl,hij,hj,rfl,rfl,h1,h2⟩
 refine⟨rfl,?_⟩
 have lo:∀{q:Nat} (hq:q<l.length),Op.bytesLess (GP.key l[q]) x=true→∀k (h:k<l.length),k<q+1→Op.bytesLess (GP.key l[k]) x=true:=fun{q} hq hm k hk hlt=>by
  rcases Nat.lt_or_ge k q with h|h
  ·exact(AA).tr _ _ _ (hi.get h hq) hm
  ·obtain rfl:k=q:=by omega
   exact hm
 have up:∀{q:Nat} (hq:q<l.length),Op.bytesLess (GP.key l[q]) x=false→∀k (h:k<l.length),q≤k→Op.bytesLess (GP.key l[k]) x=false:=fun{q} hq hm k hk hle=>by
  rcases Nat.lt_or_ge q k with h|h
  ·cases h3:Op.bytesLess (GP.key l[k]) x
   ·rfl
   ·have:=(AA).tr _ _ _ (hi.get h hk) h3
    rw[hm]at this;cases this
  ·obtain rfl:k=q:=by omega
   exact hm
 (conv=>whnf);repeat' (first|((first|refine UQ (i+j) (by omega) (by omega) ?_|(apply Cb;(· exact Abr _))|refine kE AoJ ?_|refine kA ?_|(apply Br.mk<;>intro hc))<;>first|exact hc.elim|conv=>whnf)|refine kB ?_)
 all_goals first
  |exact again.mk ⟨_,by omega,(i+j) / 2+1,j,rfl,by omega,hj,rfl,rfl,lo (by omega) (AmK hc),h2⟩
  |exact again.mk ⟨_,by omega,i,(i+j) / 2,rfl,by omega,by omega,rfl,rfl,h1,up (by omega) (Akl hc)⟩
  |skip
 all_goals
  obtain rfl:i=j:=by omega
  have ha:AtK Op.bytesLess GP.key x l i:=⟨by omega,h1,h2⟩
  have hf:=fin i ha
  first
   |exact⟨i,_,rfl,ha,fun _=>hf.2 ⟨by omega,Rx.1 hc⟩,fun _=>rfl⟩
   |exact⟨i,_,rfl,ha,fun h=>(by cases h),fun h=>(by obtain⟨_,e⟩:=hf.1 h;exact absurd (Rx.2 e) hc)⟩
   |exact⟨i,_,rfl,ha,fun h=>(by cases h),fun h=>by obtain⟨e,_⟩:=hf.1 h;omega⟩
theorem AmU {x y:List UInt8}:Ae (Ad tab) 250 [.str x,.str y] (· =.bool (Op.bytesLess x y)):=by
 refine Ac rfl rfl ?_
 (conv=>whnf);repeat' (first|((first|refine kE AiA ?_|refine kA ?_|(apply Br.mk<;>intro hc))<;>first|exact hc.elim|conv=>whnf)|refine kB ?_)
 all_goals first|(rw [hc];rfl)|rfl|(exfalso;simp_all;done)
theorem AoQ {x:List UInt8}:Ae (Ad tab) 251 [.str x] (· =.bool false):=by
 refine Ac rfl rfl ?_
 (conv=>whnf);repeat' (first|((first|refine kA ?_|(apply Br.mk<;>intro hc))<;>first|exact hc.elim|conv=>whnf)|refine kB ?_)
 all_goals first|rfl|(exfalso;simp_all)
theorem bsS {l:List (List UInt8)} {nn:Bool} {x:(List UInt8)} (hl:l.length<2^62) (hi:Inc Op.bytesLess id l):Ae (Ad tab) 199 [.sl nn (vs .str l),.str x] (fun v=>∃(i:Nat) (b:Bool),v=.BD [.int .i64 i,.bool b]∧AtK Op.bytesLess id x l i∧(b=true↔∃y∈l,id y=x)):=by
 have fin:∀i:Nat,AtK Op.bytesLess id x l i→((∃ y∈l,id y=x)↔∃h:i<l.length,id l[i]=x):=by
  intro i h
  constructor
  ·intro hf
   obtain⟨h1,h2,_⟩:=h.found AA hi hf
   exact⟨h1,h2⟩
  ·rintro⟨h1,h2⟩
   exact⟨_,List.getElem_mem h1,h2⟩
 refine Ac rfl rfl ?_
 (conv=>whnf);repeat' (first|((first|refine kA ?_|(apply Br.mk<;>intro hc))<;>first|exact hc.elim|conv=>whnf)|refine kB ?_)
 refine Ag (fun m env s=>∃(i j:Nat),m=j-i∧i≤j∧j≤l.length∧env=[(0,.sl nn (vs .str l)),(1,.str x),(6,.int .i64 l.length),(7,.int .i64 i),(8,.int .i64 j)]∧s=⟨[],0⟩∧
  (∀ k (h:k<l.length),k<i→Op.bytesLess (id l[k]) x=true)∧(∀ k (h:k<l.length),j≤k→Op.bytesLess (id l[k]) x=false)) ?_ _ _ _ ⟨0,l.length,rfl,by omega,by omega,by simp,rfl,fun k _ h=>absurd h (by omega),fun k h1 h=>absurd h (by omega)⟩
 rintro _ _ _ ⟨i,j,rfl,hij,hj,rfl,rfl,h1,h2⟩
 refine⟨rfl,?_⟩
 have lo:∀{q:Nat} (hq:q<l.length),Op.bytesLess (id l[q]) x=true→∀k (h:k<l.length),k<q+1→Op.bytesLess (id l[k]) x=true:=fun{q} hq hm k hk hlt=>by
  rcases Nat.lt_or_ge k q with h|h
  ·exact(AA).tr _ _ _ (hi.get h hq) hm
  ·obtain rfl:k=q:=by omega
   exact hm
 have up:∀{q:Nat} (hq:q<l.length),Op.bytesLess (id l[q]) x=false→∀k (h:k<l.length),q≤k→Op.bytesLess (id l[k]) x=false:=fun{q} hq hm k hk hle=>by
  rcases Nat.lt_or_ge q k with h|h
  ·cases h3:Op.bytesLess (id l[k]) x
   ·rfl
   ·have:=(AA).tr _ _ _ (hi.get h hk) h3
    rw[hm]at this;cases this
  ·obtain rfl:k=q:=by omega
   exact hm
 (conv=>whnf);repeat' (first|((first|refine UQ (i+j) (by omega) (by omega) ?_|(apply Cb;(· exact Abr _))|refine kE AmU ?_|refine kE AoQ ?_|refine JA (fun hb=>?_) (fun hb=>?_)|refine kA ?_|(apply Br.mk<;>intro hc))<;>first|exact hc.elim|conv=>whnf)|refine kB ?_)
 all_goals first
  |exact again.mk ⟨_,by omega,(i+j) / 2+1,j,rfl,by omega,hj,rfl,rfl,lo (by omega) hb,h2⟩
  |exact again.mk ⟨_,by omega,i,(i+j) / 2,rfl,by omega,by omega,rfl,rfl,h1,up (by omega) hb⟩
  |skip
 all_goals
  obtain rfl:i=j:=by omega
  have ha:AtK Op.bytesLess id x l i:=⟨by omega,h1,h2⟩
  have hf:=fin i ha
  first
   |exact⟨i,_,rfl,ha,fun _=>hf.2 ⟨by omega,hc⟩,fun _=>rfl⟩
   |exact⟨i,_,rfl,ha,fun h=>(by cases h),fun h=>by obtain⟨_,e⟩:=hf.1 h;exact absurd e hc⟩
   |exact⟨i,_,rfl,ha,fun h=>(by cases h),fun h=>by obtain⟨e,_⟩:=hf.1 h;omega⟩
theorem Eh {e:Int} {s:Am} {K:AB→Am→Prop} (h:K (.ok (.BD [])) s):Ar (Ad tab) 196 [.bool true,.int .i64 e] s K:=by
 refine Ai rfl rfl ?_
 (conv=>whnf);repeat' (first|((first|refine kA ?_|(apply Br.mk<;>intro hc))<;>first|exact hc.elim|conv=>whnf)|refine kB ?_)
 exact h
theorem Je {e:Int} {s:Am} {K:AB→Am→Prop} (h:K (.Dq (.iface 154 (.int .i64 e))) s):Ar (Ad tab) 196 [.bool false,.int .i64 e] s K:=by
 refine Ai rfl rfl ?_
 (conv=>whnf);repeat' (first|((first|refine kA ?_|(apply Br.mk<;>intro hc))<;>first|exact hc.elim|conv=>whnf)|refine kB ?_)
 exact h
theorem AcH {g:GG} {x:Int} (hl:g.nodes.length<2^62) (hi:Inc DY GN.id g.nodes):Ae (Ad tab) 195 [.CJ g.av.cells,.int .i64 x] (fun v=>∃(i:Nat) (b:Bool),v=.BD [.int .i64 i,.bool b]∧AtK DY GN.id x g.nodes i∧(b=true↔∃y∈g.nodes,GN.id y=x)):=by
 refine Ac rfl rfl ?_
 (conv=>whnf);repeat' (first|((first|(refine Aa (bsN hl hi) ?_;rintro _ ⟨i,b,rfl,h1,h2⟩)|refine kA ?_|(apply Br.mk<;>intro hc))<;>first|exact hc.elim|conv=>whnf)|refine kB ?_)
 all_goals exact⟨i,_,rfl,h1,by rw[hc]at h2;exact h2⟩
theorem AcI {g:GG} {x:Int} (hl:g.edges.length<2^62) (hi:Inc DY GE.id g.edges):Ae (Ad tab) 203 [.CJ g.av.cells,.int .i64 x] (fun v=>∃(i:Nat) (b:Bool),v=.BD [.int .i64 i,.bool b]∧AtK DY GE.id x g.edges i∧(b=true↔∃y∈g.edges,GE.id y=x)):=by
 refine Ac rfl rfl ?_
 (conv=>whnf);repeat' (first|((first|(refine Aa (bsE hl hi) ?_;rintro _ ⟨i,b,rfl,h1,h2⟩)|refine kA ?_|(apply Br.mk<;>intro hc))<;>first|exact hc.elim|conv=>whnf)|refine kB ?_)
 all_goals exact⟨i,_,rfl,h1,by rw[hc]at h2;exact h2⟩
structure Fr (σ σ':List Obj) (F:List Nat):Prop where
 len:σ.length≤σ'.length
 eq:∀o,o<σ.length→o∉F→nth σ' o=nth σ o
theorem Fr.refl {σ:List Obj} {F:List Nat}:Fr σ σ F:=⟨Nat.le_refl _,fun _ _ _=>rfl⟩
theorem Fr.trans {σ σ1 σ2:List Obj} {F:List Nat} (h:Fr σ σ1 F) (k:Fr σ1 σ2 F):Fr σ σ2 F:=
 ⟨Nat.le_trans h.len k.len,fun o ho hf=>(k.eq o (Nat.lt_of_lt_of_le ho h.len) hf).trans (h.eq o ho hf)⟩
theorem Fr.mono {σ σ':List Obj} {F F':List Nat} (h:Fr σ σ' F) (hf:∀o∈F,o∈F'∨σ.length≤o):Fr σ σ' F':=
 ⟨h.len,fun o ho hn=>h.eq o ho fun hm=>(hf o hm).elim hn fun h=>by omega⟩
theorem Fr.get {σ σ':List Obj} {F:List Nat} {o:Nat} {x:Obj} (h:Fr σ σ' F) (hx:nth σ o=some x) (hf:o∉F):nth σ' o=some x:=(h.eq o (BR hx) hf).trans hx
theorem BU {σ:List Obj} {y:Obj} {K:List Obj→Prop} (h:∀σ',Fr σ σ' []→nth σ' σ.length=some y→σ'.length=σ.length+1→K σ'):Aat σ y K:=
 (Qu _ _ _).2 (h _ ⟨by simp,fun o ho _=>PZ ho⟩ MR (by simp))
theorem EL {σ:List Obj} {o:Nat} {x y:Obj} {K:List Obj→Prop} (hx:nth σ o=some x) (h:∀σ',Fr σ σ' [o]→nth σ' o=some y→σ'.length=σ.length→K σ'):SS σ o y K:=
 (FY _ _ _ _).2 (h _ ⟨by simp,fun p hp hn=>OJ (by simpa using fun e=>hn (by simp[e]))⟩ (G5 hx) (by simp))
theorem Ae0 {AP:Nat→Option Ir} {f es bytes:Nat} {x:AV} {s:Am} {K:AB→Am→Prop} (hf:AP f=some (.ext (D5 es bytes))) (hx:x.cells.length=es) (hb:bytes≤2 ^ 46)
 (h:∀σ',Fr s.σ σ' []→nth σ' s.σ.length=some (.arr s.ctr es true true [x])→K (.ok (.own s.σ.length s.ctr 0 1)) ⟨σ',s.ctr+1⟩):Ar AP f [.sl false [],.int .i64 0,.sl true [x]] s K:=
 Gs hf (by simp only[D5,hx,if_true];rw[if_pos ⟨trivial,hb⟩];rfl) (h _ ⟨by simp,fun o ho _=>PZ ho⟩ MR)
theorem RH {AP:Nat→Option Ir} {f es bytes es' o g:Nat} {x:AV} {s:Am} {K:AB→Am→Prop} (hf:AP f=some (.ext (D5 es bytes))) (hx:x.cells.length=es) (hb:bytes≤2 ^ 46) (ho:nth s.σ o=some (.arr g es' false true []))
 (h:∀σ',Fr s.σ σ' []→nth σ' s.σ.length=some (.arr s.ctr es true true [x])→K (.ok (.own s.σ.length s.ctr 0 1)) ⟨σ',s.ctr+1⟩):Ar AP f [.own o g 0 0,.int .i64 0,.sl true [x]] s K:=
 Gs hf (by simp only[D5,hx,ho,if_true];rw[if_pos ⟨trivial,trivial,trivial,hb⟩];rfl) (h _ ⟨by simp,fun o ho _=>PZ ho⟩ MR)
theorem WA {α:Type} {fv:α→AV} {AP:Nat→Option Ir} {f es bytes o g i n:Nat} {c:Bool} {l:List α} {x:α} {s:Am} {K:AB→Am→Prop} (hf:AP f=some (.ext (D5 es bytes))) (hx:(fv x).cells.length=es) (hb:(n+1)*bytes≤2 ^ 46) (hn:n=l.length) (hi:i≤n) (ho:nth s.σ o=some (.arr g es true c (vs fv l)))
 (h:∀σ',Fr s.σ σ' [o]→nth σ' o=some (.arr s.ctr es true c (vs fv (l.take i++[x]++l.drop i)))→K (.ok (.own o s.ctr 0 (n+1))) ⟨σ',s.ctr+1⟩):Ar AP f [.own o g 0 n,.int .i64 i,.sl true [fv x]] s K:=by
 subst hn
 have e1:((vs fv l).take l.length)=vs fv l:=List.take_of_length_le (by simp)
 refine Gs hf (by simp only[D5,hx,ho,if_true,Bool.true_eq_false,if_false];rw[if_pos ⟨trivial,trivial,by omega,by simpa using hi,by simp,hb⟩]) (h _ ⟨by simp,fun p hp hn=>OJ (by simpa using fun e=>hn (by simp[e]))⟩ ?_)
 rw[G5 ho]
 simp only[Int.toNat_natCast,e1]
 simp[vs,List.map_take,List.map_drop]
theorem Ub {α:Type} {fv:α→AV} {AP:Nat→Option Ir} {f es o g i n:Nat} {c:Bool} {z:Int} {l:List α} {s:Am} {K:AB→Am→Prop} (hf:AP f=some (.ext (delSpec es))) (hn:n=l.length) (hi:i<n) (hz:z=(i:Int)+1) (ho:nth s.σ o=some (.arr g es true c (vs fv l)))
 (h:∀σ',Fr s.σ σ' [o]→nth σ' o=some (.arr s.ctr es true c (vs fv (l.take i++l.drop (i+1))))→K (.ok (.own o s.ctr 0 (i+(n-(i+1))))) ⟨σ',s.ctr+1⟩):Ar AP f [.own o g 0 n,.int .i64 i,.int .i64 z] s K:=by
 subst hn hz
 have e1:((vs fv l).take l.length)=vs fv l:=List.take_of_length_le (by simp)
 have e2:((i:Int)+1).toNat=i+1:=by omega
 refine Gs hf (by simp only[delSpec,ho];rw[if_pos ⟨trivial,trivial,by omega,by omega,by omega,by simp⟩]) ?_
 simp only[Int.toNat_natCast,e1,e2]
 refine h _ ⟨by simp,fun p hp hn=>OJ (by simpa using fun e=>hn (by simp[e]))⟩ ?_
 rw[G5 ho]
 simp[vs,List.map_take,List.map_drop]
theorem Ya {v:GV} (hv:v.ok) (h:isNull v):Ae (Ad tab) 194 [v.av] (· =.bool true):=by
 refine Ac rfl rfl ?_
 (conv=>whnf);repeat' (first|((first|(refine Aa (IJ hv) ?_;rintro _ ⟨z,rfl,hz⟩)|refine kA ?_|(apply Br.mk<;>intro hc))<;>first|exact hc.elim|conv=>whnf)|refine kB ?_)
 all_goals first|rfl|exact absurd (hz.2 h) hc
theorem Yb {v:GV} (hv:v.ok) (h:¬isNull v):Ae (Ad tab) 194 [v.av] (· =.bool false):=by
 refine Ac rfl rfl ?_
 (conv=>whnf);repeat' (first|((first|(refine Aa (IJ hv) ?_;rintro _ ⟨z,rfl,hz⟩)|refine kA ?_|(apply Br.mk<;>intro hc))<;>first|exact hc.elim|conv=>whnf)|refine kB ?_)
 all_goals first|rfl|exact absurd (hz.1 hc) h
set_option maxHeartbeats 1000000 in
theorem AmH {σ:List Obj} {c:Nat} {lv:AV} {b:Bool} {l:List GP} {k:List UInt8} {v:GV} {K:AB→Am→Prop} (h:Hd GP.av 6 σ lv b l true) (hi:Inc Op.bytesLess GP.key l) (hl:l.length≤100) (hv:v.ok)
 (hA:isNull v→∀σ' c' lv',Hd GP.av 6 σ' lv' b (Gg Op.bytesLess GP.key k l) true→Fr σ σ' lv.obj→(∀ o∈lv'.obj,o∈lv.obj∨σ.length≤o)→K (.ok lv') ⟨σ',c'⟩)
 (hB:¬isNull v→((∃ y∈l,GP.key y=k)∨l.length<16)→∀σ' c' lv',Hd GP.av 6 σ' lv' true (BZ Op.bytesLess GP.key ⟨k,v⟩ l) true→Fr σ σ' lv.obj→(∀ o∈lv'.obj,o∈lv.obj∨σ.length≤o)→K (.ok lv') ⟨σ',c'⟩)
 (hC:¬isNull v→(¬ ∃y∈l,GP.key y=k)→¬l.length<16→∀σ' c',Fr σ σ' []→K (.Dq (.iface 154 (.int .i64 20))) ⟨σ',c'⟩):
 Ar (Ad tab) 202 [lv,.str k,v.av] ⟨σ,c⟩ K:=by
 rcases h with⟨rfl,rfl,h⟩|⟨rfl,o,g,rfl,ho⟩
 ·have hbs:∀{nn:Bool},Ae (Ad tab) 254 [.sl nn (vs GP.av []),.str k,.fn 255 []] (· =.BD [.int .i64 (0:Nat),.bool false]):=fun{nn}=>by
   refine(bsP (l:=[]) (nn:=nn) (x:=k) (by simp) List.Pairwise.nil).mono ?_
   rintro _ ⟨i,fb,rfl,q1,q2⟩
   obtain rfl:i=0:=by have:=q1.le;simpa using this
   cases fb
   ·rfl
   ·exact absurd (q2.1 rfl) (by simp)
  have fin:∀σ1 σ2 c',Fr σ σ1 []→Fr σ1 σ2 []→nth σ2 σ1.length=some (.arr c' 6 true true [GP.av ⟨k,v⟩])→¬isNull v→lv.obj=[]∨True→K (.ok (.own σ1.length c' 0 1)) ⟨σ2,c'+1⟩:=fun σ1 σ2 c' f1 f2 h2 hn _=>
   hB hn (.inr (by simp)) _ _ _ (.inr ⟨rfl,_,_,rfl,h2⟩) ((f1.trans f2).mono (by simp)) (fun o ho=>by simp only[AV.obj,List.mem_singleton]at ho;subst ho;exact .inr f1.len)
  rcases h with rfl|⟨o,g,es',rfl,ho⟩
  ·by_cases hn:isNull v
   ·refine Ai rfl rfl ?_
    (conv=>whnf);repeat' (first|((first|refine BU fun σ1 f1 h1 l1=>?_|refine kE hbs ?_|refine kE (Ya hv hn) ?_|rw[h1]|refine kA ?_|(apply Br.mk<;>intro hc))<;>first|exact hc.elim|conv=>whnf)|refine kB ?_)
    exact hA hn _ _ (.sl false []) (.inl ⟨rfl,rfl,.inl rfl⟩) (f1.mono (by simp)) (fun o ho=>by simp[AV.obj]at ho)
   ·refine Ai rfl rfl ?_
    (conv=>whnf);repeat' (first|((first|refine BU fun σ1 f1 h1 l1=>?_|refine kE hbs ?_|refine kE (Yb hv hn) ?_|rw[h1]|refine Eh ?_|refine Ae0 (x:=GP.av ⟨k,v⟩) rfl rfl (by omega) fun σ2 f2 h2=>?_|refine kA ?_|(apply Br.mk<;>intro hc))<;>first|exact hc.elim|conv=>whnf)|refine kB ?_)
    all_goals first|exact fin _ _ _ f1 f2 h2 hn (.inr trivial)
  ·by_cases hn:isNull v
   ·refine Ai rfl rfl ?_
    (conv=>whnf);repeat' (first|((first|(refine BU fun σ1 f1 h1 l1=>?_;have ho1:=f1.get ho (by simp))|refine kE hbs ?_|refine kE (Ya hv hn) ?_|rw[h1]|rw[ho1]|refine kA ?_|(apply Br.mk<;>intro hc))<;>first|exact hc.elim|conv=>whnf)|refine kB ?_)
    all_goals first|exact hA hn _ _ _ (.inl ⟨rfl,rfl,.inr ⟨_,_,_,rfl,ho1⟩⟩) (f1.mono (by simp)) (fun o ho=>.inl ho)
   ·refine Ai rfl rfl ?_
    (conv=>whnf);repeat' (first|((first|(refine BU fun σ1 f1 h1 l1=>?_;have ho1:=f1.get ho (by simp))|refine kE hbs ?_|refine kE (Yb hv hn) ?_|rw[h1]|rw[ho1]|refine Eh ?_|refine RH (x:=GP.av ⟨k,v⟩) rfl rfl (by omega) ho1 fun σ2 f2 h2=>?_|refine kA ?_|(apply Br.mk<;>intro hc))<;>first|exact hc.elim|conv=>whnf)|refine kB ?_)
    all_goals first|exact fin _ _ _ f1 f2 h2 hn (.inr trivial)
 ·have hlen:l.length<2 ^ 62:=by omega
  have hbs:=fun(nn:Bool)=>(bsP (nn:=nn) (x:=k) hlen hi)
  by_cases hf:∃y∈l,GP.key y=k
  ·have hbt:∃i,AtK Op.bytesLess GP.key k l i∧Ae (Ad tab) 254 [.sl true (vs GP.av l),.str k,.fn 255 []] (· =.BD [.int .i64 (i:Nat),.bool true]):=by
        obtain⟨_,⟨i,fb,rfl,q1,q2⟩,hd⟩:=(hbs true).KI
        rw[q2.2 hf]at hd
        exact⟨i,q1,hd⟩
   obtain⟨i,q1,hbt⟩:=hbt
   obtain⟨hil,hik,_⟩:=q1.found AA hi hf
   by_cases hn:isNull v
   ·refine Ai rfl rfl ?_
    (conv=>whnf);repeat' (first|((first|(refine BU fun σ1 f1 h1 l1=>?_;have ho1:=f1.get ho (by simp))|refine kE hbt ?_|refine kE (Ya hv hn) ?_|rw[h1]|rw[ho1]|refine Ub rfl rfl hil rfl ho1 fun σ2 f2 h2=>?_|refine kA ?_|(apply Br.mk<;>intro hc))<;>first|exact hc.elim|conv=>whnf)|refine kB ?_)
    all_goals first
     |(rw [q1.del AA hi hf]at h2
       have hlen2:i+(l.length-(i+1))=(Gg Op.bytesLess GP.key k l).length:=by rw[← q1.del AA hi hf,List.length_append,List.length_take,List.length_drop];omega
       exact hA hn _ _ _ (.inr ⟨rfl,_,_,by rw[← hlen2];rfl,h2⟩) ((f1.mono (by simp)).trans f2) (fun o ho=>.inl ho))
   ·refine Ai rfl rfl ?_
    (conv=>whnf);repeat' (first|((first|(refine BU fun σ1 f1 h1 l1=>?_;have ho1:=f1.get ho (by simp))|refine kE hbt ?_|refine kE (Yb hv hn) ?_|rw[h1]|rw[ho1]|refine EL ho1 fun σ2 f2 h2 l2=>?_|refine kA ?_|(apply Br.mk<;>intro hc))<;>first|exact hc.elim|conv=>whnf)|refine kB ?_)
    have e:(vs GP.av l).set (Int.toNat (i:Int)) (BF (l[i]).av (0+1) (AV.agg (List.take 5 (List.drop 0 v.av.cells))))=vs GP.av (BZ Op.bytesLess GP.key ⟨k,v⟩ l):=by
     have e0:BF (l[i]).av (0+1) (AV.agg (List.take 5 (List.drop 0 v.av.cells)))=GP.av ⟨(l[i]).key,v⟩:=rfl
     rw[e0,hik,←q1.set (x:=⟨k,v⟩) AA hi hf]
     simp[vs,List.map_set]
    replace h2:nth σ2 o=some (.arr g 6 true true (vs GP.av (BZ Op.bytesLess GP.key ⟨k,v⟩ l))):=by rw[← e];exact h2
    have hlen2:l.length=(BZ Op.bytesLess GP.key ⟨k,v⟩ l).length:=by rw[← q1.set (x:=⟨k,v⟩) AA hi hf,List.length_set]
    exact hB hn (.inl hf) _ _ _ (.inr ⟨rfl,_,_,by rw[← hlen2];rfl,h2⟩) ((f1.mono (by simp)).trans f2) (fun o ho=>.inl ho)
  ·have hbt:∃i,AtK Op.bytesLess GP.key k l i∧Ae (Ad tab) 254 [.sl true (vs GP.av l),.str k,.fn 255 []] (· =.BD [.int .i64 (i:Nat),.bool false]):=by
        obtain⟨_,⟨i,fb,rfl,q1,q2⟩,hd⟩:=(hbs true).KI
        cases fb
        ·exact⟨i,q1,hd⟩
        ·exact absurd (q2.1 rfl) hf
   obtain⟨i,q1,hbt⟩:=hbt
   have hil:=q1.le
   by_cases hn:isNull v
   ·refine Ai rfl rfl ?_
    (conv=>whnf);repeat' (first|((first|(refine BU fun σ1 f1 h1 l1=>?_;have ho1:=f1.get ho (by simp))|refine kE hbt ?_|refine kE (Ya hv hn) ?_|rw[h1]|rw[ho1]|refine kA ?_|(apply Br.mk<;>intro hc))<;>first|exact hc.elim|conv=>whnf)|refine kB ?_)
    all_goals first
     |(have e:Gg Op.bytesLess GP.key k l=l:=by
           rw[Gg,←q1.take,←q1.VA AA (fun x hx e=>hf ⟨x,hx,e⟩),List.take_append_drop]
       exact hA hn _ _ _ (by rw[e];exact .inr ⟨rfl,_,_,rfl,ho1⟩) (f1.mono (by simp)) (fun o ho=>.inl ho))
   ·refine Ai rfl rfl ?_
    (conv=>whnf);repeat' (first|((first|(refine BU fun σ1 f1 h1 l1=>?_;have ho1:=f1.get ho (by simp))|refine kE hbt ?_|refine kE (Yb hv hn) ?_|rw[h1]|rw[ho1]|refine Eh ?_|refine Je ?_|refine WA (fv:=GP.av) (x:=⟨k,v⟩) rfl rfl (by omega) rfl hil ho1 fun σ2 f2 h2=>?_|refine kA ?_|(apply Br.mk<;>intro hc))<;>first|exact hc.elim|conv=>whnf)|refine kB ?_)
    all_goals first
     |exact hC hn hf (by omega) _ _ f1
     |(rw [q1.ins (x:=⟨k,v⟩) AA (fun x hx e=>hf ⟨x,hx,e⟩)]at h2
       have hlen2:l.length+1=(BZ Op.bytesLess GP.key ⟨k,v⟩ l).length:=by rw[← q1.ins (x:=⟨k,v⟩) AA (fun x hx e=>hf ⟨x,hx,e⟩),List.length_append,List.length_append,List.length_take,List.length_drop,List.length_singleton];omega
       exact hB hn (.inr (by omega)) _ _ _ (.inr ⟨rfl,_,_,by rw[← hlen2];rfl,h2⟩) ((f1.mono (by simp)).trans f2) (fun o ho=>.inl ho))
def nmd (op:Int):Prop:=op=3∨op=4∨op=5∨op=6∨op=8
instance (op:Int):Decidable (nmd op):=by unfold nmd;infer_instance
def vlu (op:Int):Prop:=op=5∨op=8
instance (op:Int):Decidable (vlu op):=by unfold vlu;infer_instance
def UG (z:Int):Prop:=1≤z∧z≤1000000
instance (z:Int):Decidable (UG z):=by unfold UG;infer_instance
def Aen (c:GC):Prop:=¬(1≤c.op∧c.op≤8)∨¬UG c.id∨(¬ nmd c.op∧c.name≠[])∨(¬ vlu c.op∧¬isNull c.v)∨(c.op=6∧(¬ UG c.fr∨¬UG c.to))∨(c.op≠6∧(c.fr≠0∨c.to≠0))
instance (c:GC):Decidable (Aen c):=by unfold Aen;infer_instance
def ckC (c:GC):Int:=if Aen c then 1 else if nmd c.op∧¬isName c.name then 6 else if vlu c.op∧¬isNull c.v∧¬Dx c.v then 8 else 0
theorem AgD {c:GC} (h:ckC c=0):(1≤c.op∧c.op≤8)∧UG c.id∧(nmd c.op→isName c.name)∧(c.op=6→UG c.fr∧UG c.to)∧(vlu c.op→isNull c.v∨Dx c.v):=by
 unfold ckC at h
 split at h
 ·cases h
 rename_i h1
 split at h
 ·cases h
 rename_i h2
 split at h
 ·cases h
 rename_i h3
 simp only[Aen,not_or,Classical.not_not,not_and]at h1 h2 h3
 refine⟨by omega,h1.2.1,fun hn=>h2 hn,fun h6=>?_,fun hv=>?_⟩
 ·have:=h1.2.2.2.2.1 h6;exact this
 ·by_cases hn:isNull c.v
  ·exact .inl hn
  ·exact .inr (h3 hv hn)
theorem idP {z:Int}:Ae (Ad tab) 193 [.int .i64 z] (· =.bool (decide (UG z))):=by
 refine Ac rfl rfl ?_
 (conv=>whnf);repeat' (first|((first|refine kA ?_|(apply Br.mk<;>intro hc))<;>first|exact hc.elim|conv=>whnf)|refine kB ?_)
 all_goals first|exact Bd (by unfold UG;omega)|exact Au (by unfold UG;omega)
theorem Ag2 {op:Int}:Ae (Ad tab) 192 [.int .i64 op] (· =.BD [.agg [.bool (decide (op=6)),.bool (decide (nmd op)),.bool (decide (vlu op))],.bool (decide (1≤op∧op≤8))]):=by
 refine Ac rfl rfl ?_
 (conv=>whnf);repeat' (first|((first|refine kA ?_|(apply Br.mk<;>intro hc))<;>first|exact hc.elim|conv=>whnf)|refine kB ?_)
 all_goals first
  |(subst_vars;rfl)
  |(have e1:decide (op=6)=false:=decide_eq_false (by omega)
    have e2:decide (nmd op)=false:=decide_eq_false (by unfold nmd;omega)
    have e3:decide (vlu op)=false:=decide_eq_false (by unfold vlu;omega)
    have e4:decide (1≤op∧op≤8)=false:=decide_eq_false (by omega)
    rw[e1,e2,e3,e4];rfl)
theorem AmD {v:GV} (hv:v.ok):Ae (Ad tab) 194 [v.av] (· =.bool (decide (isNull v))):=by
 by_cases h:isNull v
 ·rw[decide_eq_true h];exact Ya hv h
 ·rw[decide_eq_false h];exact Yb hv h
set_option maxHeartbeats 8000000 in
theorem AmE {c:GC} (h:c.ok):Ae (Ad tab) 125 [c.av] (· =.int .i64 (ckC c)):=by
 obtain⟨op,z,fr,to,nm,v⟩:=c
 obtain⟨h1,h2,h3,h4,h5,h6⟩:=h
 have hn:=name1 (s:=nm) (by have:=h5;simp only[Ln]at this;omega)
 have hp:=KH (v:=v) h6
 have hu:=AmD (v:=v) h6
 have hf:=Ag2 (op:=op)
 have e1:=ckC
 have hd:op=1∨op=2∨op=3∨op=4∨op=5∨op=6∨op=7∨op=8∨¬(1≤op∧op≤8):=by omega
 rcases hd with rfl|rfl|rfl|rfl|rfl|rfl|rfl|rfl|hd
 all_goals
  clear e1
  refine Ac rfl rfl ?_
  show vC _ _ [(0,.agg [.int .i64 _,.int .i64 z,.int .i64 fr,.int .i64 to,.str nm,.int .i64 v.k,.int .i64 v.n,.int .i64 v.d,.str v.s,.sl v.nn v.l])] _ _
  (conv=>whnf);repeat' (first|((first|refine kE hf ?_|refine Aq idP (fun hi=>?_) (fun hi=>?_)|refine Aq hu (fun hz=>?_) (fun hz=>?_)|refine Aq hn (fun hx=>?_) (fun hx=>?_)|refine Aq hp (fun hy=>?_) (fun hy=>?_)|refine kA ?_|(apply Br.mk<;>intro hc))<;>first|exact hc.elim|conv=>whnf)|refine kB ?_)
 all_goals first
  |(exfalso;omega)
  |exact absurd (of_decide_eq_true (by assumption)) hd
  |(refine congrArg (AV.int .i64) ?_;simp_all [ckC,Aen,nmd,vlu];done)
end AI
end Go.Proofs.YtjijnamhalgamaaGreatDoor
