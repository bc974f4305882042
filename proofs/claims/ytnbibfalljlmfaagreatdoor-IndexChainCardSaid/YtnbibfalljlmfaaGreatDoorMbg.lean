/- The graph that an editor edits, in the store: nodes and edges with lists of their own. Looking up a key in nodes: slices.BinarySearchFunc, on memory that stays. Looking up a key in edges: slices.BinarySearchFunc, on memory that stays. Looking up a key in properties: slices.BinarySearchFunc, on memory that stays. Looking up a key in strings: slices.BinarySearch, on memory that stays. A call of an entry that the model answers. Walks through what an editor calls: must, node, edge. -/
import Derived.Test.YtnbibfalljlmfaaGreatDoorMba
import Derived.Test.YtnbibfalljlmfaaGreatDoorMaa
import Derived.Test.YtnbibfalljlmfaaGreatDoorMbc
import Derived.Test.YtnbibfalljlmfaaGreatDoorVa
set_option linter.unusedVariables false
set_option maxRecDepth 4000
namespace Go.Proofs.YtnbibfalljlmfaaGreatDoor
namespace AI
theorem nth_app {α:Type} {l r:List α} {i:Nat} (h:i<l.length):nth (l++r) i=nth l i:=by
  rw[AVI,AVI,List.getElem?_append_left h]
theorem nth_last {α:Type} {l:List α} {x:α}:nth (l++[x]) l.length=some x:=by
  rw[AVI,List.getElem?_append_right (Nat.le_refl _)];simp
theorem nth_set_self {α:Type} {l:List α} {i:Nat} {x y:α} (h:nth l i=some y):nth (l.set i x) i=some x:=by
  rw[AVI,List.getElem?_set_self (nth_lt h)]
theorem nth_set_ne {α:Type} {l:List α} {i j:Nat} {x:α} (h:i≠j):nth (l.set i x) j=nth l j:=by
  rw[AVI,AVI,List.getElem?_set_ne h]
def Rd (σ:List Obj) (D:Nat) (x y:AV):Prop:=∀m,D≤m→snap σ m x=some y
def RdL (σ:List Obj) (D:Nat) (xs ys:List AV):Prop:=∀m,D≤m→Ax1 σ m xs=some ys
theorem Rd.mono {σ:List Obj} {D D':Nat} {x y:AV} (h:Rd σ D x y) (hd:D≤D'):Rd σ D' x y:=fun m hm=>h m (by omega)
theorem RdL.mono {σ:List Obj} {D D':Nat} {x y:List AV} (h:RdL σ D x y) (hd:D≤D'):RdL σ D' x y:=fun m hm=>h m (by omega)
theorem RdL.nil {σ:List Obj}:RdL σ 0 [] []:=fun m _=>by cases m<;>rfl
theorem RdL.cons {σ:List Obj} {D:Nat} {x y:AV} {xs ys:List AV} (h:Rd σ D x y) (k:RdL σ D xs ys):RdL σ (D+1) (x::xs) (y::ys):=fun m hm=>by
  obtain⟨m,rfl⟩:∃m',m=m'+1:=⟨m-1,by omega⟩
  simp only[Ax1,h m (by omega),k m (by omega)]
theorem RdL.map {α:Type} {σ:List Obj} {D:Nat} {f g:α→AV}:∀{l:List α},(∀ e∈l,Rd σ D (f e) (g e))→RdL σ (D+l.length) (vs f l) (vs g l)
  |[],_=>RdL.nil.mono (by omega)
  |e::l,h=>(RdL.cons ((h e (by simp)).mono (D':=D+l.length) (by omega)) (RdL.map fun x hx=>h x (by simp[hx]))).mono (by simp;omega)
theorem Rd.agg {σ:List Obj} {D:Nat} {xs ys:List AV} (h:RdL σ D xs ys):Rd σ (D+1) (.agg xs) (.agg ys):=fun m hm=>by
  obtain⟨m,rfl⟩:∃m',m=m'+1:=⟨m-1,by omega⟩
  simp only[snap,h m (by omega),Option.map_some]
theorem Rd.int {σ:List Obj} {k:IntKind} {z:Int}:Rd σ 1 (.int k z) (.int k z):=fun m hm=>by
  obtain⟨m,rfl⟩:∃m',m=m'+1:=⟨m-1,by omega⟩
  rfl
theorem Rd.str {σ:List Obj} {z:List UInt8}:Rd σ 1 (.str z) (.str z):=fun m hm=>by
  obtain⟨m,rfl⟩:∃m',m=m'+1:=⟨m-1,by omega⟩
  rfl
def Hd {α:Type} (f:α→AV) (es:Nat) (σ:List Obj) (v:AV) (b:Bool) (l:List α) (c:Bool):Prop:=
  (b=false∧l=[]∧(v=.sl false []∨∃o g es',v=.own o g 0 0∧nth σ o=some (.arr g es' false true [])))∨
  (b=true∧∃o g,v=.own o g 0 l.length∧nth σ o=some (.arr g es true c (vs f l)))
theorem Hd.lt {α:Type} {f:α→AV} {es:Nat} {σ:List Obj} {v:AV} {b c:Bool} {l:List α} (h:Hd f es σ v b l c):∀o∈v.obj,o<σ.length:=by
  intro o ho
  rcases h with⟨_,_,rfl|⟨o',g,es',rfl,h⟩⟩|⟨_,o',g,rfl,h⟩
  · simp[AV.obj]at ho
  · simp only[AV.obj,List.mem_singleton]at ho;subst ho;exact nth_lt h
  · simp only[AV.obj,List.mem_singleton]at ho;subst ho;exact nth_lt h
theorem Hd.obj {α:Type} {f:α→AV} {es:Nat} {σ:List Obj} {v:AV} {b c:Bool} {l:List α} (h:Hd f es σ v b l c) {o:Nat} (ho:o∈v.obj):∃g es' nn c' xs,nth σ o=some (.arr g es' nn c' xs)∧(nn=true→es'=es):=by
  rcases h with⟨_,_,rfl|⟨o',g,es',rfl,h⟩⟩|⟨_,o',g,rfl,h⟩
  · simp[AV.obj]at ho
  · simp only[AV.obj,List.mem_singleton]at ho;subst ho;exact⟨_,_,_,_,_,h,by simp⟩
  · simp only[AV.obj,List.mem_singleton]at ho;subst ho;exact⟨_,_,_,_,_,h,fun _=>rfl⟩
theorem Hd.keep {α:Type} {f:α→AV} {es:Nat} {σ σ':List Obj} {v:AV} {b c:Bool} {l:List α} (h:Hd f es σ v b l c) (hk:∀o∈v.obj,nth σ' o=nth σ o):Hd f es σ' v b l c:=by
  rcases h with⟨h1,h2,rfl|⟨o',g,es',rfl,h⟩⟩|⟨h1,o',g,rfl,h⟩
  · exact .inl ⟨h1,h2,.inl rfl⟩
  · exact .inl ⟨h1,h2,.inr ⟨o',g,es',rfl,by rw[hk o' (by simp[AV.obj]),h]⟩⟩
  · exact .inr ⟨h1,o',g,rfl,by rw[hk o' (by simp[AV.obj]),h]⟩
theorem Hd.sn {α:Type} {f:α→AV} {es:Nat} {σ:List Obj} {v:AV} {b:Bool} {l:List α} (h:Hd f es σ v b l true):Rd σ 1 v (.sl b (vs f l)):=fun m hm=>by
  obtain⟨m,rfl⟩:∃m',m=m'+1:=⟨m-1,by omega⟩
  rcases h with⟨rfl,rfl,rfl|⟨o',g,es',rfl,h⟩⟩|⟨rfl,o',g,rfl,h⟩
  · rfl
  · simp[snap,h,sub,vs]
  · have:sub (vs f l) 0 l.length=vs f l:=uV
    simp[snap,h,this]
theorem Hd.one {α:Type} {f:α→AV} {es:Nat} {σ:List Obj} {v:AV} {b c:Bool} {l:List α} (h:Hd f es σ v b l c):v.cells.length=1∧v.storable=true:=by
  rcases h with⟨_,_,rfl|⟨o',g,es',rfl,h⟩⟩|⟨_,o',g,rfl,h⟩<;>exact⟨rfl,rfl⟩
theorem Hd.bool {α:Type} {f:α→AV} {es:Nat} {σ:List Obj} {v:AV} {b c:Bool} {l:List α} (h:Hd f es σ v b l c):b=false→l=[]:=by
  rcases h with⟨_,h,_⟩|⟨h,_⟩
  · exact fun _=>h
  · intro h';rw[h']at h;cases h
theorem Hd.closed {α:Type} {f:α→AV} {es:Nat} {σ:List Obj} {v:AV} {b c:Bool} {l:List α} (h:Hd f es σ v b l c) (hc:v.closed=true):v=.sl false []∧b=false∧l=[]:=by
  rcases h with⟨h1,h2,rfl|⟨o',g,es',rfl,h⟩⟩|⟨_,o',g,rfl,h⟩
  · exact⟨rfl,h1,h2⟩
  · cases hc
  · cases hc
structure EN where
  n:GN
  lv:AV
  pv:AV
def EN.av (e:EN):AV:=.agg [.int .i64 e.n.id,e.lv,e.pv]
def EN.objs (e:EN):List Nat:=e.lv.obj++e.pv.obj
def EN.Ok (σ:List Obj) (e:EN):Prop:=Hd .str 1 σ e.lv e.n.ln e.n.labels true∧Hd GP.av 6 σ e.pv e.n.pn e.n.props true
structure EE where
  e:GE
  pv:AV
def EE.av (e:EE):AV:=.agg [.int .i64 e.e.id,.int .i64 e.e.fr,.int .i64 e.e.to,.str e.e.ty,e.pv]
def EE.objs (e:EE):List Nat:=e.pv.obj
def EE.Ok (σ:List Obj) (e:EE):Prop:=Hd GP.av 6 σ e.pv e.e.pn e.e.props true
def objsE (N:List EN) (E:List EE):List Nat:=N.flatMap EN.objs++E.flatMap EE.objs
structure Ed (σ:List Obj) (d gd:Nat) (vN vE:AV) (nb eb:Bool) (N:List EN) (E:List EE) (x y:Int):Prop where
  box:nth σ d=some (.arr gd 4 true false [.agg [vN,vE,.int .i64 x,.int .i64 y]])
  hn:∃c,Hd EN.av 3 σ vN nb N c∧(c=true→∀e∈N,e.av.closed=true)
  he:∃c,Hd EE.av 5 σ vE eb E c∧(c=true→∀e∈E,e.av.closed=true)
  hN:∀e∈N,e.Ok σ
  hE:∀e∈E,e.Ok σ
  nd:(d::(vN.obj++(vE.obj++objsE N E))).Nodup
  oN:vN≠.sl false []
  oE:vE≠.sl false []
def gOf (nb eb:Bool) (N:List EN) (E:List EE) (x y:Int):GG:=⟨nb,N.map EN.n,eb,E.map EE.e,x,y⟩
theorem EN.sn {σ:List Obj} {e:EN} (h:e.Ok σ):Rd σ 5 e.av e.n.av:=
  Rd.agg (RdL.cons (Rd.int.mono (by omega)) (RdL.cons (h.1.sn.mono (by omega)) (RdL.cons (h.2.sn.mono (D':=1) (by omega)) (RdL.nil.mono (D':=1) (by omega)))))
theorem EE.sn {σ:List Obj} {e:EE} (h:e.Ok σ):Rd σ 7 e.av e.e.av:=
  Rd.agg (RdL.cons (Rd.int.mono (by omega)) (RdL.cons (Rd.int.mono (by omega)) (RdL.cons (Rd.int.mono (by omega)) (RdL.cons (Rd.str.mono (by omega)) (RdL.cons (h.sn.mono (D':=1) (by omega)) (RdL.nil.mono (D':=1) (by omega)))))))
theorem Hd.snE {α:Type} {f g:α→AV} {es D:Nat} {σ:List Obj} {v:AV} {b c:Bool} {l:List α} (h:Hd f es σ v b l c) (hs:∀e∈l,Rd σ D (f e) (g e)) (hc:c=true→∀e∈l,f e=g e):Rd σ (D+l.length+1) v (.sl b (vs g l)):=fun m hm=>by
  obtain⟨m,rfl⟩:∃m',m=m'+1:=⟨m-1,by omega⟩
  rcases h with⟨rfl,rfl,rfl|⟨o',g,es',rfl,h⟩⟩|⟨rfl,o',g',rfl,h⟩
  · rfl
  · simp[snap,h,sub,vs]
  · have e1:sub (vs f l) 0 l.length=vs f l:=uV
    cases c with
    | false=>
      have:=RdL.map hs m (by omega)
      simp[snap,h,e1,this]
    | true=>
      have e2:vs f l=vs g l:=List.map_congr_left (hc rfl)
      simp[snap,h,e2,show sub (vs g l) 0 l.length=vs g l from uV]
theorem EN.closed_eq {σ:List Obj} {e:EN} (h:e.Ok σ) (hc:e.av.closed=true):e.av=e.n.av:=by
  simp only[EN.av,AV.closed,ACf,Bool.and_eq_true,Bool.and_true]at hc
  obtain⟨a1,a2,a3⟩:=h.1.closed hc.2.1
  obtain⟨b1,b2,b3⟩:=h.2.closed hc.2.2
  simp[EN.av,GN.av,a1,a2,a3,b1,b2,b3,vs]
theorem EE.closed_eq {σ:List Obj} {e:EE} (h:e.Ok σ) (hc:e.av.closed=true):e.av=e.e.av:=by
  simp only[EE.av,AV.closed,ACf,Bool.and_eq_true,Bool.and_true]at hc
  obtain⟨b1,b2,b3⟩:=h.closed hc.2.2.2.2
  simp[EE.av,GE.av,b1,b2,b3,vs]
section
variable {σ σ':List Obj} {d gd:Nat} {vN vE:AV} {nb eb:Bool} {N:List EN} {E:List EE} {x y:Int}
theorem Ed.snN (h:Ed σ d gd vN vE nb eb N E x y):Rd σ (5+N.length+1) vN (.sl nb (vs GN.av (N.map EN.n))):=by
  obtain⟨c,h1,h2⟩:=h.hn
  have:=h1.snE (g:=fun e=>e.n.av) (D:=5) (fun e he=>EN.sn (h.hN e he)) (fun hc e he=>EN.closed_eq (h.hN e he) (h2 hc e he))
  simpa[vs,Function.comp_def]using this
theorem Ed.snE (h:Ed σ d gd vN vE nb eb N E x y):Rd σ (7+E.length+1) vE (.sl eb (vs GE.av (E.map EE.e))):=by
  obtain⟨c,h1,h2⟩:=h.he
  have:=h1.snE (g:=fun e=>e.e.av) (D:=7) (fun e he=>EE.sn (h.hE e he)) (fun hc e he=>EE.closed_eq (h.hE e he) (h2 hc e he))
  simpa[vs,Function.comp_def]using this
theorem Ed.snL (h:Ed σ d gd vN vE nb eb N E x y):RdL σ (20+N.length+E.length) [vN,vE,.int .i64 x,.int .i64 y] [.sl nb (vs GN.av (N.map EN.n)),.sl eb (vs GE.av (E.map EE.e)),.int .i64 x,.int .i64 y]:=
  (RdL.cons (h.snN.mono (D':=N.length+E.length+15) (by omega)) (RdL.cons (h.snE.mono (D':=N.length+E.length+14) (by omega)) (RdL.cons (Rd.int.mono (D':=N.length+E.length+13) (by omega)) (RdL.cons (Rd.int.mono (D':=N.length+E.length+12) (by omega)) (RdL.nil.mono (by omega)))))).mono (by omega)
theorem Ed.snG (h:Ed σ d gd vN vE nb eb N E x y):Rd σ (21+N.length+E.length) (.agg [vN,vE,.int .i64 x,.int .i64 y]) (gOf nb eb N E x y).av:=(Rd.agg h.snL).mono (by omega)
theorem Ed.snR (h:Ed σ d gd vN vE nb eb N E x y):Rd σ (21+N.length+E.length) (.ref d gd 0 0) (.AhL (gOf nb eb N E x y).av.cells):=fun m hm=>by
  obtain⟨m,rfl⟩:∃m',m=m'+1:=⟨m-1,by omega⟩
  have:=h.snL m (by omega)
  simp[snap,h.box,nth,AV.cells,this,gOf,GG.av]
end
theorem cmpI_lt {a b:Int} (h:Qr a b<0):ltI a b=true:=by simpa[ltI]using AwJ.1 h
theorem cmpI_ge {a b:Int} (h:¬Qr a b<0):ltI a b=false:=by simpa[ltI]using mt AwJ.2 h
theorem cloN {n:GN} {x:Int}:D8 (Dx tab) 211 [n.av,.int .i64 x] (· =.int .i64 (Qr n.id x)):=by
  refine Lu rfl rfl ?_
  (conv=>whnf);repeat' (first|((with_reducible first|apply kN|apply kW|apply kX|apply kG|apply kQ);(· exact sd);conv=>whnf)|(refine DW.mk ?_ ?_<;>intro hc<;>(try rw[List.length_nil]at hc)<;>first|(exfalso;omega)|(exact absurd rfl hc)|conv=>whnf)|(refine BM compare ?_;rintro _ rfl;conv=>whnf)|(refine CB ?_ ?_<;>intro hc<;>conv=>whnf))
  rfl
theorem bsN {l:List GN} {nn:Bool} {x:Int} (hl:l.length<2^62) (hi:Inc ltI GN.id l):D8 (Dx tab) 133 [.sl nn (vs GN.av l),.int .i64 x,.fn 211 []] (fun v=>∃(i:Nat) (b:Bool),v=.tup [.int .i64 i,.bool b]∧AtK ltI GN.id x l i∧(b=true↔∃y∈l,GN.id y=x)):=by
  have fin:∀i:Nat,AtK ltI GN.id x l i→((∃ y∈l,GN.id y=x)↔∃h:i<l.length,GN.id l[i]=x):=by
    intro i h
    constructor
    · intro hf
      obtain⟨h1,h2,_⟩:=h.found Hu hi hf
      exact⟨h1,h2⟩
    · rintro⟨h1,h2⟩
      exact⟨_,List.getElem_mem h1,h2⟩
  refine Lu rfl rfl ?_
  (conv=>whnf);repeat' (first|((with_reducible first|apply kN|apply kW|apply kX|apply kG|apply kQ);(· exact sd);conv=>whnf)|(refine DW.mk ?_ ?_<;>intro hc<;>(try rw[List.length_nil]at hc)<;>first|(exfalso;omega)|(exact absurd rfl hc)|conv=>whnf)  |(refine CB ?_ ?_<;>intro hc<;>conv=>whnf))
  refine DK (fun m env s=>∃(i j:Nat),m=j-i∧i≤j∧j≤l.length∧env=[(0,.sl nn (vs GN.av l)),(1,.int .i64 x),(2,.fn 211 []),(8,.int .i64 l.length),(9,.int .i64 i),(10,.int .i64 j)]∧s=⟨[],0⟩∧
    (∀ k (h:k<l.length),k<i→ltI (GN.id l[k]) x=true)∧(∀ k (h:k<l.length),j≤k→ltI (GN.id l[k]) x=false)) ?_ _ _ _ ⟨0,l.length,rfl,by omega,by omega,by simp,rfl,fun k _ h=>absurd h (by omega),fun k h1 h=>absurd h (by omega)⟩
  rintro _ _ _ ⟨i,j,rfl,hij,hj,rfl,rfl,h1,h2⟩
  refine⟨rfl,?_⟩
  have lo:∀{q:Nat} (hq:q<l.length),ltI (GN.id l[q]) x=true→∀k (h:k<l.length),k<q+1→ltI (GN.id l[k]) x=true:=fun{q} hq hm k hk hlt=>by
    rcases Nat.lt_or_ge k q with h|h
    · exact(Hu).tr _ _ _ (hi.get h hq) hm
    · obtain rfl:k=q:=by omega
      exact hm
  have up:∀{q:Nat} (hq:q<l.length),ltI (GN.id l[q]) x=false→∀k (h:k<l.length),q≤k→ltI (GN.id l[k]) x=false:=fun{q} hq hm k hk hle=>by
    rcases Nat.lt_or_ge q k with h|h
    · cases h3:ltI (GN.id l[k]) x
      · rfl
      · have:=(Hu).tr _ _ _ (hi.get h hk) h3
        rw[hm]at this;cases this
    · obtain rfl:k=q:=by omega
      exact hm
  (conv=>whnf);repeat' (first|(refine wrapU (i+j) (by omega) (by omega) ?_;conv=>whnf)|(apply KJ;(· exact shrE _);conv=>whnf)|(refine BM cloN ?_;rintro _ rfl;conv=>whnf)|((with_reducible first|apply kN|apply kW|apply kX|apply kG|apply kQ);(· exact sd);conv=>whnf)|(refine DW.mk ?_ ?_<;>intro hc<;>(try rw[List.length_nil]at hc)<;>first|(exfalso;omega)|(exact absurd rfl hc)|conv=>whnf)|(refine CB ?_ ?_<;>intro hc<;>conv=>whnf))
  all_goals first
    |exact again.mk ⟨_,by omega,(i+j) / 2+1,j,rfl,by omega,hj,rfl,rfl,lo (by omega) (cmpI_lt hc),h2⟩
    |exact again.mk ⟨_,by omega,i,(i+j) / 2,rfl,by omega,by omega,rfl,rfl,h1,up (by omega) (cmpI_ge hc)⟩
    |skip
  all_goals
    obtain rfl:i=j:=by omega
    have ha:AtK ltI GN.id x l i:=⟨by omega,h1,h2⟩
    have hf:=fin i ha
    first
      |exact⟨i,_,rfl,ha,fun _=>hf.2 ⟨by omega,Ym.1 hc⟩,fun _=>rfl⟩
      |exact⟨i,_,rfl,ha,fun h=>(by cases h),fun h=>(by obtain⟨_,e⟩:=hf.1 h;exact absurd (Ym.2 e) hc)⟩
      |exact⟨i,_,rfl,ha,fun h=>(by cases h),fun h=>by obtain⟨e,_⟩:=hf.1 h;omega⟩
      | (trace_state; fail "bs")
theorem cloE {n:GE} {x:Int}:D8 (Dx tab) 223 [n.av,.int .i64 x] (· =.int .i64 (Qr n.id x)):=by
  refine Lu rfl rfl ?_
  (conv=>whnf);repeat' (first|((with_reducible first|apply kN|apply kW|apply kX|apply kG|apply kQ);(· exact sd);conv=>whnf)|(refine DW.mk ?_ ?_<;>intro hc<;>(try rw[List.length_nil]at hc)<;>first|(exfalso;omega)|(exact absurd rfl hc)|conv=>whnf)|(refine BM compare ?_;rintro _ rfl;conv=>whnf)|(refine CB ?_ ?_<;>intro hc<;>conv=>whnf))
  rfl
theorem bsE {l:List GE} {nn:Bool} {x:Int} (hl:l.length<2^62) (hi:Inc ltI GE.id l):D8 (Dx tab) 222 [.sl nn (vs GE.av l),.int .i64 x,.fn 223 []] (fun v=>∃(i:Nat) (b:Bool),v=.tup [.int .i64 i,.bool b]∧AtK ltI GE.id x l i∧(b=true↔∃y∈l,GE.id y=x)):=by
  have fin:∀i:Nat,AtK ltI GE.id x l i→((∃ y∈l,GE.id y=x)↔∃h:i<l.length,GE.id l[i]=x):=by
    intro i h
    constructor
    · intro hf
      obtain⟨h1,h2,_⟩:=h.found Hu hi hf
      exact⟨h1,h2⟩
    · rintro⟨h1,h2⟩
      exact⟨_,List.getElem_mem h1,h2⟩
  refine Lu rfl rfl ?_
  (conv=>whnf);repeat' (first|((with_reducible first|apply kN|apply kW|apply kX|apply kG|apply kQ);(· exact sd);conv=>whnf)|(refine DW.mk ?_ ?_<;>intro hc<;>(try rw[List.length_nil]at hc)<;>first|(exfalso;omega)|(exact absurd rfl hc)|conv=>whnf)  |(refine CB ?_ ?_<;>intro hc<;>conv=>whnf))
  refine DK (fun m env s=>∃(i j:Nat),m=j-i∧i≤j∧j≤l.length∧env=[(0,.sl nn (vs GE.av l)),(1,.int .i64 x),(2,.fn 223 []),(8,.int .i64 l.length),(9,.int .i64 i),(10,.int .i64 j)]∧s=⟨[],0⟩∧
    (∀ k (h:k<l.length),k<i→ltI (GE.id l[k]) x=true)∧(∀ k (h:k<l.length),j≤k→ltI (GE.id l[k]) x=false)) ?_ _ _ _ ⟨0,l.length,rfl,by omega,by omega,by simp,rfl,fun k _ h=>absurd h (by omega),fun k h1 h=>absurd h (by omega)⟩
  rintro _ _ _ ⟨i,j,rfl,hij,hj,rfl,rfl,h1,h2⟩
  refine⟨rfl,?_⟩
  have lo:∀{q:Nat} (hq:q<l.length),ltI (GE.id l[q]) x=true→∀k (h:k<l.length),k<q+1→ltI (GE.id l[k]) x=true:=fun{q} hq hm k hk hlt=>by
    rcases Nat.lt_or_ge k q with h|h
    · exact(Hu).tr _ _ _ (hi.get h hq) hm
    · obtain rfl:k=q:=by omega
      exact hm
  have up:∀{q:Nat} (hq:q<l.length),ltI (GE.id l[q]) x=false→∀k (h:k<l.length),q≤k→ltI (GE.id l[k]) x=false:=fun{q} hq hm k hk hle=>by
    rcases Nat.lt_or_ge q k with h|h
    · cases h3:ltI (GE.id l[k]) x
      · rfl
      · have:=(Hu).tr _ _ _ (hi.get h hk) h3
        rw[hm]at this;cases this
    · obtain rfl:k=q:=by omega
      exact hm
  (conv=>whnf);repeat' (first|(refine wrapU (i+j) (by omega) (by omega) ?_;conv=>whnf)|(apply KJ;(· exact shrE _);conv=>whnf)|(refine BM cloE ?_;rintro _ rfl;conv=>whnf)|((with_reducible first|apply kN|apply kW|apply kX|apply kG|apply kQ);(· exact sd);conv=>whnf)|(refine DW.mk ?_ ?_<;>intro hc<;>(try rw[List.length_nil]at hc)<;>first|(exfalso;omega)|(exact absurd rfl hc)|conv=>whnf)|(refine CB ?_ ?_<;>intro hc<;>conv=>whnf))
  all_goals first
    |exact again.mk ⟨_,by omega,(i+j) / 2+1,j,rfl,by omega,hj,rfl,rfl,lo (by omega) (cmpI_lt hc),h2⟩
    |exact again.mk ⟨_,by omega,i,(i+j) / 2,rfl,by omega,by omega,rfl,rfl,h1,up (by omega) (cmpI_ge hc)⟩
    |skip
  all_goals
    obtain rfl:i=j:=by omega
    have ha:AtK ltI GE.id x l i:=⟨by omega,h1,h2⟩
    have hf:=fin i ha
    first
      |exact⟨i,_,rfl,ha,fun _=>hf.2 ⟨by omega,Ym.1 hc⟩,fun _=>rfl⟩
      |exact⟨i,_,rfl,ha,fun h=>(by cases h),fun h=>(by obtain⟨_,e⟩:=hf.1 h;exact absurd (Ym.2 e) hc)⟩
      |exact⟨i,_,rfl,ha,fun h=>(by cases h),fun h=>by obtain⟨e,_⟩:=hf.1 h;omega⟩
      | (trace_state; fail "bs")
theorem G7:STO Op.bytesLess where
  irr:=fun x=>by rw[AT6];simp
  tr:=fun x y z h1 h2=>by rw[AT6]at *;simp only[decide_eq_true_eq]at *;exact List.lt_trans h1 h2
  tot:=fun x y h1 h2=>bl_tot h1 h2
theorem cS_bl {a b:List UInt8} (h:cS a b<0):Op.bytesLess a b=true:=by
  unfold cS at h
  split at h
  · assumption
  · split at h<;>omega
theorem cS_nbl {a b:List UInt8} (h:¬cS a b<0):Op.bytesLess a b=false:=by
  cases h1:Op.bytesLess a b
  · rfl
  · exact absurd (by unfold cS;rw[if_pos h1];omega) h
theorem cloP {n:GP} {x:List UInt8}:D8 (Dx tab) 219 [n.av,.str x] (· =.int .i64 (cS n.key x)):=by
  refine Lu rfl rfl ?_
  (conv=>whnf);repeat' (first|((with_reducible first|apply kN|apply kW|apply kX|apply kG|apply kQ);(· exact sd);conv=>whnf)|(refine DW.mk ?_ ?_<;>intro hc<;>(try rw[List.length_nil]at hc)<;>first|(exfalso;omega)|(exact absurd rfl hc)|conv=>whnf)|(refine BM AwA ?_;rintro _ rfl;conv=>whnf)|(refine CB ?_ ?_<;>intro hc<;>conv=>whnf))
  rfl
theorem bsP {l:List GP} {nn:Bool} {x:(List UInt8)} (hl:l.length<2^62) (hi:Inc Op.bytesLess GP.key l):D8 (Dx tab) 218 [.sl nn (vs GP.av l),.str x,.fn 219 []] (fun v=>∃(i:Nat) (b:Bool),v=.tup [.int .i64 i,.bool b]∧AtK Op.bytesLess GP.key x l i∧(b=true↔∃y∈l,GP.key y=x)):=by
  have fin:∀i:Nat,AtK Op.bytesLess GP.key x l i→((∃ y∈l,GP.key y=x)↔∃h:i<l.length,GP.key l[i]=x):=by
    intro i h
    constructor
    · intro hf
      obtain⟨h1,h2,_⟩:=h.found G7 hi hf
      exact⟨h1,h2⟩
    · rintro⟨h1,h2⟩
      exact⟨_,List.getElem_mem h1,h2⟩
  refine Lu rfl rfl ?_
  (conv=>whnf);repeat' (first|((with_reducible first|apply kN|apply kW|apply kX|apply kG|apply kQ);(· exact sd);conv=>whnf)|(refine DW.mk ?_ ?_<;>intro hc<;>(try rw[List.length_nil]at hc)<;>first|(exfalso;omega)|(exact absurd rfl hc)|conv=>whnf)  |(refine CB ?_ ?_<;>intro hc<;>conv=>whnf))
  refine DK (fun m env s=>∃(i j:Nat),m=j-i∧i≤j∧j≤l.length∧env=[(0,.sl nn (vs GP.av l)),(1,.str x),(2,.fn 219 []),(8,.int .i64 l.length),(9,.int .i64 i),(10,.int .i64 j)]∧s=⟨[],0⟩∧
    (∀ k (h:k<l.length),k<i→Op.bytesLess (GP.key l[k]) x=true)∧(∀ k (h:k<l.length),j≤k→Op.bytesLess (GP.key l[k]) x=false)) ?_ _ _ _ ⟨0,l.length,rfl,by omega,by omega,by simp,rfl,fun k _ h=>absurd h (by omega),fun k h1 h=>absurd h (by omega)⟩
  rintro _ _ _ ⟨i,j,rfl,hij,hj,rfl,rfl,h1,h2⟩
  refine⟨rfl,?_⟩
  have lo:∀{q:Nat} (hq:q<l.length),Op.bytesLess (GP.key l[q]) x=true→∀k (h:k<l.length),k<q+1→Op.bytesLess (GP.key l[k]) x=true:=fun{q} hq hm k hk hlt=>by
    rcases Nat.lt_or_ge k q with h|h
    · exact(G7).tr _ _ _ (hi.get h hq) hm
    · obtain rfl:k=q:=by omega
      exact hm
  have up:∀{q:Nat} (hq:q<l.length),Op.bytesLess (GP.key l[q]) x=false→∀k (h:k<l.length),q≤k→Op.bytesLess (GP.key l[k]) x=false:=fun{q} hq hm k hk hle=>by
    rcases Nat.lt_or_ge q k with h|h
    · cases h3:Op.bytesLess (GP.key l[k]) x
      · rfl
      · have:=(G7).tr _ _ _ (hi.get h hk) h3
        rw[hm]at this;cases this
    · obtain rfl:k=q:=by omega
      exact hm
  (conv=>whnf);repeat' (first|(refine wrapU (i+j) (by omega) (by omega) ?_;conv=>whnf)|(apply KJ;(· exact shrE _);conv=>whnf)|(refine BM cloP ?_;rintro _ rfl;conv=>whnf)|((with_reducible first|apply kN|apply kW|apply kX|apply kG|apply kQ);(· exact sd);conv=>whnf)|(refine DW.mk ?_ ?_<;>intro hc<;>(try rw[List.length_nil]at hc)<;>first|(exfalso;omega)|(exact absurd rfl hc)|conv=>whnf)|(refine CB ?_ ?_<;>intro hc<;>conv=>whnf))
  all_goals first
    |exact again.mk ⟨_,by omega,(i+j) / 2+1,j,rfl,by omega,hj,rfl,rfl,lo (by omega) (cS_bl hc),h2⟩
    |exact again.mk ⟨_,by omega,i,(i+j) / 2,rfl,by omega,by omega,rfl,rfl,h1,up (by omega) (cS_nbl hc)⟩
    |skip
  all_goals
    obtain rfl:i=j:=by omega
    have ha:AtK Op.bytesLess GP.key x l i:=⟨by omega,h1,h2⟩
    have hf:=fin i ha
    first
      |exact⟨i,_,rfl,ha,fun _=>hf.2 ⟨by omega,ABX.1 hc⟩,fun _=>rfl⟩
      |exact⟨i,_,rfl,ha,fun h=>(by cases h),fun h=>(by obtain⟨_,e⟩:=hf.1 h;exact absurd (ABX.2 e) hc)⟩
      |exact⟨i,_,rfl,ha,fun h=>(by cases h),fun h=>by obtain⟨e,_⟩:=hf.1 h;omega⟩
      | (trace_state; fail "bs")
theorem AeM {x y:List UInt8}:D8 (Dx tab) 214 [.str x,.str y] (· =.bool (Op.bytesLess x y)):=by
  refine Lu rfl rfl ?_
  (conv=>whnf);repeat' (first|(refine BM AWE ?_;rintro _ rfl;conv=>whnf)|((with_reducible first|apply kN|apply kW|apply kX|apply kG|apply kQ);(· exact sd);conv=>whnf)|(refine DW.mk ?_ ?_<;>intro hc<;>(try rw[List.length_nil]at hc)<;>first|(exfalso;omega)|(exact absurd rfl hc)|conv=>whnf)|(refine CB ?_ ?_<;>intro hc<;>conv=>whnf))
  all_goals first | (rw [hc]; rfl) | rfl | (exfalso; simp_all; done) | (trace_state; fail "lessS")
theorem AXr {x:List UInt8}:D8 (Dx tab) 215 [.str x] (· =.bool false):=by
  refine Lu rfl rfl ?_
  (conv=>whnf);repeat' (first  |((with_reducible first|apply kN|apply kW|apply kX|apply kG|apply kQ);(· exact sd);conv=>whnf)|(refine DW.mk ?_ ?_<;>intro hc<;>(try rw[List.length_nil]at hc)<;>first|(exfalso;omega)|(exact absurd rfl hc)|conv=>whnf)|(refine CB ?_ ?_<;>intro hc<;>conv=>whnf))
  all_goals first | rfl | (exfalso; simp_all) | (trace_state; fail "nan2")
theorem bsS {l:List (List UInt8)} {nn:Bool} {x:(List UInt8)} (hl:l.length<2^62) (hi:Inc Op.bytesLess id l):D8 (Dx tab) 146 [.sl nn (vs .str l),.str x] (fun v=>∃(i:Nat) (b:Bool),v=.tup [.int .i64 i,.bool b]∧AtK Op.bytesLess id x l i∧(b=true↔∃y∈l,id y=x)):=by
  have fin:∀i:Nat,AtK Op.bytesLess id x l i→((∃ y∈l,id y=x)↔∃h:i<l.length,id l[i]=x):=by
    intro i h
    constructor
    · intro hf
      obtain⟨h1,h2,_⟩:=h.found G7 hi hf
      exact⟨h1,h2⟩
    · rintro⟨h1,h2⟩
      exact⟨_,List.getElem_mem h1,h2⟩
  refine Lu rfl rfl ?_
  (conv=>whnf);repeat' (first|((with_reducible first|apply kN|apply kW|apply kX|apply kG|apply kQ);(· exact sd);conv=>whnf)|(refine DW.mk ?_ ?_<;>intro hc<;>(try rw[List.length_nil]at hc)<;>first|(exfalso;omega)|(exact absurd rfl hc)|conv=>whnf)  |(refine CB ?_ ?_<;>intro hc<;>conv=>whnf))
  refine DK (fun m env s=>∃(i j:Nat),m=j-i∧i≤j∧j≤l.length∧env=[(0,.sl nn (vs .str l)),(1,.str x),(6,.int .i64 l.length),(7,.int .i64 i),(8,.int .i64 j)]∧s=⟨[],0⟩∧
    (∀ k (h:k<l.length),k<i→Op.bytesLess (id l[k]) x=true)∧(∀ k (h:k<l.length),j≤k→Op.bytesLess (id l[k]) x=false)) ?_ _ _ _ ⟨0,l.length,rfl,by omega,by omega,by simp,rfl,fun k _ h=>absurd h (by omega),fun k h1 h=>absurd h (by omega)⟩
  rintro _ _ _ ⟨i,j,rfl,hij,hj,rfl,rfl,h1,h2⟩
  refine⟨rfl,?_⟩
  have lo:∀{q:Nat} (hq:q<l.length),Op.bytesLess (id l[q]) x=true→∀k (h:k<l.length),k<q+1→Op.bytesLess (id l[k]) x=true:=fun{q} hq hm k hk hlt=>by
    rcases Nat.lt_or_ge k q with h|h
    · exact(G7).tr _ _ _ (hi.get h hq) hm
    · obtain rfl:k=q:=by omega
      exact hm
  have up:∀{q:Nat} (hq:q<l.length),Op.bytesLess (id l[q]) x=false→∀k (h:k<l.length),q≤k→Op.bytesLess (id l[k]) x=false:=fun{q} hq hm k hk hle=>by
    rcases Nat.lt_or_ge q k with h|h
    · cases h3:Op.bytesLess (id l[k]) x
      · rfl
      · have:=(G7).tr _ _ _ (hi.get h hk) h3
        rw[hm]at this;cases this
    · obtain rfl:k=q:=by omega
      exact hm
  (conv=>whnf);repeat' (first|(refine wrapU (i+j) (by omega) (by omega) ?_;conv=>whnf)|(apply KJ;(· exact shrE _);conv=>whnf)|(refine BM AeM ?_;rintro _ rfl;conv=>whnf)|(refine BM AXr ?_;rintro _ rfl;conv=>whnf)|(refine CB (fun hb=>?_) (fun hb=>?_)<;>conv=>whnf)|((with_reducible first|apply kN|apply kW|apply kX|apply kG|apply kQ);(· exact sd);conv=>whnf)|(refine DW.mk ?_ ?_<;>intro hc<;>(try rw[List.length_nil]at hc)<;>first|(exfalso;omega)|(exact absurd rfl hc)|conv=>whnf)|(refine CB ?_ ?_<;>intro hc<;>conv=>whnf))
  all_goals first
    |exact again.mk ⟨_,by omega,(i+j) / 2+1,j,rfl,by omega,hj,rfl,rfl,lo (by omega) hb,h2⟩
    |exact again.mk ⟨_,by omega,i,(i+j) / 2,rfl,by omega,by omega,rfl,rfl,h1,up (by omega) hb⟩
    |skip
  all_goals
    obtain rfl:i=j:=by omega
    have ha:AtK Op.bytesLess id x l i:=⟨by omega,h1,h2⟩
    have hf:=fin i ha
    first
      |exact⟨i,_,rfl,ha,fun _=>hf.2 ⟨by omega,hc⟩,fun _=>rfl⟩
      |exact⟨i,_,rfl,ha,fun h=>(by cases h),fun h=>by obtain⟨_,e⟩:=hf.1 h;exact absurd e hc⟩
      |exact⟨i,_,rfl,ha,fun h=>(by cases h),fun h=>by obtain⟨e,_⟩:=hf.1 h;omega⟩
      | (trace_state; fail "bs")
theorem calls_ext {AP:Nat→Option AFn} {f:Nat} {sp:List AV→Sto→Option (AX5×Sto)} {args:List AV} {s s':Sto} {out:AX5} {K:AX5→Sto→Prop} (hf:AP f=some (.ext sp)) (h:sp args s=some (out,s')) (hK:K out s'):H6 AP f args s K:=
  ⟨1,out,s',by simp only[run,hf];exact h,hK⟩
theorem mustT {e:Int} {s:Sto} {K:AX5→Sto→Prop} (h:K (.ok (.tup [])) s):H6 (Dx tab) 143 [.bool true,.int .i64 e] s K:=by
  refine FH rfl rfl ?_
  (conv=>whnf);repeat' (first  |((with_reducible first|apply kN|apply kW|apply kX|apply kG|apply kQ);(· exact sd);conv=>whnf)|(refine DW.mk ?_ ?_<;>intro hc<;>(try rw[List.length_nil]at hc)<;>first|(exfalso;omega)|(exact absurd rfl hc)|conv=>whnf)|(refine CB ?_ ?_<;>intro hc<;>conv=>whnf))
  exact h
theorem mustF {e:Int} {s:Sto} {K:AX5→Sto→Prop} (h:K (.pan (.iface 115 (.int .i64 e))) s):H6 (Dx tab) 143 [.bool false,.int .i64 e] s K:=by
  refine FH rfl rfl ?_
  (conv=>whnf);repeat' (first  |((with_reducible first|apply kN|apply kW|apply kX|apply kG|apply kQ);(· exact sd);conv=>whnf)|(refine DW.mk ?_ ?_<;>intro hc<;>(try rw[List.length_nil]at hc)<;>first|(exfalso;omega)|(exact absurd rfl hc)|conv=>whnf)|(refine CB ?_ ?_<;>intro hc<;>conv=>whnf))
  exact h
theorem nodePr {g:GG} {x:Int} (hl:g.nodes.length<2^62) (hi:Inc ltI GN.id g.nodes):D8 (Dx tab) 142 [.AhL g.av.cells,.int .i64 x] (fun v=>∃(i:Nat) (b:Bool),v=.tup [.int .i64 i,.bool b]∧AtK ltI GN.id x g.nodes i∧(b=true↔∃y∈g.nodes,GN.id y=x)):=by
  refine Lu rfl rfl ?_
  (conv=>whnf);repeat' (first|(refine BM (bsN hl hi) ?_;rintro _ ⟨i,b,rfl,h1,h2⟩;conv=>whnf)|((with_reducible first|apply kN|apply kW|apply kX|apply kG|apply kQ);(· exact sd);conv=>whnf)|(refine DW.mk ?_ ?_<;>intro hc<;>(try rw[List.length_nil]at hc)<;>first|(exfalso;omega)|(exact absurd rfl hc)|conv=>whnf)|(refine CB ?_ ?_<;>intro hc<;>conv=>whnf))
  all_goals exact⟨i,_,rfl,h1,by rw[hc]at h2;exact h2⟩
theorem edgePr {g:GG} {x:Int} (hl:g.edges.length<2^62) (hi:Inc ltI GE.id g.edges):D8 (Dx tab) 150 [.AhL g.av.cells,.int .i64 x] (fun v=>∃(i:Nat) (b:Bool),v=.tup [.int .i64 i,.bool b]∧AtK ltI GE.id x g.edges i∧(b=true↔∃y∈g.edges,GE.id y=x)):=by
  refine Lu rfl rfl ?_
  (conv=>whnf);repeat' (first|(refine BM (bsE hl hi) ?_;rintro _ ⟨i,b,rfl,h1,h2⟩;conv=>whnf)|((with_reducible first|apply kN|apply kW|apply kX|apply kG|apply kQ);(· exact sd);conv=>whnf)|(refine DW.mk ?_ ?_<;>intro hc<;>(try rw[List.length_nil]at hc)<;>first|(exfalso;omega)|(exact absurd rfl hc)|conv=>whnf)|(refine CB ?_ ?_<;>intro hc<;>conv=>whnf))
  all_goals exact⟨i,_,rfl,h1,by rw[hc]at h2;exact h2⟩
end AI
end Go.Proofs.YtnbibfalljlmfaaGreatDoor
