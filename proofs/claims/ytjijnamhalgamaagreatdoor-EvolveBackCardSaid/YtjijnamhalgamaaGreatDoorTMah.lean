/- Scripts between graphs: what they are, in plain lists. The reference's order of a value and null. The order of values: the program's walks. The order of values: the reference's walks. Graphs alike: the program's way and the reference's. The graph that an editor edits, in the store: nodes and edges with lists of their own. Looking up a key in nodes: slices.BinarySearchFunc, on memory that stays. Looking up a key in edges: slices.BinarySearchFunc, on memory that stays. Looking up a key in properties: slices.BinarySearchFunc, on memory that stays. Looking up a key in strings: slices.BinarySearch, on memory that stays. A call of an entry that the model answers. Walks through what an editor calls: must, node, edge. -/
import Derived.Test.YtjijnamhalgamaaGreatDoorTMad
import Derived.Test.YtjijnamhalgamaaGreatDoorTMag
import Derived.Test.YtjijnamhalgamaaGreatDoorTMae
import Derived.Test.YtjijnamhalgamaaGreatDoorTMaf
import Derived.Test.YtjijnamhalgamaaGreatDoorBMaa
import Derived.Test.YtjijnamhalgamaaGreatDoorBVa
set_option linter.unusedVariables false
set_option maxRecDepth 4000
namespace Go.Proofs.YtjijnamhalgamaaGreatDoor
namespace AI
def Z0:GV:=⟨0,0,0,[],false,[]⟩
def mkC (op id:Int) (name:List UInt8):GC:=⟨op,id,0,0,name,Z0⟩
def newE (x:GE):GC:=⟨6,x.id,x.fr,x.to,x.ty,Z0⟩
def cl (b:Bool) (x:AV):AV:=bif b then .agg [x]else x
theorem AgR {v:GV} (h:Dx v):VV 8 v:=by
 obtain⟨h1,h2,h3⟩:=h
 refine .inl ⟨h2,?_⟩
 rcases h3 with⟨a,b,c⟩|⟨a,b,c⟩|⟨a,b,c⟩
 ·exact .inr (.inl ⟨a,c,h1,b⟩)
 ·exact .inr (.inr (.inl ⟨a,c,h1,b⟩))
 ·exact .inr (.inr (.inr (.inr (.inl ⟨a,b,h1,c⟩))))
def clsR (k:Int):Int:=if k=0 then 0 else if k=1 then 1 else if k=2∨k=3 then 2 else if k=4 then 3 else if k=5 then 4 else if k=6 then 5 else if k=8 then 6 else 7
theorem clsR0 {k:Int}:clsR k=0↔k=0:=by
 unfold clsR
 constructor
 ·intro h
  repeat' split at h
  all_goals first|assumption|omega
 ·intro h;rw[if_pos h]
theorem AlG {k:Int}:Ae (Ad tab) 94 [.int .i64 k] (· =.int .i64 (clsR k)):=by
 refine Ac rfl rfl ?_
 (conv=>whnf);repeat' (first|((first|refine kA ?_|(apply Br.mk<;>intro hc))<;>first|exact hc.elim|conv=>whnf)|refine kB ?_)
 all_goals first
  |rfl
  |(unfold clsR;repeat' split
    all_goals first|rfl|omega)
theorem validK0 {v:GV} (hv:v.ok) (hk:v.k=0) {n:Int}:Ae (Ad tab) 154 [v.av,.int .i64 n] (· =.bool (decide (AaO v))):=by
 have hl:=hv.2.2.2.2.1
 unfold Ln at hl
 refine Ac rfl rfl ?_
 (conv=>whnf);repeat' (first|((first|refine Aq (AaD (v:=v) (n:=false) (d:=false) (s:=false) (l:=false) hl) (fun hb=>?_) (fun hb=>?_)|refine kA ?_|(apply Br.mk<;>intro hc))<;>first|exact hc.elim|conv=>whnf)|refine kB ?_)
 ·unfold Pq at hb
  exact Bd ⟨hk,hb.1.resolve_left (by decide),hb.2.1.resolve_left (by decide),hb.2.2.1.resolve_left (by decide),hb.2.2.2.resolve_left (by decide)⟩
 ·unfold Pq at hb
  exact Au fun h=>hb ⟨.inr h.2.1,.inr h.2.2.1,.inr h.2.2.2.1,.inr h.2.2.2.2⟩
theorem validRN {v:GV} (hv:v.ok):Ae (Ad tab) 90 [v.av] (fun w=>∃b,w=.bool b∧(AaO v→b=true)∧(b=true→v.k=0→AaO v)):=by
 by_cases hk:v.k=0
 ·refine Ac rfl rfl ?_
  (conv=>whnf);repeat' (first|((first|refine Aq (validK0 hv hk) (fun hb=>?_) (fun hb=>?_)|refine kA ?_|(apply Br.mk<;>intro hc))<;>first|exact hc.elim|conv=>whnf)|refine kB ?_)
  ·exact⟨_,rfl,fun _=>rfl,fun _ _=>hb⟩
  ·exact⟨_,rfl,fun h=>absurd h hb,fun h=>Bool.noConfusion h⟩
 ·obtain⟨_,⟨b,rfl⟩,h⟩:=(Abu hv).KI
  refine Ac rfl rfl ?_
  (conv=>whnf);repeat' (first|((first|(refine Aa (valid (n:=8) (by omega) hv) ?_;rintro _ ⟨b,rfl⟩)|refine kA ?_|(apply Br.mk<;>intro hc))<;>first|exact hc.elim|conv=>whnf)|refine kB ?_)
  all_goals exact⟨_,rfl,fun h=>absurd h.1 hk,fun _ h=>absurd h hk⟩
theorem intsR {a b:Int}:Ae (Ad tab) 93 [.int .i64 a,.int .i64 b] (fun v=>∃z,v=.int .i64 z∧(z=0↔a=b)):=by
 refine Ac rfl rfl ?_
 (conv=>whnf);repeat' (first|((first|refine kA ?_|(apply Br.mk<;>intro hc))<;>first|exact hc.elim|conv=>whnf)|refine kB ?_)
 all_goals exact⟨_,rfl,by omega⟩
theorem fieldsZ {v:GV} (h:AaO v):Ae (Ad tab) 92 [v.av,XO.av] (· =.int .i64 0):=by
 obtain⟨k,n,d,s,nn,l⟩:=v
 obtain⟨h1,h2,h3,h4,h5⟩:=h
 dsimp only at h1 h2 h3 h4 h5
 subst h1 h2 h3 h4
 obtain rfl:l=[]:=List.eq_nil_of_length_eq_zero h5
 have hl:Ae (Ad tab) 156 [.sl nn [],.sl false []] (· =.int .i64 0):=by
  refine Ac rfl rfl ?_
  (conv=>whnf);repeat' (first|((first|refine kA ?_|(apply Br.mk<;>intro hc))<;>first|exact hc.elim|conv=>whnf)|refine kB ?_)
  refine Ag (fun m env s=>m=0∧env=[(0,.sl nn []),(1,.sl false []),(5,.int .i64 0)]∧s=⟨[],0⟩) ?_ _ _ _ ⟨rfl,rfl,rfl⟩
  rintro _ _ _ ⟨rfl,rfl,rfl⟩
  refine⟨rfl,?_⟩
  (conv=>whnf);repeat' (first|((first|apply kE AlH|refine kA ?_|(apply Br.mk<;>intro hc))<;>first|exact hc.elim|conv=>whnf)|refine kB ?_)
  all_goals rfl
 refine Ac rfl rfl ?_
 (conv=>whnf);repeat' (first|((first|apply kE AlH|apply kE strs0|apply kE hl|refine kA ?_|(apply Br.mk<;>intro hc))<;>first|exact hc.elim|conv=>whnf)|refine kB ?_)
 all_goals rfl
theorem numberR {g:GV} (hg:g.ok):Ae (Ad tab) 95 [g.av] (fun v=>∃n d b,v=.BD [.agg [.int .i64 n,.int .i64 d],.bool b]∧(b=true→g.k=2∨g.k=3)):=by
 refine Ac rfl rfl ?_
 (conv=>whnf);repeat' (first|((first|(refine Aa (Abu hg) ?_;rintro _ ⟨b,rfl⟩)|refine kA ?_|(apply Br.mk<;>intro hc))<;>first|exact hc.elim|conv=>whnf)|refine kB ?_)
 all_goals first|exact⟨_,_,_,rfl,fun h=>Bool.noConfusion h⟩|exact⟨_,_,_,rfl,fun _=>by omega⟩
theorem yesF:Ae (Ad tab) 91 [.bool false] (· =.int .i64 0):=by
 refine Ac rfl rfl ?_
 (conv=>whnf);repeat' (first|((first|refine kA ?_|(apply Br.mk<;>intro hc))<;>first|exact hc.elim|conv=>whnf)|refine kB ?_)
 rfl
theorem orderRN {v:GV} (hv:v.ok):Ae (Ad tab) 43 [v.av,XO.av] (fun w=>∃z,w=.int .i64 z∧(z=0↔AaO v)):=by
 obtain⟨_,⟨b,rfl,v1,v2⟩,hV⟩:=(validRN hv).KI
 obtain⟨_,⟨b0,rfl,w1,_⟩,hV0⟩:=(validRN AjL).KI
 obtain rfl:=w1 AdE
 obtain⟨_,⟨n,d,b2,rfl,h2⟩,hN⟩:=(numberR hv).KI
 obtain⟨_,⟨n0,d0,b3,rfl,h3⟩,hN0⟩:=(numberR AjL).KI
 obtain⟨_,⟨z,rfl,hz⟩,hI⟩:=(intsR (a:=clsR v.k) (b:=clsR XO.k)).KI
 have h0:clsR XO.k=0:=rfl
 have hzk:z=0↔v.k=0:=by rw[hz,h0];exact clsR0
 cases b with
 |false=>
  have hnn:¬AaO v:=fun h=>by have:=v1 h;cases this
  refine Ac rfl rfl ?_
  (conv=>whnf);repeat' (first|((first|apply kE hV|apply kE hV0|apply kE yesF|refine kA ?_|(apply Br.mk<;>intro hc))<;>first|exact hc.elim|conv=>whnf)|refine kB ?_)
  all_goals exact⟨_,rfl,fun h=>absurd h (by decide),fun h=>absurd h hnn⟩
 |true=>
  by_cases hk:v.k=0
  ·have hnl:=v2 rfl hk
   have hz0:=hzk.2 hk
   have hb2:b2=false:=by cases b2 with
        |false=>rfl
        |true=>have:=h2 rfl;omega
   subst hb2
   refine Ac rfl rfl ?_
   (conv=>whnf);repeat' (first|((first|apply kE hV|apply kE hV0|apply kE (AlG (k:=v.k))|apply kE (AlG (k:=XO.k))|apply kE hI|apply kE hN|apply kE hN0|apply kE (fieldsZ hnl)|refine kA ?_|(apply Br.mk<;>intro hc))<;>first|exact hc.elim|conv=>whnf)|refine kB ?_)
   all_goals exact⟨_,rfl,fun _=>hnl,fun _=>rfl⟩
  ·have hz0:=mt hzk.1 hk
   refine Ac rfl rfl ?_
   (conv=>whnf);repeat' (first|((first|apply kE hV|apply kE hV0|apply kE (AlG (k:=v.k))|apply kE (AlG (k:=XO.k))|apply kE hI|refine kA ?_|(apply Br.mk<;>intro hc))<;>first|exact hc.elim|conv=>whnf)|refine kB ?_)
   all_goals exact⟨_,rfl,fun h=>absurd h hz0,fun h=>absurd h.1 hk⟩
section
open Go.Sort
end
section
open Go.Sort
end
def Afk {α:Type} (R:α→α→Prop) (l m:List α):Prop:=l.length=m.length∧∀k (h:k<l.length) (h':k<m.length),R l[k] m[k]
noncomputable instance {α:Type} (R:α→α→Prop) (l m:List α):Decidable (Afk R l m):=Classical.propDecidable _
section
variable {α:Type} {R:α→α→Prop} {l m:List α} {i:Nat}
end
def SP (x y:GP):Prop:=x.key=y.key∧AmN 12 x.v y.v=0
def SN (x y:GN):Prop:=x.id=y.id∧x.labels=y.labels∧Afk SP x.props y.props
def SE (x y:GE):Prop:=x.id=y.id∧x.fr=y.fr∧x.to=y.to∧x.ty=y.ty∧Afk SP x.props y.props
def SG (a b:GG):Prop:=Afk SN a.nodes b.nodes∧Afk SE a.edges b.edges
noncomputable instance (x y:GP):Decidable (SP x y):=Classical.propDecidable _
noncomputable instance (x y:GN):Decidable (SN x y):=Classical.propDecidable _
noncomputable instance (x y:GE):Decidable (SE x y):=Classical.propDecidable _
noncomputable instance (x y:GG):Decidable (SG x y):=Classical.propDecidable _
theorem PZ {α:Type} {l r:List α} {i:Nat} (h:i<l.length):nth (l++r) i=nth l i:=by
 rw[AU,AU,List.getElem?_append_left h]
theorem MR {α:Type} {l:List α} {x:α}:nth (l++[x]) l.length=some x:=by
 rw[AU,List.getElem?_append_right (Nat.le_refl _)];simp
theorem G5 {α:Type} {l:List α} {i:Nat} {x y:α} (h:nth l i=some y):nth (l.set i x) i=some x:=by
 rw[AU,List.getElem?_set_self (BR h)]
theorem OJ {α:Type} {l:List α} {i j:Nat} {x:α} (h:i≠j):nth (l.set i x) j=nth l j:=by
 rw[AU,AU,List.getElem?_set_ne h]
def Rd (σ:List Obj) (D:Nat) (x y:AV):Prop:=∀m,D≤m→snap σ m x=some y
def Ky (σ:List Obj) (D:Nat) (xs ys:List AV):Prop:=∀m,D≤m→He σ m xs=some ys
theorem Rd.mono {σ:List Obj} {D D':Nat} {x y:AV} (h:Rd σ D x y) (hd:D≤D'):Rd σ D' x y:=fun m hm=>h m (by omega)
theorem Ky.mono {σ:List Obj} {D D':Nat} {x y:List AV} (h:Ky σ D x y) (hd:D≤D'):Ky σ D' x y:=fun m hm=>h m (by omega)
theorem Ky.nil {σ:List Obj}:Ky σ 0 [] []:=fun m _=>by cases m<;>rfl
theorem Ky.cons {σ:List Obj} {D:Nat} {x y:AV} {xs ys:List AV} (h:Rd σ D x y) (k:Ky σ D xs ys):Ky σ (D+1) (x::xs) (y::ys):=fun m hm=>by
 obtain⟨m,rfl⟩:∃m',m=m'+1:=⟨m-1,by omega⟩
 simp only[He,h m (by omega),k m (by omega)]
theorem Ky.map {α:Type} {σ:List Obj} {D:Nat} {f g:α→AV}:∀{l:List α},(∀ e∈l,Rd σ D (f e) (g e))→Ky σ (D+l.length) (vs f l) (vs g l)
 |[],_=>Ky.nil.mono (by omega)
 |e::l,h=>(Ky.cons ((h e (by simp)).mono (D':=D+l.length) (by omega)) (Ky.map fun x hx=>h x (by simp[hx]))).mono (by simp;omega)
theorem Rd.agg {σ:List Obj} {D:Nat} {xs ys:List AV} (h:Ky σ D xs ys):Rd σ (D+1) (.agg xs) (.agg ys):=fun m hm=>by
 obtain⟨m,rfl⟩:∃m',m=m'+1:=⟨m-1,by omega⟩
 simp only[snap,h m (by omega),Option.map_some]
theorem Rd.int {σ:List Obj} {k:IntKind} {z:Int}:Rd σ 1 (.int k z) (.int k z):=fun m hm=>by
 obtain⟨m,rfl⟩:∃m',m=m'+1:=⟨m-1,by omega⟩
 rfl
theorem Rd.str {σ:List Obj} {z:List UInt8}:Rd σ 1 (.str z) (.str z):=fun m hm=>by
 obtain⟨m,rfl⟩:∃m',m=m'+1:=⟨m-1,by omega⟩
 rfl
def Hd {α:Type} (f:α→AV) (es:Nat) (σ:List Obj) (v:AV) (b:Bool) (l:List α) (c:Bool):Prop:=
 (b=false∧l=[]∧(v=.sl false []∨∃o g es',v=.own o g 0 0∧nth σ o=some (.arr g es' false true [])))∨
 (b=true∧∃o g,v=.own o g 0 l.length∧nth σ o=some (.arr g es true c (vs f l)))
theorem Hd.lt {α:Type} {f:α→AV} {es:Nat} {σ:List Obj} {v:AV} {b c:Bool} {l:List α} (h:Hd f es σ v b l c):∀o∈v.obj,o<σ.length:=by
 intro o ho
 rcases h with⟨_,_,rfl|⟨o',g,es',rfl,h⟩⟩|⟨_,o',g,rfl,h⟩
 ·simp[AV.obj]at ho
 ·simp only[AV.obj,List.mem_singleton]at ho;subst ho;exact BR h
 ·simp only[AV.obj,List.mem_singleton]at ho;subst ho;exact BR h
theorem Hd.obj {α:Type} {f:α→AV} {es:Nat} {σ:List Obj} {v:AV} {b c:Bool} {l:List α} (h:Hd f es σ v b l c) {o:Nat} (ho:o∈v.obj):∃g es' nn c' xs,nth σ o=some (.arr g es' nn c' xs)∧(nn=true→es'=es):=by
 rcases h with⟨_,_,rfl|⟨o',g,es',rfl,h⟩⟩|⟨_,o',g,rfl,h⟩
 ·simp[AV.obj]at ho
 ·simp only[AV.obj,List.mem_singleton]at ho;subst ho;exact⟨_,_,_,_,_,h,by simp⟩
 ·simp only[AV.obj,List.mem_singleton]at ho;subst ho;exact⟨_,_,_,_,_,h,fun _=>rfl⟩
theorem Hd.keep {α:Type} {f:α→AV} {es:Nat} {σ σ':List Obj} {v:AV} {b c:Bool} {l:List α} (h:Hd f es σ v b l c) (hk:∀o∈v.obj,nth σ' o=nth σ o):Hd f es σ' v b l c:=by
 rcases h with⟨h1,h2,rfl|⟨o',g,es',rfl,h⟩⟩|⟨h1,o',g,rfl,h⟩
 ·exact .inl ⟨h1,h2,.inl rfl⟩
 ·exact .inl ⟨h1,h2,.inr ⟨o',g,es',rfl,by rw[hk o' (by simp[AV.obj]),h]⟩⟩
 ·exact .inr ⟨h1,o',g,rfl,by rw[hk o' (by simp[AV.obj]),h]⟩
theorem Hd.sn {α:Type} {f:α→AV} {es:Nat} {σ:List Obj} {v:AV} {b:Bool} {l:List α} (h:Hd f es σ v b l true):Rd σ 1 v (.sl b (vs f l)):=fun m hm=>by
 obtain⟨m,rfl⟩:∃m',m=m'+1:=⟨m-1,by omega⟩
 rcases h with⟨rfl,rfl,rfl|⟨o',g,es',rfl,h⟩⟩|⟨rfl,o',g,rfl,h⟩
 ·rfl
 ·simp[snap,h,sub,vs]
 ·have:sub (vs f l) 0 l.length=vs f l:=uV
  simp[snap,h,this]
theorem Hd.one {α:Type} {f:α→AV} {es:Nat} {σ:List Obj} {v:AV} {b c:Bool} {l:List α} (h:Hd f es σ v b l c):v.cells.length=1∧v.storable=true:=by
 rcases h with⟨_,_,rfl|⟨o',g,es',rfl,h⟩⟩|⟨_,o',g,rfl,h⟩<;>exact⟨rfl,rfl⟩
theorem Hd.bool {α:Type} {f:α→AV} {es:Nat} {σ:List Obj} {v:AV} {b c:Bool} {l:List α} (h:Hd f es σ v b l c):b=false→l=[]:=by
 rcases h with⟨_,h,_⟩|⟨h,_⟩
 ·exact fun _=>h
 ·intro h';rw[h']at h;cases h
theorem Hd.closed {α:Type} {f:α→AV} {es:Nat} {σ:List Obj} {v:AV} {b c:Bool} {l:List α} (h:Hd f es σ v b l c) (hc:v.closed=true):v=.sl false []∧b=false∧l=[]:=by
 rcases h with⟨h1,h2,rfl|⟨o',g,es',rfl,h⟩⟩|⟨_,o',g,rfl,h⟩
 ·exact⟨rfl,h1,h2⟩
 ·cases hc
 ·cases hc
structure EN where
 n:GN
 lv:AV
 pv:AV
def EN.av (e:EN):AV:=.agg [.int .i64 e.n.id,e.lv,e.pv]
def EN.objs (e:EN):List Nat:=e.lv.obj++e.pv.obj
def EN.Ok (σ:List Obj) (e:EN):Prop:=Hd .str 1 σ e.lv e.n.ln e.n.labels true∧Hd GP.av 6 σ e.pv e.n.pn e.n.props true
structure EE where
 e:GE
 pv:AV
def EE.av (e:EE):AV:=.agg [.int .i64 e.e.id,.int .i64 e.e.fr,.int .i64 e.e.to,.str e.e.ty,e.pv]
def EE.objs (e:EE):List Nat:=e.pv.obj
def EE.Ok (σ:List Obj) (e:EE):Prop:=Hd GP.av 6 σ e.pv e.e.pn e.e.props true
def Bz (N:List EN) (E:List EE):List Nat:=N.flatMap EN.objs++E.flatMap EE.objs
structure Ed (σ:List Obj) (d gd:Nat) (vN vE:AV) (nb eb:Bool) (N:List EN) (E:List EE) (x y:Int):Prop where
 box:nth σ d=some (.arr gd 4 true false [.agg [vN,vE,.int .i64 x,.int .i64 y]])
 hn:∃c,Hd EN.av 3 σ vN nb N c∧(c=true→∀e∈N,e.av.closed=true)
 he:∃c,Hd EE.av 5 σ vE eb E c∧(c=true→∀e∈E,e.av.closed=true)
 hN:∀e∈N,e.Ok σ
 hE:∀e∈E,e.Ok σ
 nd:(d::(vN.obj++(vE.obj++Bz N E))).Nodup
 oN:vN≠.sl false []
 oE:vE≠.sl false []
def J4 (nb eb:Bool) (N:List EN) (E:List EE) (x y:Int):GG:=⟨nb,N.map EN.n,eb,E.map EE.e,x,y⟩
theorem EN.sn {σ:List Obj} {e:EN} (h:e.Ok σ):Rd σ 5 e.av e.n.av:=
 Rd.agg (Ky.cons (Rd.int.mono (by omega)) (Ky.cons (h.1.sn.mono (by omega)) (Ky.cons (h.2.sn.mono (D':=1) (by omega)) (Ky.nil.mono (D':=1) (by omega)))))
theorem EE.sn {σ:List Obj} {e:EE} (h:e.Ok σ):Rd σ 7 e.av e.e.av:=
 Rd.agg (Ky.cons (Rd.int.mono (by omega)) (Ky.cons (Rd.int.mono (by omega)) (Ky.cons (Rd.int.mono (by omega)) (Ky.cons (Rd.str.mono (by omega)) (Ky.cons (h.sn.mono (D':=1) (by omega)) (Ky.nil.mono (D':=1) (by omega)))))))
theorem Hd.snE {α:Type} {f g:α→AV} {es D:Nat} {σ:List Obj} {v:AV} {b c:Bool} {l:List α} (h:Hd f es σ v b l c) (hs:∀e∈l,Rd σ D (f e) (g e)) (hc:c=true→∀e∈l,f e=g e):Rd σ (D+l.length+1) v (.sl b (vs g l)):=fun m hm=>by
 obtain⟨m,rfl⟩:∃m',m=m'+1:=⟨m-1,by omega⟩
 rcases h with⟨rfl,rfl,rfl|⟨o',g,es',rfl,h⟩⟩|⟨rfl,o',g',rfl,h⟩
 ·rfl
 ·simp[snap,h,sub,vs]
 ·have e1:sub (vs f l) 0 l.length=vs f l:=uV
  cases c with
  |false=>
   have:=Ky.map hs m (by omega)
   simp[snap,h,e1,this]
  |true=>
   have e2:vs f l=vs g l:=List.map_congr_left (hc rfl)
   simp[snap,h,e2,show sub (vs g l) 0 l.length=vs g l from uV]
theorem EN.QC {σ:List Obj} {e:EN} (h:e.Ok σ) (hc:e.av.closed=true):e.av=e.n.av:=by
 simp only[EN.av,AV.closed,DK,Bool.and_eq_true,Bool.and_true]at hc
 obtain⟨a1,a2,a3⟩:=h.1.closed hc.2.1
 obtain⟨b1,b2,b3⟩:=h.2.closed hc.2.2
 simp[EN.av,GN.av,a1,a2,a3,b1,b2,b3,vs]
theorem EE.QC {σ:List Obj} {e:EE} (h:e.Ok σ) (hc:e.av.closed=true):e.av=e.e.av:=by
 simp only[EE.av,AV.closed,DK,Bool.and_eq_true,Bool.and_true]at hc
 obtain⟨b1,b2,b3⟩:=h.closed hc.2.2.2.2
 simp[EE.av,GE.av,b1,b2,b3,vs]
section
variable {σ σ':List Obj} {d gd:Nat} {vN vE:AV} {nb eb:Bool} {N:List EN} {E:List EE} {x y:Int}
theorem Ed.snN (h:Ed σ d gd vN vE nb eb N E x y):Rd σ (5+N.length+1) vN (.sl nb (vs GN.av (N.map EN.n))):=by
 obtain⟨c,h1,h2⟩:=h.hn
 have:=h1.snE (g:=fun e=>e.n.av) (D:=5) (fun e he=>EN.sn (h.hN e he)) (fun hc e he=>EN.QC (h.hN e he) (h2 hc e he))
 simpa[vs,Function.comp_def]using this
theorem Ed.snE (h:Ed σ d gd vN vE nb eb N E x y):Rd σ (7+E.length+1) vE (.sl eb (vs GE.av (E.map EE.e))):=by
 obtain⟨c,h1,h2⟩:=h.he
 have:=h1.snE (g:=fun e=>e.e.av) (D:=7) (fun e he=>EE.sn (h.hE e he)) (fun hc e he=>EE.QC (h.hE e he) (h2 hc e he))
 simpa[vs,Function.comp_def]using this
theorem Ed.snL (h:Ed σ d gd vN vE nb eb N E x y):Ky σ (20+N.length+E.length) [vN,vE,.int .i64 x,.int .i64 y] [.sl nb (vs GN.av (N.map EN.n)),.sl eb (vs GE.av (E.map EE.e)),.int .i64 x,.int .i64 y]:=
 (Ky.cons (h.snN.mono (D':=N.length+E.length+15) (by omega)) (Ky.cons (h.snE.mono (D':=N.length+E.length+14) (by omega)) (Ky.cons (Rd.int.mono (D':=N.length+E.length+13) (by omega)) (Ky.cons (Rd.int.mono (D':=N.length+E.length+12) (by omega)) (Ky.nil.mono (by omega)))))).mono (by omega)
theorem Ed.snG (h:Ed σ d gd vN vE nb eb N E x y):Rd σ (21+N.length+E.length) (.agg [vN,vE,.int .i64 x,.int .i64 y]) (J4 nb eb N E x y).av:=(Rd.agg h.snL).mono (by omega)
theorem Ed.QY (h:Ed σ d gd vN vE nb eb N E x y):Rd σ (21+N.length+E.length) (.ref d gd 0 0) (.CJ (J4 nb eb N E x y).av.cells):=fun m hm=>by
 obtain⟨m,rfl⟩:∃m',m=m'+1:=⟨m-1,by omega⟩
 have:=h.snL m (by omega)
 simp[snap,h.box,nth,AV.cells,this,J4,GG.av]
end
theorem Aai {a b:Int} (h:GK a b<0):DY a b=true:=by simpa[DY]using OV.1 h
theorem Aaj {a b:Int} (h:¬GK a b<0):DY a b=false:=by simpa[DY]using mt OV.2 h
theorem An5 {n:GN} {x:Int}:Ae (Ad tab) 247 [n.av,.int .i64 x] (· =.int .i64 (GK n.id x)):=by
 refine Ac rfl rfl ?_
 (conv=>whnf);repeat' (first|((first|refine kA ?_|(apply Br.mk<;>intro hc)|refine kE compare ?_)<;>first|exact hc.elim|conv=>whnf)|refine kB ?_)
 rfl
theorem bsN {l:List GN} {nn:Bool} {x:Int} (hl:l.length<2^62) (hi:Inc DY GN.id l):Ae (Ad tab) 171 [.sl nn (vs GN.av l),.int .i64 x,.fn 247 []] (fun v=>∃(i:Nat) (b:Bool),v=.BD [.int .i64 i,.bool b]∧AtK DY GN.id x l i∧(b=true↔∃y∈l,GN.id y=x)):=by
 have fin:∀i:Nat,AtK DY GN.id x l i→((∃ y∈l,GN.id y=x)↔∃h:i<l.length,GN.id l[i]=x):=by
  intro i h
  constructor
  ·intro hf
   obtain⟨h1,h2,_⟩:=h.found Aw hi hf
   exact⟨h1,h2⟩
  ·rintro⟨h1,h2⟩
   exact⟨_,List.getElem_mem h1,h2⟩
 refine Ac rfl rfl ?_
 (conv=>whnf);repeat' (first|((first|refine kA ?_|(apply Br.mk<;>intro hc))<;>first|exact hc.elim|conv=>whnf)|refine kB ?_)
 refine Ag (fun m env s=>∃(i j:Nat),m=j-i∧i≤j∧j≤l.length∧env=[(0,.sl nn (vs GN.av l)),(1,.int .i64 x),(2,.fn 247 []),(8,.int .i64 l.length),(9,.int .i64 i),(10,.int .i64 j)]∧s=⟨[],0⟩∧
  (∀ k (h:k<l.length),k<i→DY (GN.id l[k]) x=true)∧(∀ k (h:k<l.length),j≤k→DY (GN.id l[k]) x=false)) ?_ _ _ _ ⟨0,l.length,rfl,by omega,by omega,by simp,rfl,fun k _ h=>absurd h (by omega),fun k h1 h=>absurd h (by omega)⟩
 rintro _ _ _ ⟨i,j,rfl,hij,hj,rfl,rfl,h1,h2⟩
 refine⟨rfl,?_⟩
 have lo:∀{q:Nat} (hq:q<l.length),DY (GN.id l[q]) x=true→∀k (h:k<l.length),k<q+1→DY (GN.id l[k]) x=true:=fun{q} hq hm k hk hlt=>by
  rcases Nat.lt_or_ge k q with h|h
  ·exact(Aw).tr _ _ _ (hi.get h hq) hm
  ·obtain rfl:k=q:=by omega
   exact hm
 have up:∀{q:Nat} (hq:q<l.length),DY (GN.id l[q]) x=false→∀k (h:k<l.length),q≤k→DY (GN.id l[k]) x=false:=fun{q} hq hm k hk hle=>by
  rcases Nat.lt_or_ge q k with h|h
  ·cases h3:DY (GN.id l[k]) x
   ·rfl
   ·have:=(Aw).tr _ _ _ (hi.get h hk) h3
    rw[hm]at this;cases this
  ·obtain rfl:k=q:=by omega
   exact hm
 (conv=>whnf);repeat' (first|((first|refine UQ (i+j) (by omega) (by omega) ?_|(apply Cb;(· exact Abr _))|apply kE An5|refine kA ?_|(apply Br.mk<;>intro hc))<;>first|exact hc.elim|conv=>whnf)|refine kB ?_)
 all_goals first
  |exact again.mk ⟨_,by omega,(i+j) / 2+1,j,rfl,by omega,hj,rfl,rfl,lo (by omega) (Aai hc),h2⟩
  |exact again.mk ⟨_,by omega,i,(i+j) / 2,rfl,by omega,by omega,rfl,rfl,h1,up (by omega) (Aaj hc)⟩
  |skip
 all_goals
  obtain rfl:i=j:=by omega
  have ha:AtK DY GN.id x l i:=⟨by omega,h1,h2⟩
  have hf:=fin i ha
  first
   |exact⟨i,_,rfl,ha,fun _=>hf.2 ⟨by omega,Gj.1 hc⟩,fun _=>rfl⟩
   |exact⟨i,_,rfl,ha,fun h=>(by cases h),fun h=>(by obtain⟨_,e⟩:=hf.1 h;exact absurd (Gj.2 e) hc)⟩
   |exact⟨i,_,rfl,ha,fun h=>(by cases h),fun h=>by obtain⟨e,_⟩:=hf.1 h;omega⟩
theorem AoR {n:GE} {x:Int}:Ae (Ad tab) 259 [n.av,.int .i64 x] (· =.int .i64 (GK n.id x)):=by
 refine Ac rfl rfl ?_
 (conv=>whnf);repeat' (first|((first|refine kA ?_|(apply Br.mk<;>intro hc)|refine kE compare ?_)<;>first|exact hc.elim|conv=>whnf)|refine kB ?_)
 rfl
theorem bsE {l:List GE} {nn:Bool} {x:Int} (hl:l.length<2^62) (hi:Inc DY GE.id l):Ae (Ad tab) 258 [.sl nn (vs GE.av l),.int .i64 x,.fn 259 []] (fun v=>∃(i:Nat) (b:Bool),v=.BD [.int .i64 i,.bool b]∧AtK DY GE.id x l i∧(b=true↔∃y∈l,GE.id y=x)):=by
 have fin:∀i:Nat,AtK DY GE.id x l i→((∃ y∈l,GE.id y=x)↔∃h:i<l.length,GE.id l[i]=x):=by
  intro i h
  constructor
  ·intro hf
   obtain⟨h1,h2,_⟩:=h.found Aw hi hf
   exact⟨h1,h2⟩
  ·rintro⟨h1,h2⟩
   exact⟨_,List.getElem_mem h1,h2⟩
 refine Ac rfl rfl ?_
 (conv=>whnf);repeat' (first|((first|refine kA ?_|(apply Br.mk<;>intro hc))<;>first|exact hc.elim|conv=>whnf)|refine kB ?_)
 refine Ag (fun m env s=>∃(i j:Nat),m=j-i∧i≤j∧j≤l.length∧env=[(0,.sl nn (vs GE.av l)),(1,.int .i64 x),(2,.fn 259 []),(8,.int .i64 l.length),(9,.int .i64 i),(10,.int .i64 j)]∧s=⟨[],0⟩∧
  (∀ k (h:k<l.length),k<i→DY (GE.id l[k]) x=true)∧(∀ k (h:k<l.length),j≤k→DY (GE.id l[k]) x=false)) ?_ _ _ _ ⟨0,l.length,rfl,by omega,by omega,by simp,rfl,fun k _ h=>absurd h (by omega),fun k h1 h=>absurd h (by omega)⟩
 rintro _ _ _ ⟨i,j,rfl,hij,hj,rfl,rfl,h1,h2⟩
 refine⟨rfl,?_⟩
 have lo:∀{q:Nat} (hq:q<l.length),DY (GE.id l[q]) x=true→∀k (h:k<l.length),k<q+1→DY (GE.id l[k]) x=true:=fun{q} hq hm k hk hlt=>by
  rcases Nat.lt_or_ge k q with h|h
  ·exact(Aw).tr _ _ _ (hi.get h hq) hm
  ·obtain rfl:k=q:=by omega
   exact hm
 have up:∀{q:Nat} (hq:q<l.length),DY (GE.id l[q]) x=false→∀k (h:k<l.length),q≤k→DY (GE.id l[k]) x=false:=fun{q} hq hm k hk hle=>by
  rcases Nat.lt_or_ge q k with h|h
  ·cases h3:DY (GE.id l[k]) x
   ·rfl
   ·have:=(Aw).tr _ _ _ (hi.get h hk) h3
    rw[hm]at this;cases this
  ·obtain rfl:k=q:=by omega
   exact hm
 (conv=>whnf);repeat' (first|((first|refine UQ (i+j) (by omega) (by omega) ?_|(apply Cb;(· exact Abr _))|apply kE AoR|refine kA ?_|(apply Br.mk<;>intro hc))<;>first|exact hc.elim|conv=>whnf)|refine kB ?_)
 all_goals first
  |exact again.mk ⟨_,by omega,(i+j) / 2+1,j,rfl,by omega,hj,rfl,rfl,lo (by omega) (Aai hc),h2⟩
  |exact again.mk ⟨_,by omega,i,(i+j) / 2,rfl,by omega,by omega,rfl,rfl,h1,up (by omega) (Aaj hc)⟩
  |skip
 all_goals
  obtain rfl:i=j:=by omega
  have ha:AtK DY GE.id x l i:=⟨by omega,h1,h2⟩
  have hf:=fin i ha
  first
   |exact⟨i,_,rfl,ha,fun _=>hf.2 ⟨by omega,Gj.1 hc⟩,fun _=>rfl⟩
   |exact⟨i,_,rfl,ha,fun h=>(by cases h),fun h=>(by obtain⟨_,e⟩:=hf.1 h;exact absurd (Gj.2 e) hc)⟩
   |exact⟨i,_,rfl,ha,fun h=>(by cases h),fun h=>by obtain⟨e,_⟩:=hf.1 h;omega⟩
theorem AA:Tq Op.bytesLess where
 irr:=fun x=>by rw[RI];simp
 tr:=fun x y z h1 h2=>by rw[RI]at *;simp only[decide_eq_true_eq]at *;exact List.lt_trans h1 h2
 tot:=fun x y h1 h2=>ZK h1 h2
theorem AmK {a b:List UInt8} (h:cS a b<0):Op.bytesLess a b=true:=by
 unfold cS at h
 split at h
 ·assumption
 ·split at h<;>omega
theorem Akl {a b:List UInt8} (h:¬cS a b<0):Op.bytesLess a b=false:=by
 cases h1:Op.bytesLess a b
 ·rfl
 ·exact absurd (by unfold cS;rw[if_pos h1];omega) h
theorem AoJ {n:GP} {x:List UInt8}:Ae (Ad tab) 255 [n.av,.str x] (· =.int .i64 (cS n.key x)):=by
 refine Ac rfl rfl ?_
 (conv=>whnf);repeat' (first|((first|refine kA ?_|(apply Br.mk<;>intro hc)|refine kE Xx ?_)<;>first|exact hc.elim|conv=>whnf)|refine kB ?_)
 rfl
theorem bsP {l:List GP} {nn:Bool} {x:(List UInt8)} (hl:l.length<2^62) (hi:Inc Op.bytesLess GP.key l):Ae (Ad tab) 254 [.sl nn (vs GP.av l),.str x,.fn 255 []] (fun v=>∃(i:Nat) (b:Bool),v=.BD [.int .i64 i,.bool b]∧AtK Op.bytesLess GP.key x l i∧(b=true↔∃y∈l,GP.key y=x)):=by
 have fin:∀i:Nat,AtK Op.bytesLess GP.key x l i→((∃ y∈l,GP.key y=x)↔∃h:i<l.length,GP.key l[i]=x):=by
  intro i h
  constructor
  ·intro hf
   obtain⟨h1,h2,_⟩:=h.found AA hi hf
   exact⟨h1,h2⟩
  ·rintro⟨h1,h2⟩
   exact⟨_,List.getElem_mem h1,h2⟩
 refine Ac rfl rfl ?_
 (conv=>whnf);repeat' (first|((first|refine kA ?_|(apply Br.mk<;>intro hc))<;>first|exact hc.elim|conv=>whnf)|refine kB ?_)
 refine Ag (fun m env s=>∃(i j:Nat),m=j-i∧i≤j∧j≤l.length∧env=[(0,.sl nn (vs GP.av l)),(1,.str x),(2,.fn 255 []),(8,.int .i64 l.length),(9,.int .i64 i),(10,.int .i64 j)]∧s=⟨[],0⟩∧
  (∀ k (h:k<l.length),k<i→Op.bytesLess (GP.key l[k]) x=true)∧(∀ k (h:k<l.length),j≤k→Op.bytesLess (GP.key l[k]) x=false)) ?_ _ _ _ ⟨0,l.length,rfl,by omega,by omega,by simp,rfl,fun k _ h=>absurd h (by omega),fun k h1 h=>absurd h (by omega)⟩
 rintro _ _ _ ⟨i,j,rfl,hij,hj,rfl,rfl,h1,h2⟩
 refine⟨rfl,?_⟩
 have lo:∀{q:Nat} (hq:q<l.length),Op.bytesLess (GP.key l[q]) x=true→∀k (h:k<l.length),k<q+1→Op.bytesLess (GP.key l[k]) x=true:=fun{q} hq hm k hk hlt=>by
  rcases Nat.lt_or_ge k q with h|h
  ·exact(AA).tr _ _ _ (hi.get h hq) hm
  ·obtain rfl:k=q:=by omega
   exact hm
 have up:∀{q:Nat} (hq:q<l.length),Op.bytesLess (GP.key l[q]) x=false→∀k (h:k<l.length),q≤k→Op.bytesLess (GP.key l[k]) x=false:=fun{q} hq hm k hk hle=>by
  rcases Nat.lt_or_ge q k with h|h
  ·cases h3:Op.bytesLess (GP.key l[k]) x
   ·rfl
   ·have:=(AA).tr _ _ _ (hi.get h hk) h3
    rw[hm]at this;cases this
  ·obtain rfl:k=q:=by omega
   exact hm
 (conv=>whnf);repeat' (first|((first|refine UQ (i+j) (by omega) (by omega) ?_|(apply Cb;(· exact Abr _))|apply kE AoJ|refine kA ?_|(apply Br.mk<;>intro hc))<;>first|exact hc.elim|conv=>whnf)|refine kB ?_)
 all_goals first
  |exact again.mk ⟨_,by omega,(i+j) / 2+1,j,rfl,by omega,hj,rfl,rfl,lo (by omega) (AmK hc),h2⟩
  |exact again.mk ⟨_,by omega,i,(i+j) / 2,rfl,by omega,by omega,rfl,rfl,h1,up (by omega) (Akl hc)⟩
  |skip
 all_goals
  obtain rfl:i=j:=by omega
  have ha:AtK Op.bytesLess GP.key x l i:=⟨by omega,h1,h2⟩
  have hf:=fin i ha
  first
   |exact⟨i,_,rfl,ha,fun _=>hf.2 ⟨by omega,Rx.1 hc⟩,fun _=>rfl⟩
   |exact⟨i,_,rfl,ha,fun h=>(by cases h),fun h=>(by obtain⟨_,e⟩:=hf.1 h;exact absurd (Rx.2 e) hc)⟩
   |exact⟨i,_,rfl,ha,fun h=>(by cases h),fun h=>by obtain⟨e,_⟩:=hf.1 h;omega⟩
theorem AmU {x y:List UInt8}:Ae (Ad tab) 250 [.str x,.str y] (· =.bool (Op.bytesLess x y)):=by
 refine Ac rfl rfl ?_
 (conv=>whnf);repeat' (first|((first|apply kE AiA|refine kA ?_|(apply Br.mk<;>intro hc))<;>first|exact hc.elim|conv=>whnf)|refine kB ?_)
 all_goals first|(rw [hc];rfl)|rfl|(exfalso;simp_all;done)
theorem AoQ {x:List UInt8}:Ae (Ad tab) 251 [.str x] (· =.bool false):=by
 refine Ac rfl rfl ?_
 (conv=>whnf);repeat' (first|((first|refine kA ?_|(apply Br.mk<;>intro hc))<;>first|exact hc.elim|conv=>whnf)|refine kB ?_)
 all_goals first|rfl|(exfalso;simp_all)
theorem bsS {l:List (List UInt8)} {nn:Bool} {x:(List UInt8)} (hl:l.length<2^62) (hi:Inc Op.bytesLess id l):Ae (Ad tab) 199 [.sl nn (vs .str l),.str x] (fun v=>∃(i:Nat) (b:Bool),v=.BD [.int .i64 i,.bool b]∧AtK Op.bytesLess id x l i∧(b=true↔∃y∈l,id y=x)):=by
 have fin:∀i:Nat,AtK Op.bytesLess id x l i→((∃ y∈l,id y=x)↔∃h:i<l.length,id l[i]=x):=by
  intro i h
  constructor
  ·intro hf
   obtain⟨h1,h2,_⟩:=h.found AA hi hf
   exact⟨h1,h2⟩
  ·rintro⟨h1,h2⟩
   exact⟨_,List.getElem_mem h1,h2⟩
 refine Ac rfl rfl ?_
 (conv=>whnf);repeat' (first|((first|refine kA ?_|(apply Br.mk<;>intro hc))<;>first|exact hc.elim|conv=>whnf)|refine kB ?_)
 refine Ag (fun m env s=>∃(i j:Nat),m=j-i∧i≤j∧j≤l.length∧env=[(0,.sl nn (vs .str l)),(1,.str x),(6,.int .i64 l.length),(7,.int .i64 i),(8,.int .i64 j)]∧s=⟨[],0⟩∧
  (∀ k (h:k<l.length),k<i→Op.bytesLess (id l[k]) x=true)∧(∀ k (h:k<l.length),j≤k→Op.bytesLess (id l[k]) x=false)) ?_ _ _ _ ⟨0,l.length,rfl,by omega,by omega,by simp,rfl,fun k _ h=>absurd h (by omega),fun k h1 h=>absurd h (by omega)⟩
 rintro _ _ _ ⟨i,j,rfl,hij,hj,rfl,rfl,h1,h2⟩
 refine⟨rfl,?_⟩
 have lo:∀{q:Nat} (hq:q<l.length),Op.bytesLess (id l[q]) x=true→∀k (h:k<l.length),k<q+1→Op.bytesLess (id l[k]) x=true:=fun{q} hq hm k hk hlt=>by
  rcases Nat.lt_or_ge k q with h|h
  ·exact(AA).tr _ _ _ (hi.get h hq) hm
  ·obtain rfl:k=q:=by omega
   exact hm
 have up:∀{q:Nat} (hq:q<l.length),Op.bytesLess (id l[q]) x=false→∀k (h:k<l.length),q≤k→Op.bytesLess (id l[k]) x=false:=fun{q} hq hm k hk hle=>by
  rcases Nat.lt_or_ge q k with h|h
  ·cases h3:Op.bytesLess (id l[k]) x
   ·rfl
   ·have:=(AA).tr _ _ _ (hi.get h hk) h3
    rw[hm]at this;cases this
  ·obtain rfl:k=q:=by omega
   exact hm
 (conv=>whnf);repeat' (first|((first|refine UQ (i+j) (by omega) (by omega) ?_|(apply Cb;(· exact Abr _))|apply kE AmU|apply kE AoQ|refine JA (fun hb=>?_) (fun hb=>?_)|refine kA ?_|(apply Br.mk<;>intro hc))<;>first|exact hc.elim|conv=>whnf)|refine kB ?_)
 all_goals first
  |exact again.mk ⟨_,by omega,(i+j) / 2+1,j,rfl,by omega,hj,rfl,rfl,lo (by omega) hb,h2⟩
  |exact again.mk ⟨_,by omega,i,(i+j) / 2,rfl,by omega,by omega,rfl,rfl,h1,up (by omega) hb⟩
  |skip
 all_goals
  obtain rfl:i=j:=by omega
  have ha:AtK Op.bytesLess id x l i:=⟨by omega,h1,h2⟩
  have hf:=fin i ha
  first
   |exact⟨i,_,rfl,ha,fun _=>hf.2 ⟨by omega,hc⟩,fun _=>rfl⟩
   |exact⟨i,_,rfl,ha,fun h=>(by cases h),fun h=>by obtain⟨_,e⟩:=hf.1 h;exact absurd e hc⟩
   |exact⟨i,_,rfl,ha,fun h=>(by cases h),fun h=>by obtain⟨e,_⟩:=hf.1 h;omega⟩
theorem Gs {AP:Nat→Option Ir} {f:Nat} {sp:List AV→Am→Option (AB×Am)} {args:List AV} {s s':Am} {out:AB} {K:AB→Am→Prop} (hf:AP f=some (.ext sp)) (h:sp args s=some (out,s')) (hK:K out s'):Ar AP f args s K:=
 ⟨1,out,s',by simp only[run,hf];exact h,hK⟩
theorem Eh {e:Int} {s:Am} {K:AB→Am→Prop} (h:K (.ok (.BD [])) s):Ar (Ad tab) 196 [.bool true,.int .i64 e] s K:=by
 refine Ai rfl rfl ?_
 (conv=>whnf);repeat' (first|((first|refine kA ?_|(apply Br.mk<;>intro hc))<;>first|exact hc.elim|conv=>whnf)|refine kB ?_)
 exact h
theorem Je {e:Int} {s:Am} {K:AB→Am→Prop} (h:K (.Dq (.iface 154 (.int .i64 e))) s):Ar (Ad tab) 196 [.bool false,.int .i64 e] s K:=by
 refine Ai rfl rfl ?_
 (conv=>whnf);repeat' (first|((first|refine kA ?_|(apply Br.mk<;>intro hc))<;>first|exact hc.elim|conv=>whnf)|refine kB ?_)
 exact h
theorem AcH {g:GG} {x:Int} (hl:g.nodes.length<2^62) (hi:Inc DY GN.id g.nodes):Ae (Ad tab) 195 [.CJ g.av.cells,.int .i64 x] (fun v=>∃(i:Nat) (b:Bool),v=.BD [.int .i64 i,.bool b]∧AtK DY GN.id x g.nodes i∧(b=true↔∃y∈g.nodes,GN.id y=x)):=by
 refine Ac rfl rfl ?_
 (conv=>whnf);repeat' (first|((first|(refine Aa (bsN hl hi) ?_;rintro _ ⟨i,b,rfl,h1,h2⟩)|refine kA ?_|(apply Br.mk<;>intro hc))<;>first|exact hc.elim|conv=>whnf)|refine kB ?_)
 all_goals exact⟨i,_,rfl,h1,by rw[hc]at h2;exact h2⟩
theorem AcI {g:GG} {x:Int} (hl:g.edges.length<2^62) (hi:Inc DY GE.id g.edges):Ae (Ad tab) 203 [.CJ g.av.cells,.int .i64 x] (fun v=>∃(i:Nat) (b:Bool),v=.BD [.int .i64 i,.bool b]∧AtK DY GE.id x g.edges i∧(b=true↔∃y∈g.edges,GE.id y=x)):=by
 refine Ac rfl rfl ?_
 (conv=>whnf);repeat' (first|((first|(refine Aa (bsE hl hi) ?_;rintro _ ⟨i,b,rfl,h1,h2⟩)|refine kA ?_|(apply Br.mk<;>intro hc))<;>first|exact hc.elim|conv=>whnf)|refine kB ?_)
 all_goals exact⟨i,_,rfl,h1,by rw[hc]at h2;exact h2⟩
end AI
end Go.Proofs.YtjijnamhalgamaaGreatDoor
