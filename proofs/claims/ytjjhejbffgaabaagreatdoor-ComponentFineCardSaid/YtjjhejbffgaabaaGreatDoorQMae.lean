/- The arguments of the graph laws, taken apart: values, properties, nodes, edges, graphs. Components as data: lists of labels, and a forest of sets whose representatives are their least elements. Plain. Lists of labels: Find, Join (both), Same. The forest of component.Weak: add, find, union. Strings in a list. Strings in a list: the reference. HasType, both. A value in a list of values. Slices within reach; clones of values, properties, strings; looking up a node of any graph. component.edges: the edges of some types. -/
import Derived.Test.YtjjhejbffgaabaaGreatDoorQMaa
import Derived.Test.YtjjhejbffgaabaaGreatDoorQGrCode
import GoSem.Dispatch
set_option linter.unusedVariables false
set_option maxRecDepth 4000
namespace Go.Proofs.YtjjhejbffgaabaaGreatDoor
namespace AI
structure GV where
 k:Int
 n:Int
 d:Int
 s:List UInt8
 nn:Bool
 l:List AV
def GV.av (v:GV):AV:=.agg [.int .i64 v.k,.int .i64 v.n,.int .i64 v.d,.str v.s,.sl v.nn v.l]
structure GP where
 key:List UInt8
 v:GV
def GP.av (p:GP):AV:=.agg [.str p.key,.int .i64 p.v.k,.int .i64 p.v.n,.int .i64 p.v.d,.str p.v.s,.sl p.v.nn p.v.l]
structure GN where
 id:Int
 ln:Bool
 labels:List (List UInt8)
 pn:Bool
 props:List GP
def GN.av (n:GN):AV:=.agg [.int .i64 n.id,.sl n.ln (vs .str n.labels),.sl n.pn (vs GP.av n.props)]
structure GE where
 id:Int
 fr:Int
 to:Int
 ty:List UInt8
 pn:Bool
 props:List GP
def GE.av (n:GE):AV:=.agg [.int .i64 n.id,.int .i64 n.fr,.int .i64 n.to,.str n.ty,.sl n.pn (vs GP.av n.props)]
structure GG where
 nn:Bool
 nodes:List GN
 en:Bool
 edges:List GE
 F5:Int
 Gq:Int
def GG.av (g:GG):AV:=.agg [.sl g.nn (vs GN.av g.nodes),.sl g.en (vs GE.av g.edges),.int .i64 g.F5,.int .i64 g.Gq]
def I64 (z:Int):Prop:=-2^63≤z∧z<2^63
def Ln {α:Type} (l:List α):Prop:=l.length<2^63
def GV.ok (v:GV):Prop:=I64 v.k∧I64 v.n∧I64 v.d∧Ln v.s∧Ln v.l∧(v.nn=false→v.l=[])∧∀x∈v.l,Like Tryz.prog 53 x
def GP.ok (p:GP):Prop:=Ln p.key∧p.v.ok
def GN.ok (n:GN):Prop:=I64 n.id∧Ln n.labels∧(n.ln=false→n.labels=[])∧(∀ s∈n.labels,Ln s)∧Ln n.props∧(n.pn=false→n.props=[])∧∀p∈n.props,p.ok
def GE.ok (e:GE):Prop:=I64 e.id∧I64 e.fr∧I64 e.to∧Ln e.ty∧Ln e.props∧(e.pn=false→e.props=[])∧∀p∈e.props,p.ok
def GG.ok (g:GG):Prop:=Ln g.nodes∧(g.nn=false→g.nodes=[])∧(∀ n∈g.nodes,n.ok)∧Ln g.edges∧(g.en=false→g.edges=[])∧(∀ e∈g.edges,e.ok)∧I64 g.F5∧I64 g.Gq
theorem WJ:Tryz.prog.cellsOf 3=1:=by kernel_rfl
theorem Qm:Tryz.prog.cellsOf 9=1:=by kernel_rfl
theorem XR:Tryz.prog.cellsOf 26=1:=by kernel_rfl
theorem ZX:Tryz.prog.cellsOf 51=1:=by kernel_rfl
theorem WL:Tryz.prog.cellsOf 53=5:=by kernel_rfl
theorem AcE:Tryz.prog.cellsOf 109=6:=by kernel_rfl
theorem WM:Tryz.prog.cellsOf 39=1:=by kernel_rfl
theorem AcF:Tryz.prog.cellsOf 41=3:=by kernel_rfl
theorem Aa9:Tryz.prog.cellsOf 22=1:=by kernel_rfl
theorem AcG:Tryz.prog.cellsOf 43=5:=by kernel_rfl
theorem Aba:Tryz.prog.cellsOf 23=1:=by kernel_rfl
theorem Abb:Tryz.prog.cellsOf 25=4:=by kernel_rfl
theorem Afw {l:List AV} (h:l.length=3):∃a b c,l=[a,b,c]:=by
 rcases l with _|⟨a,_|⟨b,_|⟨c,_|⟨d,r⟩⟩⟩⟩<;>simp at h
 exact⟨a,b,c,rfl⟩
theorem Afx {l:List AV} (h:l.length=4):∃a b c d,l=[a,b,c,d]:=by
 rcases l with _|⟨a,_|⟨b,_|⟨c,_|⟨d,_|⟨e,r⟩⟩⟩⟩⟩<;>simp at h
 exact⟨a,b,c,d,rfl⟩
theorem Ad6 {l:List AV} (h:l.length=5):∃a b c d e,l=[a,b,c,d,e]:=by
 rcases l with _|⟨a,_|⟨b,_|⟨c,_|⟨d,_|⟨e,_|⟨f,r⟩⟩⟩⟩⟩⟩<;>simp at h
 exact⟨a,b,c,d,e,rfl⟩
theorem Afy {l:List AV} (h:l.length=6):∃a b c d e f,l=[a,b,c,d,e,f]:=by
 rcases l with _|⟨a,_|⟨b,_|⟨c,_|⟨d,_|⟨e,_|⟨f,_|⟨g,r⟩⟩⟩⟩⟩⟩⟩<;>simp at h
 exact⟨a,b,c,d,e,f,rfl⟩
theorem AcH {n:Int} (h:(Lit.int .i64 n).wf=true):I64 n:=by
 simp[Lit.wf]at h
 have h1:IntKind.i64.min=-2^63:=by rfl
 have h2:IntKind.i64.max=2^63-1:=by rfl
 unfold I64
 omega
theorem Rh {α:Type} {l:List α} (h:l.length≤maxLen):Ln l:=by unfold Ln;have:=Xr;omega
theorem GU {d:Nat} {cs:List AV} (h:CG Tryz.prog d 3 cs):∃n,cs=[.int .i64 n]∧I64 n:=by
 obtain⟨k,e1,h1⟩:=Xq Tryz.underlying3 h
 exact⟨k,e1,AcH h1⟩
theorem SG {d:Nat} {cs:List AV} (h:CG Tryz.prog d 9 cs):∃n,cs=[.str n]∧Ln n:=by
 obtain⟨k,e1,h1⟩:=MQ Tryz.underlying9 h
 exact⟨k,e1,Rh h1⟩
theorem Ou {d:Nat} {cs:List AV} (h:CG Tryz.prog d 53 cs):∃v:GV,cs=[.int .i64 v.k,.int .i64 v.n,.int .i64 v.d,.str v.s,.sl v.nn v.l]∧v.ok:=by
 obtain⟨d',rfl,g1,g2⟩:=Fv Tryz.underlying53 h
 rw[WL]at g1
 obtain⟨a,b,c,e,f,rfl⟩:=Ad6 g1
 clear g1
 simp only[List.forall_mem_cons]at g2
 obtain⟨f1,f2,f3,f4,f5,_⟩:=g2
 simp only[WJ,Qm,ZX,List.drop_zero,List.drop_succ_cons,List.take_succ_cons,List.take_zero]at f1 f2 f3 f4 f5
 obtain⟨k,e1,h1⟩:=GU f1
 obtain⟨n,e2,h2⟩:=GU f2
 obtain⟨m,e3,h3⟩:=GU f3
 obtain⟨s,e4,h4⟩:=SG f4
 obtain⟨d'',_,nl,xs,e5,h5,h6,h7⟩:=JW Tryz.underlying51 f5
 cases e1;cases e2;cases e3;cases e4;cases e5
 exact⟨⟨k,n,m,s,nl,xs⟩,rfl,h1,h2,h3,h4,Rh h6,h5,fun x hx=>⟨_,h7 x hx⟩⟩
theorem VF {a:AV} (h:Like Tryz.prog 53 a):∃v:GV,a=v.av∧v.ok:=by
 obtain⟨d,h⟩:=h
 obtain⟨cs,rfl,h0⟩:=Gg Tryz.underlying53 h
 obtain⟨v,rfl,h1⟩:=Ou h0
 exact⟨v,rfl,h1⟩
theorem Rk {d:Nat} {a:AV} (h:like Tryz.prog d 109 a):∃v:GP,a=v.av∧v.ok:=by
 obtain⟨cs,rfl,h0⟩:=Gg Tryz.underlying109 h
 obtain⟨d',rfl,g1,g2⟩:=Fv Tryz.underlying109 h0
 rw[AcE]at g1
 obtain⟨a,b,c,e,f,g,rfl⟩:=Afy g1
 clear g1
 simp only[List.forall_mem_cons]at g2
 obtain⟨f1,f2,_⟩:=g2
 simp only[Qm,WL,List.drop_zero,List.drop_succ_cons,List.take_succ_cons,List.take_zero]at f1 f2
 obtain⟨s,e1,h1⟩:=SG f1
 obtain⟨v,e2,h2⟩:=Ou f2
 cases e1;cases e2
 exact⟨⟨s,v⟩,rfl,h1,h2⟩
theorem IQ {α:Type} {f:α→AV} {Q:α→Prop} {d:Nat} {t e:TypeId} {cs:List AV} (hu:Tryz.prog.underlying t=some (.slice e)) (he:∀d x,like Tryz.prog d e x→∃y,x=f y∧Q y) (h:CG Tryz.prog d t cs):
 ∃nn l,cs=[.sl nn (vs f l)]∧(nn=false→l=[])∧Ln l∧∀y∈l,Q y:=by
 obtain⟨d',rfl,nn,xs,rfl,h0,h1,h2⟩:=JW hu h
 obtain⟨l,rfl,h3⟩:=Lh (f:=f) (Q:=Q) fun x hx=>he d' x (h2 x hx)
 exact⟨nn,l,rfl,fun h=>by have:=h0 h;simpa using this,Rh (by simpa using h1),h3⟩
theorem ZY {d:Nat} {a:AV} (h:like Tryz.prog d 9 a):∃s:List UInt8,a=.str s∧Ln s:=by
 obtain⟨k,e1,h1⟩:=Ob Tryz.underlying9 h
 exact⟨k,e1,Rh h1⟩
theorem XT {d:Nat} {a:AV} (h:like Tryz.prog d 41 a):∃v:GN,a=v.av∧v.ok:=by
 obtain⟨cs,rfl,h0⟩:=Gg Tryz.underlying41 h
 obtain⟨d',rfl,g1,g2⟩:=Fv Tryz.underlying41 h0
 rw[AcF]at g1
 obtain⟨a,b,c,rfl⟩:=Afw g1
 clear g1
 simp only[List.forall_mem_cons]at g2
 obtain⟨f1,f2,f3,_⟩:=g2
 simp only[WJ,XR,WM,List.drop_zero,List.drop_succ_cons,List.take_succ_cons,List.take_zero]at f1 f2 f3
 obtain⟨s,e1,h1⟩:=GU f1
 obtain⟨ln,L,e2,h2,h2a,h2b⟩:=IQ (f:=.str) (Q:=Ln) Tryz.underlying26 (fun d x h=>ZY h) f2
 obtain⟨pn,P,e3,h3,h3a,h3b⟩:=IQ (f:=GP.av) (Q:=GP.ok) Tryz.underlying39 (fun d x h=>Rk h) f3
 cases e1;cases e2;cases e3
 exact⟨⟨s,ln,L,pn,P⟩,rfl,h1,h2a,h2,h2b,h3a,h3,h3b⟩
theorem XU {d:Nat} {a:AV} (h:like Tryz.prog d 43 a):∃v:GE,a=v.av∧v.ok:=by
 obtain⟨cs,rfl,h0⟩:=Gg Tryz.underlying43 h
 obtain⟨d',rfl,g1,g2⟩:=Fv Tryz.underlying43 h0
 rw[AcG]at g1
 obtain⟨a,b,c,e,f,rfl⟩:=Ad6 g1
 clear g1
 simp only[List.forall_mem_cons]at g2
 obtain⟨f1,f2,f3,f4,f5,_⟩:=g2
 simp only[WJ,Qm,WM,List.drop_zero,List.drop_succ_cons,List.take_succ_cons,List.take_zero]at f1 f2 f3 f4 f5
 obtain⟨k,e1,h1⟩:=GU f1
 obtain⟨n,e2,h2⟩:=GU f2
 obtain⟨m,e3,h3⟩:=GU f3
 obtain⟨s,e4,h4⟩:=SG f4
 obtain⟨pn,P,e5,h5,h5a,h5b⟩:=IQ (f:=GP.av) (Q:=GP.ok) Tryz.underlying39 (fun d x h=>Rk h) f5
 cases e1;cases e2;cases e3;cases e4;cases e5
 exact⟨⟨k,n,m,s,pn,P⟩,rfl,h1,h2,h3,h4,h5a,h5,h5b⟩
theorem Vl {a:AV} (h:Like Tryz.prog 25 a):∃v:GG,a=v.av∧v.ok:=by
 obtain⟨d,h⟩:=h
 obtain⟨cs,rfl,h0⟩:=Gg Tryz.underlying25 h
 obtain⟨d',rfl,g1,g2⟩:=Fv Tryz.underlying25 h0
 rw[Abb]at g1
 obtain⟨a,b,c,e,rfl⟩:=Afx g1
 clear g1
 simp only[List.forall_mem_cons]at g2
 obtain⟨f1,f2,f3,f4,_⟩:=g2
 simp only[WJ,Aa9,Aba,List.drop_zero,List.drop_succ_cons,List.take_succ_cons,List.take_zero]at f1 f2 f3 f4
 obtain⟨nn,N,e1,h1,h1a,h1b⟩:=IQ (f:=GN.av) (Q:=GN.ok) Tryz.underlying22 (fun d x h=>XT h) f1
 obtain⟨en,E,e2,h2,h2a,h2b⟩:=IQ (f:=GE.av) (Q:=GE.ok) Tryz.underlying23 (fun d x h=>XU h) f2
 obtain⟨m,e3,h3⟩:=GU f3
 obtain⟨k,e4,h4⟩:=GU f4
 cases e1;cases e2;cases e3;cases e4
 exact⟨⟨nn,N,en,E,m,k⟩,rfl,h1a,h1,h1b,h2a,h2,h2b,h3,h4⟩
def Jy (l:List (Int×Int)) (a:Int):Option Int:=(l.find? fun p=>decide (p.1=a)).map (·.2)
def OC (x y:Int):Int:=if y<x then y else x
def Fp (x y:Int) (p:Int×Int):Int×Int:=if p.2=x∨p.2=y then(p.1,OC x y)else p
def Ub (l:List (Int×Int)) (a b:Int):List (Int×Int):=match Jy l a,Jy l b with
 |some x,some y=>l.map (Fp x y)
 |_,_=>l
def JQ (ids:List Int) (es:List (Int×Int)):List (Int×Int):=es.foldl (fun l e=>Ub l e.1 e.2) (ids.map fun i=>(i,i))
theorem U0 (ids:List Int) (es:List (Int×Int)) (e:Int×Int):JQ ids (es++[e])=Ub (JQ ids es) e.1 e.2:=by simp[JQ]
theorem Kz (r:Int→Int):∀(ids:List Int) {a:Int},a∈ids→Jy (ids.map fun i=>(i,r i)) a=some (r a)
 |[],a,h=>by cases h
 |i::ids,a,h=>by
  unfold Jy
  rw[List.map_cons,List.find?_cons]
  by_cases e:i=a
  ·subst e;simp
  ·rw[show (decide ((i,r i).1=a))=false from decide_eq_false e]
   rcases List.mem_cons.1 h with k|k
   ·exact absurd k.symm e
   ·exact Kz r ids k
inductive Root (p:Int→Int):Int→Int→Prop where
 |here {x:Int} (h:p x=x):Root p x x
 |up {x c:Int} (h:p x≠x) (k:Root p (p x) c):Root p x c
theorem Root.fix {p:Int→Int} {x c:Int} (h:Root p x c):p c=c:=by
 induction h with
 |here h=>exact h
 |up _ _ ih=>exact ih
theorem Root.UZ {p:Int→Int} {x c d:Int} (h:Root p x c) (k:Root p x d):c=d:=by
 induction h with
 |here h=>cases k with
  |here _=>rfl
  |up h' _=>exact absurd h h'
 |up h _ ih=>cases k with
  |here h'=>exact absurd h' h
  |up _ k'=>exact ih k'
theorem Root.PX {p:Int→Int} {x c:Int} (h:Root p x c) (k:p x=x):c=x:=h.UZ (.here k)
def NP (p:Int→Int) (x y:Int):Int→Int:=fun z=>if z=x then y else p z
theorem CX (p:Int→Int) (x y:Int):NP p x y x=y:=if_pos rfl
theorem BI {p:Int→Int} {x y z:Int} (h:z≠x):NP p x y z=p z:=if_neg h
theorem Root.compress {p:Int→Int} {x c:Int} (hx:Root p x c) {a d:Int} (h:Root p a d):Root (NP p x c) a d:=by
 have hc:=hx.fix
 have hcc:NP p x c c=c:=by
  by_cases e:c=x
  ·subst e;exact CX ..
  ·rw[BI e,hc]
 induction h with
 |@here a h=>
  by_cases e:a=x
  ·subst e
   have:=hx.PX h
   subst this
   exact .here (CX ..)
  ·exact .here (by rw[BI e,h])
 |@up a d h k ih=>
  by_cases e:a=x
  ·subst e
   have:d=c:=(Root.up h k).UZ hx
   subst this
   by_cases e2:d=a
   ·subst e2;exact .here (CX ..)
   ·exact .up (by rw[CX];exact e2) (by rw[CX];exact .here hcc)
  ·exact .up (by rw[BI e];exact h) (by rw[BI e];exact ih)
theorem Root.union {p:Int→Int} {M m:Int} (hM:p M=M) (hm:p m=m) (hne:m≠M) {a d:Int} (h:Root p a d):Root (NP p M m) a (if d=M then m else d):=by
 have hmm:NP p M m m=m:=by rw[BI hne,hm]
 induction h with
 |@here a h=>
  by_cases e:a=M
  ·subst e
   rw[if_pos rfl]
   exact .up (by rw[CX];exact hne) (by rw[CX];exact .here hmm)
  ·rw[if_neg e]
   exact .here (by rw[BI e,h])
 |@up a d h k ih=>
  by_cases e:a=M
  ·subst e;exact absurd hM h
  ·exact .up (by rw[BI e];exact h) (by rw[BI e];exact ih)
structure CO (S:List Int) (p r:Int→Int):Prop where
 mem:∀x∈S,p x∈S
 le:∀x∈S,p x≤x
 root:∀x∈S,Root p x (r x)
section
variable {S:List Int} {p r:Int→Int}
theorem CO.Zo (h:CO S p r) {x:Int} (hx:x∈S):r x∈S:=by
 have k:=h.root x hx
 generalize r x=c at k
 induction k with
 |here _=>exact hx
 |up _ _ ih=>exact ih (h.mem _ hx)
theorem CO.rle (h:CO S p r) {x:Int} (hx:x∈S):r x≤x:=by
 have k:=h.root x hx
 generalize r x=c at k
 induction k with
 |here _=>exact Int.le_refl _
 |up _ _ ih=>exact Int.le_trans (ih (h.mem _ hx)) (h.le _ hx)
theorem CO.Aea (h:CO S p r) {x:Int} (hx:x∈S):p (r x)=r x:=(h.root x hx).fix
theorem CO.PX (h:CO S p r) {x:Int} (hx:x∈S) (k:p x=x):r x=x:=(h.root x hx).PX k
theorem CO.step (h:CO S p r) {x:Int} (hx:x∈S):r (p x)=r x:=by
 have k:=h.root x hx
 by_cases e:p x=x
 ·rw[e]
 ·generalize r x=c at k
  cases k with
  |here h'=>exact absurd h' e
  |up _ k'=>exact(h.root _ (h.mem x hx)).UZ k'
theorem CO.compress (h:CO S p r) {x c:Int} (hx:x∈S) (hc:c=r x):CO S (NP p x c) r:=by
 subst hc
 refine⟨fun y hy=>?_,fun y hy=>?_,fun y hy=>(h.root x hx).compress (h.root y hy)⟩
 ·by_cases e:y=x
  ·subst e;rw[CX];exact h.Zo hx
  ·rw[BI e];exact h.mem y hy
 ·by_cases e:y=x
  ·subst e;rw[CX];exact h.rle hx
  ·rw[BI e];exact h.le y hy
theorem CO.start (S:List Int):CO S (fun x=>x) (fun x=>x):=⟨fun _ h=>h,fun _ _=>Int.le_refl _,fun _ _=>.here rfl⟩
theorem CO.union (h:CO S p r) {a b:Int} (ha:a∈S) (hb:b∈S):
 CO S (NP p (if r b>r a then r b else r a) (if r b<r a then r b else r a)) (fun c=>(Fp (r a) (r b) (c,r c)).2):=by
 obtain⟨M,hM⟩:∃M,(if r b>r a then r b else r a)=M:=⟨_,rfl⟩
 obtain⟨m,hm⟩:∃m,(if r b<r a then r b else r a)=m:=⟨_,rfl⟩
 rw[hM,hm]
 have fa:=h.Aea ha
 have fb:=h.Aea hb
 have ma:=h.Zo ha
 have mb:=h.Zo hb
 have hMr:M=r a∨M=r b:=by rw[← hM];split<;>simp
 have hmr:m=r a∨m=r b:=by rw[← hm];split<;>simp
 have hle:m≤M:=by rw[← hM,←hm];split<;>split<;>omega
 have hMS:M∈S:=by rcases hMr with e|e<;>rw[e]<;>assumption
 have V5:m∈S:=by rcases hmr with e|e<;>rw[e]<;>assumption
 have hMf:p M=M:=by rcases hMr with e|e<;>rw[e]<;>assumption
 have hmf:p m=m:=by rcases hmr with e|e<;>rw[e]<;>assumption
 have hmin:OC (r a) (r b)=m:=by rw[← hm];rfl
 refine⟨fun y hy=>?_,fun y hy=>?_,fun y hy=>?_⟩
 ·by_cases e:y=M
  ·subst e;rw[CX];exact V5
  ·rw[BI e];exact h.mem y hy
 ·by_cases e:y=M
  ·subst e;rw[CX];exact hle
  ·rw[BI e];exact h.le y hy
 ·by_cases e:m=M
  ·have hab:r a=r b:=by
        rw[← hM,←hm]at e
        split at e<;>split at e<;>omega
   have hself:NP p M m=p:=by
        funext z
        by_cases ez:z=M
        ·subst ez;rw[CX,hMf];exact e
        ·exact BI ez
   rw[hself]
   have:(Fp (r a) (r b) (y,r y)).2=r y:=by
        unfold Fp
        split
        ·rename_i hc
         show OC (r a) (r b)=r y
         unfold OC
         simp only at hc
         split<;>omega
        ·rfl
   rw[this]
   exact h.root y hy
  ·have k:=(h.root y hy).union hMf hmf e
   have:(Fp (r a) (r b) (y,r y)).2=if r y=M then m else r y:=by
        unfold Fp
        rw[hmin]
        simp only
        by_cases c1:r y=r a∨r y=r b
        ·rw[if_pos c1]
         show m=_
         by_cases c2:r y=M
         ·rw[if_pos c2]
         ·rw[if_neg c2]
          rcases c1 with c|c
          ·rw[c]at c2 ⊢
           rw[← hM]at c2
           rw[← hm]
           split at c2<;>split<;>omega
          ·rw[c]at c2 ⊢
           rw[← hM]at c2
           rw[← hm]
           split at c2<;>split<;>omega
        ·rw[if_neg c1]
         have:r y≠M:=fun e=>c1 (by rcases hMr with k|k<;>omega)
         rw[if_neg this]
   rw[this]
   exact k
def AQ (S:List Int) (r:Int→Int):List (Int×Int):=S.map fun i=>(i,r i)
theorem Me {a b:Int} (ha:a∈S) (hb:b∈S):Ub (AQ S r) a b=AQ S (fun c=>(Fp (r a) (r b) (c,r c)).2):=by
 unfold Ub AQ
 rw[Kz r S ha,Kz r S hb]
 show(S.map _).map _=_
 rw[List.map_map]
 refine List.map_congr_left fun c _=>?_
 show Fp (r a) (r b) (c,r c)=(c,(Fp (r a) (r b) (c,r c)).2)
 unfold Fp
 by_cases hc:r c=r a∨r c=r b
 ·simp only[hc,if_true]
 ·simp only[hc,if_false]
end
def pv (p:Int×Int):AV:=.agg [.int .i64 p.1,.int .i64 p.2]
theorem VO (x:Int×Int):(pv x).cells.length=2:=rfl
theorem SS {l:List (Int×Int)} {a:Int} {i:Nat} (h:∀p∈l.take i,p.1≠a) (hi:i<l.length) (hx:(l[i]).1=a):Jy l a=some (l[i]).2:=by
 unfold Jy
 have:(l.find? fun p=>decide (p.1=a))=some l[i]:=by
  rw[List.find?_eq_some_iff_getElem]
  refine⟨decide_eq_true hx,i,hi,rfl,fun j hj=>?_⟩
  have:=h (l[j]) (by rw[List.mem_take_iff_getElem];exact⟨j,by omega,rfl⟩)
  simpa using this
 rw[this]
 rfl
theorem SV {l:List (Int×Int)} {a:Int} (h:∀p∈l,p.1≠a):Jy l a=none:=by
 unfold Jy
 rw[List.find?_eq_none.2 fun p hp=>by simpa using h p hp]
 rfl
theorem VP {l:List (Int×Int)} {a:Int} {i:Nat} (h:∀p∈l.take i,p.1≠a) (hi:i<l.length) (hx:¬(l[i]).1=a):∀p∈l.take (i+1),p.1≠a:=by
 intro p hp
 rw[List.take_succ_eq_append_getElem hi,List.mem_append,List.mem_singleton]at hp
 rcases hp with hp|rfl
 ·exact h p hp
 ·exact hx
theorem Yd {l:List (Int×Int)} {a:Int} {i:Nat} (h:∀p∈l.take i,p.1≠a) (hi:¬i<l.length):∀p∈l,p.1≠a:=by
 rwa [List.take_of_length_le (by omega)]at h
def Aep:Option Int→AV
 |some b=>.E5 [.int .i64 b,.bool true]
 |none=>.E5 [.int .i64 0,.bool false]
theorem Ac0 {l:List (Int×Int)} {a:Int} {nn:Bool} (hl:l.length<2^62):AX (Ag tab) 15 [.sl nn (vs pv l),.int .i64 a] (· =Aep (Jy l a)):=by
 refine Ai rfl rfl ?_
 (conv=>whnf);repeat' (first  |(refine kA ?_;conv=>whnf)|(refine Br.mk (fun hc=>?_) fun hc=>?_<;>first|exact hc.elim|conv=>whnf)|(refine kB ?_))
 refine Au (fun m env s=>∃i:Nat,m=l.length-i∧env=[(0,.sl nn (vs pv l)),(1,.int .i64 a),(6,.int .i64 i)]∧s=⟨[],0⟩∧∀p∈l.take i,p.1≠a) ?_ _ _ _ ⟨0,rfl,rfl,rfl,by simp⟩
 rintro _ _ _ ⟨i,rfl,rfl,rfl,hx⟩
 refine⟨rfl,?_⟩
 by_cases hlt:i<l.length
 ·by_cases he:(l[i]).1=a
  ·have hf:=SS hx hlt he
   (conv=>whnf);repeat' (first  |(refine kA ?_;conv=>whnf)|(refine Br.mk (fun hc=>?_) fun hc=>?_<;>first|exact hc.elim|conv=>whnf)|(refine kB ?_))
   all_goals first
        |(exfalso;omega)
        |(rw [hf];rfl)
  ·(conv=>whnf);repeat' (first  |(refine kA ?_;conv=>whnf)|(refine Br.mk (fun hc=>?_) fun hc=>?_<;>first|exact hc.elim|conv=>whnf)|(refine kB ?_))
   all_goals first
        |(exfalso;omega)
        |exact again.mk ⟨_,by omega,i+1,rfl,rfl,rfl,VP hx hlt he⟩
 ·have hf:=SV (Yd hx hlt)
  (conv=>whnf);repeat' (first  |(refine kA ?_;conv=>whnf)|(refine Br.mk (fun hc=>?_) fun hc=>?_<;>first|exact hc.elim|conv=>whnf)|(refine kB ?_))
  all_goals first
   |(exfalso;omega)
   |(rw [hf];rfl)
inductive AbO (l:List (Int×Int)) (a:Int):AV→Prop
 |at(i:Nat) (h:i<l.length) (hf:Jy l a=some (l[i]).2):AbO l a (.int .i64 i)
 |no (hf:Jy l a=none):AbO l a (.int .i64 (-1))
theorem idx {k:Nat} {l:List (Int×Int)} {a:Int} {nn:Bool} (hl:l.length<2^62) (hk:∀p:Int×Int,AX (Ag tab) k [pv p,.BP [.int .i64 a]] (· =.bool (decide (p.1=a)))):
 AX (Ag tab) 48 [.sl nn (vs pv l),.fn k [.BP [.int .i64 a]]] (AbO l a):=by
 refine Ai rfl rfl ?_
 (conv=>whnf);repeat' (first  |(refine kA ?_;conv=>whnf)|(refine Br.mk (fun hc=>?_) fun hc=>?_<;>first|exact hc.elim|conv=>whnf)|(refine kB ?_))
 refine Au (fun m env s=>∃i:Nat,m=l.length-i∧env=[(0,.sl nn (vs pv l)),(1,.fn k [.BP [.int .i64 a]]),(7,.int .i64 l.length),(8,.int .i64 i)]∧s=⟨[],0⟩∧∀p∈l.take i,p.1≠a) ?_ _ _ _ ⟨0,rfl,rfl,rfl,by simp⟩
 rintro _ _ _ ⟨i,rfl,rfl,rfl,hx⟩
 refine⟨rfl,?_⟩
 by_cases hlt:i<l.length
 ·have hp:=hk (l[i])
  by_cases he:(l[i]).1=a
  ·have hf:=SS hx hlt he
   rw[decide_eq_true he]at hp
   (conv=>whnf);repeat' (first|(refine Ae hp ?_;rintro _ rfl;conv=>whnf)|(refine kA ?_;conv=>whnf)|(refine Br.mk (fun hc=>?_) fun hc=>?_<;>first|exact hc.elim|conv=>whnf)|(refine kB ?_))
   all_goals first
        |(exfalso;omega)
        |exact .at i hlt hf
  ·rw[decide_eq_false he]at hp
   (conv=>whnf);repeat' (first|(refine Ae hp ?_;rintro _ rfl;conv=>whnf)|(refine kA ?_;conv=>whnf)|(refine Br.mk (fun hc=>?_) fun hc=>?_<;>first|exact hc.elim|conv=>whnf)|(refine kB ?_))
   all_goals first
        |(exfalso;omega)
        |exact again.mk ⟨_,by omega,i+1,rfl,rfl,rfl,VP hx hlt he⟩
 ·have hf:=SV (Yd hx hlt)
  (conv=>whnf);repeat' (first  |(refine kA ?_;conv=>whnf)|(refine Br.mk (fun hc=>?_) fun hc=>?_<;>first|exact hc.elim|conv=>whnf)|(refine kB ?_))
  all_goals first
   |(exfalso;omega)
   |exact .no hf
structure Half (f:Int×Int→Int×Int) (l W:List (Int×Int)) (i:Nat):Prop where
 len:W.length=l.length
 old:∀j,i≤j→W[j]?=l[j]?
 new:∀j,j<i→W[j]?=(l.map f)[j]?
theorem Half.start (f:Int×Int→Int×Int) (l:List (Int×Int)):Half f l l 0:=⟨rfl,fun _ _=>rfl,fun _ h=>absurd h (by omega)⟩
theorem Half.at {f:Int×Int→Int×Int} {l W:List (Int×Int)} {i:Nat} (h:Half f l W i) (hi:i<l.length):W[i]'(by rw[h.len];exact hi)=l[i]:=by
 have:=h.old i (Nat.le_refl _)
 rw[List.getElem?_eq_getElem hi,List.getElem?_eq_getElem (by rw[h.len];exact hi)]at this
 simpa using this
theorem Half.put {f:Int×Int→Int×Int} {l W:List (Int×Int)} {i:Nat} (h:Half f l W i) (hi:i<l.length):Half f l (W.set i (f (l[i]))) (i+1):=by
 refine⟨by simp[h.len],fun j hj=>?_,fun j hj=>?_⟩
 ·rw[List.getElem?_set_ne (by omega)];exact h.old j (by omega)
 ·by_cases e:j=i
  ·subst e
   rw[List.getElem?_set_self (by rw[h.len];exact hi),List.getElem?_map,List.getElem?_eq_getElem hi];rfl
  ·rw[List.getElem?_set_ne (by omega)];exact h.new j (by omega)
theorem Half.skip {f:Int×Int→Int×Int} {l W:List (Int×Int)} {i:Nat} (h:Half f l W i) (hi:i<l.length) (he:f (l[i])=l[i]):Half f l W (i+1):=by
 refine⟨h.len,fun j hj=>h.old j (by omega),fun j hj=>?_⟩
 by_cases e:j=i
 ·subst e
  rw[h.old j (Nat.le_refl _),List.getElem?_map,List.getElem?_eq_getElem hi,Option.map_some,he]
 ·exact h.new j (by omega)
theorem Half.all {f:Int×Int→Int×Int} {l W:List (Int×Int)} {i:Nat} (h:Half f l W i) (hi:¬i<l.length):W=l.map f:=by
 apply List.ext_getElem?
 intro j
 by_cases hj:j<i
 ·exact h.new j hj
 ·rw[List.getElem?_eq_none (by rw[h.len];omega),List.getElem?_eq_none (by simp;omega)]
theorem J3 (p:Int→Int):∀{S:List Int} {x:Int},x∈S→AZ (AQ S p) x=some (p x)
 |[],x,h=>by cases h
 |i::S,x,h=>by
  show(if x=i then some (p i)else AZ (AQ S p) x)=_
  by_cases e:x=i
  ·subst e;rw[if_pos rfl]
  ·rw[if_neg e]
   rcases List.mem_cons.1 h with k|k
   ·exact absurd k e
   ·exact J3 p k
theorem Oe (p:Int→Int) {x y:Int}:∀{S:List Int},S.Nodup→x∈S→Bz (AQ S p) x y=AQ S (NP p x y)
 |[],_,h=>by cases h
 |i::S,hn,h=>by
  have hn':=List.nodup_cons.1 hn
  show(if x=i then(x,y)::AQ S p else(i,p i)::Bz (AQ S p) x y)=(i,NP p x y i)::AQ S (NP p x y)
  by_cases e:x=i
  ·subst e
   rw[if_pos rfl,CX]
   congr 1
   refine List.map_congr_left fun z hz=>?_
   rw[BI (fun e=>hn'.1 (by rw[← e];exact hz))]
  ·rw[if_neg e,BI (fun k=>e k.symm)]
   rcases List.mem_cons.1 h with k|k
   ·exact absurd k e
   ·rw[Oe p hn'.2 k]
theorem Ua:∀{S:List Int} {x:Int},x∉S→Bz (AQ S fun z=>z) x x=AQ (S++[x]) fun z=>z
 |[],x,_=>rfl
 |i::S,x,h=>by
  show(if x=i then(x,x)::AQ S (fun z=>z)else(i,i)::Bz (AQ S fun z=>z) x x)=(i,i)::AQ (S++[x]) fun z=>z
  rw[if_neg (fun e=>h (by rw[e];simp)),Ua (fun k=>h (List.mem_cons_of_mem _ k))]
theorem fkL {S:List Int} {p:Int→Int} {x:Int} {K:Option (Nat×AV)→Prop} (hx:x∈S) (h:∀i,K (some (i,.int .i64 (p x)))):H7 .int (.int .i64 x) (Ec (AQ S p)) K:=
 fkI (fun hm=>by rw[J3 p hx]at hm;cases hm) fun i v hm=>by
  rw[J3 p hx]at hm
  cases hm
  exact h i
theorem msL {S:List Int} {p:Int→Int} {x y:Int} {K:List (AV×AV)→Prop} (hn:S.Nodup) (hx:x∈S) (h:K (Ec (AQ S (NP p x y)))):NV .int (.int .i64 x) (.int .i64 y) (Ec (AQ S p)) K:=
 Yc (by rw[Oe p hn hx];exact h)
theorem msA {S:List Int} {x:Int} {K:List (AV×AV)→Prop} (hx:x∉S) (h:K (Ec (AQ (S++[x]) fun z=>z))):NV .int (.int .i64 x) (.int .i64 x) (Ec (AQ S fun z=>z)) K:=
 Yc (by rw[Ua hx];exact h)
def SH (Oz:Obj) (gm gr:Nat) (S:List Int) (p:Int→Int) (rest:List Obj):List Obj:=Oz::.mp gm true (Ec (AQ S p))::.arr gr 1 true false [.agg [.map 1 gm]]::rest
theorem Adl {S:List Int} {x:Int} (hx:x∉S) {Oz:Obj} {gm gr c:Nat} {rest:List Obj}:
 CJ (Ag tab) 26 [.ref 2 gr 0 0,.int .i64 x] ⟨SH Oz gm gr S (fun z=>z) rest,c⟩ fun out s'=>∃c',out=.ok (.E5 [])∧s'=⟨SH Oz gm gr (S++[x]) (fun z=>z) rest,c'⟩:=by
 unfold SH
 refine CB rfl rfl ?_
 (conv=>whnf);repeat' (first|(refine msA hx ?_;conv=>whnf)|(refine kA ?_;conv=>whnf)|(refine Br.mk (fun hc=>?_) fun hc=>?_<;>first|exact hc.elim|conv=>whnf)|(refine kB ?_))
 all_goals first|exact⟨_,rfl,rfl⟩
set_option maxHeartbeats 1000000 in
theorem Ab5 {S:List Int} {p r:Int→Int} (hF:CO S p r) (hn:S.Nodup) (hpos:∀y∈S,1≤y) {x:Int} (hx:x∈S) {Oz:Obj} {gm gr c:Nat} {rest:List Obj}:
 CJ (Ag tab) 29 [.ref 2 gr 0 0,.int .i64 x] ⟨SH Oz gm gr S p rest,c⟩ fun out s'=>∃c' p',CO S p' r∧out=.ok (.int .i64 (r x))∧s'=⟨SH Oz gm gr S p' rest,c'⟩:=by
 unfold SH
 refine CB rfl rfl ?_
 (conv=>whnf);repeat' (first  |(refine kA ?_;conv=>whnf)|(refine Br.mk (fun hc=>?_) fun hc=>?_<;>first|exact hc.elim|conv=>whnf)|(refine kB ?_))
 refine Au (fun m env s=>∃(y:Int) (c:Nat),m=y.toNat∧y∈S∧r y=r x∧env=[(0,.ref 2 gr 0 0),(1,.int .i64 x),(5,.int .i64 y)]∧s=⟨Oz::.mp gm true (Ec (AQ S p))::.arr gr 1 true false [.agg [.map 1 gm]]::rest,c⟩) ?_ _ _ _ ⟨x,_,rfl,hx,rfl,rfl,rfl⟩
 rintro _ _ _ ⟨y,c,rfl,hy,hry,rfl,rfl⟩
 refine⟨rfl,?_⟩
 have hle:=hF.le y hy
 have hy1:=hpos y hy
 have AdT:=hpos _ (hF.mem y hy)
 by_cases hfix:p y=y
 ·have hroot:r x=y:=by rw[← hry];exact hF.PX hy hfix
  (conv=>whnf);repeat' (first|(refine fkL hy (fun i=>?_);conv=>whnf)|(refine kA ?_;conv=>whnf)|(refine Br.mk (fun hc=>?_) fun hc=>?_<;>first|exact hc.elim|conv=>whnf)|(refine kB ?_))
  all_goals first|(exfalso;omega)|skip
  clear hle hy1 AdT hc hry
  refine Au (fun m env s=>∃(z:Int) (p:Int→Int) (c:Nat),m=z.toNat∧CO S p r∧z∈S∧r z=y∧env=[(0,.ref 2 gr 0 0),(1,.int .i64 z),(5,.int .i64 y)]∧s=⟨Oz::.mp gm true (Ec (AQ S p))::.arr gr 1 true false [.agg [.map 1 gm]]::rest,c⟩) ?_ _ _ _ ⟨x,p,_,rfl,hF,hx,hroot,rfl,rfl⟩
  clear hfix hF
  rintro _ _ _ ⟨z,p,c,rfl,hF,hz,hrz,rfl,rfl⟩
  refine⟨rfl,?_⟩
  have hle:=hF.le z hz
  have AdT:=hpos _ (hF.mem z hz)
  by_cases hgo:p z=y
  ·(conv=>whnf);repeat' (first|(refine fkL hz (fun i=>?_);conv=>whnf)|(refine kA ?_;conv=>whnf)|(refine Br.mk (fun hc=>?_) fun hc=>?_<;>first|exact hc.elim|conv=>whnf)|(refine kB ?_))
   all_goals first
        |(exfalso;omega)
        |exact⟨_,p,hF,congrArg (fun n=>Ar.ok (.int .i64 n)) hroot.symm,rfl⟩
  ·have hne:p z≠z:=fun e=>hgo (by rw[e,←hrz];exact(hF.PX hz e).symm)
   have hF':=hF.compress hz (c:=y) hrz.symm
   (conv=>whnf);repeat' (first|(refine fkL hz (fun i=>?_);conv=>whnf)|(refine msL hn hz ?_;conv=>whnf)|(refine kA ?_;conv=>whnf)|(refine Br.mk (fun hc=>?_) fun hc=>?_<;>first|exact hc.elim|conv=>whnf)|(refine kB ?_))
   all_goals first
        |(exfalso;omega)
        |exact again.mk ⟨_,by omega,p z,_,_,rfl,hF',hF.mem z hz,(hF.step hz).trans hrz,rfl,rfl⟩
 ·(conv=>whnf);repeat' (first|(refine fkL hy (fun i=>?_);conv=>whnf)|(refine kA ?_;conv=>whnf)|(refine Br.mk (fun hc=>?_) fun hc=>?_<;>first|exact hc.elim|conv=>whnf)|(refine kB ?_))
  all_goals first
   |(exfalso;omega)
   |exact again.mk ⟨_,by omega,p y,_,rfl,hF.mem y hy,(hF.step hy).trans hry,rfl,rfl⟩
set_option maxHeartbeats 1000000 in
theorem AeM {S:List Int} {p r:Int→Int} (hF:CO S p r) (hn:S.Nodup) (hpos:∀y∈S,1≤y) {a b:Int} (ha:a∈S) (hb:b∈S) {Oz ob3:Obj} {gm gr c:Nat}:
 CJ (Ag tab) 28 [.ref 2 gr 0 0,.int .i64 a,.int .i64 b] ⟨SH Oz gm gr S p [ob3],c⟩ fun out s'=>∃c' p',CO S p' (fun c=>(Fp (r a) (r b) (c,r c)).2)∧out=.ok (.E5 [])∧s'=⟨SH Oz gm gr S p' [ob3],c'⟩:=by
 unfold SH
 refine CB rfl rfl ?_
 (conv=>whnf);repeat' (first  |(refine kA ?_;conv=>whnf)|(refine Br.mk (fun hc=>?_) fun hc=>?_<;>first|exact hc.elim|conv=>whnf)|(refine kB ?_))
 refine(Ab5 hF hn hpos ha).mono ?_
 rintro _ _ ⟨c1,p1,hF1,rfl,rfl⟩
 unfold SH
 (conv=>whnf);repeat' (first  |(refine kA ?_;conv=>whnf)|(refine Br.mk (fun hc=>?_) fun hc=>?_<;>first|exact hc.elim|conv=>whnf)|(refine kB ?_))
 refine(Ab5 hF1 hn hpos hb).mono ?_
 rintro _ _ ⟨c2,p2,hF2,rfl,rfl⟩
 unfold SH
 have hU:=hF2.union ha hb
 have hM:(if r b>r a then r b else r a)∈S:=by split<;>first|exact hF2.Zo ha|exact hF2.Zo hb
 (conv=>whnf);repeat' (first|(refine msL hn hM ?_;conv=>whnf)|(refine kA ?_;conv=>whnf)|(refine Br.mk (fun hc=>?_) fun hc=>?_<;>first|exact hc.elim|conv=>whnf)|(refine kB ?_))
 all_goals first
  |exact⟨_,_,hU,rfl,rfl⟩
theorem Ae1 {l:List (List UInt8)} {x:List UInt8} {nn:Bool} (hl:l.length<2^63):AX (Ag tab) 71 [.sl nn (vs .str l),.str x] (fun v=>∃z,v=.int .i64 z∧(0≤z↔x∈l)):=by
 refine Ai rfl rfl ?_
 (conv=>whnf);repeat' (first|(refine kA ?_;conv=>whnf)|(refine Br.mk (fun hc=>?_) fun hc=>?_<;>first|exact hc.elim|conv=>whnf)  |(refine kB ?_))
 refine Au (fun m env s=>∃i:Nat,m=l.length-i∧env=[(0,.sl nn (vs .str l)),(1,.str x),(7,.int .i64 l.length),(8,.int .i64 i)]∧s=⟨[],0⟩∧x∉l.take i) ?_ _ _ _ ⟨0,rfl,by simp,rfl,by simp⟩
 rintro _ _ _ ⟨i,rfl,rfl,rfl,hx⟩
 refine⟨rfl,?_⟩
 (conv=>whnf);repeat' (first|(refine kA ?_;conv=>whnf)|(refine Br.mk (fun hc=>?_) fun hc=>?_<;>first|exact hc.elim|conv=>whnf)  |(refine kB ?_))
 ·subst hc;exact⟨_,rfl,by simp⟩
 ·exact again.mk ⟨_,by omega,i+1,rfl,rfl,rfl,nms (by omega) hx (fun h=>hc h.symm)⟩
 ·rw[Ei hc]at hx;exact⟨_,rfl,by simp[hx]⟩
theorem AdK {l:List (List UInt8)} {x:List UInt8} {nn:Bool} (hl:l.length<2^63):AX (Ag tab) 40 [.sl nn (vs .str l),.str x] (· =.bool (decide (x∈l))):=by
 refine Ai rfl rfl ?_
 (conv=>whnf);repeat' (first|(refine kA ?_;conv=>whnf)|(refine Br.mk (fun hc=>?_) fun hc=>?_<;>first|exact hc.elim|conv=>whnf)  |(refine kB ?_))
 refine Ae (Ae1 hl) ?_
 rintro _ ⟨z,rfl,hz⟩
 (conv=>whnf);repeat' (first|(refine kA ?_;conv=>whnf)|(refine Br.mk (fun hc=>?_) fun hc=>?_<;>first|exact hc.elim|conv=>whnf)  |(refine kB ?_))
 ·exact FC (hz.1 hc)
 ·exact DF (mt hz.2 hc)
def HT (l:List (List UInt8)) (e:GE):Prop:=l.length=0∨e.ty∈l
instance (l:List (List UInt8)) (e:GE):Decidable (HT l e):=by unfold HT;infer_instance
theorem Y8 {l:List (List UInt8)} {e:GE} {nn:Bool} (hl:l.length<2^63):AX (Ag tab) 17 [e.av,.sl nn (vs .str l)] (· =.bool (decide (HT l e))):=by
 refine Ai rfl rfl ?_
 (conv=>whnf);repeat' (first|(refine kA ?_;conv=>whnf)|(refine Br.mk (fun hc=>?_) fun hc=>?_<;>first|exact hc.elim|conv=>whnf)|(refine Gn (AdK hl) (fun hc=>?_) (fun hc=>?_)<;>conv=>whnf)|(refine kB ?_))
 all_goals first|exact FC (by unfold HT;first|(left;omega)|(right;assumption))|exact DF (by unfold HT;rintro(h|h);omega;contradiction)
theorem RS {l:List AV} (h:∀x∈l,Like Tryz.prog 53 x) (i:Nat):
 ∃g:GV,∀hi:i<l.length,nth l (Int.toNat (Nat.cast i))=some g.av∧l[i]=g.av∧g.ok:=by
 by_cases hi:i<l.length
 ·obtain⟨g,e,hg⟩:=VF (h _ (List.getElem_mem hi))
  exact⟨g,fun _=>⟨by rw[← e];exact nR hi,e,hg⟩⟩
 ·exact⟨⟨0,0,0,[],true,[]⟩,fun h=>absurd h hi⟩
theorem AdH {types:List (List UInt8)} {tn:Bool} (hl:types.length<2^63) {e:GE}:AX (Ag tab) 53 [e.av,.BP [.sl tn (vs .str types)]] (· =.bool (!decide (HT types e))):=by
 have p1:=Y8 (l:=types) (e:=e) (nn:=tn) (by omega)
 refine Ai rfl rfl ?_
 (conv=>whnf);repeat' (first|(refine Ae p1 ?_;rintro _ rfl;conv=>whnf)|(refine kA ?_;conv=>whnf)|(refine Br.mk (fun hc=>?_) fun hc=>?_<;>first|exact hc.elim|conv=>whnf)|(refine kB ?_))
 all_goals first|(rw [‹decide (HT types e)=true›];rfl)|(rw [‹decide (HT types e)=false›];rfl)|rfl
inductive Acl (p:GE→Prop) (L:List GE):AV→Prop
 |at(i:Nat) (h:i<L.length) (hf:¬p L[i]) (hb:∀e∈L.take i,p e):Acl p L (.int .i64 i)
 |no (hf:∀e∈L,p e):Acl p L (.int .i64 (-1))
theorem AdI {types:List (List UInt8)} {tn nn:Bool} (hl:types.length<2^63) {L:List GE} (hL:L.length<2^62):
 AX (Ag tab) 80 [.sl nn (vs GE.av L),.fn 53 [.BP [.sl tn (vs .str types)]]] (Acl (HT types) L):=by
 refine Ai rfl rfl ?_
 (conv=>whnf);repeat' (first  |(refine kA ?_;conv=>whnf)|(refine Br.mk (fun hc=>?_) fun hc=>?_<;>first|exact hc.elim|conv=>whnf)|(refine kB ?_))
 refine Au (fun m env s=>∃i:Nat,m=L.length-i∧env=[(0,.sl nn (vs GE.av L)),(1,.fn 53 [.BP [.sl tn (vs .str types)]]),(7,.int .i64 L.length),(8,.int .i64 i)]∧s=⟨[],0⟩∧∀e∈L.take i,HT types e) ?_ _ _ _ ⟨0,rfl,rfl,rfl,by simp⟩
 rintro _ _ _ ⟨i,rfl,rfl,rfl,hx⟩
 refine⟨rfl,?_⟩
 by_cases hlt:i<L.length
 ·have hp:=AdH (types:=types) (tn:=tn) hl (e:=L[i])
  by_cases he:HT types L[i]
  ·rw[decide_eq_true he]at hp
   (conv=>whnf);repeat' (first|(refine Ae hp ?_;rintro _ rfl;conv=>whnf)|(refine kA ?_;conv=>whnf)|(refine Br.mk (fun hc=>?_) fun hc=>?_<;>first|exact hc.elim|conv=>whnf)|(refine kB ?_))
   all_goals first
        |(exfalso;omega)
        |exact again.mk ⟨_,by omega,i+1,rfl,rfl,rfl,fun e h=>by
          rw[List.take_succ_eq_append_getElem hlt,List.mem_append,List.mem_singleton]at h
          rcases h with h|h
          ·exact hx e h
          ·subst h;exact he⟩
  ·rw[decide_eq_false he]at hp
   (conv=>whnf);repeat' (first|(refine Ae hp ?_;rintro _ rfl;conv=>whnf)|(refine kA ?_;conv=>whnf)|(refine Br.mk (fun hc=>?_) fun hc=>?_<;>first|exact hc.elim|conv=>whnf)|(refine kB ?_))
   all_goals first
        |(exfalso;omega)
        |exact .at i hlt he hx
 ·rw[List.take_of_length_le (by omega)]at hx
  (conv=>whnf);repeat' (first  |(refine kA ?_;conv=>whnf)|(refine Br.mk (fun hc=>?_) fun hc=>?_<;>first|exact hc.elim|conv=>whnf)|(refine kB ?_))
  all_goals first
   |(exfalso;omega)
   |exact .no hx
structure Del (p:GE→Prop) [DecidablePred p] (L W:List GE) (i j:Nat):Prop where
 len:W.length=L.length
 le:i≤j
 new:W.take i=(L.take j).filter fun e=>decide (p e)
 old:∀k,j≤k→W[k]?=L[k]?
section
variable {p:GE→Prop} [DecidablePred p] {L W:List GE} {i j:Nat}
theorem Del.start {i:Nat} (h:i<L.length) (hf:¬p L[i]) (hb:∀e∈L.take i,p e):Del p L L i (i+1):=by
 refine⟨rfl,by omega,?_,fun _ _=>rfl⟩
 rw[List.take_succ_eq_append_getElem h,List.filter_append,List.filter_eq_self.2 fun e he=>decide_eq_true (hb e he)]
 simp[hf]
theorem Del.at (h:Del p L W i j) (hj:j<L.length):W[j]'(by rw[h.len];exact hj)=L[j]:=by
 have:=h.old j (Nat.le_refl _)
 rw[List.getElem?_eq_getElem hj,List.getElem?_eq_getElem (by rw[h.len];exact hj)]at this
 simpa using this
theorem Del.keep (h:Del p L W i j) (hj:j<L.length) (hp:p L[j]):Del p L (W.set i L[j]) (i+1) (j+1):=by
 have hi:i<W.length:=by rw[h.len];have:=h.le;omega
 refine⟨by simp[h.len],by have:=h.le;omega,?_,fun k hk=>?_⟩
 ·rw[List.take_succ_eq_append_getElem (by simpa using hi),List.getElem_set_self,List.take_set_of_le (Nat.le_refl _),h.new,List.take_succ_eq_append_getElem hj,List.filter_append]
  simp[hp]
 ·rw[List.getElem?_set_ne (by have:=h.le;omega)];exact h.old k (by omega)
theorem Del.drop (h:Del p L W i j) (hj:j<L.length) (hp:¬p L[j]):Del p L W i (j+1):=by
 refine⟨h.len,by have:=h.le;omega,?_,fun k hk=>h.old k (by omega)⟩
 rw[h.new,List.take_succ_eq_append_getElem hj,List.filter_append]
 simp[hp]
theorem Del.all (h:Del p L W i j) (hj:¬j<L.length):W.take i=L.filter fun e=>decide (p e):=by
 rw[h.new,List.take_of_length_le (by omega)]
end
theorem V9 (e:GE):e.av.cells.length=5:=rfl
theorem AeX {i n c g:Nat} {Oz Oy:Obj} {W:List GE} {env:Env} (h:i≤n) (hW:W.length=n) (he:env.get 38=.own 2 g (Int.toNat (i:Int)) (n-Int.toNat (i:Int))):
 Ac U9 (.clear 5 (.tmp 38)) env ⟨[Oz,Oy,.arr g 5 true true (vs GE.av W)],c⟩=some (.ok .undef,⟨[Oz,Oy,.arr g 5 true true (vs GE.av (W.take i))],c⟩):=by
 have e1:(AO.tmp 38).val env=.own 2 g i (n-i):=he
 have hl:(vs GE.av W).length=n:=by rw[lV,hW]
 simp only[Ac,e1,nth]
 rw[if_pos ⟨trivial,trivial,by rw[hl];omega⟩]
 have e2:(if n-i=0 then vs GE.av W else(vs GE.av W).take i)=vs GE.av (W.take i):=by
  split
  ·rw[List.take_of_length_le (by omega)]
  ·simp[vs,List.map_take]
 rw[e2]
 rfl
set_option maxHeartbeats 1000000 in
theorem AeY {types:List (List UInt8)} {tn:Bool} (hl:types.length<2^63) {L:List GE} (hL:L.length<2^40) {Oz Oy:Obj} {g c n:Nat} (hn:n=L.length):
 CJ (Ag tab) 51 [.own 2 g 0 n,.fn 53 [.BP [.sl tn (vs .str types)]]] ⟨[Oz,Oy,.arr g 5 true true (vs GE.av L)],c⟩
  fun out s'=>∃c' W,W=(L.filter fun e=>decide (HT types e))∧out=.ok (.own 2 g 0 W.length)∧s'=⟨[Oz,Oy,.arr g 5 true true (vs GE.av W)],c'⟩:=by
 subst hn
 obtain⟨_,iE,pI⟩:=(AdI (types:=types) (tn:=tn) (nn:=true) hl (L:=L) (by omega)).UZ
 refine CB rfl rfl ?_
 cases iE with
 |no hf=>
  (conv=>whnf);repeat' (first|(refine Ae pI ?_;rintro _ rfl;conv=>whnf)|(refine kA ?_;conv=>whnf)|(refine Br.mk (fun hc=>?_) fun hc=>?_<;>first|exact hc.elim|conv=>whnf)|(refine kB ?_))
  all_goals first
   |(exfalso;omega)
   |exact⟨_,L,(List.filter_eq_self.2 fun e he=>decide_eq_true (hf e he)).symm,rfl,rfl⟩
 |«at» i hi hf hb=>
  (conv=>whnf);repeat' (first|(refine Ae pI ?_;rintro _ rfl;conv=>whnf)|(refine kA ?_;conv=>whnf)|(refine Br.mk (fun hc=>?_) fun hc=>?_<;>first|exact hc.elim|conv=>whnf)|(refine kB ?_))
  all_goals first|(exfalso;omega)|skip
  refine Au (fun m env s=>∃(i j c:Nat) (W:List GE),m=L.length-j∧Del (HT types) L W i j∧i≤L.length∧env=[(0,.own 2 g 0 L.length),(1,.fn 53 [.BP [.sl tn (vs .str types)]]),(5,.int .i64 i),(6,.int .i64 j)]∧s=⟨[Oz,Oy,.arr g 5 true true (vs GE.av W)],c⟩) ?_ _ _ _ ⟨i,i+1,_,L,rfl,.start hi hf hb,by omega,by simp,rfl⟩
  clear hc pI hi hf hb
  rintro _ _ _ ⟨i,j,c,W,rfl,hD,hi,rfl,rfl⟩
  refine⟨rfl,?_⟩
  have hWl:=hD.len
  have hij:=hD.le
  by_cases hlt:j<L.length
  ·have hx:=hD.at hlt
   have n1:nth (vs GE.av W) (Int.toNat (Nat.cast j))=some (L[j]).av:=by rw[← hx];exact nVN (by omega)
   have hp:=AdH (types:=types) (tn:=tn) hl (e:=L[j])
   by_cases he:HT types L[j]
   ·rw[decide_eq_true he]at hp
    have hlw:i<W.length:=by omega
    (conv=>whnf);repeat' (first|(apply Az;(· exact n1);conv=>whnf)|(refine Ae hp ?_;rintro _ rfl;conv=>whnf)|(refine tV (f:=GE.av) (x:=L[j]) V9 i ?_;conv=>whnf)|(refine kA ?_;conv=>whnf)|(refine Br.mk (fun hc=>?_) fun hc=>?_<;>first|exact hc.elim|conv=>whnf)|(refine kB ?_))
    all_goals first
     |(exfalso;omega)
     |exact again.mk ⟨_,by omega,i+1,j+1,_,_,rfl,hD.keep hlt he,by omega,by simp,rfl⟩
   ·rw[decide_eq_false he]at hp
    (conv=>whnf);repeat' (first|(apply Az;(· exact n1);conv=>whnf)|(refine Ae hp ?_;rintro _ rfl;conv=>whnf)|(refine kA ?_;conv=>whnf)|(refine Br.mk (fun hc=>?_) fun hc=>?_<;>first|exact hc.elim|conv=>whnf)|(refine kB ?_))
    all_goals first
     |(exfalso;omega)
     |exact again.mk ⟨_,by omega,i,j+1,_,_,rfl,hD.drop hlt he,by omega,by simp,rfl⟩
  ·have he:=hD.all hlt
   have hli:(W.take i).length=i:=by rw[List.length_take];omega
   (conv=>whnf);repeat' (first|(apply BH (AeX hi hWl rfl);conv=>whnf)|(refine kA ?_;conv=>whnf)|(refine Br.mk (fun hc=>?_) fun hc=>?_<;>first|exact hc.elim|conv=>whnf)|(refine kB ?_))
   all_goals first
        |(exfalso;omega)
        |exact⟨_,W.take i,he,congrArg (fun n=>Ar.ok (.own 2 g 0 n)) hli.symm,rfl⟩
theorem Y9 {L:List GE} (hl:L.length<2^40):CJ (Ag tab) 52 [.sl true (vs GE.av L)] ⟨[],0⟩ fun out s'=>∃o g,out=.ok (.own o g 0 (vs GE.av L).length)∧nth s'.σ o=some (.arr g 5 true true (vs GE.av L)):=by
 refine CB rfl rfl ?_
 (conv=>whnf);repeat' (first|(refine AeZ (f:=GE.av) (l:=[]) (l':=L) rfl V9 rfl (by simp;omega) ?_;conv=>whnf)|(refine kA ?_;conv=>whnf)|(refine Br.mk (fun hc=>?_) fun hc=>?_<;>first|exact hc.elim|conv=>whnf)|(refine kB ?_))
 all_goals first|exact⟨0,_,congrArg (fun n=>Ar.ok (.own 0 _ 0 n)) ((Nat.zero_add _).trans (lV L).symm),rfl⟩
theorem Za:CJ (Ag tab) 52 [.sl false []] ⟨[],0⟩ fun out _=>out=.ok (.sl false []):=by
 refine CB rfl rfl ?_
 (conv=>whnf);repeat' (first  |(refine kA ?_;conv=>whnf)|(refine Br.mk (fun hc=>?_) fun hc=>?_<;>first|exact hc.elim|conv=>whnf)|(refine kB ?_))
 all_goals first|rfl
theorem AdJ {types:List (List UInt8)} {tn:Bool} (hl:types.length<2^63) {Oz Oy:Obj} {g c:Nat}:
 CJ (Ag tab) 51 [.own 2 g 0 0,.fn 53 [.BP [.sl tn (vs .str types)]]] ⟨[Oz,Oy,.arr g 1 false true []],c⟩
  fun out s'=>∃c',out=.ok (.own 2 g 0 0)∧s'=⟨[Oz,Oy,.arr g 1 false true []],c'⟩:=by
 obtain⟨_,iE,pI⟩:=(AdI (types:=types) (tn:=tn) (nn:=false) hl (L:=[]) (by simp)).UZ
 cases iE with
 |«at» i hi hf hb=>exact absurd hi (by simp)
 |no hf=>
 refine CB rfl rfl ?_
 (conv=>whnf);repeat' (first|(refine Ae pI ?_;rintro _ rfl;conv=>whnf)|(refine kA ?_;conv=>whnf)|(refine Br.mk (fun hc=>?_) fun hc=>?_<;>first|exact hc.elim|conv=>whnf)|(refine kB ?_))
 all_goals first
  |(exfalso;omega)
  |exact⟨_,rfl,rfl⟩
def Fh (types:List (List UInt8)) (g:GG):List GE:=g.edges.filter fun e=>decide (HT types e)
theorem YE {types:List (List UInt8)} {tn:Bool} (hl:types.length<2^63) {g:GG} (hg:g.ok) (hE:g.edges.length<2^39):AX (Ag tab) 27 [g.av,.sl tn (vs .str types)] (fun v=>∃b,v=.sl b (vs GE.av (Fh types g))):=by
 unfold Fh
 cases hen:g.en with
 |false=>
  have h0:g.edges=[]:=hg.2.2.2.2.1 hen
  have hav:g.av=.agg [.sl g.nn (vs GN.av g.nodes),.sl false [],.int .i64 g.F5,.int .i64 g.Gq]:=by unfold GG.av;rw[hen,h0];rfl
  rw[hav,h0]
  refine Ai rfl rfl ?_
  (conv=>whnf);repeat' (first|(refine Zb rfl Za ?_;conv=>whnf)|(refine (AdJ hl).mono ?_;rintro _ _ ⟨c',rfl,rfl⟩;conv=>whnf)|(refine kA ?_;conv=>whnf)|(refine Br.mk (fun hc=>?_) fun hc=>?_<;>first|exact hc.elim|conv=>whnf)|(refine kB ?_))
  all_goals first|(exfalso;omega)|exact⟨false,rfl⟩
 |true=>
  have hav:g.av=.agg [.sl g.nn (vs GN.av g.nodes),.sl true (vs GE.av g.edges),.int .i64 g.F5,.int .i64 g.Gq]:=by unfold GG.av;rw[hen]
  rw[hav]
  have pc:=Y9 (L:=g.edges) (by omega)
  refine Ai rfl rfl ?_
  (conv=>whnf);repeat' (first|(refine Ae0 rfl pc ?_;conv=>whnf)|(refine (AeY hl (L:=g.edges) (by omega) (lV _)).mono ?_;rintro _ _ ⟨c',W,hW,rfl,rfl⟩;conv=>whnf)|(refine kA ?_;conv=>whnf)|(refine Br.mk (fun hc=>?_) fun hc=>?_<;>first|exact hc.elim|conv=>whnf)|(refine kB ?_))
  all_goals first|(exfalso;omega)|exact⟨true,by rw[hW]⟩
end AI
end Go.Proofs.YtjjhejbffgaabaaGreatDoor
