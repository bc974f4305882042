/- The arguments of the graph laws, taken apart: values, properties, nodes, edges, graphs. Components as data: lists of labels, and a forest of sets whose representatives are their least elements. Plain. Lists of labels: Find, Join (both), Same. The forest of component.Weak: add, find, union. Strings in a list. Strings in a list: the reference. HasType, both. A value in a list of values. Slices within reach; clones of values, properties, strings; looking up a node of any graph. component.edges: the edges of some types. Join, both; Same. -/
import Derived.Test.YtgmgkkbpgndaaaaGreatDoorPMaa
import Derived.Test.YtgmgkkbpgndaaaaGreatDoorPGrCode
import GoSem.Dispatch
set_option linter.unusedVariables false
set_option maxRecDepth 4000
namespace Go.Proofs.YtgmgkkbpgndaaaaGreatDoor
namespace AI
structure GV where
 k:Int
 n:Int
 d:Int
 s:List UInt8
 nn:Bool
 l:List AV
def GV.av (v:GV):AV:=.agg [.int .i64 v.k,.int .i64 v.n,.int .i64 v.d,.str v.s,.sl v.nn v.l]
structure GP where
 key:List UInt8
 v:GV
def GP.av (p:GP):AV:=.agg [.str p.key,.int .i64 p.v.k,.int .i64 p.v.n,.int .i64 p.v.d,.str p.v.s,.sl p.v.nn p.v.l]
structure GN where
 id:Int
 ln:Bool
 labels:List (List UInt8)
 pn:Bool
 props:List GP
def GN.av (n:GN):AV:=.agg [.int .i64 n.id,.sl n.ln (vs .str n.labels),.sl n.pn (vs GP.av n.props)]
structure GE where
 id:Int
 fr:Int
 to:Int
 ty:List UInt8
 pn:Bool
 props:List GP
def GE.av (n:GE):AV:=.agg [.int .i64 n.id,.int .i64 n.fr,.int .i64 n.to,.str n.ty,.sl n.pn (vs GP.av n.props)]
structure GG where
 nn:Bool
 nodes:List GN
 en:Bool
 edges:List GE
 Bl:Int
 Bq:Int
def GG.av (g:GG):AV:=.agg [.sl g.nn (vs GN.av g.nodes),.sl g.en (vs GE.av g.edges),.int .i64 g.Bl,.int .i64 g.Bq]
def I64 (z:Int):Prop:=-2^63≤z∧z<2^63
def Ln {α:Type} (l:List α):Prop:=l.length<2^63
def GV.ok (v:GV):Prop:=I64 v.k∧I64 v.n∧I64 v.d∧Ln v.s∧Ln v.l∧(v.nn=false→v.l=[])∧∀x∈v.l,Like Tryz.prog 34 x
def GP.ok (p:GP):Prop:=Ln p.key∧p.v.ok
def GN.ok (n:GN):Prop:=I64 n.id∧Ln n.labels∧(n.ln=false→n.labels=[])∧(∀ s∈n.labels,Ln s)∧Ln n.props∧(n.pn=false→n.props=[])∧∀p∈n.props,p.ok
def GE.ok (e:GE):Prop:=I64 e.id∧I64 e.fr∧I64 e.to∧Ln e.ty∧Ln e.props∧(e.pn=false→e.props=[])∧∀p∈e.props,p.ok
def GG.ok (g:GG):Prop:=Ln g.nodes∧(g.nn=false→g.nodes=[])∧(∀ n∈g.nodes,n.ok)∧Ln g.edges∧(g.en=false→g.edges=[])∧(∀ e∈g.edges,e.ok)∧I64 g.Bl∧I64 g.Bq
theorem Tz:Tryz.prog.cellsOf 3=1:=by kernel_rfl
theorem Nq:Tryz.prog.cellsOf 9=1:=by kernel_rfl
theorem TA:Tryz.prog.cellsOf 31=1:=by kernel_rfl
theorem Abc:Tryz.prog.cellsOf 32=1:=by kernel_rfl
theorem UH:Tryz.prog.cellsOf 34=5:=by kernel_rfl
theorem AfD:Tryz.prog.cellsOf 112=6:=by kernel_rfl
theorem Y5:Tryz.prog.cellsOf 53=1:=by kernel_rfl
theorem AfE:Tryz.prog.cellsOf 55=3:=by kernel_rfl
theorem AdC:Tryz.prog.cellsOf 27=1:=by kernel_rfl
theorem AfF:Tryz.prog.cellsOf 57=5:=by kernel_rfl
theorem AdD:Tryz.prog.cellsOf 28=1:=by kernel_rfl
theorem Y6:Tryz.prog.cellsOf 30=4:=by kernel_rfl
theorem Aje {l:List AV} (h:l.length=3):∃a b c,l=[a,b,c]:=by
 rcases l with _|⟨a,_|⟨b,_|⟨c,_|⟨d,r⟩⟩⟩⟩<;>simp at h
 exact⟨a,b,c,rfl⟩
theorem Ajf {l:List AV} (h:l.length=4):∃a b c d,l=[a,b,c,d]:=by
 rcases l with _|⟨a,_|⟨b,_|⟨c,_|⟨d,_|⟨e,r⟩⟩⟩⟩⟩<;>simp at h
 exact⟨a,b,c,d,rfl⟩
theorem Ahg {l:List AV} (h:l.length=5):∃a b c d e,l=[a,b,c,d,e]:=by
 rcases l with _|⟨a,_|⟨b,_|⟨c,_|⟨d,_|⟨e,_|⟨f,r⟩⟩⟩⟩⟩⟩<;>simp at h
 exact⟨a,b,c,d,e,rfl⟩
theorem Ahh {l:List AV} (h:l.length=6):∃a b c d e f,l=[a,b,c,d,e,f]:=by
 rcases l with _|⟨a,_|⟨b,_|⟨c,_|⟨d,_|⟨e,_|⟨f,_|⟨g,r⟩⟩⟩⟩⟩⟩⟩<;>simp at h
 exact⟨a,b,c,d,e,f,rfl⟩
theorem Abd {n:Int} (h:(Lit.int .i64 n).wf=true):I64 n:=by
 simp[Lit.wf]at h
 have h1:IntKind.i64.min=-2^63:=by rfl
 have h2:IntKind.i64.max=2^63-1:=by rfl
 unfold I64
 omega
theorem QC {α:Type} {l:List α} (h:l.length≤maxLen):Ln l:=by unfold Ln;have:=Z9;omega
theorem Ei {d:Nat} {cs:List AV} (h:C9 Tryz.prog d 3 cs):∃n,cs=[.int .i64 n]∧I64 n:=by
 obtain⟨k,e1,h1⟩:=TB Tryz.underlying3 h
 exact⟨k,e1,Abd h1⟩
theorem Qe {d:Nat} {cs:List AV} (h:C9 Tryz.prog d 9 cs):∃n,cs=[.str n]∧Ln n:=by
 obtain⟨k,e1,h1⟩:=Nr Tryz.underlying9 h
 exact⟨k,e1,QC h1⟩
theorem Kz {d:Nat} {cs:List AV} (h:C9 Tryz.prog d 34 cs):∃v:GV,cs=[.int .i64 v.k,.int .i64 v.n,.int .i64 v.d,.str v.s,.sl v.nn v.l]∧v.ok:=by
 obtain⟨d',rfl,g1,g2⟩:=DL Tryz.underlying34 h
 rw[UH]at g1
 obtain⟨a,b,c,e,f,rfl⟩:=Ahg g1
 clear g1
 simp only[List.forall_mem_cons]at g2
 obtain⟨f1,f2,f3,f4,f5,_⟩:=g2
 simp only[Tz,Nq,Abc,List.drop_zero,List.drop_succ_cons,List.take_succ_cons,List.take_zero]at f1 f2 f3 f4 f5
 obtain⟨k,e1,h1⟩:=Ei f1
 obtain⟨n,e2,h2⟩:=Ei f2
 obtain⟨m,e3,h3⟩:=Ei f3
 obtain⟨s,e4,h4⟩:=Qe f4
 obtain⟨d'',_,nl,xs,e5,h5,h6,h7⟩:=KA Tryz.underlying32 f5
 cases e1;cases e2;cases e3;cases e4;cases e5
 exact⟨⟨k,n,m,s,nl,xs⟩,rfl,h1,h2,h3,h4,QC h6,h5,fun x hx=>⟨_,h7 x hx⟩⟩
theorem XU {a:AV} (h:Like Tryz.prog 34 a):∃v:GV,a=v.av∧v.ok:=by
 obtain⟨d,h⟩:=h
 obtain⟨cs,rfl,h0⟩:=D9 Tryz.underlying34 h
 obtain⟨v,rfl,h1⟩:=Kz h0
 exact⟨v,rfl,h1⟩
theorem TD {d:Nat} {a:AV} (h:like Tryz.prog d 112 a):∃v:GP,a=v.av∧v.ok:=by
 obtain⟨cs,rfl,h0⟩:=D9 Tryz.underlying112 h
 obtain⟨d',rfl,g1,g2⟩:=DL Tryz.underlying112 h0
 rw[AfD]at g1
 obtain⟨a,b,c,e,f,g,rfl⟩:=Ahh g1
 clear g1
 simp only[List.forall_mem_cons]at g2
 obtain⟨f1,f2,_⟩:=g2
 simp only[Nq,UH,List.drop_zero,List.drop_succ_cons,List.take_succ_cons,List.take_zero]at f1 f2
 obtain⟨s,e1,h1⟩:=Qe f1
 obtain⟨v,e2,h2⟩:=Kz f2
 cases e1;cases e2
 exact⟨⟨s,v⟩,rfl,h1,h2⟩
theorem Jl {α:Type} {f:α→AV} {Q:α→Prop} {d:Nat} {t e:TypeId} {cs:List AV} (hu:Tryz.prog.underlying t=some (.slice e)) (he:∀d x,like Tryz.prog d e x→∃y,x=f y∧Q y) (h:C9 Tryz.prog d t cs):
 ∃nn l,cs=[.sl nn (vs f l)]∧(nn=false→l=[])∧Ln l∧∀y∈l,Q y:=by
 obtain⟨d',rfl,nn,xs,rfl,h0,h1,h2⟩:=KA hu h
 obtain⟨l,rfl,h3⟩:=MG (f:=f) (Q:=Q) fun x hx=>he d' x (h2 x hx)
 exact⟨nn,l,rfl,fun h=>by have:=h0 h;simpa using this,QC (by simpa using h1),h3⟩
theorem Abe {d:Nat} {a:AV} (h:like Tryz.prog d 9 a):∃s:List UInt8,a=.str s∧Ln s:=by
 obtain⟨k,e1,h1⟩:=O9 Tryz.underlying9 h
 exact⟨k,e1,QC h1⟩
theorem Aaa {d:Nat} {a:AV} (h:like Tryz.prog d 55 a):∃v:GN,a=v.av∧v.ok:=by
 obtain⟨cs,rfl,h0⟩:=D9 Tryz.underlying55 h
 obtain⟨d',rfl,g1,g2⟩:=DL Tryz.underlying55 h0
 rw[AfE]at g1
 obtain⟨a,b,c,rfl⟩:=Aje g1
 clear g1
 simp only[List.forall_mem_cons]at g2
 obtain⟨f1,f2,f3,_⟩:=g2
 simp only[Tz,TA,Y5,List.drop_zero,List.drop_succ_cons,List.take_succ_cons,List.take_zero]at f1 f2 f3
 obtain⟨s,e1,h1⟩:=Ei f1
 obtain⟨ln,L,e2,h2,h2a,h2b⟩:=Jl (f:=.str) (Q:=Ln) Tryz.underlying31 (fun d x h=>Abe h) f2
 obtain⟨pn,P,e3,h3,h3a,h3b⟩:=Jl (f:=GP.av) (Q:=GP.ok) Tryz.underlying53 (fun d x h=>TD h) f3
 cases e1;cases e2;cases e3
 exact⟨⟨s,ln,L,pn,P⟩,rfl,h1,h2a,h2,h2b,h3a,h3,h3b⟩
theorem Aab {d:Nat} {a:AV} (h:like Tryz.prog d 57 a):∃v:GE,a=v.av∧v.ok:=by
 obtain⟨cs,rfl,h0⟩:=D9 Tryz.underlying57 h
 obtain⟨d',rfl,g1,g2⟩:=DL Tryz.underlying57 h0
 rw[AfF]at g1
 obtain⟨a,b,c,e,f,rfl⟩:=Ahg g1
 clear g1
 simp only[List.forall_mem_cons]at g2
 obtain⟨f1,f2,f3,f4,f5,_⟩:=g2
 simp only[Tz,Nq,Y5,List.drop_zero,List.drop_succ_cons,List.take_succ_cons,List.take_zero]at f1 f2 f3 f4 f5
 obtain⟨k,e1,h1⟩:=Ei f1
 obtain⟨n,e2,h2⟩:=Ei f2
 obtain⟨m,e3,h3⟩:=Ei f3
 obtain⟨s,e4,h4⟩:=Qe f4
 obtain⟨pn,P,e5,h5,h5a,h5b⟩:=Jl (f:=GP.av) (Q:=GP.ok) Tryz.underlying53 (fun d x h=>TD h) f5
 cases e1;cases e2;cases e3;cases e4;cases e5
 exact⟨⟨k,n,m,s,pn,P⟩,rfl,h1,h2,h3,h4,h5a,h5,h5b⟩
theorem QD {a:AV} (h:Like Tryz.prog 30 a):∃v:GG,a=v.av∧v.ok:=by
 obtain⟨d,h⟩:=h
 obtain⟨cs,rfl,h0⟩:=D9 Tryz.underlying30 h
 obtain⟨d',rfl,g1,g2⟩:=DL Tryz.underlying30 h0
 rw[Y6]at g1
 obtain⟨a,b,c,e,rfl⟩:=Ajf g1
 clear g1
 simp only[List.forall_mem_cons]at g2
 obtain⟨f1,f2,f3,f4,_⟩:=g2
 simp only[Tz,AdC,AdD,List.drop_zero,List.drop_succ_cons,List.take_succ_cons,List.take_zero]at f1 f2 f3 f4
 obtain⟨nn,N,e1,h1,h1a,h1b⟩:=Jl (f:=GN.av) (Q:=GN.ok) Tryz.underlying27 (fun d x h=>Aaa h) f1
 obtain⟨en,E,e2,h2,h2a,h2b⟩:=Jl (f:=GE.av) (Q:=GE.ok) Tryz.underlying28 (fun d x h=>Aab h) f2
 obtain⟨m,e3,h3⟩:=Ei f3
 obtain⟨k,e4,h4⟩:=Ei f4
 cases e1;cases e2;cases e3;cases e4
 exact⟨⟨nn,N,en,E,m,k⟩,rfl,h1a,h1,h1b,h2a,h2,h2b,h3,h4⟩
def IW (l:List (Int×Int)) (a:Int):Option Int:=(l.find? fun p=>decide (p.1=a)).map (·.2)
def D6 (x y:Int):Int:=if y<x then y else x
def DY (x y:Int) (p:Int×Int):Int×Int:=if p.2=x∨p.2=y then(p.1,D6 x y)else p
def Gn (l:List (Int×Int)) (a b:Int):List (Int×Int):=match IW l a,IW l b with
 |some x,some y=>l.map (DY x y)
 |_,_=>l
def ET (ids:List Int) (es:List (Int×Int)):List (Int×Int):=es.foldl (fun l e=>Gn l e.1 e.2) (ids.map fun i=>(i,i))
theorem QU (ids:List Int) (es:List (Int×Int)) (e:Int×Int):ET ids (es++[e])=Gn (ET ids es) e.1 e.2:=by simp[ET]
theorem OJ (r:Int→Int):∀(ids:List Int) {a:Int},a∈ids→IW (ids.map fun i=>(i,r i)) a=some (r a)
 |[],a,h=>by cases h
 |i::ids,a,h=>by
  unfold IW
  rw[List.map_cons,List.find?_cons]
  by_cases e:i=a
  ·subst e;simp
  ·rw[show (decide ((i,r i).1=a))=false from decide_eq_false e]
   rcases List.mem_cons.1 h with k|k
   ·exact absurd k.symm e
   ·exact OJ r ids k
inductive Root (p:Int→Int):Int→Int→Prop where
 |here {x:Int} (h:p x=x):Root p x x
 |up {x c:Int} (h:p x≠x) (k:Root p (p x) c):Root p x c
theorem Root.fix {p:Int→Int} {x c:Int} (h:Root p x c):p c=c:=by
 induction h with
 |here h=>exact h
 |up _ _ ih=>exact ih
theorem Root.He {p:Int→Int} {x c d:Int} (h:Root p x c) (k:Root p x d):c=d:=by
 induction h with
 |here h=>cases k with
  |here _=>rfl
  |up h' _=>exact absurd h h'
 |up h _ ih=>cases k with
  |here h'=>exact absurd h' h
  |up _ k'=>exact ih k'
theorem Root.QH {p:Int→Int} {x c:Int} (h:Root p x c) (k:p x=x):c=x:=h.He (.here k)
def Oz (p:Int→Int) (x y:Int):Int→Int:=fun z=>if z=x then y else p z
theorem Dv (p:Int→Int) (x y:Int):Oz p x y x=y:=if_pos rfl
theorem CB {p:Int→Int} {x y z:Int} (h:z≠x):Oz p x y z=p z:=if_neg h
theorem Root.compress {p:Int→Int} {x c:Int} (hx:Root p x c) {a d:Int} (h:Root p a d):Root (Oz p x c) a d:=by
 have hc:=hx.fix
 have hcc:Oz p x c c=c:=by
  by_cases e:c=x
  ·subst e;exact Dv ..
  ·rw[CB e,hc]
 induction h with
 |@here a h=>
  by_cases e:a=x
  ·subst e
   have:=hx.QH h
   subst this
   exact .here (Dv ..)
  ·exact .here (by rw[CB e,h])
 |@up a d h k ih=>
  by_cases e:a=x
  ·subst e
   have:d=c:=(Root.up h k).He hx
   subst this
   by_cases e2:d=a
   ·subst e2;exact .here (Dv ..)
   ·exact .up (by rw[Dv];exact e2) (by rw[Dv];exact .here hcc)
  ·exact .up (by rw[CB e];exact h) (by rw[CB e];exact ih)
theorem Root.union {p:Int→Int} {M m:Int} (hM:p M=M) (hm:p m=m) (hne:m≠M) {a d:Int} (h:Root p a d):Root (Oz p M m) a (if d=M then m else d):=by
 have hmm:Oz p M m m=m:=by rw[CB hne,hm]
 induction h with
 |@here a h=>
  by_cases e:a=M
  ·subst e
   rw[if_pos rfl]
   exact .up (by rw[Dv];exact hne) (by rw[Dv];exact .here hmm)
  ·rw[if_neg e]
   exact .here (by rw[CB e,h])
 |@up a d h k ih=>
  by_cases e:a=M
  ·subst e;exact absurd hM h
  ·exact .up (by rw[CB e];exact h) (by rw[CB e];exact ih)
structure Dk (S:List Int) (p r:Int→Int):Prop where
 mem:∀x∈S,p x∈S
 le:∀x∈S,p x≤x
 root:∀x∈S,Root p x (r x)
section
variable {S:List Int} {p r:Int→Int}
theorem Dk.Abl (h:Dk S p r) {x:Int} (hx:x∈S):r x∈S:=by
 have k:=h.root x hx
 generalize r x=c at k
 induction k with
 |here _=>exact hx
 |up _ _ ih=>exact ih (h.mem _ hx)
theorem Dk.rle (h:Dk S p r) {x:Int} (hx:x∈S):r x≤x:=by
 have k:=h.root x hx
 generalize r x=c at k
 induction k with
 |here _=>exact Int.le_refl _
 |up _ _ ih=>exact Int.le_trans (ih (h.mem _ hx)) (h.le _ hx)
theorem Dk.AhR (h:Dk S p r) {x:Int} (hx:x∈S):p (r x)=r x:=(h.root x hx).fix
theorem Dk.QH (h:Dk S p r) {x:Int} (hx:x∈S) (k:p x=x):r x=x:=(h.root x hx).QH k
theorem Dk.step (h:Dk S p r) {x:Int} (hx:x∈S):r (p x)=r x:=by
 have k:=h.root x hx
 by_cases e:p x=x
 ·rw[e]
 ·generalize r x=c at k
  cases k with
  |here h'=>exact absurd h' e
  |up _ k'=>exact(h.root _ (h.mem x hx)).He k'
theorem Dk.compress (h:Dk S p r) {x c:Int} (hx:x∈S) (hc:c=r x):Dk S (Oz p x c) r:=by
 subst hc
 refine⟨fun y hy=>?_,fun y hy=>?_,fun y hy=>(h.root x hx).compress (h.root y hy)⟩
 ·by_cases e:y=x
  ·subst e;rw[Dv];exact h.Abl hx
  ·rw[CB e];exact h.mem y hy
 ·by_cases e:y=x
  ·subst e;rw[Dv];exact h.rle hx
  ·rw[CB e];exact h.le y hy
theorem Dk.start (S:List Int):Dk S (fun x=>x) (fun x=>x):=⟨fun _ h=>h,fun _ _=>Int.le_refl _,fun _ _=>.here rfl⟩
theorem Dk.union (h:Dk S p r) {a b:Int} (ha:a∈S) (hb:b∈S):
 Dk S (Oz p (if r b>r a then r b else r a) (if r b<r a then r b else r a)) (fun c=>(DY (r a) (r b) (c,r c)).2):=by
 obtain⟨M,hM⟩:∃M,(if r b>r a then r b else r a)=M:=⟨_,rfl⟩
 obtain⟨m,hm⟩:∃m,(if r b<r a then r b else r a)=m:=⟨_,rfl⟩
 rw[hM,hm]
 have fa:=h.AhR ha
 have fb:=h.AhR hb
 have ma:=h.Abl ha
 have mb:=h.Abl hb
 have hMr:M=r a∨M=r b:=by rw[← hM];split<;>simp
 have hmr:m=r a∨m=r b:=by rw[← hm];split<;>simp
 have hle:m≤M:=by rw[← hM,←hm];split<;>split<;>omega
 have hMS:M∈S:=by rcases hMr with e|e<;>rw[e]<;>assumption
 have hmS:m∈S:=by rcases hmr with e|e<;>rw[e]<;>assumption
 have hMf:p M=M:=by rcases hMr with e|e<;>rw[e]<;>assumption
 have hmf:p m=m:=by rcases hmr with e|e<;>rw[e]<;>assumption
 have hmin:D6 (r a) (r b)=m:=by rw[← hm];rfl
 refine⟨fun y hy=>?_,fun y hy=>?_,fun y hy=>?_⟩
 ·by_cases e:y=M
  ·subst e;rw[Dv];exact hmS
  ·rw[CB e];exact h.mem y hy
 ·by_cases e:y=M
  ·subst e;rw[Dv];exact hle
  ·rw[CB e];exact h.le y hy
 ·by_cases e:m=M
  ·have hab:r a=r b:=by
        rw[← hM,←hm]at e
        split at e<;>split at e<;>omega
   have hself:Oz p M m=p:=by
        funext z
        by_cases ez:z=M
        ·subst ez;rw[Dv,hMf];exact e
        ·exact CB ez
   rw[hself]
   have:(DY (r a) (r b) (y,r y)).2=r y:=by
        unfold DY
        split
        ·rename_i hc
         show D6 (r a) (r b)=r y
         unfold D6
         simp only at hc
         split<;>omega
        ·rfl
   rw[this]
   exact h.root y hy
  ·have k:=(h.root y hy).union hMf hmf e
   have:(DY (r a) (r b) (y,r y)).2=if r y=M then m else r y:=by
        unfold DY
        rw[hmin]
        simp only
        by_cases c1:r y=r a∨r y=r b
        ·rw[if_pos c1]
         show m=_
         by_cases c2:r y=M
         ·rw[if_pos c2]
         ·rw[if_neg c2]
          rcases c1 with c|c
          ·rw[c]at c2 ⊢
           rw[← hM]at c2
           rw[← hm]
           split at c2<;>split<;>omega
          ·rw[c]at c2 ⊢
           rw[← hM]at c2
           rw[← hm]
           split at c2<;>split<;>omega
        ·rw[if_neg c1]
         have:r y≠M:=fun e=>c1 (by rcases hMr with k|k<;>omega)
         rw[if_neg this]
   rw[this]
   exact k
def Bj (S:List Int) (r:Int→Int):List (Int×Int):=S.map fun i=>(i,r i)
theorem JF {a b:Int} (ha:a∈S) (hb:b∈S):Gn (Bj S r) a b=Bj S (fun c=>(DY (r a) (r b) (c,r c)).2):=by
 unfold Gn Bj
 rw[OJ r S ha,OJ r S hb]
 show(S.map _).map _=_
 rw[List.map_map]
 refine List.map_congr_left fun c _=>?_
 show DY (r a) (r b) (c,r c)=(c,(DY (r a) (r b) (c,r c)).2)
 unfold DY
 by_cases hc:r c=r a∨r c=r b
 ·simp only[hc,if_true]
 ·simp only[hc,if_false]
end
def pv (p:Int×Int):AV:=.agg [.int .i64 p.1,.int .i64 p.2]
theorem JE (x:Int×Int):(pv x).cells.length=2:=rfl
theorem VL {l:List (Int×Int)} {a:Int} {i:Nat} (h:∀p∈l.take i,p.1≠a) (hi:i<l.length) (hx:(l[i]).1=a):IW l a=some (l[i]).2:=by
 unfold IW
 have:(l.find? fun p=>decide (p.1=a))=some l[i]:=by
  rw[List.find?_eq_some_iff_getElem]
  refine⟨decide_eq_true hx,i,hi,rfl,fun j hj=>?_⟩
  have:=h (l[j]) (by rw[List.mem_take_iff_getElem];exact⟨j,by omega,rfl⟩)
  simpa using this
 rw[this]
 rfl
theorem VO {l:List (Int×Int)} {a:Int} (h:∀p∈l,p.1≠a):IW l a=none:=by
 unfold IW
 rw[List.find?_eq_none.2 fun p hp=>by simpa using h p hp]
 rfl
theorem Y4 {l:List (Int×Int)} {a:Int} {i:Nat} (h:∀p∈l.take i,p.1≠a) (hi:i<l.length) (hx:¬(l[i]).1=a):∀p∈l.take (i+1),p.1≠a:=by
 intro p hp
 rw[List.take_succ_eq_append_getElem hi,List.mem_append,List.mem_singleton]at hp
 rcases hp with hp|rfl
 ·exact h p hp
 ·exact hx
theorem Abb {l:List (Int×Int)} {a:Int} {i:Nat} (h:∀p∈l.take i,p.1≠a) (hi:¬i<l.length):∀p∈l,p.1≠a:=by
 rwa [List.take_of_length_le (by omega)]at h
def Ajb:Option Int→AV
 |some b=>.Cc [.int .i64 b,.bool true]
 |none=>.Cc [.int .i64 0,.bool false]
theorem Ae6 {l:List (Int×Int)} {a:Int} {nn:Bool} (hl:l.length<2^62):Af (Ad tab) 24 [.sl nn (vs pv l),.int .i64 a] (· =Ajb (IW l a)):=by
 refine Ac rfl rfl ?_
 (conv=>whnf);repeat' (first  |(refine kA ?_;conv=>whnf)|(refine Br.mk (fun hc=>?_) fun hc=>?_<;>first|exact hc.elim|conv=>whnf)|(refine kB ?_))
 refine Ak (fun m env s=>∃i:Nat,m=l.length-i∧env=[(0,.sl nn (vs pv l)),(1,.int .i64 a),(6,.int .i64 i)]∧s=⟨[],0⟩∧∀p∈l.take i,p.1≠a) ?_ _ _ _ ⟨0,rfl,rfl,rfl,by simp⟩
 rintro _ _ _ ⟨i,rfl,rfl,rfl,hx⟩
 refine⟨rfl,?_⟩
 by_cases hlt:i<l.length
 ·by_cases he:(l[i]).1=a
  ·have hf:=VL hx hlt he
   (conv=>whnf);repeat' (first  |(refine kA ?_;conv=>whnf)|(refine Br.mk (fun hc=>?_) fun hc=>?_<;>first|exact hc.elim|conv=>whnf)|(refine kB ?_))
   all_goals first
        |(exfalso;omega)
        |(rw [hf];rfl)
  ·(conv=>whnf);repeat' (first  |(refine kA ?_;conv=>whnf)|(refine Br.mk (fun hc=>?_) fun hc=>?_<;>first|exact hc.elim|conv=>whnf)|(refine kB ?_))
   all_goals first
        |(exfalso;omega)
        |exact again.mk ⟨_,by omega,i+1,rfl,rfl,rfl,Y4 hx hlt he⟩
 ·have hf:=VO (Abb hx hlt)
  (conv=>whnf);repeat' (first  |(refine kA ?_;conv=>whnf)|(refine Br.mk (fun hc=>?_) fun hc=>?_<;>first|exact hc.elim|conv=>whnf)|(refine kB ?_))
  all_goals first
   |(exfalso;omega)
   |(rw [hf];rfl)
theorem Ajc {p:Int×Int} {a:Int}:Af (Ad tab) 22 [pv p,.Ci [.int .i64 a]] (· =.bool (decide (p.1=a))):=by
 refine Ac rfl rfl ?_
 (conv=>whnf);repeat' (first  |(refine kA ?_;conv=>whnf)|(refine Br.mk (fun hc=>?_) fun hc=>?_<;>first|exact hc.elim|conv=>whnf)|(refine kB ?_))
 ·exact Bv (by assumption)
 ·exact AB (by assumption)
theorem Ajd {p:Int×Int} {a:Int}:Af (Ad tab) 23 [pv p,.Ci [.int .i64 a]] (· =.bool (decide (p.1=a))):=by
 refine Ac rfl rfl ?_
 (conv=>whnf);repeat' (first  |(refine kA ?_;conv=>whnf)|(refine Br.mk (fun hc=>?_) fun hc=>?_<;>first|exact hc.elim|conv=>whnf)|(refine kB ?_))
 ·exact Bv (by assumption)
 ·exact AB (by assumption)
inductive AfC (l:List (Int×Int)) (a:Int):AV→Prop
 |at(i:Nat) (h:i<l.length) (hf:IW l a=some (l[i]).2):AfC l a (.int .i64 i)
 |no (hf:IW l a=none):AfC l a (.int .i64 (-1))
theorem idx {k:Nat} {l:List (Int×Int)} {a:Int} {nn:Bool} (hl:l.length<2^62) (hk:∀p:Int×Int,Af (Ad tab) k [pv p,.Ci [.int .i64 a]] (· =.bool (decide (p.1=a)))):
 Af (Ad tab) 21 [.sl nn (vs pv l),.fn k [.Ci [.int .i64 a]]] (AfC l a):=by
 refine Ac rfl rfl ?_
 (conv=>whnf);repeat' (first  |(refine kA ?_;conv=>whnf)|(refine Br.mk (fun hc=>?_) fun hc=>?_<;>first|exact hc.elim|conv=>whnf)|(refine kB ?_))
 refine Ak (fun m env s=>∃i:Nat,m=l.length-i∧env=[(0,.sl nn (vs pv l)),(1,.fn k [.Ci [.int .i64 a]]),(7,.int .i64 l.length),(8,.int .i64 i)]∧s=⟨[],0⟩∧∀p∈l.take i,p.1≠a) ?_ _ _ _ ⟨0,rfl,rfl,rfl,by simp⟩
 rintro _ _ _ ⟨i,rfl,rfl,rfl,hx⟩
 refine⟨rfl,?_⟩
 by_cases hlt:i<l.length
 ·have hp:=hk (l[i])
  by_cases he:(l[i]).1=a
  ·have hf:=VL hx hlt he
   rw[decide_eq_true he]at hp
   (conv=>whnf);repeat' (first|(refine Aa hp ?_;rintro _ rfl;conv=>whnf)|(refine kA ?_;conv=>whnf)|(refine Br.mk (fun hc=>?_) fun hc=>?_<;>first|exact hc.elim|conv=>whnf)|(refine kB ?_))
   all_goals first
        |(exfalso;omega)
        |exact .at i hlt hf
  ·rw[decide_eq_false he]at hp
   (conv=>whnf);repeat' (first|(refine Aa hp ?_;rintro _ rfl;conv=>whnf)|(refine kA ?_;conv=>whnf)|(refine Br.mk (fun hc=>?_) fun hc=>?_<;>first|exact hc.elim|conv=>whnf)|(refine kB ?_))
   all_goals first
        |(exfalso;omega)
        |exact again.mk ⟨_,by omega,i+1,rfl,rfl,rfl,Y4 hx hlt he⟩
 ·have hf:=VO (Abb hx hlt)
  (conv=>whnf);repeat' (first  |(refine kA ?_;conv=>whnf)|(refine Br.mk (fun hc=>?_) fun hc=>?_<;>first|exact hc.elim|conv=>whnf)|(refine kB ?_))
  all_goals first
   |(exfalso;omega)
   |exact .no hf
theorem tPv {l:List (Int×Int)} {i:Nat} {y:Int×Int} {v:Int} {K:List AV→Prop} (k:K (vs pv (l.set i (y.1,v)))):eqK ((vs pv l).set (Int.toNat (i:Int)) (BI (pv y) (0+1) (.int .i64 v))) K:=by
 refine F9 ?_ k
 show(vs pv l).set i (pv (y.1,v))=_
 simp[vs,List.map_set]
structure Half (f:Int×Int→Int×Int) (l W:List (Int×Int)) (i:Nat):Prop where
 len:W.length=l.length
 old:∀j,i≤j→W[j]?=l[j]?
 new:∀j,j<i→W[j]?=(l.map f)[j]?
theorem Half.start (f:Int×Int→Int×Int) (l:List (Int×Int)):Half f l l 0:=⟨rfl,fun _ _=>rfl,fun _ h=>absurd h (by omega)⟩
theorem Half.at {f:Int×Int→Int×Int} {l W:List (Int×Int)} {i:Nat} (h:Half f l W i) (hi:i<l.length):W[i]'(by rw[h.len];exact hi)=l[i]:=by
 have:=h.old i (Nat.le_refl _)
 rw[List.getElem?_eq_getElem hi,List.getElem?_eq_getElem (by rw[h.len];exact hi)]at this
 simpa using this
theorem Half.put {f:Int×Int→Int×Int} {l W:List (Int×Int)} {i:Nat} (h:Half f l W i) (hi:i<l.length):Half f l (W.set i (f (l[i]))) (i+1):=by
 refine⟨by simp[h.len],fun j hj=>?_,fun j hj=>?_⟩
 ·rw[List.getElem?_set_ne (by omega)];exact h.old j (by omega)
 ·by_cases e:j=i
  ·subst e
   rw[List.getElem?_set_self (by rw[h.len];exact hi),List.getElem?_map,List.getElem?_eq_getElem hi];rfl
  ·rw[List.getElem?_set_ne (by omega)];exact h.new j (by omega)
theorem Half.skip {f:Int×Int→Int×Int} {l W:List (Int×Int)} {i:Nat} (h:Half f l W i) (hi:i<l.length) (he:f (l[i])=l[i]):Half f l W (i+1):=by
 refine⟨h.len,fun j hj=>h.old j (by omega),fun j hj=>?_⟩
 by_cases e:j=i
 ·subst e
  rw[h.old j (Nat.le_refl _),List.getElem?_map,List.getElem?_eq_getElem hi,Option.map_some,he]
 ·exact h.new j (by omega)
theorem Half.all {f:Int×Int→Int×Int} {l W:List (Int×Int)} {i:Nat} (h:Half f l W i) (hi:¬i<l.length):W=l.map f:=by
 apply List.ext_getElem?
 intro j
 by_cases hj:j<i
 ·exact h.new j hj
 ·rw[List.getElem?_eq_none (by rw[h.len];omega),List.getElem?_eq_none (by simp;omega)]
theorem QB {x y:Int} {p:Int×Int} (h:p.2=x∨p.2=y):DY x y p=(p.1,if y<x then y else x):=by unfold DY;rw[if_pos h];rfl
theorem O8 {x y:Int} {p:Int×Int} (h1:¬p.2=x) (h2:¬p.2=y):DY x y p=p:=by unfold DY;rw[if_neg (by intro h;rcases h with h|h;exact h1 h;exact h2 h)]
theorem KC (p:Int→Int):∀{S:List Int} {x:Int},x∈S→P6 (Bj S p) x=some (p x)
 |[],x,h=>by cases h
 |i::S,x,h=>by
  show(if x=i then some (p i)else P6 (Bj S p) x)=_
  by_cases e:x=i
  ·subst e;rw[if_pos rfl]
  ·rw[if_neg e]
   rcases List.mem_cons.1 h with k|k
   ·exact absurd k e
   ·exact KC p k
theorem Pg (p:Int→Int) {x y:Int}:∀{S:List Int},S.Nodup→x∈S→P7 (Bj S p) x y=Bj S (Oz p x y)
 |[],_,h=>by cases h
 |i::S,hn,h=>by
  have hn':=List.nodup_cons.1 hn
  show(if x=i then(x,y)::Bj S p else(i,p i)::P7 (Bj S p) x y)=(i,Oz p x y i)::Bj S (Oz p x y)
  by_cases e:x=i
  ·subst e
   rw[if_pos rfl,Dv]
   congr 1
   refine List.map_congr_left fun z hz=>?_
   rw[CB (fun e=>hn'.1 (by rw[← e];exact hz))]
  ·rw[if_neg e,CB (fun k=>e k.symm)]
   rcases List.mem_cons.1 h with k|k
   ·exact absurd k e
   ·rw[Pg p hn'.2 k]
theorem VP:∀{S:List Int} {x:Int},x∉S→P7 (Bj S fun z=>z) x x=Bj (S++[x]) fun z=>z
 |[],x,_=>rfl
 |i::S,x,h=>by
  show(if x=i then(x,x)::Bj S (fun z=>z)else(i,i)::P7 (Bj S fun z=>z) x x)=(i,i)::Bj (S++[x]) fun z=>z
  rw[if_neg (fun e=>h (by rw[e];simp)),VP (fun k=>h (List.mem_cons_of_mem _ k))]
theorem fkL {S:List Int} {p:Int→Int} {x:Int} {K:Option (Nat×AV)→Prop} (hx:x∈S) (h:∀i,K (some (i,.int .i64 (p x)))):TF .int (.int .i64 x) (KD (Bj S p)) K:=
 fkI (fun hm=>by rw[KC p hx]at hm;cases hm) fun i v hm=>by
  rw[KC p hx]at hm
  cases hm
  exact h i
theorem msL {S:List Int} {p:Int→Int} {x y:Int} {K:List (AV×AV)→Prop} (hn:S.Nodup) (hx:x∈S) (h:K (KD (Bj S (Oz p x y)))):VQ .int (.int .i64 x) (.int .i64 y) (KD (Bj S p)) K:=
 msI (by rw[Pg p hn hx];exact h)
theorem msA {S:List Int} {x:Int} {K:List (AV×AV)→Prop} (hx:x∉S) (h:K (KD (Bj (S++[x]) fun z=>z))):VQ .int (.int .i64 x) (.int .i64 x) (KD (Bj S fun z=>z)) K:=
 msI (by rw[VP hx];exact h)
def VD (P8:Obj) (gm gr:Nat) (S:List Int) (p:Int→Int) (rest:List Obj):List Obj:=P8::.mp gm true (KD (Bj S p))::.arr gr 1 true false [.agg [.map 1 gm]]::rest
theorem Ahk {S:List Int} {x:Int} (hx:x∉S) {P8:Obj} {gm gr c:Nat} {rest:List Obj}:
 AQ (Ad tab) 39 [.ref 2 gr 0 0,.int .i64 x] ⟨VD P8 gm gr S (fun z=>z) rest,c⟩ fun out s'=>∃c',out=.ok (.Cc [])∧s'=⟨VD P8 gm gr (S++[x]) (fun z=>z) rest,c'⟩:=by
 unfold VD
 refine Am rfl rfl ?_
 (conv=>whnf);repeat' (first|(refine msA hx ?_;conv=>whnf)|(refine kA ?_;conv=>whnf)|(refine Br.mk (fun hc=>?_) fun hc=>?_<;>first|exact hc.elim|conv=>whnf)|(refine kB ?_))
 all_goals first|exact⟨_,rfl,rfl⟩
set_option maxHeartbeats 1000000 in
theorem AfH {S:List Int} {p r:Int→Int} (hF:Dk S p r) (hn:S.Nodup) (hpos:∀y∈S,1≤y) {x:Int} (hx:x∈S) {P8:Obj} {gm gr c:Nat} {rest:List Obj}:
 AQ (Ad tab) 41 [.ref 2 gr 0 0,.int .i64 x] ⟨VD P8 gm gr S p rest,c⟩ fun out s'=>∃c' p',Dk S p' r∧out=.ok (.int .i64 (r x))∧s'=⟨VD P8 gm gr S p' rest,c'⟩:=by
 unfold VD
 refine Am rfl rfl ?_
 (conv=>whnf);repeat' (first  |(refine kA ?_;conv=>whnf)|(refine Br.mk (fun hc=>?_) fun hc=>?_<;>first|exact hc.elim|conv=>whnf)|(refine kB ?_))
 refine Ak (fun m env s=>∃(y:Int) (c:Nat),m=y.toNat∧y∈S∧r y=r x∧env=[(0,.ref 2 gr 0 0),(1,.int .i64 x),(5,.int .i64 y)]∧s=⟨P8::.mp gm true (KD (Bj S p))::.arr gr 1 true false [.agg [.map 1 gm]]::rest,c⟩) ?_ _ _ _ ⟨x,_,rfl,hx,rfl,rfl,rfl⟩
 rintro _ _ _ ⟨y,c,rfl,hy,hry,rfl,rfl⟩
 refine⟨rfl,?_⟩
 have hle:=hF.le y hy
 have hy1:=hpos y hy
 have Ahl:=hpos _ (hF.mem y hy)
 by_cases hfix:p y=y
 ·have hroot:r x=y:=by rw[← hry];exact hF.QH hy hfix
  (conv=>whnf);repeat' (first|(refine fkL hy (fun i=>?_);conv=>whnf)|(refine kA ?_;conv=>whnf)|(refine Br.mk (fun hc=>?_) fun hc=>?_<;>first|exact hc.elim|conv=>whnf)|(refine kB ?_))
  all_goals first|(exfalso;omega)|skip
  clear hle hy1 Ahl hc hry
  refine Ak (fun m env s=>∃(z:Int) (p:Int→Int) (c:Nat),m=z.toNat∧Dk S p r∧z∈S∧r z=y∧env=[(0,.ref 2 gr 0 0),(1,.int .i64 z),(5,.int .i64 y)]∧s=⟨P8::.mp gm true (KD (Bj S p))::.arr gr 1 true false [.agg [.map 1 gm]]::rest,c⟩) ?_ _ _ _ ⟨x,p,_,rfl,hF,hx,hroot,rfl,rfl⟩
  clear hfix hF
  rintro _ _ _ ⟨z,p,c,rfl,hF,hz,hrz,rfl,rfl⟩
  refine⟨rfl,?_⟩
  have hle:=hF.le z hz
  have Ahl:=hpos _ (hF.mem z hz)
  by_cases hgo:p z=y
  ·(conv=>whnf);repeat' (first|(refine fkL hz (fun i=>?_);conv=>whnf)|(refine kA ?_;conv=>whnf)|(refine Br.mk (fun hc=>?_) fun hc=>?_<;>first|exact hc.elim|conv=>whnf)|(refine kB ?_))
   all_goals first
        |(exfalso;omega)
        |exact⟨_,p,hF,congrArg (fun n=>AA.ok (.int .i64 n)) hroot.symm,rfl⟩
  ·have hne:p z≠z:=fun e=>hgo (by rw[e,←hrz];exact(hF.QH hz e).symm)
   have hF':=hF.compress hz (c:=y) hrz.symm
   (conv=>whnf);repeat' (first|(refine fkL hz (fun i=>?_);conv=>whnf)|(refine msL hn hz ?_;conv=>whnf)|(refine kA ?_;conv=>whnf)|(refine Br.mk (fun hc=>?_) fun hc=>?_<;>first|exact hc.elim|conv=>whnf)|(refine kB ?_))
   all_goals first
        |(exfalso;omega)
        |exact again.mk ⟨_,by omega,p z,_,_,rfl,hF',hF.mem z hz,(hF.step hz).trans hrz,rfl,rfl⟩
 ·(conv=>whnf);repeat' (first|(refine fkL hy (fun i=>?_);conv=>whnf)|(refine kA ?_;conv=>whnf)|(refine Br.mk (fun hc=>?_) fun hc=>?_<;>first|exact hc.elim|conv=>whnf)|(refine kB ?_))
  all_goals first
   |(exfalso;omega)
   |exact again.mk ⟨_,by omega,p y,_,rfl,hF.mem y hy,(hF.step hy).trans hry,rfl,rfl⟩
set_option maxHeartbeats 1000000 in
theorem Aji {S:List Int} {p r:Int→Int} (hF:Dk S p r) (hn:S.Nodup) (hpos:∀y∈S,1≤y) {a b:Int} (ha:a∈S) (hb:b∈S) {P8 ob3:Obj} {gm gr c:Nat}:
 AQ (Ad tab) 40 [.ref 2 gr 0 0,.int .i64 a,.int .i64 b] ⟨VD P8 gm gr S p [ob3],c⟩ fun out s'=>∃c' p',Dk S p' (fun c=>(DY (r a) (r b) (c,r c)).2)∧out=.ok (.Cc [])∧s'=⟨VD P8 gm gr S p' [ob3],c'⟩:=by
 unfold VD
 refine Am rfl rfl ?_
 (conv=>whnf);repeat' (first  |(refine kA ?_;conv=>whnf)|(refine Br.mk (fun hc=>?_) fun hc=>?_<;>first|exact hc.elim|conv=>whnf)|(refine kB ?_))
 refine(AfH hF hn hpos ha).mono ?_
 rintro _ _ ⟨c1,p1,hF1,rfl,rfl⟩
 unfold VD
 (conv=>whnf);repeat' (first  |(refine kA ?_;conv=>whnf)|(refine Br.mk (fun hc=>?_) fun hc=>?_<;>first|exact hc.elim|conv=>whnf)|(refine kB ?_))
 refine(AfH hF1 hn hpos hb).mono ?_
 rintro _ _ ⟨c2,p2,hF2,rfl,rfl⟩
 unfold VD
 have hU:=hF2.union ha hb
 have hM:(if r b>r a then r b else r a)∈S:=by split<;>first|exact hF2.Abl ha|exact hF2.Abl hb
 (conv=>whnf);repeat' (first|(refine msL hn hM ?_;conv=>whnf)|(refine kA ?_;conv=>whnf)|(refine Br.mk (fun hc=>?_) fun hc=>?_<;>first|exact hc.elim|conv=>whnf)|(refine kB ?_))
 all_goals first
  |exact⟨_,_,hU,rfl,rfl⟩
theorem AjR {l:List (List UInt8)} {x:List UInt8} {nn:Bool} (hl:l.length<2^63):Af (Ad tab) 63 [.sl nn (vs .str l),.str x] (fun v=>∃z,v=.int .i64 z∧(0≤z↔x∈l)):=by
 refine Ac rfl rfl ?_
 (conv=>whnf);repeat' (first|(refine kA ?_;conv=>whnf)|(refine Br.mk (fun hc=>?_) fun hc=>?_<;>first|exact hc.elim|conv=>whnf)  |(refine kB ?_))
 refine Ak (fun m env s=>∃i:Nat,m=l.length-i∧env=[(0,.sl nn (vs .str l)),(1,.str x),(7,.int .i64 l.length),(8,.int .i64 i)]∧s=⟨[],0⟩∧x∉l.take i) ?_ _ _ _ ⟨0,rfl,by simp,rfl,by simp⟩
 rintro _ _ _ ⟨i,rfl,rfl,rfl,hx⟩
 refine⟨rfl,?_⟩
 (conv=>whnf);repeat' (first|(refine kA ?_;conv=>whnf)|(refine Br.mk (fun hc=>?_) fun hc=>?_<;>first|exact hc.elim|conv=>whnf)  |(refine kB ?_))
 ·subst hc;exact⟨_,rfl,by simp⟩
 ·exact again.mk ⟨_,by omega,i+1,rfl,rfl,rfl,nms (by omega) hx (fun h=>hc h.symm)⟩
 ·rw[CW hc]at hx;exact⟨_,rfl,by simp[hx]⟩
theorem Ah2 {l:List (List UInt8)} {x:List UInt8} {nn:Bool} (hl:l.length<2^63):Af (Ad tab) 44 [.sl nn (vs .str l),.str x] (· =.bool (decide (x∈l))):=by
 refine Ac rfl rfl ?_
 (conv=>whnf);repeat' (first|(refine kA ?_;conv=>whnf)|(refine Br.mk (fun hc=>?_) fun hc=>?_<;>first|exact hc.elim|conv=>whnf)  |(refine kB ?_))
 refine Aa (AjR hl) ?_
 rintro _ ⟨z,rfl,hz⟩
 (conv=>whnf);repeat' (first|(refine kA ?_;conv=>whnf)|(refine Br.mk (fun hc=>?_) fun hc=>?_<;>first|exact hc.elim|conv=>whnf)  |(refine kB ?_))
 ·exact Bv (hz.1 hc)
 ·exact AB (mt hz.2 hc)
theorem Ah1 {l:List (List UInt8)} {x:List UInt8} {nn:Bool} (hl:l.length<2^63):Af (Ad tab) 64 [.sl nn (vs .str l),.str x] (· =.bool (decide (x∈l))):=by
 refine Ac rfl rfl ?_
 (conv=>whnf);repeat' (first|(refine kA ?_;conv=>whnf)|(refine Br.mk (fun hc=>?_) fun hc=>?_<;>first|exact hc.elim|conv=>whnf)  |(refine kB ?_))
 refine Ak (fun m env s=>∃i:Nat,m=l.length-i∧env=[(0,.sl nn (vs .str l)),(1,.str x),(5,.int .i64 i)]∧s=⟨[],0⟩∧x∉l.take i) ?_ _ _ _ ⟨0,rfl,rfl,rfl,by simp⟩
 rintro _ _ _ ⟨i,rfl,rfl,rfl,hx⟩
 refine⟨rfl,?_⟩
 (conv=>whnf);repeat' (first|(refine kA ?_;conv=>whnf)|(refine Br.mk (fun hc=>?_) fun hc=>?_<;>first|exact hc.elim|conv=>whnf)  |(refine kB ?_))
 ·subst hc;exact Bv (by simp)
 ·exact again.mk ⟨_,by omega,i+1,rfl,rfl,rfl,nms (by omega) hx hc⟩
 ·rw[CW hc]at hx;exact AB hx
def HT (l:List (List UInt8)) (e:GE):Prop:=l.length=0∨e.ty∈l
instance (l:List (List UInt8)) (e:GE):Decidable (HT l e):=by unfold HT;infer_instance
theorem WB {l:List (List UInt8)} {e:GE} {nn:Bool} (hl:l.length<2^63):Af (Ad tab) 27 [e.av,.sl nn (vs .str l)] (· =.bool (decide (HT l e))):=by
 refine Ac rfl rfl ?_
 (conv=>whnf);repeat' (first|(refine kA ?_;conv=>whnf)|(refine Br.mk (fun hc=>?_) fun hc=>?_<;>first|exact hc.elim|conv=>whnf)|(refine BM (Ah2 hl) (fun hc=>?_) (fun hc=>?_)<;>conv=>whnf)|(refine kB ?_))
 all_goals first|exact Bv (by unfold HT;first|(left;omega)|(right;assumption))|exact AB (by unfold HT;rintro(h|h);omega;contradiction)
theorem Ab5 {l:List (List UInt8)} {e:GE} {nn:Bool} (hl:l.length<2^63):Af (Ad tab) 45 [e.av,.sl nn (vs .str l)] (· =.bool (decide (HT l e))):=by
 refine Ac rfl rfl ?_
 (conv=>whnf);repeat' (first|(refine kA ?_;conv=>whnf)|(refine Br.mk (fun hc=>?_) fun hc=>?_<;>first|exact hc.elim|conv=>whnf)|(refine BM (Ah1 hl) (fun hc=>?_) (fun hc=>?_)<;>conv=>whnf)|(refine kB ?_))
 all_goals first|exact Bv (by unfold HT;first|(left;omega)|(right;assumption))|exact AB (by unfold HT;rintro(h|h);omega;contradiction)
theorem N8 {l:List AV} (h:∀x∈l,Like Tryz.prog 34 x) (i:Nat):
 ∃g:GV,∀hi:i<l.length,nth l (Int.toNat (Nat.cast i))=some g.av∧l[i]=g.av∧g.ok:=by
 by_cases hi:i<l.length
 ·obtain⟨g,e,hg⟩:=XU (h _ (List.getElem_mem hi))
  exact⟨g,fun _=>⟨by rw[← e];exact nR hi,e,hg⟩⟩
 ·exact⟨⟨0,0,0,[],true,[]⟩,fun h=>absurd h hi⟩
theorem Aih {types:List (List UInt8)} {tn:Bool} (hl:types.length<2^63) {e:GE}:Af (Ad tab) 52 [e.av,.Ci [.sl tn (vs .str types)]] (· =.bool (!decide (HT types e))):=by
 have p1:=WB (l:=types) (e:=e) (nn:=tn) (by omega)
 refine Ac rfl rfl ?_
 (conv=>whnf);repeat' (first|(refine Aa p1 ?_;rintro _ rfl;conv=>whnf)|(refine kA ?_;conv=>whnf)|(refine Br.mk (fun hc=>?_) fun hc=>?_<;>first|exact hc.elim|conv=>whnf)|(refine kB ?_))
 all_goals first|(rw [‹decide (HT types e)=true›];rfl)|(rw [‹decide (HT types e)=false›];rfl)|rfl
inductive AgD (p:GE→Prop) (L:List GE):AV→Prop
 |at(i:Nat) (h:i<L.length) (hf:¬p L[i]) (hb:∀e∈L.take i,p e):AgD p L (.int .i64 i)
 |no (hf:∀e∈L,p e):AgD p L (.int .i64 (-1))
theorem Aii {types:List (List UInt8)} {tn nn:Bool} (hl:types.length<2^63) {L:List GE} (hL:L.length<2^62):
 Af (Ad tab) 80 [.sl nn (vs GE.av L),.fn 52 [.Ci [.sl tn (vs .str types)]]] (AgD (HT types) L):=by
 refine Ac rfl rfl ?_
 (conv=>whnf);repeat' (first  |(refine kA ?_;conv=>whnf)|(refine Br.mk (fun hc=>?_) fun hc=>?_<;>first|exact hc.elim|conv=>whnf)|(refine kB ?_))
 refine Ak (fun m env s=>∃i:Nat,m=L.length-i∧env=[(0,.sl nn (vs GE.av L)),(1,.fn 52 [.Ci [.sl tn (vs .str types)]]),(7,.int .i64 L.length),(8,.int .i64 i)]∧s=⟨[],0⟩∧∀e∈L.take i,HT types e) ?_ _ _ _ ⟨0,rfl,rfl,rfl,by simp⟩
 rintro _ _ _ ⟨i,rfl,rfl,rfl,hx⟩
 refine⟨rfl,?_⟩
 by_cases hlt:i<L.length
 ·have hp:=Aih (types:=types) (tn:=tn) hl (e:=L[i])
  by_cases he:HT types L[i]
  ·rw[decide_eq_true he]at hp
   (conv=>whnf);repeat' (first|(refine Aa hp ?_;rintro _ rfl;conv=>whnf)|(refine kA ?_;conv=>whnf)|(refine Br.mk (fun hc=>?_) fun hc=>?_<;>first|exact hc.elim|conv=>whnf)|(refine kB ?_))
   all_goals first
        |(exfalso;omega)
        |exact again.mk ⟨_,by omega,i+1,rfl,rfl,rfl,fun e h=>by
          rw[List.take_succ_eq_append_getElem hlt,List.mem_append,List.mem_singleton]at h
          rcases h with h|h
          ·exact hx e h
          ·subst h;exact he⟩
  ·rw[decide_eq_false he]at hp
   (conv=>whnf);repeat' (first|(refine Aa hp ?_;rintro _ rfl;conv=>whnf)|(refine kA ?_;conv=>whnf)|(refine Br.mk (fun hc=>?_) fun hc=>?_<;>first|exact hc.elim|conv=>whnf)|(refine kB ?_))
   all_goals first
        |(exfalso;omega)
        |exact .at i hlt he hx
 ·rw[List.take_of_length_le (by omega)]at hx
  (conv=>whnf);repeat' (first  |(refine kA ?_;conv=>whnf)|(refine Br.mk (fun hc=>?_) fun hc=>?_<;>first|exact hc.elim|conv=>whnf)|(refine kB ?_))
  all_goals first
   |(exfalso;omega)
   |exact .no hx
structure Del (p:GE→Prop) [DecidablePred p] (L W:List GE) (i j:Nat):Prop where
 len:W.length=L.length
 le:i≤j
 new:W.take i=(L.take j).filter fun e=>decide (p e)
 old:∀k,j≤k→W[k]?=L[k]?
section
variable {p:GE→Prop} [DecidablePred p] {L W:List GE} {i j:Nat}
theorem Del.start {i:Nat} (h:i<L.length) (hf:¬p L[i]) (hb:∀e∈L.take i,p e):Del p L L i (i+1):=by
 refine⟨rfl,by omega,?_,fun _ _=>rfl⟩
 rw[List.take_succ_eq_append_getElem h,List.filter_append,List.filter_eq_self.2 fun e he=>decide_eq_true (hb e he)]
 simp[hf]
theorem Del.at (h:Del p L W i j) (hj:j<L.length):W[j]'(by rw[h.len];exact hj)=L[j]:=by
 have:=h.old j (Nat.le_refl _)
 rw[List.getElem?_eq_getElem hj,List.getElem?_eq_getElem (by rw[h.len];exact hj)]at this
 simpa using this
theorem Del.keep (h:Del p L W i j) (hj:j<L.length) (hp:p L[j]):Del p L (W.set i L[j]) (i+1) (j+1):=by
 have hi:i<W.length:=by rw[h.len];have:=h.le;omega
 refine⟨by simp[h.len],by have:=h.le;omega,?_,fun k hk=>?_⟩
 ·rw[List.take_succ_eq_append_getElem (by simpa using hi),List.getElem_set_self,List.take_set_of_le (Nat.le_refl _),h.new,List.take_succ_eq_append_getElem hj,List.filter_append]
  simp[hp]
 ·rw[List.getElem?_set_ne (by have:=h.le;omega)];exact h.old k (by omega)
theorem Del.drop (h:Del p L W i j) (hj:j<L.length) (hp:¬p L[j]):Del p L W i (j+1):=by
 refine⟨h.len,by have:=h.le;omega,?_,fun k hk=>h.old k (by omega)⟩
 rw[h.new,List.take_succ_eq_append_getElem hj,List.filter_append]
 simp[hp]
theorem Del.all (h:Del p L W i j) (hj:¬j<L.length):W.take i=L.filter fun e=>decide (p e):=by
 rw[h.new,List.take_of_length_le (by omega)]
end
theorem ZM (e:GE):e.av.cells.length=5:=rfl
theorem AjZ {i n c g:Nat} {P8 P9:Obj} {W:List GE} {env:Env} (h:i≤n) (hW:W.length=n) (he:env.get 38=.own 2 g (Int.toNat (i:Int)) (n-Int.toNat (i:Int))):
 Ag Yy (.clear 5 (.tmp 38)) env ⟨[P8,P9,.arr g 5 true true (vs GE.av W)],c⟩=some (.ok .undef,⟨[P8,P9,.arr g 5 true true (vs GE.av (W.take i))],c⟩):=by
 have e1:(AO.tmp 38).val env=.own 2 g i (n-i):=he
 have hl:(vs GE.av W).length=n:=by rw[lV,hW]
 simp only[Ag,e1,nth]
 rw[if_pos ⟨trivial,trivial,by rw[hl];omega⟩]
 have e2:(if n-i=0 then vs GE.av W else(vs GE.av W).take i)=vs GE.av (W.take i):=by
  split
  ·rw[List.take_of_length_le (by omega)]
  ·simp[vs,List.map_take]
 rw[e2]
 rfl
set_option maxHeartbeats 1000000 in
theorem Aj0 {types:List (List UInt8)} {tn:Bool} (hl:types.length<2^63) {L:List GE} (hL:L.length<2^40) {P8 P9:Obj} {g c n:Nat} (hn:n=L.length):
 AQ (Ad tab) 50 [.own 2 g 0 n,.fn 52 [.Ci [.sl tn (vs .str types)]]] ⟨[P8,P9,.arr g 5 true true (vs GE.av L)],c⟩
  fun out s'=>∃c' W,W=(L.filter fun e=>decide (HT types e))∧out=.ok (.own 2 g 0 W.length)∧s'=⟨[P8,P9,.arr g 5 true true (vs GE.av W)],c'⟩:=by
 subst hn
 obtain⟨_,iE,pI⟩:=(Aii (types:=types) (tn:=tn) (nn:=true) hl (L:=L) (by omega)).He
 refine Am rfl rfl ?_
 cases iE with
 |no hf=>
  (conv=>whnf);repeat' (first|(refine Aa pI ?_;rintro _ rfl;conv=>whnf)|(refine kA ?_;conv=>whnf)|(refine Br.mk (fun hc=>?_) fun hc=>?_<;>first|exact hc.elim|conv=>whnf)|(refine kB ?_))
  all_goals first
   |(exfalso;omega)
   |exact⟨_,L,(List.filter_eq_self.2 fun e he=>decide_eq_true (hf e he)).symm,rfl,rfl⟩
 |«at» i hi hf hb=>
  (conv=>whnf);repeat' (first|(refine Aa pI ?_;rintro _ rfl;conv=>whnf)|(refine kA ?_;conv=>whnf)|(refine Br.mk (fun hc=>?_) fun hc=>?_<;>first|exact hc.elim|conv=>whnf)|(refine kB ?_))
  all_goals first|(exfalso;omega)|skip
  refine Ak (fun m env s=>∃(i j c:Nat) (W:List GE),m=L.length-j∧Del (HT types) L W i j∧i≤L.length∧env=[(0,.own 2 g 0 L.length),(1,.fn 52 [.Ci [.sl tn (vs .str types)]]),(5,.int .i64 i),(6,.int .i64 j)]∧s=⟨[P8,P9,.arr g 5 true true (vs GE.av W)],c⟩) ?_ _ _ _ ⟨i,i+1,_,L,rfl,.start hi hf hb,by omega,by simp,rfl⟩
  clear hc pI hi hf hb
  rintro _ _ _ ⟨i,j,c,W,rfl,hD,hi,rfl,rfl⟩
  refine⟨rfl,?_⟩
  have hWl:=hD.len
  have hij:=hD.le
  by_cases hlt:j<L.length
  ·have hx:=hD.at hlt
   have n1:nth (vs GE.av W) (Int.toNat (Nat.cast j))=some (L[j]).av:=by rw[← hx];exact nVN (by omega)
   have hp:=Aih (types:=types) (tn:=tn) hl (e:=L[j])
   by_cases he:HT types L[j]
   ·rw[decide_eq_true he]at hp
    have hlw:i<W.length:=by omega
    (conv=>whnf);repeat' (first|(apply Aq;(· exact n1);conv=>whnf)|(refine Aa hp ?_;rintro _ rfl;conv=>whnf)|(refine tV (f:=GE.av) (x:=L[j]) ZM i ?_;conv=>whnf)|(refine kA ?_;conv=>whnf)|(refine Br.mk (fun hc=>?_) fun hc=>?_<;>first|exact hc.elim|conv=>whnf)|(refine kB ?_))
    all_goals first
     |(exfalso;omega)
     |exact again.mk ⟨_,by omega,i+1,j+1,_,_,rfl,hD.keep hlt he,by omega,by simp,rfl⟩
   ·rw[decide_eq_false he]at hp
    (conv=>whnf);repeat' (first|(apply Aq;(· exact n1);conv=>whnf)|(refine Aa hp ?_;rintro _ rfl;conv=>whnf)|(refine kA ?_;conv=>whnf)|(refine Br.mk (fun hc=>?_) fun hc=>?_<;>first|exact hc.elim|conv=>whnf)|(refine kB ?_))
    all_goals first
     |(exfalso;omega)
     |exact again.mk ⟨_,by omega,i,j+1,_,_,rfl,hD.drop hlt he,by omega,by simp,rfl⟩
  ·have he:=hD.all hlt
   have hli:(W.take i).length=i:=by rw[List.length_take];omega
   (conv=>whnf);repeat' (first|(apply Au (AjZ hi hWl rfl);conv=>whnf)|(refine kA ?_;conv=>whnf)|(refine Br.mk (fun hc=>?_) fun hc=>?_<;>first|exact hc.elim|conv=>whnf)|(refine kB ?_))
   all_goals first
        |(exfalso;omega)
        |exact⟨_,W.take i,he,congrArg (fun n=>AA.ok (.own 2 g 0 n)) hli.symm,rfl⟩
theorem AcQ {L:List GE} (hl:L.length<2^40):AQ (Ad tab) 51 [.sl true (vs GE.av L)] ⟨[],0⟩ fun out s'=>∃o g,out=.ok (.own o g 0 (vs GE.av L).length)∧nth s'.σ o=some (.arr g 5 true true (vs GE.av L)):=by
 refine Am rfl rfl ?_
 (conv=>whnf);repeat' (first|(refine Aac (f:=GE.av) (l:=[]) (l':=L) rfl ZM rfl (by simp;omega) ?_;conv=>whnf)|(refine kA ?_;conv=>whnf)|(refine Br.mk (fun hc=>?_) fun hc=>?_<;>first|exact hc.elim|conv=>whnf)|(refine kB ?_))
 all_goals first|exact⟨0,_,congrArg (fun n=>AA.ok (.own 0 _ 0 n)) ((Nat.zero_add _).trans (lV L).symm),rfl⟩
theorem AcR:AQ (Ad tab) 51 [.sl false []] ⟨[],0⟩ fun out _=>out=.ok (.sl false []):=by
 refine Am rfl rfl ?_
 (conv=>whnf);repeat' (first  |(refine kA ?_;conv=>whnf)|(refine Br.mk (fun hc=>?_) fun hc=>?_<;>first|exact hc.elim|conv=>whnf)|(refine kB ?_))
 all_goals first|rfl
theorem Aik {types:List (List UInt8)} {tn:Bool} (hl:types.length<2^63) {P8 P9:Obj} {g c:Nat}:
 AQ (Ad tab) 50 [.own 2 g 0 0,.fn 52 [.Ci [.sl tn (vs .str types)]]] ⟨[P8,P9,.arr g 1 false true []],c⟩
  fun out s'=>∃c',out=.ok (.own 2 g 0 0)∧s'=⟨[P8,P9,.arr g 1 false true []],c'⟩:=by
 obtain⟨_,iE,pI⟩:=(Aii (types:=types) (tn:=tn) (nn:=false) hl (L:=[]) (by simp)).He
 cases iE with
 |«at» i hi hf hb=>exact absurd hi (by simp)
 |no hf=>
 refine Am rfl rfl ?_
 (conv=>whnf);repeat' (first|(refine Aa pI ?_;rintro _ rfl;conv=>whnf)|(refine kA ?_;conv=>whnf)|(refine Br.mk (fun hc=>?_) fun hc=>?_<;>first|exact hc.elim|conv=>whnf)|(refine kB ?_))
 all_goals first
  |(exfalso;omega)
  |exact⟨_,rfl,rfl⟩
def MJ (types:List (List UInt8)) (g:GG):List GE:=g.edges.filter fun e=>decide (HT types e)
theorem AfR {types:List (List UInt8)} {tn:Bool} (hl:types.length<2^63) {g:GG} (hg:g.ok) (hE:g.edges.length<2^39):Af (Ad tab) 31 [g.av,.sl tn (vs .str types)] (fun v=>∃b,v=.sl b (vs GE.av (MJ types g))):=by
 unfold MJ
 cases hen:g.en with
 |false=>
  have h0:g.edges=[]:=hg.2.2.2.2.1 hen
  have hav:g.av=.agg [.sl g.nn (vs GN.av g.nodes),.sl false [],.int .i64 g.Bl,.int .i64 g.Bq]:=by unfold GG.av;rw[hen,h0];rfl
  rw[hav,h0]
  refine Ac rfl rfl ?_
  (conv=>whnf);repeat' (first|(refine QF rfl AcR ?_;conv=>whnf)|(refine (Aik hl).mono ?_;rintro _ _ ⟨c',rfl,rfl⟩;conv=>whnf)|(refine kA ?_;conv=>whnf)|(refine Br.mk (fun hc=>?_) fun hc=>?_<;>first|exact hc.elim|conv=>whnf)|(refine kB ?_))
  all_goals first|(exfalso;omega)|exact⟨false,rfl⟩
 |true=>
  have hav:g.av=.agg [.sl g.nn (vs GN.av g.nodes),.sl true (vs GE.av g.edges),.int .i64 g.Bl,.int .i64 g.Bq]:=by unfold GG.av;rw[hen]
  rw[hav]
  have pc:=AcQ (L:=g.edges) (by omega)
  refine Ac rfl rfl ?_
  (conv=>whnf);repeat' (first|(refine Aad rfl pc ?_;conv=>whnf)|(refine (Aj0 hl (L:=g.edges) (by omega) (lV _)).mono ?_;rintro _ _ ⟨c',W,hW,rfl,rfl⟩;conv=>whnf)|(refine kA ?_;conv=>whnf)|(refine Br.mk (fun hc=>?_) fun hc=>?_<;>first|exact hc.elim|conv=>whnf)|(refine kB ?_))
  all_goals first|(exfalso;omega)|exact⟨true,by rw[hW]⟩
def LB (l:List (Int×Int)):AV→Prop:=fun v=>∃b,v=.sl b (vs pv l)
theorem QE {f:Int×Int→AV} {l:List (Int×Int)} {n:Nat} (h:n=l.length):sub (vs f l) 0 n=vs f l:=by subst h;exact uV
set_option maxHeartbeats 1000000 in
theorem Ahi {l:List (Int×Int)} {a b:Int} {nn:Bool} (hl:l.length<2^40):Af (Ad tab) 10 [.sl nn (vs pv l),.int .i64 a,.int .i64 b] (LB (Gn l a b)):=by
 have pa:=Ae6 (l:=l) (a:=a) (nn:=nn) (by omega)
 have pb:=Ae6 (l:=l) (a:=b) (nn:=nn) (by omega)
 unfold Gn
 cases ha:IW l a with
 |none=>
  rw[ha]at pa
  obtain⟨_,rfl,pb⟩:=pb.He
  cases hb:IW l b with
  |none=>
   rw[hb]at pb
   refine Ac rfl rfl ?_
   (conv=>whnf);repeat' (first|((first|refine Aa pa ?_|refine Aa pb ?_);rintro _ rfl;conv=>whnf)|(refine Aac (f:=pv) (l:=[]) (l':=l) rfl JE rfl (by simp;omega) ?_;conv=>whnf)|(refine kA ?_;conv=>whnf)|(refine Br.mk (fun hc=>?_) fun hc=>?_<;>first|exact hc.elim|conv=>whnf)|(refine kB ?_))
   all_goals first|(exfalso;omega)|exact⟨true,congrArg (AV.sl true) (QE (by simp))⟩
  |some y=>
   rw[hb]at pb
   refine Ac rfl rfl ?_
   (conv=>whnf);repeat' (first|((first|refine Aa pa ?_|refine Aa pb ?_);rintro _ rfl;conv=>whnf)|(refine Aac (f:=pv) (l:=[]) (l':=l) rfl JE rfl (by simp;omega) ?_;conv=>whnf)|(refine kA ?_;conv=>whnf)|(refine Br.mk (fun hc=>?_) fun hc=>?_<;>first|exact hc.elim|conv=>whnf)|(refine kB ?_))
   all_goals first|(exfalso;omega)|exact⟨true,congrArg (AV.sl true) (QE (by simp))⟩
 |some x=>
  rw[ha]at pa
  cases hb:IW l b with
  |none=>
   rw[hb]at pb
   refine Ac rfl rfl ?_
   (conv=>whnf);repeat' (first|((first|refine Aa pa ?_|refine Aa pb ?_);rintro _ rfl;conv=>whnf)|(refine Aac (f:=pv) (l:=[]) (l':=l) rfl JE rfl (by simp;omega) ?_;conv=>whnf)|(refine kA ?_;conv=>whnf)|(refine Br.mk (fun hc=>?_) fun hc=>?_<;>first|exact hc.elim|conv=>whnf)|(refine kB ?_))
   all_goals first|(exfalso;omega)|exact⟨true,congrArg (AV.sl true) (QE (by simp))⟩
  |some y=>
   rw[hb]at pb
   refine Ac rfl rfl ?_
   (conv=>whnf);repeat' (first|((first|refine Aa pa ?_|refine Aa pb ?_);rintro _ rfl;conv=>whnf)|(refine Aac (f:=pv) (l:=[]) (l':=l) rfl JE rfl (by simp;omega) ?_;conv=>whnf)|(refine kA ?_;conv=>whnf)|(refine Br.mk (fun hc=>?_) fun hc=>?_<;>first|exact hc.elim|conv=>whnf)|(refine kB ?_))
   refine Ak (fun m env s=>∃(i c g n:Nat) (W:List (Int×Int)),m=l.length-i∧n=l.length∧Half (DY x y) l W i∧env=[(7,.int .i64 x),(9,.int .i64 y),(11,.own 0 g 0 n),(12,.int .i64 i)]∧s=⟨[.arr g 2 true true (vs pv W)],c⟩) ?_ _ _ _ ⟨0,_,_,_,l,rfl,by simp,.start _ _,rfl,rfl⟩
   rintro _ _ _ ⟨i,c,g,n,W,rfl,rfl,hW,rfl,rfl⟩
   refine⟨rfl,?_⟩
   have hWl:=hW.len
   by_cases hlt:i<l.length
   ·have hx:=hW.at hlt
    have n1:nth (vs pv W) (Int.toNat (Nat.cast i))=some (pv (l[i])):=by rw[← hx];exact nVN (by omega)
    (conv=>whnf);repeat' (first|(apply Aq;(· exact n1);conv=>whnf)|(refine tPv ?_;conv=>whnf)|(refine kA ?_;conv=>whnf)|(refine Br.mk (fun hc=>?_) fun hc=>?_<;>first|exact hc.elim|conv=>whnf)|(refine kB ?_))
    all_goals first
     |(exfalso;omega)
     |(have hp:=hW.put hlt;rw[QB (by first|exact .inl ‹_› |exact .inr ‹_›)]at hp;exact again.mk ⟨_,by omega,i+1,_,_,_,_,rfl,rfl,hp,rfl,rfl⟩)
     |exact again.mk ⟨_,by omega,i+1,_,_,_,_,rfl,rfl,hW.skip hlt (O8 (by assumption) (by assumption)),rfl,rfl⟩
   ·have he:=hW.all hlt
    (conv=>whnf);repeat' (first  |(refine kA ?_;conv=>whnf)|(refine Br.mk (fun hc=>?_) fun hc=>?_<;>first|exact hc.elim|conv=>whnf)|(refine kB ?_))
    all_goals first
     |(exfalso;omega)
     |(refine ⟨true,?_⟩;rw[QE hWl.symm,he])
theorem Abi {l:List (Int×Int)} (hl:l.length<2^40):AQ (Ad tab) 20 [.sl true (vs pv l)] ⟨[],0⟩ fun out s'=>∃o g,out=.ok (.own o g 0 (vs pv l).length)∧nth s'.σ o=some (.arr g 2 true true (vs pv l)):=by
 refine Am rfl rfl ?_
 (conv=>whnf);repeat' (first|(refine Aac (f:=pv) (l:=[]) (l':=l) rfl JE rfl (by simp;omega) ?_;conv=>whnf)|(refine kA ?_;conv=>whnf)|(refine Br.mk (fun hc=>?_) fun hc=>?_<;>first|exact hc.elim|conv=>whnf)|(refine kB ?_))
 all_goals first|exact⟨0,_,congrArg (fun n=>AA.ok (.own 0 _ 0 n)) ((Nat.zero_add _).trans (lV l).symm),rfl⟩
theorem Abj:AQ (Ad tab) 20 [.sl false []] ⟨[],0⟩ fun out _=>out=.ok (.sl false []):=by
 refine Am rfl rfl ?_
 (conv=>whnf);repeat' (first  |(refine kA ?_;conv=>whnf)|(refine Br.mk (fun hc=>?_) fun hc=>?_<;>first|exact hc.elim|conv=>whnf)|(refine kB ?_))
 all_goals first|rfl
set_option maxHeartbeats 1000000 in
theorem Ae7 {l:List (Int×Int)} {a b:Int} {nn:Bool} (hl:l.length<2^40) (hn:nn=false→l=[]):Af (Ad tab) 9 [.sl nn (vs pv l),.int .i64 a,.int .i64 b] (LB (Gn l a b)):=by
 obtain⟨_,ia,pa⟩:=(idx (l:=l) (a:=a) (nn:=nn) (by omega) (fun p=>Ajc)).He
 obtain⟨_,ib,pb⟩:=(idx (l:=l) (a:=b) (nn:=nn) (by omega) (fun p=>Ajd)).He
 unfold Gn
 cases nn with
 |false=>
  have:=hn rfl
  subst this
  cases ia with
  |«at» i h=>exact absurd h (by simp)
  |no _=>
  cases ib with
  |«at» i h=>exact absurd h (by simp)
  |no _=>
  refine Ac rfl rfl ?_
  (conv=>whnf);repeat' (first|((first|refine Aa pa ?_|refine Aa pb ?_);rintro _ rfl;conv=>whnf)|(refine QF rfl Abj ?_;conv=>whnf)|(refine kA ?_;conv=>whnf)|(refine Br.mk (fun hc=>?_) fun hc=>?_<;>first|exact hc.elim|conv=>whnf)|(refine kB ?_))
  all_goals first|(exfalso;omega)|exact⟨_,rfl⟩
 |true=>
  have pc:=Abi hl
  cases ia with
  |no ha=>
   rw[ha]
   cases ib with
   |no hb=>
    rw[hb]
    refine Ac rfl rfl ?_
    (conv=>whnf);repeat' (first|((first|refine Aa pa ?_|refine Aa pb ?_);rintro _ rfl;conv=>whnf)|(refine Aad rfl pc ?_;conv=>whnf)|(refine kA ?_;conv=>whnf)|(refine Br.mk (fun hc=>?_) fun hc=>?_<;>first|exact hc.elim|conv=>whnf)|(refine kB ?_))
    all_goals first|(exfalso;omega)|exact⟨true,congrArg (AV.sl true) (QE (by simp))⟩
   |«at» k hk hb=>
    rw[hb]
    refine Ac rfl rfl ?_
    (conv=>whnf);repeat' (first|((first|refine Aa pa ?_|refine Aa pb ?_);rintro _ rfl;conv=>whnf)|(refine Aad rfl pc ?_;conv=>whnf)|(refine kA ?_;conv=>whnf)|(refine Br.mk (fun hc=>?_) fun hc=>?_<;>first|exact hc.elim|conv=>whnf)|(refine kB ?_))
    all_goals first|(exfalso;omega)|exact⟨true,congrArg (AV.sl true) (QE (by simp))⟩
  |«at» i hi ha=>
   rw[ha]
   cases ib with
   |no hb=>
    rw[hb]
    refine Ac rfl rfl ?_
    (conv=>whnf);repeat' (first|((first|refine Aa pa ?_|refine Aa pb ?_);rintro _ rfl;conv=>whnf)|(refine Aad rfl pc ?_;conv=>whnf)|(refine kA ?_;conv=>whnf)|(refine Br.mk (fun hc=>?_) fun hc=>?_<;>first|exact hc.elim|conv=>whnf)|(refine kB ?_))
    all_goals first|(exfalso;omega)|exact⟨true,congrArg (AV.sl true) (QE (by simp))⟩
   |«at» k hk hb=>
    rw[hb]
    refine Ac rfl rfl ?_
    (conv=>whnf);repeat' (first|((first|refine Aa pa ?_|refine Aa pb ?_);rintro _ rfl;conv=>whnf)|(refine Aad rfl pc ?_;conv=>whnf)|(refine kA ?_;conv=>whnf)|(refine Br.mk (fun hc=>?_) fun hc=>?_<;>first|exact hc.elim|conv=>whnf)|(refine kB ?_))
    all_goals first|(exfalso;omega)|skip
    obtain⟨x,hx⟩:∃x,(l[i]).2=x:=⟨_,rfl⟩
    obtain⟨y,hy⟩:∃y,(l[k]).2=y:=⟨_,rfl⟩
    rw[hx,hy]
    refine Ak (fun m env s=>∃(i c g n:Nat) (W:List (Int×Int)),m=l.length-i∧n=l.length∧Half (DY x y) l W i∧env=[(7,.own 2 g 0 n),(10,.int .i64 x),(11,.int .i64 y),(39,.int .i64 n),(40,.int .i64 i)]∧s=⟨[.arr 0 1 true true [.int .i64 a],.arr 1 1 true true [.int .i64 b],.arr g 2 true true (vs pv W)],c⟩) ?_ _ _ _ ⟨0,_,_,(vs pv l).length,l,rfl,by rw[lV],.start _ _,rfl,rfl⟩
    rintro _ _ _ ⟨i,c,g,n,W,rfl,rfl,hW,rfl,rfl⟩
    refine⟨rfl,?_⟩
    have hWl:=hW.len
    by_cases hlt:i<l.length
    ·have hx:=hW.at hlt
     have n1:nth (vs pv W) (Int.toNat (Nat.cast i))=some (pv (l[i])):=by rw[← hx];exact nVN (by omega)
     (conv=>whnf);repeat' (first|(apply Aq;(· exact n1);conv=>whnf)|(refine tPv ?_;conv=>whnf)|(refine kA ?_;conv=>whnf)|(refine Br.mk (fun hc=>?_) fun hc=>?_<;>first|exact hc.elim|conv=>whnf)|(refine kB ?_))
     all_goals first
      |(exfalso;omega)
      |(have hp:=hW.put hlt;rw[QB (by first|exact .inl ‹_› |exact .inr ‹_›)]at hp;exact again.mk ⟨_,by omega,i+1,_,_,_,_,rfl,rfl,hp,rfl,rfl⟩)
      |exact again.mk ⟨_,by omega,i+1,_,_,_,_,rfl,rfl,hW.skip hlt (O8 (by assumption) (by assumption)),rfl,rfl⟩
    ·have he:=hW.all hlt
     (conv=>whnf);repeat' (first  |(refine kA ?_;conv=>whnf)|(refine Br.mk (fun hc=>?_) fun hc=>?_<;>first|exact hc.elim|conv=>whnf)|(refine kB ?_))
     all_goals first
      |(exfalso;omega)
      |(refine ⟨true,?_⟩;rw[QE hWl.symm,he])
theorem Abk {l m:List (Int×Int)} {b1 b2:Bool} (hl:l.length<2^40) (hm:m.length<2^40):Af (Ad tab) 8 [.sl b1 (vs pv l),.sl b2 (vs pv m)] (· =.bool (decide (l=m))):=by
 by_cases hlen:l.length=m.length
 ·refine Ac rfl rfl ?_
  (conv=>whnf);repeat' (first  |(refine kA ?_;conv=>whnf)|(refine Br.mk (fun hc=>?_) fun hc=>?_<;>first|exact hc.elim|conv=>whnf)|(refine kB ?_))
  all_goals first|(exfalso;omega)|skip
  refine Ak (fun z env s=>∃(i:Nat),z=l.length-i∧l.take i=m.take i∧env=[(0,.sl b1 (vs pv l)),(1,.sl b2 (vs pv m)),(5,.int .i64 i)]∧s=⟨[],0⟩) ?_ _ _ _ ⟨0,rfl,rfl,rfl,rfl⟩
  rintro _ _ _ ⟨i,rfl,hx,rfl,rfl⟩
  refine⟨rfl,?_⟩
  by_cases hlt:i<l.length
  ·have hb:bin .neq (.flat [.int,.int]) (.agg (List.take 2 (pv l[i]).cells)) (.agg (List.take 2 (pv (m[i]'(by omega))).cells))=some (.bool (!decide (l[i]=m[i]'(by omega)))):=by
        generalize l[i]=p
        generalize m[i]'_=q
        obtain⟨p1,p2⟩:=p
        obtain⟨q1,q2⟩:=q
        by_cases h1:p1=q1
        ·by_cases h2:p2=q2
         ·simp[bin,QG,Gy,CV,pv,AV.cells,h1,h2]
         ·have e2:(p2==q2)=false:=by simpa using h2
          simp[bin,QG,Gy,CV,pv,AV.cells,h1,h2,e2]
        ·have e1:(p1==q1)=false:=by simpa using h1
         simp[bin,QG,Gy,CV,pv,AV.cells,h1,e1]
   by_cases he:l[i]=m[i]'(by omega)
   ·rw[decide_eq_true he]at hb
    (conv=>whnf);repeat' (first|(apply Au hb;conv=>whnf)|(refine kA ?_;conv=>whnf)|(refine Br.mk (fun hc=>?_) fun hc=>?_<;>first|exact hc.elim|conv=>whnf)|(refine kB ?_))
    all_goals first
     |(exfalso;omega)
     |exact again.mk ⟨_,by omega,i+1,rfl,by rw[List.take_succ_eq_append_getElem hlt,List.take_succ_eq_append_getElem (by omega),hx,he],rfl,rfl⟩
   ·rw[decide_eq_false he]at hb
    have hno:¬l=m:=fun e=>he (by subst e;rfl)
    (conv=>whnf);repeat' (first|(apply Au hb;conv=>whnf)|(refine kA ?_;conv=>whnf)|(refine Br.mk (fun hc=>?_) fun hc=>?_<;>first|exact hc.elim|conv=>whnf)|(refine kB ?_))
    all_goals first
     |(exfalso;omega)
     |exact AB hno
  ·have hyes:l=m:=by rw[List.take_of_length_le (by omega),List.take_of_length_le (by omega)]at hx;exact hx
   (conv=>whnf);repeat' (first  |(refine kA ?_;conv=>whnf)|(refine Br.mk (fun hc=>?_) fun hc=>?_<;>first|exact hc.elim|conv=>whnf)|(refine kB ?_))
   all_goals first
        |(exfalso;omega)
        |exact Bv hyes
 ·have hno:¬l=m:=fun e=>hlen (by rw[e])
  refine Ac rfl rfl ?_
  (conv=>whnf);repeat' (first  |(refine kA ?_;conv=>whnf)|(refine Br.mk (fun hc=>?_) fun hc=>?_<;>first|exact hc.elim|conv=>whnf)|(refine kB ?_))
  all_goals first|(exfalso;omega)|exact AB hno
end AI
end Go.Proofs.YtgmgkkbpgndaaaaGreatDoor
