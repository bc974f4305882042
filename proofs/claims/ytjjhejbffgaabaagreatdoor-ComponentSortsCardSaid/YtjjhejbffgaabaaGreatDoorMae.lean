/- The arguments of the graph laws, taken apart: values, properties, nodes, edges, graphs. Components as data: lists of labels, and a forest of sets whose representatives are their least elements. Plain. Lists of labels: Find, Join (both), Same. The forest of component.Weak: add, find, union. Strings in a list. Strings in a list: the reference. HasType, both. A value in a list of values. -/
import Derived.Test.YtjjhejbffgaabaaGreatDoorMaa
import Derived.Test.YtjjhejbffgaabaaGreatDoorPGrCode
import GoSem.Dispatch
set_option linter.unusedVariables false
set_option maxRecDepth 4000
namespace Go.Proofs.YtjjhejbffgaabaaGreatDoor
namespace AI
structure GV where
 k:Int
 n:Int
 d:Int
 s:List UInt8
 nn:Bool
 l:List AV
def GV.av (v:GV):AV:=.agg [.int .i64 v.k,.int .i64 v.n,.int .i64 v.d,.str v.s,.sl v.nn v.l]
structure GP where
 key:List UInt8
 v:GV
def GP.av (p:GP):AV:=.agg [.str p.key,.int .i64 p.v.k,.int .i64 p.v.n,.int .i64 p.v.d,.str p.v.s,.sl p.v.nn p.v.l]
structure GN where
 id:Int
 ln:Bool
 labels:List (List UInt8)
 pn:Bool
 props:List GP
def GN.av (n:GN):AV:=.agg [.int .i64 n.id,.sl n.ln (vs .str n.labels),.sl n.pn (vs GP.av n.props)]
structure GE where
 id:Int
 fr:Int
 to:Int
 ty:List UInt8
 pn:Bool
 props:List GP
def GE.av (n:GE):AV:=.agg [.int .i64 n.id,.int .i64 n.fr,.int .i64 n.to,.str n.ty,.sl n.pn (vs GP.av n.props)]
structure GG where
 nn:Bool
 nodes:List GN
 en:Bool
 edges:List GE
 FI:Int
 Hw:Int
def GG.av (g:GG):AV:=.agg [.sl g.nn (vs GN.av g.nodes),.sl g.en (vs GE.av g.edges),.int .i64 g.FI,.int .i64 g.Hw]
def I64 (z:Int):Prop:=-2^63≤z∧z<2^63
def Ln {α:Type} (l:List α):Prop:=l.length<2^63
def GV.ok (v:GV):Prop:=I64 v.k∧I64 v.n∧I64 v.d∧Ln v.s∧Ln v.l∧(v.nn=false→v.l=[])∧∀x∈v.l,Like Tryz.prog 53 x
def GP.ok (p:GP):Prop:=Ln p.key∧p.v.ok
def GN.ok (n:GN):Prop:=I64 n.id∧Ln n.labels∧(n.ln=false→n.labels=[])∧(∀ s∈n.labels,Ln s)∧Ln n.props∧(n.pn=false→n.props=[])∧∀p∈n.props,p.ok
def GE.ok (e:GE):Prop:=I64 e.id∧I64 e.fr∧I64 e.to∧Ln e.ty∧Ln e.props∧(e.pn=false→e.props=[])∧∀p∈e.props,p.ok
def GG.ok (g:GG):Prop:=Ln g.nodes∧(g.nn=false→g.nodes=[])∧(∀ n∈g.nodes,n.ok)∧Ln g.edges∧(g.en=false→g.edges=[])∧(∀ e∈g.edges,e.ok)∧I64 g.FI∧I64 g.Hw
theorem RQ:Tryz.prog.cellsOf 3=1:=by kernel_rfl
theorem Nk:Tryz.prog.cellsOf 9=1:=by kernel_rfl
theorem RS:Tryz.prog.cellsOf 26=1:=by kernel_rfl
theorem UW:Tryz.prog.cellsOf 51=1:=by kernel_rfl
theorem TQ:Tryz.prog.cellsOf 53=5:=by kernel_rfl
theorem Aah:Tryz.prog.cellsOf 109=6:=by kernel_rfl
theorem TR:Tryz.prog.cellsOf 39=1:=by kernel_rfl
theorem Aai:Tryz.prog.cellsOf 41=3:=by kernel_rfl
theorem XL:Tryz.prog.cellsOf 22=1:=by kernel_rfl
theorem AdZ:Tryz.prog.cellsOf 43=5:=by kernel_rfl
theorem XM:Tryz.prog.cellsOf 23=1:=by kernel_rfl
theorem XK:Tryz.prog.cellsOf 25=4:=by kernel_rfl
theorem AeX {l:List AV} (h:l.length=3):∃a b c,l=[a,b,c]:=by
 rcases l with _|⟨a,_|⟨b,_|⟨c,_|⟨d,r⟩⟩⟩⟩<;>simp at h
 exact⟨a,b,c,rfl⟩
theorem AeY {l:List AV} (h:l.length=4):∃a b c d,l=[a,b,c,d]:=by
 rcases l with _|⟨a,_|⟨b,_|⟨c,_|⟨d,_|⟨e,r⟩⟩⟩⟩⟩<;>simp at h
 exact⟨a,b,c,d,rfl⟩
theorem Afs {l:List AV} (h:l.length=5):∃a b c d e,l=[a,b,c,d,e]:=by
 rcases l with _|⟨a,_|⟨b,_|⟨c,_|⟨d,_|⟨e,_|⟨f,r⟩⟩⟩⟩⟩⟩<;>simp at h
 exact⟨a,b,c,d,e,rfl⟩
theorem AeW {l:List AV} (h:l.length=6):∃a b c d e f,l=[a,b,c,d,e,f]:=by
 rcases l with _|⟨a,_|⟨b,_|⟨c,_|⟨d,_|⟨e,_|⟨f,_|⟨g,r⟩⟩⟩⟩⟩⟩⟩<;>simp at h
 exact⟨a,b,c,d,e,f,rfl⟩
theorem Ad0 {n:Int} (h:(Lit.int .i64 n).wf=true):I64 n:=by
 simp[Lit.wf]at h
 have h1:IntKind.i64.min=-2^63:=by rfl
 have h2:IntKind.i64.max=2^63-1:=by rfl
 unfold I64
 omega
theorem RI {α:Type} {l:List α} (h:l.length≤maxLen):Ln l:=by unfold Ln;have:=Yd;omega
theorem E8 {d:Nat} {cs:List AV} (h:Ci Tryz.prog d 3 cs):∃n,cs=[.int .i64 n]∧I64 n:=by
 obtain⟨k,e1,h1⟩:=Yc Tryz.underlying3 h
 exact⟨k,e1,Ad0 h1⟩
theorem PS {d:Nat} {cs:List AV} (h:Ci Tryz.prog d 9 cs):∃n,cs=[.str n]∧Ln n:=by
 obtain⟨k,e1,h1⟩:=MJ Tryz.underlying9 h
 exact⟨k,e1,RI h1⟩
theorem Kr {d:Nat} {cs:List AV} (h:Ci Tryz.prog d 53 cs):∃v:GV,cs=[.int .i64 v.k,.int .i64 v.n,.int .i64 v.d,.str v.s,.sl v.nn v.l]∧v.ok:=by
 obtain⟨d',rfl,g1,g2⟩:=Dc Tryz.underlying53 h
 rw[TQ]at g1
 obtain⟨a,b,c,e,f,rfl⟩:=Afs g1
 clear g1
 simp only[List.forall_mem_cons]at g2
 obtain⟨f1,f2,f3,f4,f5,_⟩:=g2
 simp only[RQ,Nk,UW,List.drop_zero,List.drop_succ_cons,List.take_succ_cons,List.take_zero]at f1 f2 f3 f4 f5
 obtain⟨k,e1,h1⟩:=E8 f1
 obtain⟨n,e2,h2⟩:=E8 f2
 obtain⟨m,e3,h3⟩:=E8 f3
 obtain⟨s,e4,h4⟩:=PS f4
 obtain⟨d'',_,nl,xs,e5,h5,h6,h7⟩:=Ij Tryz.underlying51 f5
 cases e1;cases e2;cases e3;cases e4;cases e5
 exact⟨⟨k,n,m,s,nl,xs⟩,rfl,h1,h2,h3,h4,RI h6,h5,fun x hx=>⟨_,h7 x hx⟩⟩
theorem V8 {a:AV} (h:Like Tryz.prog 53 a):∃v:GV,a=v.av∧v.ok:=by
 obtain⟨d,h⟩:=h
 obtain⟨cs,rfl,h0⟩:=Dw Tryz.underlying53 h
 obtain⟨v,rfl,h1⟩:=Kr h0
 exact⟨v,rfl,h1⟩
theorem SQ {d:Nat} {a:AV} (h:like Tryz.prog d 109 a):∃v:GP,a=v.av∧v.ok:=by
 obtain⟨cs,rfl,h0⟩:=Dw Tryz.underlying109 h
 obtain⟨d',rfl,g1,g2⟩:=Dc Tryz.underlying109 h0
 rw[Aah]at g1
 obtain⟨a,b,c,e,f,g,rfl⟩:=AeW g1
 clear g1
 simp only[List.forall_mem_cons]at g2
 obtain⟨f1,f2,_⟩:=g2
 simp only[Nk,TQ,List.drop_zero,List.drop_succ_cons,List.take_succ_cons,List.take_zero]at f1 f2
 obtain⟨s,e1,h1⟩:=PS f1
 obtain⟨v,e2,h2⟩:=Kr f2
 cases e1;cases e2
 exact⟨⟨s,v⟩,rfl,h1,h2⟩
theorem EJ {α:Type} {f:α→AV} {Q:α→Prop} {d:Nat} {t e:TypeId} {cs:List AV} (hu:Tryz.prog.underlying t=some (.slice e)) (he:∀d x,like Tryz.prog d e x→∃y,x=f y∧Q y) (h:Ci Tryz.prog d t cs):
 ∃nn l,cs=[.sl nn (vs f l)]∧(nn=false→l=[])∧Ln l∧∀y∈l,Q y:=by
 obtain⟨d',rfl,nn,xs,rfl,h0,h1,h2⟩:=Ij hu h
 obtain⟨l,rfl,h3⟩:=Lu (f:=f) (Q:=Q) fun x hx=>he d' x (h2 x hx)
 exact⟨nn,l,rfl,fun h=>by have:=h0 h;simpa using this,RI (by simpa using h1),h3⟩
theorem UY {d:Nat} {a:AV} (h:like Tryz.prog d 9 a):∃s:List UInt8,a=.str s∧Ln s:=by
 obtain⟨k,e1,h1⟩:=OE Tryz.underlying9 h
 exact⟨k,e1,RI h1⟩
theorem Y1 {d:Nat} {a:AV} (h:like Tryz.prog d 41 a):∃v:GN,a=v.av∧v.ok:=by
 obtain⟨cs,rfl,h0⟩:=Dw Tryz.underlying41 h
 obtain⟨d',rfl,g1,g2⟩:=Dc Tryz.underlying41 h0
 rw[Aai]at g1
 obtain⟨a,b,c,rfl⟩:=AeX g1
 clear g1
 simp only[List.forall_mem_cons]at g2
 obtain⟨f1,f2,f3,_⟩:=g2
 simp only[RQ,RS,TR,List.drop_zero,List.drop_succ_cons,List.take_succ_cons,List.take_zero]at f1 f2 f3
 obtain⟨s,e1,h1⟩:=E8 f1
 obtain⟨ln,L,e2,h2,h2a,h2b⟩:=EJ (f:=.str) (Q:=Ln) Tryz.underlying26 (fun d x h=>UY h) f2
 obtain⟨pn,P,e3,h3,h3a,h3b⟩:=EJ (f:=GP.av) (Q:=GP.ok) Tryz.underlying39 (fun d x h=>SQ h) f3
 cases e1;cases e2;cases e3
 exact⟨⟨s,ln,L,pn,P⟩,rfl,h1,h2a,h2,h2b,h3a,h3,h3b⟩
theorem RU {d:Nat} {a:AV} (h:like Tryz.prog d 43 a):∃v:GE,a=v.av∧v.ok:=by
 obtain⟨cs,rfl,h0⟩:=Dw Tryz.underlying43 h
 obtain⟨d',rfl,g1,g2⟩:=Dc Tryz.underlying43 h0
 rw[AdZ]at g1
 obtain⟨a,b,c,e,f,rfl⟩:=Afs g1
 clear g1
 simp only[List.forall_mem_cons]at g2
 obtain⟨f1,f2,f3,f4,f5,_⟩:=g2
 simp only[RQ,Nk,TR,List.drop_zero,List.drop_succ_cons,List.take_succ_cons,List.take_zero]at f1 f2 f3 f4 f5
 obtain⟨k,e1,h1⟩:=E8 f1
 obtain⟨n,e2,h2⟩:=E8 f2
 obtain⟨m,e3,h3⟩:=E8 f3
 obtain⟨s,e4,h4⟩:=PS f4
 obtain⟨pn,P,e5,h5,h5a,h5b⟩:=EJ (f:=GP.av) (Q:=GP.ok) Tryz.underlying39 (fun d x h=>SQ h) f5
 cases e1;cases e2;cases e3;cases e4;cases e5
 exact⟨⟨k,n,m,s,pn,P⟩,rfl,h1,h2,h3,h4,h5a,h5,h5b⟩
theorem Xf {a:AV} (h:Like Tryz.prog 25 a):∃v:GG,a=v.av∧v.ok:=by
 obtain⟨d,h⟩:=h
 obtain⟨cs,rfl,h0⟩:=Dw Tryz.underlying25 h
 obtain⟨d',rfl,g1,g2⟩:=Dc Tryz.underlying25 h0
 rw[XK]at g1
 obtain⟨a,b,c,e,rfl⟩:=AeY g1
 clear g1
 simp only[List.forall_mem_cons]at g2
 obtain⟨f1,f2,f3,f4,_⟩:=g2
 simp only[RQ,XL,XM,List.drop_zero,List.drop_succ_cons,List.take_succ_cons,List.take_zero]at f1 f2 f3 f4
 obtain⟨nn,N,e1,h1,h1a,h1b⟩:=EJ (f:=GN.av) (Q:=GN.ok) Tryz.underlying22 (fun d x h=>Y1 h) f1
 obtain⟨en,E,e2,h2,h2a,h2b⟩:=EJ (f:=GE.av) (Q:=GE.ok) Tryz.underlying23 (fun d x h=>RU h) f2
 obtain⟨m,e3,h3⟩:=E8 f3
 obtain⟨k,e4,h4⟩:=E8 f4
 cases e1;cases e2;cases e3;cases e4
 exact⟨⟨nn,N,en,E,m,k⟩,rfl,h1a,h1,h1b,h2a,h2,h2b,h3,h4⟩
def Iu (l:List (Int×Int)) (a:Int):Option Int:=(l.find? fun p=>decide (p.1=a)).map (·.2)
def Yx (x y:Int):Int:=if y<x then y else x
def Ez (x y:Int) (p:Int×Int):Int×Int:=if p.2=x∨p.2=y then(p.1,Yx x y)else p
def Nl (l:List (Int×Int)) (a b:Int):List (Int×Int):=match Iu l a,Iu l b with
 |some x,some y=>l.map (Ez x y)
 |_,_=>l
def FD (ids:List Int) (es:List (Int×Int)):List (Int×Int):=es.foldl (fun l e=>Nl l e.1 e.2) (ids.map fun i=>(i,i))
theorem QW (ids:List Int) (es:List (Int×Int)) (e:Int×Int):FD ids (es++[e])=Nl (FD ids es) e.1 e.2:=by simp[FD]
theorem OB (r:Int→Int):∀(ids:List Int) {a:Int},a∈ids→Iu (ids.map fun i=>(i,r i)) a=some (r a)
 |[],a,h=>by cases h
 |i::ids,a,h=>by
  unfold Iu
  rw[List.map_cons,List.find?_cons]
  by_cases e:i=a
  ·subst e;simp
  ·rw[show (decide ((i,r i).1=a))=false from decide_eq_false e]
   rcases List.mem_cons.1 h with k|k
   ·exact absurd k.symm e
   ·exact OB r ids k
inductive Root (p:Int→Int):Int→Int→Prop where
 |here {x:Int} (h:p x=x):Root p x x
 |up {x c:Int} (h:p x≠x) (k:Root p (p x) c):Root p x c
theorem Root.fix {p:Int→Int} {x c:Int} (h:Root p x c):p c=c:=by
 induction h with
 |here h=>exact h
 |up _ _ ih=>exact ih
theorem Root.Ob {p:Int→Int} {x c d:Int} (h:Root p x c) (k:Root p x d):c=d:=by
 induction h with
 |here h=>cases k with
  |here _=>rfl
  |up h' _=>exact absurd h h'
 |up h _ ih=>cases k with
  |here h'=>exact absurd h' h
  |up _ k'=>exact ih k'
theorem Root.QX {p:Int→Int} {x c:Int} (h:Root p x c) (k:p x=x):c=x:=h.Ob (.here k)
def Ku (p:Int→Int) (x y:Int):Int→Int:=fun z=>if z=x then y else p z
theorem Dj (p:Int→Int) (x y:Int):Ku p x y x=y:=if_pos rfl
theorem BQ {p:Int→Int} {x y z:Int} (h:z≠x):Ku p x y z=p z:=if_neg h
theorem Root.compress {p:Int→Int} {x c:Int} (hx:Root p x c) {a d:Int} (h:Root p a d):Root (Ku p x c) a d:=by
 have hc:=hx.fix
 have hcc:Ku p x c c=c:=by
  by_cases e:c=x
  ·subst e;exact Dj ..
  ·rw[BQ e,hc]
 induction h with
 |@here a h=>
  by_cases e:a=x
  ·subst e
   have:=hx.QX h
   subst this
   exact .here (Dj ..)
  ·exact .here (by rw[BQ e,h])
 |@up a d h k ih=>
  by_cases e:a=x
  ·subst e
   have:d=c:=(Root.up h k).Ob hx
   subst this
   by_cases e2:d=a
   ·subst e2;exact .here (Dj ..)
   ·exact .up (by rw[Dj];exact e2) (by rw[Dj];exact .here hcc)
  ·exact .up (by rw[BQ e];exact h) (by rw[BQ e];exact ih)
theorem Root.union {p:Int→Int} {M m:Int} (hM:p M=M) (hm:p m=m) (hne:m≠M) {a d:Int} (h:Root p a d):Root (Ku p M m) a (if d=M then m else d):=by
 have hmm:Ku p M m m=m:=by rw[BQ hne,hm]
 induction h with
 |@here a h=>
  by_cases e:a=M
  ·subst e
   rw[if_pos rfl]
   exact .up (by rw[Dj];exact hne) (by rw[Dj];exact .here hmm)
  ·rw[if_neg e]
   exact .here (by rw[BQ e,h])
 |@up a d h k ih=>
  by_cases e:a=M
  ·subst e;exact absurd hM h
  ·exact .up (by rw[BQ e];exact h) (by rw[BQ e];exact ih)
structure CY (S:List Int) (p r:Int→Int):Prop where
 mem:∀x∈S,p x∈S
 le:∀x∈S,p x≤x
 root:∀x∈S,Root p x (r x)
section
variable {S:List Int} {p r:Int→Int}
theorem CY.AaW (h:CY S p r) {x:Int} (hx:x∈S):r x∈S:=by
 have k:=h.root x hx
 generalize r x=c at k
 induction k with
 |here _=>exact hx
 |up _ _ ih=>exact ih (h.mem _ hx)
theorem CY.rle (h:CY S p r) {x:Int} (hx:x∈S):r x≤x:=by
 have k:=h.root x hx
 generalize r x=c at k
 induction k with
 |here _=>exact Int.le_refl _
 |up _ _ ih=>exact Int.le_trans (ih (h.mem _ hx)) (h.le _ hx)
theorem CY.Afp (h:CY S p r) {x:Int} (hx:x∈S):p (r x)=r x:=(h.root x hx).fix
theorem CY.QX (h:CY S p r) {x:Int} (hx:x∈S) (k:p x=x):r x=x:=(h.root x hx).QX k
theorem CY.step (h:CY S p r) {x:Int} (hx:x∈S):r (p x)=r x:=by
 have k:=h.root x hx
 by_cases e:p x=x
 ·rw[e]
 ·generalize r x=c at k
  cases k with
  |here h'=>exact absurd h' e
  |up _ k'=>exact(h.root _ (h.mem x hx)).Ob k'
theorem CY.compress (h:CY S p r) {x c:Int} (hx:x∈S) (hc:c=r x):CY S (Ku p x c) r:=by
 subst hc
 refine⟨fun y hy=>?_,fun y hy=>?_,fun y hy=>(h.root x hx).compress (h.root y hy)⟩
 ·by_cases e:y=x
  ·subst e;rw[Dj];exact h.AaW hx
  ·rw[BQ e];exact h.mem y hy
 ·by_cases e:y=x
  ·subst e;rw[Dj];exact h.rle hx
  ·rw[BQ e];exact h.le y hy
theorem CY.start (S:List Int):CY S (fun x=>x) (fun x=>x):=⟨fun _ h=>h,fun _ _=>Int.le_refl _,fun _ _=>.here rfl⟩
theorem CY.union (h:CY S p r) {a b:Int} (ha:a∈S) (hb:b∈S):
 CY S (Ku p (if r b>r a then r b else r a) (if r b<r a then r b else r a)) (fun c=>(Ez (r a) (r b) (c,r c)).2):=by
 obtain⟨M,hM⟩:∃M,(if r b>r a then r b else r a)=M:=⟨_,rfl⟩
 obtain⟨m,hm⟩:∃m,(if r b<r a then r b else r a)=m:=⟨_,rfl⟩
 rw[hM,hm]
 have fa:=h.Afp ha
 have fb:=h.Afp hb
 have ma:=h.AaW ha
 have mb:=h.AaW hb
 have hMr:M=r a∨M=r b:=by rw[← hM];split<;>simp
 have hmr:m=r a∨m=r b:=by rw[← hm];split<;>simp
 have hle:m≤M:=by rw[← hM,←hm];split<;>split<;>omega
 have hMS:M∈S:=by rcases hMr with e|e<;>rw[e]<;>assumption
 have XA:m∈S:=by rcases hmr with e|e<;>rw[e]<;>assumption
 have hMf:p M=M:=by rcases hMr with e|e<;>rw[e]<;>assumption
 have hmf:p m=m:=by rcases hmr with e|e<;>rw[e]<;>assumption
 have hmin:Yx (r a) (r b)=m:=by rw[← hm];rfl
 refine⟨fun y hy=>?_,fun y hy=>?_,fun y hy=>?_⟩
 ·by_cases e:y=M
  ·subst e;rw[Dj];exact XA
  ·rw[BQ e];exact h.mem y hy
 ·by_cases e:y=M
  ·subst e;rw[Dj];exact hle
  ·rw[BQ e];exact h.le y hy
 ·by_cases e:m=M
  ·have hab:r a=r b:=by
        rw[← hM,←hm]at e
        split at e<;>split at e<;>omega
   have hself:Ku p M m=p:=by
        funext z
        by_cases ez:z=M
        ·subst ez;rw[Dj,hMf];exact e
        ·exact BQ ez
   rw[hself]
   have:(Ez (r a) (r b) (y,r y)).2=r y:=by
        unfold Ez
        split
        ·rename_i hc
         show Yx (r a) (r b)=r y
         unfold Yx
         simp only at hc
         split<;>omega
        ·rfl
   rw[this]
   exact h.root y hy
  ·have k:=(h.root y hy).union hMf hmf e
   have:(Ez (r a) (r b) (y,r y)).2=if r y=M then m else r y:=by
        unfold Ez
        rw[hmin]
        simp only
        by_cases c1:r y=r a∨r y=r b
        ·rw[if_pos c1]
         show m=_
         by_cases c2:r y=M
         ·rw[if_pos c2]
         ·rw[if_neg c2]
          rcases c1 with c|c
          ·rw[c]at c2 ⊢
           rw[← hM]at c2
           rw[← hm]
           split at c2<;>split<;>omega
          ·rw[c]at c2 ⊢
           rw[← hM]at c2
           rw[← hm]
           split at c2<;>split<;>omega
        ·rw[if_neg c1]
         have:r y≠M:=fun e=>c1 (by rcases hMr with k|k<;>omega)
         rw[if_neg this]
   rw[this]
   exact k
def Aj (S:List Int) (r:Int→Int):List (Int×Int):=S.map fun i=>(i,r i)
theorem Uk {a b:Int} (ha:a∈S) (hb:b∈S):Nl (Aj S r) a b=Aj S (fun c=>(Ez (r a) (r b) (c,r c)).2):=by
 unfold Nl Aj
 rw[OB r S ha,OB r S hb]
 show(S.map _).map _=_
 rw[List.map_map]
 refine List.map_congr_left fun c _=>?_
 show Ez (r a) (r b) (c,r c)=(c,(Ez (r a) (r b) (c,r c)).2)
 unfold Ez
 by_cases hc:r c=r a∨r c=r b
 ·simp only[hc,if_true]
 ·simp only[hc,if_false]
end
def pv (p:Int×Int):AV:=.agg [.int .i64 p.1,.int .i64 p.2]
theorem Ip (x:Int×Int):(pv x).cells.length=2:=rfl
theorem Vx {l:List (Int×Int)} {a:Int} {i:Nat} (h:∀p∈l.take i,p.1≠a) (hi:i<l.length) (hx:(l[i]).1=a):Iu l a=some (l[i]).2:=by
 unfold Iu
 have:(l.find? fun p=>decide (p.1=a))=some l[i]:=by
  rw[List.find?_eq_some_iff_getElem]
  refine⟨decide_eq_true hx,i,hi,rfl,fun j hj=>?_⟩
  have:=h (l[j]) (by rw[List.mem_take_iff_getElem];exact⟨j,by omega,rfl⟩)
  simpa using this
 rw[this]
 rfl
theorem Vy {l:List (Int×Int)} {a:Int} (h:∀p∈l,p.1≠a):Iu l a=none:=by
 unfold Iu
 rw[List.find?_eq_none.2 fun p hp=>by simpa using h p hp]
 rfl
theorem X0 {l:List (Int×Int)} {a:Int} {i:Nat} (h:∀p∈l.take i,p.1≠a) (hi:i<l.length) (hx:¬(l[i]).1=a):∀p∈l.take (i+1),p.1≠a:=by
 intro p hp
 rw[List.take_succ_eq_append_getElem hi,List.mem_append,List.mem_singleton]at hp
 rcases hp with hp|rfl
 ·exact h p hp
 ·exact hx
theorem AaY {l:List (Int×Int)} {a:Int} {i:Nat} (h:∀p∈l.take i,p.1≠a) (hi:¬i<l.length):∀p∈l,p.1≠a:=by
 rwa [List.take_of_length_le (by omega)]at h
def Ag9:Option Int→AV
 |some b=>.EY [.int .i64 b,.bool true]
 |none=>.EY [.int .i64 0,.bool false]
theorem AcI {l:List (Int×Int)} {a:Int} {nn:Bool} (hl:l.length<2^62):Ar (Ae tab) 15 [.sl nn (vs pv l),.int .i64 a] (· =Ag9 (Iu l a)):=by
 refine Ad rfl rfl ?_
 (conv=>whnf);repeat' (first  |(refine kA ?_;conv=>whnf)|(refine Br.mk (fun hc=>?_) fun hc=>?_<;>first|exact hc.elim|conv=>whnf)|(refine kB ?_))
 refine Ah (fun m env s=>∃i:Nat,m=l.length-i∧env=[(0,.sl nn (vs pv l)),(1,.int .i64 a),(6,.int .i64 i)]∧s=⟨[],0⟩∧∀p∈l.take i,p.1≠a) ?_ _ _ _ ⟨0,rfl,rfl,rfl,by simp⟩
 rintro _ _ _ ⟨i,rfl,rfl,rfl,hx⟩
 refine⟨rfl,?_⟩
 by_cases hlt:i<l.length
 ·by_cases he:(l[i]).1=a
  ·have hf:=Vx hx hlt he
   (conv=>whnf);repeat' (first  |(refine kA ?_;conv=>whnf)|(refine Br.mk (fun hc=>?_) fun hc=>?_<;>first|exact hc.elim|conv=>whnf)|(refine kB ?_))
   all_goals first
        |(exfalso;omega)
        |(rw [hf];rfl)
  ·(conv=>whnf);repeat' (first  |(refine kA ?_;conv=>whnf)|(refine Br.mk (fun hc=>?_) fun hc=>?_<;>first|exact hc.elim|conv=>whnf)|(refine kB ?_))
   all_goals first
        |(exfalso;omega)
        |exact again.mk ⟨_,by omega,i+1,rfl,rfl,rfl,X0 hx hlt he⟩
 ·have hf:=Vy (AaY hx hlt)
  (conv=>whnf);repeat' (first  |(refine kA ?_;conv=>whnf)|(refine Br.mk (fun hc=>?_) fun hc=>?_<;>first|exact hc.elim|conv=>whnf)|(refine kB ?_))
  all_goals first
   |(exfalso;omega)
   |(rw [hf];rfl)
inductive Ad1 (l:List (Int×Int)) (a:Int):AV→Prop
 |at(i:Nat) (h:i<l.length) (hf:Iu l a=some (l[i]).2):Ad1 l a (.int .i64 i)
 |no (hf:Iu l a=none):Ad1 l a (.int .i64 (-1))
theorem idx {k:Nat} {l:List (Int×Int)} {a:Int} {nn:Bool} (hl:l.length<2^62) (hk:∀p:Int×Int,Ar (Ae tab) k [pv p,.CP [.int .i64 a]] (· =.bool (decide (p.1=a)))):
 Ar (Ae tab) 48 [.sl nn (vs pv l),.fn k [.CP [.int .i64 a]]] (Ad1 l a):=by
 refine Ad rfl rfl ?_
 (conv=>whnf);repeat' (first  |(refine kA ?_;conv=>whnf)|(refine Br.mk (fun hc=>?_) fun hc=>?_<;>first|exact hc.elim|conv=>whnf)|(refine kB ?_))
 refine Ah (fun m env s=>∃i:Nat,m=l.length-i∧env=[(0,.sl nn (vs pv l)),(1,.fn k [.CP [.int .i64 a]]),(7,.int .i64 l.length),(8,.int .i64 i)]∧s=⟨[],0⟩∧∀p∈l.take i,p.1≠a) ?_ _ _ _ ⟨0,rfl,rfl,rfl,by simp⟩
 rintro _ _ _ ⟨i,rfl,rfl,rfl,hx⟩
 refine⟨rfl,?_⟩
 by_cases hlt:i<l.length
 ·have hp:=hk (l[i])
  by_cases he:(l[i]).1=a
  ·have hf:=Vx hx hlt he
   rw[decide_eq_true he]at hp
   (conv=>whnf);repeat' (first|(refine Aa hp ?_;rintro _ rfl;conv=>whnf)|(refine kA ?_;conv=>whnf)|(refine Br.mk (fun hc=>?_) fun hc=>?_<;>first|exact hc.elim|conv=>whnf)|(refine kB ?_))
   all_goals first
        |(exfalso;omega)
        |exact .at i hlt hf
  ·rw[decide_eq_false he]at hp
   (conv=>whnf);repeat' (first|(refine Aa hp ?_;rintro _ rfl;conv=>whnf)|(refine kA ?_;conv=>whnf)|(refine Br.mk (fun hc=>?_) fun hc=>?_<;>first|exact hc.elim|conv=>whnf)|(refine kB ?_))
   all_goals first
        |(exfalso;omega)
        |exact again.mk ⟨_,by omega,i+1,rfl,rfl,rfl,X0 hx hlt he⟩
 ·have hf:=Vy (AaY hx hlt)
  (conv=>whnf);repeat' (first  |(refine kA ?_;conv=>whnf)|(refine Br.mk (fun hc=>?_) fun hc=>?_<;>first|exact hc.elim|conv=>whnf)|(refine kB ?_))
  all_goals first
   |(exfalso;omega)
   |exact .no hf
theorem tPv {l:List (Int×Int)} {i:Nat} {y:Int×Int} {v:Int} {K:List AV→Prop} (k:K (vs pv (l.set i (y.1,v)))):eqK ((vs pv l).set (Int.toNat (i:Int)) (Bz (pv y) (0+1) (.int .i64 v))) K:=by
 refine Ec ?_ k
 show(vs pv l).set i (pv (y.1,v))=_
 simp[vs,List.map_set]
structure Half (f:Int×Int→Int×Int) (l W:List (Int×Int)) (i:Nat):Prop where
 len:W.length=l.length
 old:∀j,i≤j→W[j]?=l[j]?
 new:∀j,j<i→W[j]?=(l.map f)[j]?
theorem Half.start (f:Int×Int→Int×Int) (l:List (Int×Int)):Half f l l 0:=⟨rfl,fun _ _=>rfl,fun _ h=>absurd h (by omega)⟩
theorem Half.at {f:Int×Int→Int×Int} {l W:List (Int×Int)} {i:Nat} (h:Half f l W i) (hi:i<l.length):W[i]'(by rw[h.len];exact hi)=l[i]:=by
 have:=h.old i (Nat.le_refl _)
 rw[List.getElem?_eq_getElem hi,List.getElem?_eq_getElem (by rw[h.len];exact hi)]at this
 simpa using this
theorem Half.put {f:Int×Int→Int×Int} {l W:List (Int×Int)} {i:Nat} (h:Half f l W i) (hi:i<l.length):Half f l (W.set i (f (l[i]))) (i+1):=by
 refine⟨by simp[h.len],fun j hj=>?_,fun j hj=>?_⟩
 ·rw[List.getElem?_set_ne (by omega)];exact h.old j (by omega)
 ·by_cases e:j=i
  ·subst e
   rw[List.getElem?_set_self (by rw[h.len];exact hi),List.getElem?_map,List.getElem?_eq_getElem hi];rfl
  ·rw[List.getElem?_set_ne (by omega)];exact h.new j (by omega)
theorem Half.skip {f:Int×Int→Int×Int} {l W:List (Int×Int)} {i:Nat} (h:Half f l W i) (hi:i<l.length) (he:f (l[i])=l[i]):Half f l W (i+1):=by
 refine⟨h.len,fun j hj=>h.old j (by omega),fun j hj=>?_⟩
 by_cases e:j=i
 ·subst e
  rw[h.old j (Nat.le_refl _),List.getElem?_map,List.getElem?_eq_getElem hi,Option.map_some,he]
 ·exact h.new j (by omega)
theorem Half.all {f:Int×Int→Int×Int} {l W:List (Int×Int)} {i:Nat} (h:Half f l W i) (hi:¬i<l.length):W=l.map f:=by
 apply List.ext_getElem?
 intro j
 by_cases hj:j<i
 ·exact h.new j hj
 ·rw[List.getElem?_eq_none (by rw[h.len];omega),List.getElem?_eq_none (by simp;omega)]
theorem WI {x y:Int} {p:Int×Int} (h:p.2=x∨p.2=y):Ez x y p=(p.1,if y<x then y else x):=by unfold Ez;rw[if_pos h];rfl
theorem UZ {x y:Int} {p:Int×Int} (h1:¬p.2=x) (h2:¬p.2=y):Ez x y p=p:=by unfold Ez;rw[if_neg (by intro h;rcases h with h|h;exact h1 h;exact h2 h)]
theorem KN (p:Int→Int):∀{S:List Int} {x:Int},x∈S→Ba (Aj S p) x=some (p x)
 |[],x,h=>by cases h
 |i::S,x,h=>by
  show(if x=i then some (p i)else Ba (Aj S p) x)=_
  by_cases e:x=i
  ·subst e;rw[if_pos rfl]
  ·rw[if_neg e]
   rcases List.mem_cons.1 h with k|k
   ·exact absurd k e
   ·exact KN p k
theorem O9 (p:Int→Int) {x y:Int}:∀{S:List Int},S.Nodup→x∈S→BJ (Aj S p) x y=Aj S (Ku p x y)
 |[],_,h=>by cases h
 |i::S,hn,h=>by
  have hn':=List.nodup_cons.1 hn
  show(if x=i then(x,y)::Aj S p else(i,p i)::BJ (Aj S p) x y)=(i,Ku p x y i)::Aj S (Ku p x y)
  by_cases e:x=i
  ·subst e
   rw[if_pos rfl,Dj]
   congr 1
   refine List.map_congr_left fun z hz=>?_
   rw[BQ (fun e=>hn'.1 (by rw[← e];exact hz))]
  ·rw[if_neg e,BQ (fun k=>e k.symm)]
   rcases List.mem_cons.1 h with k|k
   ·exact absurd k e
   ·rw[O9 p hn'.2 k]
theorem VO:∀{S:List Int} {x:Int},x∉S→BJ (Aj S fun z=>z) x x=Aj (S++[x]) fun z=>z
 |[],x,_=>rfl
 |i::S,x,h=>by
  show(if x=i then(x,x)::Aj S (fun z=>z)else(i,i)::BJ (Aj S fun z=>z) x x)=(i,i)::Aj (S++[x]) fun z=>z
  rw[if_neg (fun e=>h (by rw[e];simp)),VO (fun k=>h (List.mem_cons_of_mem _ k))]
theorem fkL {S:List Int} {p:Int→Int} {x:Int} {K:Option (Nat×AV)→Prop} (hx:x∈S) (h:∀i,K (some (i,.int .i64 (p x)))):Hy .int (.int .i64 x) (Bq (Aj S p)) K:=
 fkI (fun hm=>by rw[KN p hx]at hm;cases hm) fun i v hm=>by
  rw[KN p hx]at hm
  cases hm
  exact h i
theorem msL {S:List Int} {p:Int→Int} {x y:Int} {K:List (AV×AV)→Prop} (hn:S.Nodup) (hx:x∈S) (h:K (Bq (Aj S (Ku p x y)))):MW .int (.int .i64 x) (.int .i64 y) (Bq (Aj S p)) K:=
 Za (by rw[O9 p hn hx];exact h)
theorem msA {S:List Int} {x:Int} {K:List (AV×AV)→Prop} (hx:x∉S) (h:K (Bq (Aj (S++[x]) fun z=>z))):MW .int (.int .i64 x) (.int .i64 x) (Bq (Aj S fun z=>z)) K:=
 Za (by rw[VO hx];exact h)
def Ur (Lp:Obj) (gm gr:Nat) (S:List Int) (p:Int→Int) (rest:List Obj):List Obj:=Lp::.mp gm true (Bq (Aj S p))::.arr gr 1 true false [.agg [.map 1 gm]]::rest
theorem AfA {S:List Int} {x:Int} (hx:x∉S) {Lp:Obj} {gm gr c:Nat} {rest:List Obj}:
 BL (Ae tab) 26 [.ref 2 gr 0 0,.int .i64 x] ⟨Ur Lp gm gr S (fun z=>z) rest,c⟩ fun out s'=>∃c',out=.ok (.EY [])∧s'=⟨Ur Lp gm gr (S++[x]) (fun z=>z) rest,c'⟩:=by
 unfold Ur
 refine BI rfl rfl ?_
 (conv=>whnf);repeat' (first|(refine msA hx ?_;conv=>whnf)|(refine kA ?_;conv=>whnf)|(refine Br.mk (fun hc=>?_) fun hc=>?_<;>first|exact hc.elim|conv=>whnf)|(refine kB ?_))
 all_goals first|exact⟨_,rfl,rfl⟩
set_option maxHeartbeats 1000000 in
theorem Ad4 {S:List Int} {p r:Int→Int} (hF:CY S p r) (hn:S.Nodup) (hpos:∀y∈S,1≤y) {x:Int} (hx:x∈S) {Lp:Obj} {gm gr c:Nat} {rest:List Obj}:
 BL (Ae tab) 29 [.ref 2 gr 0 0,.int .i64 x] ⟨Ur Lp gm gr S p rest,c⟩ fun out s'=>∃c' p',CY S p' r∧out=.ok (.int .i64 (r x))∧s'=⟨Ur Lp gm gr S p' rest,c'⟩:=by
 unfold Ur
 refine BI rfl rfl ?_
 (conv=>whnf);repeat' (first  |(refine kA ?_;conv=>whnf)|(refine Br.mk (fun hc=>?_) fun hc=>?_<;>first|exact hc.elim|conv=>whnf)|(refine kB ?_))
 refine Ah (fun m env s=>∃(y:Int) (c:Nat),m=y.toNat∧y∈S∧r y=r x∧env=[(0,.ref 2 gr 0 0),(1,.int .i64 x),(5,.int .i64 y)]∧s=⟨Lp::.mp gm true (Bq (Aj S p))::.arr gr 1 true false [.agg [.map 1 gm]]::rest,c⟩) ?_ _ _ _ ⟨x,_,rfl,hx,rfl,rfl,rfl⟩
 rintro _ _ _ ⟨y,c,rfl,hy,hry,rfl,rfl⟩
 refine⟨rfl,?_⟩
 have hle:=hF.le y hy
 have hy1:=hpos y hy
 have AfX:=hpos _ (hF.mem y hy)
 by_cases hfix:p y=y
 ·have hroot:r x=y:=by rw[← hry];exact hF.QX hy hfix
  (conv=>whnf);repeat' (first|(refine fkL hy (fun i=>?_);conv=>whnf)|(refine kA ?_;conv=>whnf)|(refine Br.mk (fun hc=>?_) fun hc=>?_<;>first|exact hc.elim|conv=>whnf)|(refine kB ?_))
  all_goals first|(exfalso;omega)|skip
  clear hle hy1 AfX hc hry
  refine Ah (fun m env s=>∃(z:Int) (p:Int→Int) (c:Nat),m=z.toNat∧CY S p r∧z∈S∧r z=y∧env=[(0,.ref 2 gr 0 0),(1,.int .i64 z),(5,.int .i64 y)]∧s=⟨Lp::.mp gm true (Bq (Aj S p))::.arr gr 1 true false [.agg [.map 1 gm]]::rest,c⟩) ?_ _ _ _ ⟨x,p,_,rfl,hF,hx,hroot,rfl,rfl⟩
  clear hfix hF
  rintro _ _ _ ⟨z,p,c,rfl,hF,hz,hrz,rfl,rfl⟩
  refine⟨rfl,?_⟩
  have hle:=hF.le z hz
  have AfX:=hpos _ (hF.mem z hz)
  by_cases hgo:p z=y
  ·(conv=>whnf);repeat' (first|(refine fkL hz (fun i=>?_);conv=>whnf)|(refine kA ?_;conv=>whnf)|(refine Br.mk (fun hc=>?_) fun hc=>?_<;>first|exact hc.elim|conv=>whnf)|(refine kB ?_))
   all_goals first
        |(exfalso;omega)
        |exact⟨_,p,hF,congrArg (fun n=>AA.ok (.int .i64 n)) hroot.symm,rfl⟩
  ·have hne:p z≠z:=fun e=>hgo (by rw[e,←hrz];exact(hF.QX hz e).symm)
   have hF':=hF.compress hz (c:=y) hrz.symm
   (conv=>whnf);repeat' (first|(refine fkL hz (fun i=>?_);conv=>whnf)|(refine msL hn hz ?_;conv=>whnf)|(refine kA ?_;conv=>whnf)|(refine Br.mk (fun hc=>?_) fun hc=>?_<;>first|exact hc.elim|conv=>whnf)|(refine kB ?_))
   all_goals first
        |(exfalso;omega)
        |exact again.mk ⟨_,by omega,p z,_,_,rfl,hF',hF.mem z hz,(hF.step hz).trans hrz,rfl,rfl⟩
 ·(conv=>whnf);repeat' (first|(refine fkL hy (fun i=>?_);conv=>whnf)|(refine kA ?_;conv=>whnf)|(refine Br.mk (fun hc=>?_) fun hc=>?_<;>first|exact hc.elim|conv=>whnf)|(refine kB ?_))
  all_goals first
   |(exfalso;omega)
   |exact again.mk ⟨_,by omega,p y,_,rfl,hF.mem y hy,(hF.step hy).trans hry,rfl,rfl⟩
set_option maxHeartbeats 1000000 in
theorem Ahe {S:List Int} {p r:Int→Int} (hF:CY S p r) (hn:S.Nodup) (hpos:∀y∈S,1≤y) {a b:Int} (ha:a∈S) (hb:b∈S) {Lp ob3:Obj} {gm gr c:Nat}:
 BL (Ae tab) 28 [.ref 2 gr 0 0,.int .i64 a,.int .i64 b] ⟨Ur Lp gm gr S p [ob3],c⟩ fun out s'=>∃c' p',CY S p' (fun c=>(Ez (r a) (r b) (c,r c)).2)∧out=.ok (.EY [])∧s'=⟨Ur Lp gm gr S p' [ob3],c'⟩:=by
 unfold Ur
 refine BI rfl rfl ?_
 (conv=>whnf);repeat' (first  |(refine kA ?_;conv=>whnf)|(refine Br.mk (fun hc=>?_) fun hc=>?_<;>first|exact hc.elim|conv=>whnf)|(refine kB ?_))
 refine(Ad4 hF hn hpos ha).mono ?_
 rintro _ _ ⟨c1,p1,hF1,rfl,rfl⟩
 unfold Ur
 (conv=>whnf);repeat' (first  |(refine kA ?_;conv=>whnf)|(refine Br.mk (fun hc=>?_) fun hc=>?_<;>first|exact hc.elim|conv=>whnf)|(refine kB ?_))
 refine(Ad4 hF1 hn hpos hb).mono ?_
 rintro _ _ ⟨c2,p2,hF2,rfl,rfl⟩
 unfold Ur
 have hU:=hF2.union ha hb
 have hM:(if r b>r a then r b else r a)∈S:=by split<;>first|exact hF2.AaW ha|exact hF2.AaW hb
 (conv=>whnf);repeat' (first|(refine msL hn hM ?_;conv=>whnf)|(refine kA ?_;conv=>whnf)|(refine Br.mk (fun hc=>?_) fun hc=>?_<;>first|exact hc.elim|conv=>whnf)|(refine kB ?_))
 all_goals first
  |exact⟨_,_,hU,rfl,rfl⟩
theorem Ahz {l:List (List UInt8)} {x:List UInt8} {nn:Bool} (hl:l.length<2^63):Ar (Ae tab) 71 [.sl nn (vs .str l),.str x] (fun v=>∃z,v=.int .i64 z∧(0≤z↔x∈l)):=by
 refine Ad rfl rfl ?_
 (conv=>whnf);repeat' (first|(refine kA ?_;conv=>whnf)|(refine Br.mk (fun hc=>?_) fun hc=>?_<;>first|exact hc.elim|conv=>whnf)  |(refine kB ?_))
 refine Ah (fun m env s=>∃i:Nat,m=l.length-i∧env=[(0,.sl nn (vs .str l)),(1,.str x),(7,.int .i64 l.length),(8,.int .i64 i)]∧s=⟨[],0⟩∧x∉l.take i) ?_ _ _ _ ⟨0,rfl,by simp,rfl,by simp⟩
 rintro _ _ _ ⟨i,rfl,rfl,rfl,hx⟩
 refine⟨rfl,?_⟩
 (conv=>whnf);repeat' (first|(refine kA ?_;conv=>whnf)|(refine Br.mk (fun hc=>?_) fun hc=>?_<;>first|exact hc.elim|conv=>whnf)  |(refine kB ?_))
 ·subst hc;exact⟨_,rfl,by simp⟩
 ·exact again.mk ⟨_,by omega,i+1,rfl,rfl,rfl,nms (by omega) hx (fun h=>hc h.symm)⟩
 ·rw[CZ hc]at hx;exact⟨_,rfl,by simp[hx]⟩
theorem AeH {l:List (List UInt8)} {x:List UInt8} {nn:Bool} (hl:l.length<2^63):Ar (Ae tab) 40 [.sl nn (vs .str l),.str x] (· =.bool (decide (x∈l))):=by
 refine Ad rfl rfl ?_
 (conv=>whnf);repeat' (first|(refine kA ?_;conv=>whnf)|(refine Br.mk (fun hc=>?_) fun hc=>?_<;>first|exact hc.elim|conv=>whnf)  |(refine kB ?_))
 refine Aa (Ahz hl) ?_
 rintro _ ⟨z,rfl,hz⟩
 (conv=>whnf);repeat' (first|(refine kA ?_;conv=>whnf)|(refine Br.mk (fun hc=>?_) fun hc=>?_<;>first|exact hc.elim|conv=>whnf)  |(refine kB ?_))
 ·exact Ce (hz.1 hc)
 ·exact Bf (mt hz.2 hc)
theorem Agd {l:List (List UInt8)} {x:List UInt8} {nn:Bool} (hl:l.length<2^63):Ar (Ae tab) 56 [.sl nn (vs .str l),.str x] (· =.bool (decide (x∈l))):=by
 refine Ad rfl rfl ?_
 (conv=>whnf);repeat' (first|(refine kA ?_;conv=>whnf)|(refine Br.mk (fun hc=>?_) fun hc=>?_<;>first|exact hc.elim|conv=>whnf)  |(refine kB ?_))
 refine Ah (fun m env s=>∃i:Nat,m=l.length-i∧env=[(0,.sl nn (vs .str l)),(1,.str x),(5,.int .i64 i)]∧s=⟨[],0⟩∧x∉l.take i) ?_ _ _ _ ⟨0,rfl,rfl,rfl,by simp⟩
 rintro _ _ _ ⟨i,rfl,rfl,rfl,hx⟩
 refine⟨rfl,?_⟩
 (conv=>whnf);repeat' (first|(refine kA ?_;conv=>whnf)|(refine Br.mk (fun hc=>?_) fun hc=>?_<;>first|exact hc.elim|conv=>whnf)  |(refine kB ?_))
 ·subst hc;exact Ce (by simp)
 ·exact again.mk ⟨_,by omega,i+1,rfl,rfl,rfl,nms (by omega) hx hc⟩
 ·rw[CZ hc]at hx;exact Bf hx
def HT (l:List (List UInt8)) (e:GE):Prop:=l.length=0∨e.ty∈l
instance (l:List (List UInt8)) (e:GE):Decidable (HT l e):=by unfold HT;infer_instance
theorem P7 {l:List (List UInt8)} {e:GE} {nn:Bool} (hl:l.length<2^63):Ar (Ae tab) 17 [e.av,.sl nn (vs .str l)] (· =.bool (decide (HT l e))):=by
 refine Ad rfl rfl ?_
 (conv=>whnf);repeat' (first|(refine kA ?_;conv=>whnf)|(refine Br.mk (fun hc=>?_) fun hc=>?_<;>first|exact hc.elim|conv=>whnf)|(refine Dk (AeH hl) (fun hc=>?_) (fun hc=>?_)<;>conv=>whnf)|(refine kB ?_))
 all_goals first|exact Ce (by unfold HT;first|(left;omega)|(right;assumption))|exact Bf (by unfold HT;rintro(h|h);omega;contradiction)
theorem Ut {l:List (List UInt8)} {e:GE} {nn:Bool} (hl:l.length<2^63):Ar (Ae tab) 31 [e.av,.sl nn (vs .str l)] (· =.bool (decide (HT l e))):=by
 refine Ad rfl rfl ?_
 (conv=>whnf);repeat' (first|(refine kA ?_;conv=>whnf)|(refine Br.mk (fun hc=>?_) fun hc=>?_<;>first|exact hc.elim|conv=>whnf)|(refine Dk (Agd hl) (fun hc=>?_) (fun hc=>?_)<;>conv=>whnf)|(refine kB ?_))
 all_goals first|exact Ce (by unfold HT;first|(left;omega)|(right;assumption))|exact Bf (by unfold HT;rintro(h|h);omega;contradiction)
theorem Tt {l:List AV} (h:∀x∈l,Like Tryz.prog 53 x) (i:Nat):
 ∃g:GV,∀hi:i<l.length,nth l (Int.toNat (Nat.cast i))=some g.av∧l[i]=g.av∧g.ok:=by
 by_cases hi:i<l.length
 ·obtain⟨g,e,hg⟩:=V8 (h _ (List.getElem_mem hi))
  exact⟨g,fun _=>⟨by rw[← e];exact nR hi,e,hg⟩⟩
 ·exact⟨⟨0,0,0,[],true,[]⟩,fun h=>absurd h hi⟩
end AI
end Go.Proofs.YtjjhejbffgaabaaGreatDoor
