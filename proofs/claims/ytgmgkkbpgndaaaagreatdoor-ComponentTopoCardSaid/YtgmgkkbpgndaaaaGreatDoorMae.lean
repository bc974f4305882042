/- The arguments of the graph laws, taken apart: values, properties, nodes, edges, graphs. Components as data: lists of labels, and a forest of sets whose representatives are their least elements. Plain. Lists of labels: Find, Join (both), Same. The forest of component.Weak: add, find, union. Strings in a list. Strings in a list: the reference. HasType, both. A value in a list of values. Slices within reach; clones of values, properties, strings; looking up a node of any graph. -/
import Derived.Test.YtgmgkkbpgndaaaaGreatDoorMaa
import Derived.Test.YtgmgkkbpgndaaaaGreatDoorGrCode
import GoSem.Dispatch
set_option linter.unusedVariables false
set_option maxRecDepth 4000
namespace Go.Proofs.YtgmgkkbpgndaaaaGreatDoor
namespace AI
structure GV where
 k:Int
 n:Int
 d:Int
 s:List UInt8
 nn:Bool
 l:List AV
def GV.av (v:GV):AV:=.agg [.int .i64 v.k,.int .i64 v.n,.int .i64 v.d,.str v.s,.sl v.nn v.l]
structure GP where
 key:List UInt8
 v:GV
def GP.av (p:GP):AV:=.agg [.str p.key,.int .i64 p.v.k,.int .i64 p.v.n,.int .i64 p.v.d,.str p.v.s,.sl p.v.nn p.v.l]
structure GN where
 id:Int
 ln:Bool
 labels:List (List UInt8)
 pn:Bool
 props:List GP
def GN.av (n:GN):AV:=.agg [.int .i64 n.id,.sl n.ln (vs .str n.labels),.sl n.pn (vs GP.av n.props)]
structure GE where
 id:Int
 fr:Int
 to:Int
 ty:List UInt8
 pn:Bool
 props:List GP
def GE.av (n:GE):AV:=.agg [.int .i64 n.id,.int .i64 n.fr,.int .i64 n.to,.str n.ty,.sl n.pn (vs GP.av n.props)]
structure GG where
 nn:Bool
 nodes:List GN
 en:Bool
 edges:List GE
 nextN:Int
 nextE:Int
def GG.av (g:GG):AV:=.agg [.sl g.nn (vs GN.av g.nodes),.sl g.en (vs GE.av g.edges),.int .i64 g.nextN,.int .i64 g.nextE]
def I64 (z:Int):Prop:=-2^63≤z∧z<2^63
def Ln {α:Type} (l:List α):Prop:=l.length<2^63
def GV.ok (v:GV):Prop:=I64 v.k∧I64 v.n∧I64 v.d∧Ln v.s∧Ln v.l∧(v.nn=false→v.l=[])∧∀x∈v.l,Like Tryz.prog 34 x
def GP.ok (p:GP):Prop:=Ln p.key∧p.v.ok
def GN.ok (n:GN):Prop:=I64 n.id∧Ln n.labels∧(n.ln=false→n.labels=[])∧(∀ s∈n.labels,Ln s)∧Ln n.props∧(n.pn=false→n.props=[])∧∀p∈n.props,p.ok
def GE.ok (e:GE):Prop:=I64 e.id∧I64 e.fr∧I64 e.to∧Ln e.ty∧Ln e.props∧(e.pn=false→e.props=[])∧∀p∈e.props,p.ok
def GG.ok (g:GG):Prop:=Ln g.nodes∧(g.nn=false→g.nodes=[])∧(∀ n∈g.nodes,n.ok)∧Ln g.edges∧(g.en=false→g.edges=[])∧(∀ e∈g.edges,e.ok)∧I64 g.nextN∧I64 g.nextE
theorem c_int:Tryz.prog.cellsOf 3=1:=by kernel_rfl
theorem c_string:Tryz.prog.cellsOf 9=1:=by kernel_rfl
theorem c_strings:Tryz.prog.cellsOf 31=1:=by kernel_rfl
theorem c_values:Tryz.prog.cellsOf 32=1:=by kernel_rfl
theorem c_value:Tryz.prog.cellsOf 34=5:=by kernel_rfl
theorem c_prop:Tryz.prog.cellsOf 112=6:=by kernel_rfl
theorem c_props:Tryz.prog.cellsOf 53=1:=by kernel_rfl
theorem c_node:Tryz.prog.cellsOf 55=3:=by kernel_rfl
theorem c_nodes:Tryz.prog.cellsOf 27=1:=by kernel_rfl
theorem c_edge:Tryz.prog.cellsOf 57=5:=by kernel_rfl
theorem c_edges:Tryz.prog.cellsOf 28=1:=by kernel_rfl
theorem c_graph:Tryz.prog.cellsOf 30=4:=by kernel_rfl
theorem len3 {l:List AV} (h:l.length=3):∃a b c,l=[a,b,c]:=by
 rcases l with _|⟨a,_|⟨b,_|⟨c,_|⟨d,r⟩⟩⟩⟩<;>simp at h
 exact⟨a,b,c,rfl⟩
theorem len4 {l:List AV} (h:l.length=4):∃a b c d,l=[a,b,c,d]:=by
 rcases l with _|⟨a,_|⟨b,_|⟨c,_|⟨d,_|⟨e,r⟩⟩⟩⟩⟩<;>simp at h
 exact⟨a,b,c,d,rfl⟩
theorem len5 {l:List AV} (h:l.length=5):∃a b c d e,l=[a,b,c,d,e]:=by
 rcases l with _|⟨a,_|⟨b,_|⟨c,_|⟨d,_|⟨e,_|⟨f,r⟩⟩⟩⟩⟩⟩<;>simp at h
 exact⟨a,b,c,d,e,rfl⟩
theorem len6 {l:List AV} (h:l.length=6):∃a b c d e f,l=[a,b,c,d,e,f]:=by
 rcases l with _|⟨a,_|⟨b,_|⟨c,_|⟨d,_|⟨e,_|⟨f,_|⟨g,r⟩⟩⟩⟩⟩⟩⟩<;>simp at h
 exact⟨a,b,c,d,e,f,rfl⟩
theorem i64_of {n:Int} (h:(Lit.int .i64 n).wf=true):I64 n:=by
 simp[Lit.wf]at h
 have h1:IntKind.i64.min=-2^63:=by rfl
 have h2:IntKind.i64.max=2^63-1:=by rfl
 unfold I64
 omega
theorem ln_of {α:Type} {l:List α} (h:l.length≤maxLen):Ln l:=by unfold Ln;have:=maxLen_lt;omega
theorem likeC_i {d:Nat} {cs:List AV} (h:likeC Tryz.prog d 3 cs):∃n,cs=[.int .i64 n]∧I64 n:=by
 obtain⟨k,e1,h1⟩:=likeC_int Tryz.underlying3 h
 exact⟨k,e1,i64_of h1⟩
theorem likeC_s {d:Nat} {cs:List AV} (h:likeC Tryz.prog d 9 cs):∃n,cs=[.str n]∧Ln n:=by
 obtain⟨k,e1,h1⟩:=likeC_string Tryz.underlying9 h
 exact⟨k,e1,ln_of h1⟩
theorem likeC_value {d:Nat} {cs:List AV} (h:likeC Tryz.prog d 34 cs):∃v:GV,cs=[.int .i64 v.k,.int .i64 v.n,.int .i64 v.d,.str v.s,.sl v.nn v.l]∧v.ok:=by
 obtain⟨d',rfl,g1,g2⟩:=likeC_struct Tryz.underlying34 h
 rw[c_value]at g1
 obtain⟨a,b,c,e,f,rfl⟩:=len5 g1
 clear g1
 simp only[List.forall_mem_cons]at g2
 obtain⟨f1,f2,f3,f4,f5,_⟩:=g2
 simp only[c_int,c_string,c_values,List.drop_zero,List.drop_succ_cons,List.take_succ_cons,List.take_zero]at f1 f2 f3 f4 f5
 obtain⟨k,e1,h1⟩:=likeC_i f1
 obtain⟨n,e2,h2⟩:=likeC_i f2
 obtain⟨m,e3,h3⟩:=likeC_i f3
 obtain⟨s,e4,h4⟩:=likeC_s f4
 obtain⟨d'',_,nl,xs,e5,h5,h6,h7⟩:=likeC_slice Tryz.underlying32 f5
 cases e1;cases e2;cases e3;cases e4;cases e5
 exact⟨⟨k,n,m,s,nl,xs⟩,rfl,h1,h2,h3,h4,ln_of h6,h5,fun x hx=>⟨_,h7 x hx⟩⟩
theorem like_value {a:AV} (h:Like Tryz.prog 34 a):∃v:GV,a=v.av∧v.ok:=by
 obtain⟨d,h⟩:=h
 obtain⟨cs,rfl,h0⟩:=like_struct Tryz.underlying34 h
 obtain⟨v,rfl,h1⟩:=likeC_value h0
 exact⟨v,rfl,h1⟩
theorem like_prop {d:Nat} {a:AV} (h:like Tryz.prog d 112 a):∃v:GP,a=v.av∧v.ok:=by
 obtain⟨cs,rfl,h0⟩:=like_struct Tryz.underlying112 h
 obtain⟨d',rfl,g1,g2⟩:=likeC_struct Tryz.underlying112 h0
 rw[c_prop]at g1
 obtain⟨a,b,c,e,f,g,rfl⟩:=len6 g1
 clear g1
 simp only[List.forall_mem_cons]at g2
 obtain⟨f1,f2,_⟩:=g2
 simp only[c_string,c_value,List.drop_zero,List.drop_succ_cons,List.take_succ_cons,List.take_zero]at f1 f2
 obtain⟨s,e1,h1⟩:=likeC_s f1
 obtain⟨v,e2,h2⟩:=likeC_value f2
 cases e1;cases e2
 exact⟨⟨s,v⟩,rfl,h1,h2⟩
theorem likeC_map {α:Type} {f:α→AV} {Q:α→Prop} {d:Nat} {t e:TypeId} {cs:List AV} (hu:Tryz.prog.underlying t=some (.slice e)) (he:∀d x,like Tryz.prog d e x→∃y,x=f y∧Q y) (h:likeC Tryz.prog d t cs):
 ∃nn l,cs=[.sl nn (vs f l)]∧(nn=false→l=[])∧Ln l∧∀y∈l,Q y:=by
 obtain⟨d',rfl,nn,xs,rfl,h0,h1,h2⟩:=likeC_slice hu h
 obtain⟨l,rfl,h3⟩:=exists_map (f:=f) (Q:=Q) fun x hx=>he d' x (h2 x hx)
 exact⟨nn,l,rfl,fun h=>by have:=h0 h;simpa using this,ln_of (by simpa using h1),h3⟩
theorem like_str {d:Nat} {a:AV} (h:like Tryz.prog d 9 a):∃s:List UInt8,a=.str s∧Ln s:=by
 obtain⟨k,e1,h1⟩:=like_string Tryz.underlying9 h
 exact⟨k,e1,ln_of h1⟩
theorem like_node {d:Nat} {a:AV} (h:like Tryz.prog d 55 a):∃v:GN,a=v.av∧v.ok:=by
 obtain⟨cs,rfl,h0⟩:=like_struct Tryz.underlying55 h
 obtain⟨d',rfl,g1,g2⟩:=likeC_struct Tryz.underlying55 h0
 rw[c_node]at g1
 obtain⟨a,b,c,rfl⟩:=len3 g1
 clear g1
 simp only[List.forall_mem_cons]at g2
 obtain⟨f1,f2,f3,_⟩:=g2
 simp only[c_int,c_strings,c_props,List.drop_zero,List.drop_succ_cons,List.take_succ_cons,List.take_zero]at f1 f2 f3
 obtain⟨s,e1,h1⟩:=likeC_i f1
 obtain⟨ln,L,e2,h2,h2a,h2b⟩:=likeC_map (f:=.str) (Q:=Ln) Tryz.underlying31 (fun d x h=>like_str h) f2
 obtain⟨pn,P,e3,h3,h3a,h3b⟩:=likeC_map (f:=GP.av) (Q:=GP.ok) Tryz.underlying53 (fun d x h=>like_prop h) f3
 cases e1;cases e2;cases e3
 exact⟨⟨s,ln,L,pn,P⟩,rfl,h1,h2a,h2,h2b,h3a,h3,h3b⟩
theorem like_edge {d:Nat} {a:AV} (h:like Tryz.prog d 57 a):∃v:GE,a=v.av∧v.ok:=by
 obtain⟨cs,rfl,h0⟩:=like_struct Tryz.underlying57 h
 obtain⟨d',rfl,g1,g2⟩:=likeC_struct Tryz.underlying57 h0
 rw[c_edge]at g1
 obtain⟨a,b,c,e,f,rfl⟩:=len5 g1
 clear g1
 simp only[List.forall_mem_cons]at g2
 obtain⟨f1,f2,f3,f4,f5,_⟩:=g2
 simp only[c_int,c_string,c_props,List.drop_zero,List.drop_succ_cons,List.take_succ_cons,List.take_zero]at f1 f2 f3 f4 f5
 obtain⟨k,e1,h1⟩:=likeC_i f1
 obtain⟨n,e2,h2⟩:=likeC_i f2
 obtain⟨m,e3,h3⟩:=likeC_i f3
 obtain⟨s,e4,h4⟩:=likeC_s f4
 obtain⟨pn,P,e5,h5,h5a,h5b⟩:=likeC_map (f:=GP.av) (Q:=GP.ok) Tryz.underlying53 (fun d x h=>like_prop h) f5
 cases e1;cases e2;cases e3;cases e4;cases e5
 exact⟨⟨k,n,m,s,pn,P⟩,rfl,h1,h2,h3,h4,h5a,h5,h5b⟩
theorem like_graph {a:AV} (h:Like Tryz.prog 30 a):∃v:GG,a=v.av∧v.ok:=by
 obtain⟨d,h⟩:=h
 obtain⟨cs,rfl,h0⟩:=like_struct Tryz.underlying30 h
 obtain⟨d',rfl,g1,g2⟩:=likeC_struct Tryz.underlying30 h0
 rw[c_graph]at g1
 obtain⟨a,b,c,e,rfl⟩:=len4 g1
 clear g1
 simp only[List.forall_mem_cons]at g2
 obtain⟨f1,f2,f3,f4,_⟩:=g2
 simp only[c_int,c_nodes,c_edges,List.drop_zero,List.drop_succ_cons,List.take_succ_cons,List.take_zero]at f1 f2 f3 f4
 obtain⟨nn,N,e1,h1,h1a,h1b⟩:=likeC_map (f:=GN.av) (Q:=GN.ok) Tryz.underlying27 (fun d x h=>like_node h) f1
 obtain⟨en,E,e2,h2,h2a,h2b⟩:=likeC_map (f:=GE.av) (Q:=GE.ok) Tryz.underlying28 (fun d x h=>like_edge h) f2
 obtain⟨m,e3,h3⟩:=likeC_i f3
 obtain⟨k,e4,h4⟩:=likeC_i f4
 cases e1;cases e2;cases e3;cases e4
 exact⟨⟨nn,N,en,E,m,k⟩,rfl,h1a,h1,h1b,h2a,h2,h2b,h3,h4⟩
def findB (l:List (Int×Int)) (a:Int):Option Int:=(l.find? fun p=>decide (p.1=a)).map (·.2)
def minB (x y:Int):Int:=if y<x then y else x
def mergeB (x y:Int) (p:Int×Int):Int×Int:=if p.2=x∨p.2=y then(p.1,minB x y)else p
def joinB (l:List (Int×Int)) (a b:Int):List (Int×Int):=match findB l a,findB l b with
 |some x,some y=>l.map (mergeB x y)
 |_,_=>l
def weakB (ids:List Int) (es:List (Int×Int)):List (Int×Int):=es.foldl (fun l e=>joinB l e.1 e.2) (ids.map fun i=>(i,i))
theorem weakB_snoc (ids:List Int) (es:List (Int×Int)) (e:Int×Int):weakB ids (es++[e])=joinB (weakB ids es) e.1 e.2:=by simp[weakB]
theorem findB_map (r:Int→Int):∀(ids:List Int) {a:Int},a∈ids→findB (ids.map fun i=>(i,r i)) a=some (r a)
 |[],a,h=>by cases h
 |i::ids,a,h=>by
  unfold findB
  rw[List.map_cons,List.find?_cons]
  by_cases e:i=a
  ·subst e;simp
  ·rw[show (decide ((i,r i).1=a))=false from decide_eq_false e]
   rcases List.mem_cons.1 h with k|k
   ·exact absurd k.symm e
   ·exact findB_map r ids k
inductive Root (p:Int→Int):Int→Int→Prop where
 |here {x:Int} (h:p x=x):Root p x x
 |up {x c:Int} (h:p x≠x) (k:Root p (p x) c):Root p x c
theorem Root.fix {p:Int→Int} {x c:Int} (h:Root p x c):p c=c:=by
 induction h with
 |here h=>exact h
 |up _ _ ih=>exact ih
theorem Root.det {p:Int→Int} {x c d:Int} (h:Root p x c) (k:Root p x d):c=d:=by
 induction h with
 |here h=>cases k with
  |here _=>rfl
  |up h' _=>exact absurd h h'
 |up h _ ih=>cases k with
  |here h'=>exact absurd h' h
  |up _ k'=>exact ih k'
theorem Root.of_fix {p:Int→Int} {x c:Int} (h:Root p x c) (k:p x=x):c=x:=h.det (.here k)
def updF (p:Int→Int) (x y:Int):Int→Int:=fun z=>if z=x then y else p z
theorem updF_same (p:Int→Int) (x y:Int):updF p x y x=y:=if_pos rfl
theorem updF_other {p:Int→Int} {x y z:Int} (h:z≠x):updF p x y z=p z:=if_neg h
theorem Root.compress {p:Int→Int} {x c:Int} (hx:Root p x c) {a d:Int} (h:Root p a d):Root (updF p x c) a d:=by
 have hc:=hx.fix
 have hcc:updF p x c c=c:=by
  by_cases e:c=x
  ·subst e;exact updF_same ..
  ·rw[updF_other e,hc]
 induction h with
 |@here a h=>
  by_cases e:a=x
  ·subst e
   have:=hx.of_fix h
   subst this
   exact .here (updF_same ..)
  ·exact .here (by rw[updF_other e,h])
 |@up a d h k ih=>
  by_cases e:a=x
  ·subst e
   have:d=c:=(Root.up h k).det hx
   subst this
   by_cases e2:d=a
   ·subst e2;exact .here (updF_same ..)
   ·exact .up (by rw[updF_same];exact e2) (by rw[updF_same];exact .here hcc)
  ·exact .up (by rw[updF_other e];exact h) (by rw[updF_other e];exact ih)
theorem Root.union {p:Int→Int} {M m:Int} (hM:p M=M) (hm:p m=m) (hne:m≠M) {a d:Int} (h:Root p a d):Root (updF p M m) a (if d=M then m else d):=by
 have hmm:updF p M m m=m:=by rw[updF_other hne,hm]
 induction h with
 |@here a h=>
  by_cases e:a=M
  ·subst e
   rw[if_pos rfl]
   exact .up (by rw[updF_same];exact hne) (by rw[updF_same];exact .here hmm)
  ·rw[if_neg e]
   exact .here (by rw[updF_other e,h])
 |@up a d h k ih=>
  by_cases e:a=M
  ·subst e;exact absurd hM h
  ·exact .up (by rw[updF_other e];exact h) (by rw[updF_other e];exact ih)
structure Forest (S:List Int) (p r:Int→Int):Prop where
 mem:∀x∈S,p x∈S
 le:∀x∈S,p x≤x
 root:∀x∈S,Root p x (r x)
section
variable {S:List Int} {p r:Int→Int}
theorem Forest.rmem (h:Forest S p r) {x:Int} (hx:x∈S):r x∈S:=by
 have k:=h.root x hx
 generalize r x=c at k
 induction k with
 |here _=>exact hx
 |up _ _ ih=>exact ih (h.mem _ hx)
theorem Forest.rle (h:Forest S p r) {x:Int} (hx:x∈S):r x≤x:=by
 have k:=h.root x hx
 generalize r x=c at k
 induction k with
 |here _=>exact Int.le_refl _
 |up _ _ ih=>exact Int.le_trans (ih (h.mem _ hx)) (h.le _ hx)
theorem Forest.rfix (h:Forest S p r) {x:Int} (hx:x∈S):p (r x)=r x:=(h.root x hx).fix
theorem Forest.of_fix (h:Forest S p r) {x:Int} (hx:x∈S) (k:p x=x):r x=x:=(h.root x hx).of_fix k
theorem Forest.step (h:Forest S p r) {x:Int} (hx:x∈S):r (p x)=r x:=by
 have k:=h.root x hx
 by_cases e:p x=x
 ·rw[e]
 ·generalize r x=c at k
  cases k with
  |here h'=>exact absurd h' e
  |up _ k'=>exact(h.root _ (h.mem x hx)).det k'
theorem Forest.compress (h:Forest S p r) {x c:Int} (hx:x∈S) (hc:c=r x):Forest S (updF p x c) r:=by
 subst hc
 refine⟨fun y hy=>?_,fun y hy=>?_,fun y hy=>(h.root x hx).compress (h.root y hy)⟩
 ·by_cases e:y=x
  ·subst e;rw[updF_same];exact h.rmem hx
  ·rw[updF_other e];exact h.mem y hy
 ·by_cases e:y=x
  ·subst e;rw[updF_same];exact h.rle hx
  ·rw[updF_other e];exact h.le y hy
theorem Forest.start (S:List Int):Forest S (fun x=>x) (fun x=>x):=⟨fun _ h=>h,fun _ _=>Int.le_refl _,fun _ _=>.here rfl⟩
theorem Forest.union (h:Forest S p r) {a b:Int} (ha:a∈S) (hb:b∈S):
 Forest S (updF p (if r b>r a then r b else r a) (if r b<r a then r b else r a)) (fun c=>(mergeB (r a) (r b) (c,r c)).2):=by
 obtain⟨M,hM⟩:∃M,(if r b>r a then r b else r a)=M:=⟨_,rfl⟩
 obtain⟨m,hm⟩:∃m,(if r b<r a then r b else r a)=m:=⟨_,rfl⟩
 rw[hM,hm]
 have fa:=h.rfix ha
 have fb:=h.rfix hb
 have ma:=h.rmem ha
 have mb:=h.rmem hb
 have hMr:M=r a∨M=r b:=by rw[← hM];split<;>simp
 have hmr:m=r a∨m=r b:=by rw[← hm];split<;>simp
 have hle:m≤M:=by rw[← hM,←hm];split<;>split<;>omega
 have hMS:M∈S:=by rcases hMr with e|e<;>rw[e]<;>assumption
 have hmS:m∈S:=by rcases hmr with e|e<;>rw[e]<;>assumption
 have hMf:p M=M:=by rcases hMr with e|e<;>rw[e]<;>assumption
 have hmf:p m=m:=by rcases hmr with e|e<;>rw[e]<;>assumption
 have hmin:minB (r a) (r b)=m:=by rw[← hm];rfl
 refine⟨fun y hy=>?_,fun y hy=>?_,fun y hy=>?_⟩
 ·by_cases e:y=M
  ·subst e;rw[updF_same];exact hmS
  ·rw[updF_other e];exact h.mem y hy
 ·by_cases e:y=M
  ·subst e;rw[updF_same];exact hle
  ·rw[updF_other e];exact h.le y hy
 ·by_cases e:m=M
  ·have hab:r a=r b:=by
        rw[← hM,←hm]at e
        split at e<;>split at e<;>omega
   have hself:updF p M m=p:=by
        funext z
        by_cases ez:z=M
        ·subst ez;rw[updF_same,hMf];exact e
        ·exact updF_other ez
   rw[hself]
   have:(mergeB (r a) (r b) (y,r y)).2=r y:=by
        unfold mergeB
        split
        ·rename_i hc
         show minB (r a) (r b)=r y
         unfold minB
         simp only at hc
         split<;>omega
        ·rfl
   rw[this]
   exact h.root y hy
  ·have k:=(h.root y hy).union hMf hmf e
   have:(mergeB (r a) (r b) (y,r y)).2=if r y=M then m else r y:=by
        unfold mergeB
        rw[hmin]
        simp only
        by_cases c1:r y=r a∨r y=r b
        ·rw[if_pos c1]
         show m=_
         by_cases c2:r y=M
         ·rw[if_pos c2]
         ·rw[if_neg c2]
          rcases c1 with c|c
          ·rw[c]at c2 ⊢
           rw[← hM]at c2
           rw[← hm]
           split at c2<;>split<;>omega
          ·rw[c]at c2 ⊢
           rw[← hM]at c2
           rw[← hm]
           split at c2<;>split<;>omega
        ·rw[if_neg c1]
         have:r y≠M:=fun e=>c1 (by rcases hMr with k|k<;>omega)
         rw[if_neg this]
   rw[this]
   exact k
def labelsB (S:List Int) (r:Int→Int):List (Int×Int):=S.map fun i=>(i,r i)
theorem joinB_labels {a b:Int} (ha:a∈S) (hb:b∈S):joinB (labelsB S r) a b=labelsB S (fun c=>(mergeB (r a) (r b) (c,r c)).2):=by
 unfold joinB labelsB
 rw[findB_map r S ha,findB_map r S hb]
 show(S.map _).map _=_
 rw[List.map_map]
 refine List.map_congr_left fun c _=>?_
 show mergeB (r a) (r b) (c,r c)=(c,(mergeB (r a) (r b) (c,r c)).2)
 unfold mergeB
 by_cases hc:r c=r a∨r c=r b
 ·simp only[hc,if_true]
 ·simp only[hc,if_false]
theorem labelsB_start (S:List Int):labelsB S (fun x=>x)=weakB S []:=rfl
end
def pv (p:Int×Int):AV:=.agg [.int .i64 p.1,.int .i64 p.2]
theorem cellsPv (x:Int×Int):(pv x).cells.length=2:=rfl
theorem findB_at {l:List (Int×Int)} {a:Int} {i:Nat} (h:∀p∈l.take i,p.1≠a) (hi:i<l.length) (hx:(l[i]).1=a):findB l a=some (l[i]).2:=by
 unfold findB
 have:(l.find? fun p=>decide (p.1=a))=some l[i]:=by
  rw[List.find?_eq_some_iff_getElem]
  refine⟨decide_eq_true hx,i,hi,rfl,fun j hj=>?_⟩
  have:=h (l[j]) (by rw[List.mem_take_iff_getElem];exact⟨j,by omega,rfl⟩)
  simpa using this
 rw[this]
 rfl
theorem findB_no {l:List (Int×Int)} {a:Int} (h:∀p∈l,p.1≠a):findB l a=none:=by
 unfold findB
 rw[List.find?_eq_none.2 fun p hp=>by simpa using h p hp]
 rfl
theorem ne_snoc {l:List (Int×Int)} {a:Int} {i:Nat} (h:∀p∈l.take i,p.1≠a) (hi:i<l.length) (hx:¬(l[i]).1=a):∀p∈l.take (i+1),p.1≠a:=by
 intro p hp
 rw[List.take_succ_eq_append_getElem hi,List.mem_append,List.mem_singleton]at hp
 rcases hp with hp|rfl
 ·exact h p hp
 ·exact hx
theorem ne_all {l:List (Int×Int)} {a:Int} {i:Nat} (h:∀p∈l.take i,p.1≠a) (hi:¬i<l.length):∀p∈l,p.1≠a:=by
 rwa [List.take_of_length_le (by omega)]at h
def fndV:Option Int→AV
 |some b=>.tup [.int .i64 b,.bool true]
 |none=>.tup [.int .i64 0,.bool false]
theorem findR {l:List (Int×Int)} {a:Int} {nn:Bool} (hl:l.length<2^62):PureP (findFn tab) 24 [.sl nn (vs pv l),.int .i64 a] (· =fndV (findB l a)):=by
 refine pureP_of rfl rfl ?_
 (conv=>whnf);repeat' (first  |(refine kA ?_;conv=>whnf)|(refine Br.mk (fun hc=>?_) fun hc=>?_<;>first|exact hc.elim|conv=>whnf)|(refine kB ?_))
 refine loop_inv (fun m env s=>∃i:Nat,m=l.length-i∧env=[(0,.sl nn (vs pv l)),(1,.int .i64 a),(6,.int .i64 i)]∧s=⟨[],0⟩∧∀p∈l.take i,p.1≠a) ?_ _ _ _ ⟨0,rfl,rfl,rfl,by simp⟩
 rintro _ _ _ ⟨i,rfl,rfl,rfl,hx⟩
 refine⟨rfl,?_⟩
 by_cases hlt:i<l.length
 ·by_cases he:(l[i]).1=a
  ·have hf:=findB_at hx hlt he
   (conv=>whnf);repeat' (first  |(refine kA ?_;conv=>whnf)|(refine Br.mk (fun hc=>?_) fun hc=>?_<;>first|exact hc.elim|conv=>whnf)|(refine kB ?_))
   all_goals first
        |(exfalso;omega)
        |(rw [hf];rfl)
        | (trace_state; fail "find1")
  ·(conv=>whnf);repeat' (first  |(refine kA ?_;conv=>whnf)|(refine Br.mk (fun hc=>?_) fun hc=>?_<;>first|exact hc.elim|conv=>whnf)|(refine kB ?_))
   all_goals first
        |(exfalso;omega)
        |exact again.mk ⟨_,by omega,i+1,rfl,rfl,rfl,ne_snoc hx hlt he⟩
        | (trace_state; fail "find2")
 ·have hf:=findB_no (ne_all hx hlt)
  (conv=>whnf);repeat' (first  |(refine kA ?_;conv=>whnf)|(refine Br.mk (fun hc=>?_) fun hc=>?_<;>first|exact hc.elim|conv=>whnf)|(refine kB ?_))
  all_goals first
   |(exfalso;omega)
   |(rw [hf];rfl)
   | (trace_state; fail "find3")
theorem isA1 {p:Int×Int} {a:Int}:PureP (findFn tab) 22 [pv p,.fref [.int .i64 a]] (· =.bool (decide (p.1=a))):=by
 refine pureP_of rfl rfl ?_
 (conv=>whnf);repeat' (first  |(refine kA ?_;conv=>whnf)|(refine Br.mk (fun hc=>?_) fun hc=>?_<;>first|exact hc.elim|conv=>whnf)|(refine kB ?_))
 ·exact bool_t (by assumption)
 ·exact bool_f (by assumption)
theorem isA2 {p:Int×Int} {a:Int}:PureP (findFn tab) 23 [pv p,.fref [.int .i64 a]] (· =.bool (decide (p.1=a))):=by
 refine pureP_of rfl rfl ?_
 (conv=>whnf);repeat' (first  |(refine kA ?_;conv=>whnf)|(refine Br.mk (fun hc=>?_) fun hc=>?_<;>first|exact hc.elim|conv=>whnf)|(refine kB ?_))
 ·exact bool_t (by assumption)
 ·exact bool_f (by assumption)
inductive IdxB (l:List (Int×Int)) (a:Int):AV→Prop
 |at(i:Nat) (h:i<l.length) (hf:findB l a=some (l[i]).2):IdxB l a (.int .i64 i)
 |no (hf:findB l a=none):IdxB l a (.int .i64 (-1))
theorem idx {k:Nat} {l:List (Int×Int)} {a:Int} {nn:Bool} (hl:l.length<2^62) (hk:∀p:Int×Int,PureP (findFn tab) k [pv p,.fref [.int .i64 a]] (· =.bool (decide (p.1=a)))):
 PureP (findFn tab) 21 [.sl nn (vs pv l),.fn k [.fref [.int .i64 a]]] (IdxB l a):=by
 refine pureP_of rfl rfl ?_
 (conv=>whnf);repeat' (first  |(refine kA ?_;conv=>whnf)|(refine Br.mk (fun hc=>?_) fun hc=>?_<;>first|exact hc.elim|conv=>whnf)|(refine kB ?_))
 refine loop_inv (fun m env s=>∃i:Nat,m=l.length-i∧env=[(0,.sl nn (vs pv l)),(1,.fn k [.fref [.int .i64 a]]),(7,.int .i64 l.length),(8,.int .i64 i)]∧s=⟨[],0⟩∧∀p∈l.take i,p.1≠a) ?_ _ _ _ ⟨0,rfl,rfl,rfl,by simp⟩
 rintro _ _ _ ⟨i,rfl,rfl,rfl,hx⟩
 refine⟨rfl,?_⟩
 by_cases hlt:i<l.length
 ·have hp:=hk (l[i])
  by_cases he:(l[i]).1=a
  ·have hf:=findB_at hx hlt he
   rw[decide_eq_true he]at hp
   (conv=>whnf);repeat' (first|(refine callK_of hp ?_;rintro _ rfl;conv=>whnf)|(refine kA ?_;conv=>whnf)|(refine Br.mk (fun hc=>?_) fun hc=>?_<;>first|exact hc.elim|conv=>whnf)|(refine kB ?_))
   all_goals first
        |(exfalso;omega)
        |exact .at i hlt hf
        | (trace_state; fail "idx1")
  ·rw[decide_eq_false he]at hp
   (conv=>whnf);repeat' (first|(refine callK_of hp ?_;rintro _ rfl;conv=>whnf)|(refine kA ?_;conv=>whnf)|(refine Br.mk (fun hc=>?_) fun hc=>?_<;>first|exact hc.elim|conv=>whnf)|(refine kB ?_))
   all_goals first
        |(exfalso;omega)
        |exact again.mk ⟨_,by omega,i+1,rfl,rfl,rfl,ne_snoc hx hlt he⟩
        | (trace_state; fail "idx2")
 ·have hf:=findB_no (ne_all hx hlt)
  (conv=>whnf);repeat' (first  |(refine kA ?_;conv=>whnf)|(refine Br.mk (fun hc=>?_) fun hc=>?_<;>first|exact hc.elim|conv=>whnf)|(refine kB ?_))
  all_goals first
   |(exfalso;omega)
   |exact .no hf
   | (trace_state; fail "idx3")
theorem tPv {l:List (Int×Int)} {i:Nat} {y:Int×Int} {v:Int} {K:List AV→Prop} (k:K (vs pv (l.set i (y.1,v)))):eqK ((vs pv l).set (Int.toNat (i:Int)) (writeCells (pv y) (0+1) (.int .i64 v))) K:=by
 refine eqK_intro ?_ k
 show(vs pv l).set i (pv (y.1,v))=_
 simp[vs,List.map_set]
structure Half (f:Int×Int→Int×Int) (l W:List (Int×Int)) (i:Nat):Prop where
 len:W.length=l.length
 old:∀j,i≤j→W[j]?=l[j]?
 new:∀j,j<i→W[j]?=(l.map f)[j]?
theorem Half.start (f:Int×Int→Int×Int) (l:List (Int×Int)):Half f l l 0:=⟨rfl,fun _ _=>rfl,fun _ h=>absurd h (by omega)⟩
theorem Half.at {f:Int×Int→Int×Int} {l W:List (Int×Int)} {i:Nat} (h:Half f l W i) (hi:i<l.length):W[i]'(by rw[h.len];exact hi)=l[i]:=by
 have:=h.old i (Nat.le_refl _)
 rw[List.getElem?_eq_getElem hi,List.getElem?_eq_getElem (by rw[h.len];exact hi)]at this
 simpa using this
theorem Half.put {f:Int×Int→Int×Int} {l W:List (Int×Int)} {i:Nat} (h:Half f l W i) (hi:i<l.length):Half f l (W.set i (f (l[i]))) (i+1):=by
 refine⟨by simp[h.len],fun j hj=>?_,fun j hj=>?_⟩
 ·rw[List.getElem?_set_ne (by omega)];exact h.old j (by omega)
 ·by_cases e:j=i
  ·subst e
   rw[List.getElem?_set_self (by rw[h.len];exact hi),List.getElem?_map,List.getElem?_eq_getElem hi];rfl
  ·rw[List.getElem?_set_ne (by omega)];exact h.new j (by omega)
theorem Half.skip {f:Int×Int→Int×Int} {l W:List (Int×Int)} {i:Nat} (h:Half f l W i) (hi:i<l.length) (he:f (l[i])=l[i]):Half f l W (i+1):=by
 refine⟨h.len,fun j hj=>h.old j (by omega),fun j hj=>?_⟩
 by_cases e:j=i
 ·subst e
  rw[h.old j (Nat.le_refl _),List.getElem?_map,List.getElem?_eq_getElem hi,Option.map_some,he]
 ·exact h.new j (by omega)
theorem Half.all {f:Int×Int→Int×Int} {l W:List (Int×Int)} {i:Nat} (h:Half f l W i) (hi:¬i<l.length):W=l.map f:=by
 apply List.ext_getElem?
 intro j
 by_cases hj:j<i
 ·exact h.new j hj
 ·rw[List.getElem?_eq_none (by rw[h.len];omega),List.getElem?_eq_none (by simp;omega)]
theorem mergeB_hit {x y:Int} {p:Int×Int} (h:p.2=x∨p.2=y):mergeB x y p=(p.1,if y<x then y else x):=by unfold mergeB;rw[if_pos h];rfl
theorem mergeB_miss {x y:Int} {p:Int×Int} (h1:¬p.2=x) (h2:¬p.2=y):mergeB x y p=p:=by unfold mergeB;rw[if_neg (by intro h;rcases h with h|h;exact h1 h;exact h2 h)]
theorem mget_labels (p:Int→Int):∀{S:List Int} {x:Int},x∈S→mget (labelsB S p) x=some (p x)
 |[],x,h=>by cases h
 |i::S,x,h=>by
  show(if x=i then some (p i)else mget (labelsB S p) x)=_
  by_cases e:x=i
  ·subst e;rw[if_pos rfl]
  ·rw[if_neg e]
   rcases List.mem_cons.1 h with k|k
   ·exact absurd k e
   ·exact mget_labels p k
theorem mset_labels (p:Int→Int) {x y:Int}:∀{S:List Int},S.Nodup→x∈S→mset (labelsB S p) x y=labelsB S (updF p x y)
 |[],_,h=>by cases h
 |i::S,hn,h=>by
  have hn':=List.nodup_cons.1 hn
  show(if x=i then(x,y)::labelsB S p else(i,p i)::mset (labelsB S p) x y)=(i,updF p x y i)::labelsB S (updF p x y)
  by_cases e:x=i
  ·subst e
   rw[if_pos rfl,updF_same]
   congr 1
   refine List.map_congr_left fun z hz=>?_
   rw[updF_other (fun e=>hn'.1 (by rw[← e];exact hz))]
  ·rw[if_neg e,updF_other (fun k=>e k.symm)]
   rcases List.mem_cons.1 h with k|k
   ·exact absurd k e
   ·rw[mset_labels p hn'.2 k]
theorem mset_new:∀{S:List Int} {x:Int},x∉S→mset (labelsB S fun z=>z) x x=labelsB (S++[x]) fun z=>z
 |[],x,_=>rfl
 |i::S,x,h=>by
  show(if x=i then(x,x)::labelsB S (fun z=>z)else(i,i)::mset (labelsB S fun z=>z) x x)=(i,i)::labelsB (S++[x]) fun z=>z
  rw[if_neg (fun e=>h (by rw[e];simp)),mset_new (fun k=>h (List.mem_cons_of_mem _ k))]
theorem fkL {S:List Int} {p:Int→Int} {x:Int} {K:Option (Nat×AV)→Prop} (hx:x∈S) (h:∀i,K (some (i,.int .i64 (p x)))):findK .int (.int .i64 x) (mints (labelsB S p)) K:=
 fkI (fun hm=>by rw[mget_labels p hx]at hm;cases hm) fun i v hm=>by
  rw[mget_labels p hx]at hm
  cases hm
  exact h i
theorem msL {S:List Int} {p:Int→Int} {x y:Int} {K:List (AV×AV)→Prop} (hn:S.Nodup) (hx:x∈S) (h:K (mints (labelsB S (updF p x y)))):msetK .int (.int .i64 x) (.int .i64 y) (mints (labelsB S p)) K:=
 msI (by rw[mset_labels p hn hx];exact h)
theorem msA {S:List Int} {x:Int} {K:List (AV×AV)→Prop} (hx:x∉S) (h:K (mints (labelsB (S++[x]) fun z=>z))):msetK .int (.int .i64 x) (.int .i64 x) (mints (labelsB S fun z=>z)) K:=
 msI (by rw[mset_new hx];exact h)
def foS (ob0:Obj) (gm gr:Nat) (S:List Int) (p:Int→Int) (rest:List Obj):List Obj:=ob0::.mp gm true (mints (labelsB S p))::.arr gr 1 true false [.agg [.map 1 gm]]::rest
theorem addP {S:List Int} {x:Int} (hx:x∉S) {ob0:Obj} {gm gr c:Nat} {rest:List Obj}:
 Calls1 (findFn tab) 39 [.ref 2 gr 0 0,.int .i64 x] ⟨foS ob0 gm gr S (fun z=>z) rest,c⟩ fun out s'=>∃c',out=.ok (.tup [])∧s'=⟨foS ob0 gm gr (S++[x]) (fun z=>z) rest,c'⟩:=by
 unfold foS
 refine calls1_of rfl rfl ?_
 (conv=>whnf);repeat' (first|(refine msA hx ?_;conv=>whnf)|(refine kA ?_;conv=>whnf)|(refine Br.mk (fun hc=>?_) fun hc=>?_<;>first|exact hc.elim|conv=>whnf)|(refine kB ?_))
 all_goals first | exact ⟨_, rfl, rfl⟩ | (trace_state; fail "addP")
set_option maxHeartbeats 1000000 in
theorem fndP {S:List Int} {p r:Int→Int} (hF:Forest S p r) (hn:S.Nodup) (hpos:∀y∈S,1≤y) {x:Int} (hx:x∈S) {ob0:Obj} {gm gr c:Nat} {rest:List Obj}:
 Calls1 (findFn tab) 41 [.ref 2 gr 0 0,.int .i64 x] ⟨foS ob0 gm gr S p rest,c⟩ fun out s'=>∃c' p',Forest S p' r∧out=.ok (.int .i64 (r x))∧s'=⟨foS ob0 gm gr S p' rest,c'⟩:=by
 unfold foS
 refine calls1_of rfl rfl ?_
 (conv=>whnf);repeat' (first  |(refine kA ?_;conv=>whnf)|(refine Br.mk (fun hc=>?_) fun hc=>?_<;>first|exact hc.elim|conv=>whnf)|(refine kB ?_))
 refine loop_inv (fun m env s=>∃(y:Int) (c:Nat),m=y.toNat∧y∈S∧r y=r x∧env=[(0,.ref 2 gr 0 0),(1,.int .i64 x),(5,.int .i64 y)]∧s=⟨ob0::.mp gm true (mints (labelsB S p))::.arr gr 1 true false [.agg [.map 1 gm]]::rest,c⟩) ?_ _ _ _ ⟨x,_,rfl,hx,rfl,rfl,rfl⟩
 rintro _ _ _ ⟨y,c,rfl,hy,hry,rfl,rfl⟩
 refine⟨rfl,?_⟩
 have hle:=hF.le y hy
 have hy1:=hpos y hy
 have hpy1:=hpos _ (hF.mem y hy)
 by_cases hfix:p y=y
 ·have hroot:r x=y:=by rw[← hry];exact hF.of_fix hy hfix
  (conv=>whnf);repeat' (first|(refine fkL hy (fun i=>?_);conv=>whnf)|(refine kA ?_;conv=>whnf)|(refine Br.mk (fun hc=>?_) fun hc=>?_<;>first|exact hc.elim|conv=>whnf)|(refine kB ?_))
  all_goals first|(exfalso;omega)|skip
  clear hle hy1 hpy1 hc hry
  refine loop_inv (fun m env s=>∃(z:Int) (p:Int→Int) (c:Nat),m=z.toNat∧Forest S p r∧z∈S∧r z=y∧env=[(0,.ref 2 gr 0 0),(1,.int .i64 z),(5,.int .i64 y)]∧s=⟨ob0::.mp gm true (mints (labelsB S p))::.arr gr 1 true false [.agg [.map 1 gm]]::rest,c⟩) ?_ _ _ _ ⟨x,p,_,rfl,hF,hx,hroot,rfl,rfl⟩
  clear hfix hF
  rintro _ _ _ ⟨z,p,c,rfl,hF,hz,hrz,rfl,rfl⟩
  refine⟨rfl,?_⟩
  have hle:=hF.le z hz
  have hpy1:=hpos _ (hF.mem z hz)
  by_cases hgo:p z=y
  ·(conv=>whnf);repeat' (first|(refine fkL hz (fun i=>?_);conv=>whnf)|(refine kA ?_;conv=>whnf)|(refine Br.mk (fun hc=>?_) fun hc=>?_<;>first|exact hc.elim|conv=>whnf)|(refine kB ?_))
   all_goals first
        |(exfalso;omega)
        |exact⟨_,p,hF,congrArg (fun n=>AOut.ok (.int .i64 n)) hroot.symm,rfl⟩
        | (trace_state; fail "fnd3")
  ·have hne:p z≠z:=fun e=>hgo (by rw[e,←hrz];exact(hF.of_fix hz e).symm)
   have hF':=hF.compress hz (c:=y) hrz.symm
   (conv=>whnf);repeat' (first|(refine fkL hz (fun i=>?_);conv=>whnf)|(refine msL hn hz ?_;conv=>whnf)|(refine kA ?_;conv=>whnf)|(refine Br.mk (fun hc=>?_) fun hc=>?_<;>first|exact hc.elim|conv=>whnf)|(refine kB ?_))
   all_goals first
        |(exfalso;omega)
        |exact again.mk ⟨_,by omega,p z,_,_,rfl,hF',hF.mem z hz,(hF.step hz).trans hrz,rfl,rfl⟩
        | (trace_state; fail "fnd2")
 ·(conv=>whnf);repeat' (first|(refine fkL hy (fun i=>?_);conv=>whnf)|(refine kA ?_;conv=>whnf)|(refine Br.mk (fun hc=>?_) fun hc=>?_<;>first|exact hc.elim|conv=>whnf)|(refine kB ?_))
  all_goals first
   |(exfalso;omega)
   |exact again.mk ⟨_,by omega,p y,_,rfl,hF.mem y hy,(hF.step hy).trans hry,rfl,rfl⟩
   | (trace_state; fail "fnd1")
set_option maxHeartbeats 1000000 in
theorem uniP {S:List Int} {p r:Int→Int} (hF:Forest S p r) (hn:S.Nodup) (hpos:∀y∈S,1≤y) {a b:Int} (ha:a∈S) (hb:b∈S) {ob0 ob3:Obj} {gm gr c:Nat}:
 Calls1 (findFn tab) 40 [.ref 2 gr 0 0,.int .i64 a,.int .i64 b] ⟨foS ob0 gm gr S p [ob3],c⟩ fun out s'=>∃c' p',Forest S p' (fun c=>(mergeB (r a) (r b) (c,r c)).2)∧out=.ok (.tup [])∧s'=⟨foS ob0 gm gr S p' [ob3],c'⟩:=by
 unfold foS
 refine calls1_of rfl rfl ?_
 (conv=>whnf);repeat' (first  |(refine kA ?_;conv=>whnf)|(refine Br.mk (fun hc=>?_) fun hc=>?_<;>first|exact hc.elim|conv=>whnf)|(refine kB ?_))
 refine(fndP hF hn hpos ha).mono ?_
 rintro _ _ ⟨c1,p1,hF1,rfl,rfl⟩
 unfold foS
 (conv=>whnf);repeat' (first  |(refine kA ?_;conv=>whnf)|(refine Br.mk (fun hc=>?_) fun hc=>?_<;>first|exact hc.elim|conv=>whnf)|(refine kB ?_))
 refine(fndP hF1 hn hpos hb).mono ?_
 rintro _ _ ⟨c2,p2,hF2,rfl,rfl⟩
 unfold foS
 have hU:=hF2.union ha hb
 have hM:(if r b>r a then r b else r a)∈S:=by split<;>first|exact hF2.rmem ha|exact hF2.rmem hb
 (conv=>whnf);repeat' (first|(refine msL hn hM ?_;conv=>whnf)|(refine kA ?_;conv=>whnf)|(refine Br.mk (fun hc=>?_) fun hc=>?_<;>first|exact hc.elim|conv=>whnf)|(refine kB ?_))
 all_goals first
  |exact⟨_,_,hU,rfl,rfl⟩
  | (trace_state; fail "uniP")
theorem idxS {l:List (List UInt8)} {x:List UInt8} {nn:Bool} (hl:l.length<2^63):PureP (findFn tab) 63 [.sl nn (vs .str l),.str x] (fun v=>∃z,v=.int .i64 z∧(0≤z↔x∈l)):=by
 refine pureP_of rfl rfl ?_
 (conv=>whnf);repeat' (first|(refine kA ?_;conv=>whnf)|(refine Br.mk (fun hc=>?_) fun hc=>?_<;>first|exact hc.elim|conv=>whnf)  |(refine kB ?_))
 refine loop_inv (fun m env s=>∃i:Nat,m=l.length-i∧env=[(0,.sl nn (vs .str l)),(1,.str x),(7,.int .i64 l.length),(8,.int .i64 i)]∧s=⟨[],0⟩∧x∉l.take i) ?_ _ _ _ ⟨0,rfl,by simp,rfl,by simp⟩
 rintro _ _ _ ⟨i,rfl,rfl,rfl,hx⟩
 refine⟨rfl,?_⟩
 (conv=>whnf);repeat' (first|(refine kA ?_;conv=>whnf)|(refine Br.mk (fun hc=>?_) fun hc=>?_<;>first|exact hc.elim|conv=>whnf)  |(refine kB ?_))
 ·subst hc;exact⟨_,rfl,by simp⟩
 ·exact again.mk ⟨_,by omega,i+1,rfl,rfl,rfl,nms (by omega) hx (fun h=>hc h.symm)⟩
 ·rw[take_all hc]at hx;exact⟨_,rfl,by simp[hx]⟩
theorem contS {l:List (List UInt8)} {x:List UInt8} {nn:Bool} (hl:l.length<2^63):PureP (findFn tab) 44 [.sl nn (vs .str l),.str x] (· =.bool (decide (x∈l))):=by
 refine pureP_of rfl rfl ?_
 (conv=>whnf);repeat' (first|(refine kA ?_;conv=>whnf)|(refine Br.mk (fun hc=>?_) fun hc=>?_<;>first|exact hc.elim|conv=>whnf)  |(refine kB ?_))
 refine callK_of (idxS hl) ?_
 rintro _ ⟨z,rfl,hz⟩
 (conv=>whnf);repeat' (first|(refine kA ?_;conv=>whnf)|(refine Br.mk (fun hc=>?_) fun hc=>?_<;>first|exact hc.elim|conv=>whnf)  |(refine kB ?_))
 ·exact bool_t (hz.1 hc)
 ·exact bool_f (mt hz.2 hc)
theorem hasS {l:List (List UInt8)} {x:List UInt8} {nn:Bool} (hl:l.length<2^63):PureP (findFn tab) 64 [.sl nn (vs .str l),.str x] (· =.bool (decide (x∈l))):=by
 refine pureP_of rfl rfl ?_
 (conv=>whnf);repeat' (first|(refine kA ?_;conv=>whnf)|(refine Br.mk (fun hc=>?_) fun hc=>?_<;>first|exact hc.elim|conv=>whnf)  |(refine kB ?_))
 refine loop_inv (fun m env s=>∃i:Nat,m=l.length-i∧env=[(0,.sl nn (vs .str l)),(1,.str x),(5,.int .i64 i)]∧s=⟨[],0⟩∧x∉l.take i) ?_ _ _ _ ⟨0,rfl,rfl,rfl,by simp⟩
 rintro _ _ _ ⟨i,rfl,rfl,rfl,hx⟩
 refine⟨rfl,?_⟩
 (conv=>whnf);repeat' (first|(refine kA ?_;conv=>whnf)|(refine Br.mk (fun hc=>?_) fun hc=>?_<;>first|exact hc.elim|conv=>whnf)  |(refine kB ?_))
 ·subst hc;exact bool_t (by simp)
 ·exact again.mk ⟨_,by omega,i+1,rfl,rfl,rfl,nms (by omega) hx hc⟩
 ·rw[take_all hc]at hx;exact bool_f hx
def HT (l:List (List UInt8)) (e:GE):Prop:=l.length=0∨e.ty∈l
instance (l:List (List UInt8)) (e:GE):Decidable (HT l e):=by unfold HT;infer_instance
theorem hasType1 {l:List (List UInt8)} {e:GE} {nn:Bool} (hl:l.length<2^63):PureP (findFn tab) 27 [e.av,.sl nn (vs .str l)] (· =.bool (decide (HT l e))):=by
 refine pureP_of rfl rfl ?_
 (conv=>whnf);repeat' (first|(refine kA ?_;conv=>whnf)|(refine Br.mk (fun hc=>?_) fun hc=>?_<;>first|exact hc.elim|conv=>whnf)|(refine callB (contS hl) (fun hc=>?_) (fun hc=>?_)<;>conv=>whnf)|(refine kB ?_))
 all_goals first|exact bool_t (by unfold HT;first|(left;omega)|(right;assumption))|exact bool_f (by unfold HT;rintro(h|h);omega;contradiction)
theorem hasType2 {l:List (List UInt8)} {e:GE} {nn:Bool} (hl:l.length<2^63):PureP (findFn tab) 45 [e.av,.sl nn (vs .str l)] (· =.bool (decide (HT l e))):=by
 refine pureP_of rfl rfl ?_
 (conv=>whnf);repeat' (first|(refine kA ?_;conv=>whnf)|(refine Br.mk (fun hc=>?_) fun hc=>?_<;>first|exact hc.elim|conv=>whnf)|(refine callB (hasS hl) (fun hc=>?_) (fun hc=>?_)<;>conv=>whnf)|(refine kB ?_))
 all_goals first|exact bool_t (by unfold HT;first|(left;omega)|(right;assumption))|exact bool_f (by unfold HT;rintro(h|h);omega;contradiction)
theorem like_at {l:List AV} (h:∀x∈l,Like Tryz.prog 34 x) (i:Nat):
 ∃g:GV,∀hi:i<l.length,nth l (Int.toNat (Nat.cast i))=some g.av∧l[i]=g.av∧g.ok:=by
 by_cases hi:i<l.length
 ·obtain⟨g,e,hg⟩:=like_value (h _ (List.getElem_mem hi))
  exact⟨g,fun _=>⟨by rw[← e];exact nR hi,e,hg⟩⟩
 ·exact⟨⟨0,0,0,[],true,[]⟩,fun h=>absurd h hi⟩
theorem reach_le {n:Nat} (h:n≤reachBytes):n≤2 ^ 47:=by unfold reachBytes at h;omega
theorem b_value:Tryz.prog.bytesOf 34=64:=by kernel_rfl
theorem b_prop:Tryz.prog.bytesOf 112=80:=by kernel_rfl
theorem b_string:Tryz.prog.bytesOf 9=16:=by kernel_rfl
def Fv:Nat→GV→Prop
 |0,_=>False
 |d+1,v=>v.l.length*64≤2 ^ 47∧∀x∈v.l,∃u:GV,x=u.av∧u.ok∧Fv d u
theorem Fv_up:∀{d e:Nat} {v:GV},d≤e→Fv d v→Fv e v
 |0,_,_,_,h=>absurd h id
 |d+1,0,_,h,_=>by omega
 |d+1,e+1,v,h,hd=>⟨hd.1,fun x hx=>by
  obtain⟨u,e1,h1,h2⟩:=hd.2 x hx
  exact⟨u,e1,h1,Fv_up (by omega) h2⟩⟩
theorem likeC_valueF:∀(d:Nat) {cs:List AV},likeC Tryz.prog d 34 cs→∃v:GV,cs=[.int .i64 v.k,.int .i64 v.n,.int .i64 v.d,.str v.s,.sl v.nn v.l]∧v.ok∧Fv d v:=by
 intro d
 induction d using Nat.strongRecOn with
 |ind d ih=>
  intro cs h
  obtain⟨v,rfl,hv⟩:=likeC_value h
  refine⟨v,rfl,hv,?_⟩
  obtain⟨d',rfl,g1,g2⟩:=likeC_struct Tryz.underlying34 h
  simp only[List.forall_mem_cons]at g2
  obtain⟨_,_,_,_,f5,_⟩:=g2
  simp only[c_values,List.drop_zero,List.drop_succ_cons,List.take_succ_cons,List.take_zero]at f5
  have hs:=reach_le (likeC_sliceW Tryz.underlying32 f5)
  rw[b_value]at hs
  obtain⟨d'',rfl,nl,xs,e5,h5,h6,h7⟩:=likeC_slice Tryz.underlying32 f5
  cases e5
  refine⟨hs,fun x hx=>?_⟩
  obtain⟨cs',rfl,k⟩:=like_struct Tryz.underlying34 (h7 x hx)
  obtain⟨u,rfl,k1,k2⟩:=ih d'' (by omega) k
  exact⟨u,rfl,k1,Fv_up (by omega) k2⟩
def FitP (p:GP):Prop:=∃d,Fv d p.v
def FitN (n:GN):Prop:=n.labels.length*16≤2 ^ 47∧n.props.length*80≤2 ^ 47∧∀p∈n.props,FitP p
def FitG (g:GG):Prop:=∀n∈g.nodes,FitN n
theorem like_propF {d:Nat} {a:AV} (h:like Tryz.prog d 112 a):∃v:GP,a=v.av∧v.ok∧FitP v:=by
 obtain⟨cs,rfl,h0⟩:=like_struct Tryz.underlying112 h
 obtain⟨d',rfl,g1,g2⟩:=likeC_struct Tryz.underlying112 h0
 rw[c_prop]at g1
 obtain⟨a,b,c,e,f,g,rfl⟩:=len6 g1
 clear g1
 simp only[List.forall_mem_cons]at g2
 obtain⟨f1,f2,_⟩:=g2
 simp only[c_string,c_value,List.drop_zero,List.drop_succ_cons,List.take_succ_cons,List.take_zero]at f1 f2
 obtain⟨s,e1,h1⟩:=likeC_s f1
 obtain⟨v,e2,h2,h3⟩:=likeC_valueF _ f2
 cases e1;cases e2
 exact⟨⟨s,v⟩,rfl,⟨h1,h2⟩,_,h3⟩
theorem like_nodeF {d:Nat} {a:AV} (h:like Tryz.prog d 55 a):∃v:GN,a=v.av∧v.ok∧FitN v:=by
 obtain⟨cs,rfl,h0⟩:=like_struct Tryz.underlying55 h
 obtain⟨d',rfl,g1,g2⟩:=likeC_struct Tryz.underlying55 h0
 rw[c_node]at g1
 obtain⟨a,b,c,rfl⟩:=len3 g1
 clear g1
 simp only[List.forall_mem_cons]at g2
 obtain⟨f1,f2,f3,_⟩:=g2
 simp only[c_int,c_strings,c_props,List.drop_zero,List.drop_succ_cons,List.take_succ_cons,List.take_zero]at f1 f2 f3
 obtain⟨s,e1,h1⟩:=likeC_i f1
 obtain⟨ln,L,e2,h2,h2a,h2b⟩:=likeC_map (f:=.str) (Q:=Ln) Tryz.underlying31 (fun d x h=>like_str h) f2
 obtain⟨pn,P,e3,h3,h3a,h3b⟩:=likeC_map (f:=GP.av) (Q:=fun p=>p.ok∧FitP p) Tryz.underlying53 (fun d x h=>like_propF h) f3
 cases e1;cases e2;cases e3
 have w2:=reach_le (likeC_sliceW Tryz.underlying31 f2)
 have w3:=reach_le (likeC_sliceW Tryz.underlying53 f3)
 rw[b_string,lV]at w2
 rw[b_prop,lV]at w3
 exact⟨⟨s,ln,L,pn,P⟩,rfl,⟨h1,h2a,h2,h2b,h3a,h3,fun p hp=>(h3b p hp).1⟩,w2,w3,fun p hp=>(h3b p hp).2⟩
theorem like_graphF {a:AV} (h:Like Tryz.prog 30 a):∃v:GG,a=v.av∧v.ok∧FitG v:=by
 obtain⟨d,h⟩:=h
 obtain⟨cs,rfl,h0⟩:=like_struct Tryz.underlying30 h
 obtain⟨d',rfl,g1,g2⟩:=likeC_struct Tryz.underlying30 h0
 rw[c_graph]at g1
 obtain⟨a,b,c,e,rfl⟩:=len4 g1
 clear g1
 simp only[List.forall_mem_cons]at g2
 obtain⟨f1,f2,f3,f4,_⟩:=g2
 simp only[c_int,c_nodes,c_edges,List.drop_zero,List.drop_succ_cons,List.take_succ_cons,List.take_zero]at f1 f2 f3 f4
 obtain⟨nn,N,e1,h1,h1a,h1b⟩:=likeC_map (f:=GN.av) (Q:=fun n=>n.ok∧FitN n) Tryz.underlying27 (fun d x h=>like_nodeF h) f1
 obtain⟨en,E,e2,h2,h2a,h2b⟩:=likeC_map (f:=GE.av) (Q:=GE.ok) Tryz.underlying28 (fun d x h=>like_edge h) f2
 obtain⟨m,e3,h3⟩:=likeC_i f3
 obtain⟨k,e4,h4⟩:=likeC_i f4
 cases e1;cases e2;cases e3;cases e4
 exact⟨⟨nn,N,en,E,m,k⟩,rfl,⟨h1a,h1,fun n hn=>(h1b n hn).1,h2a,h2,h2b,h3,h4⟩,fun n hn=>(h1b n hn).2⟩
theorem appendK_neW {g es:Nat} {ys:List AV} {bytes:Nat} {K:Nat→Bool→Bool→List AV→Prop} (hs:AllSize es ys) (hr:ys.length*bytes≤2 ^ 47) (h:K ys.length true true ys):
 appendK g g es es 0 true true true [] ys bytes K:=by
 refine⟨⟨rfl,rfl,by simp,hs,?_⟩,?_⟩
 ·rw[Nat.zero_add];exact hr
 ·rw[Nat.zero_add];exact h
theorem set_sameW {l:List AV} {z:Nat} {x:AV} (h:nth l z=some x):l.set z x=l:=by
 rw[nth_eq]at h
 obtain⟨hz,rfl⟩:=List.getElem?_eq_some_iff.1 h
 exact List.set_getElem_self hz
theorem subAllW (l:List AV):sub l 0 l.length=l:=by unfold sub;exact List.take_of_length_le (by simp)
theorem fv_size {d:Nat} {l:List AV} (h:∀x∈l,∃u:GV,x=u.av∧u.ok∧Fv d u):AllSize 5 l:=by
 intro x hx
 obtain⟨u,rfl,_⟩:=h x hx
 rfl
theorem cloneSW {l:List (List UInt8)} {nn:Bool} (hl:l.length*16≤2 ^ 47) (hn:nn=false→l=[]):PureP (findFn tab) 87 [.sl nn (vs .str l)] (· =.sl nn (vs .str l)):=by
 cases nn with
 |false=>
  obtain rfl:=hn rfl
  refine pureP_of rfl rfl ?_
  (conv=>whnf);repeat' (first  |(refine kA ?_;conv=>whnf)|(refine Br.mk (fun hc=>?_) fun hc=>?_<;>first|exact hc.elim|conv=>whnf)|(refine kB ?_))
  rfl
 |true=>
  refine pureP_of rfl rfl ?_
  (conv=>whnf);repeat' (first  |(refine kA ?_;conv=>whnf)|(refine Br.mk (fun hc=>?_) fun hc=>?_<;>first|exact hc.elim|conv=>whnf)|(refine kB ?_))
  refine appendK_neW (allSize_vs (f:=.str) (fun _=>rfl) l) (by rw[lV];omega) ?_
  (conv=>whnf);repeat' (first  |(refine kA ?_;conv=>whnf)|(refine Br.mk (fun hc=>?_) fun hc=>?_<;>first|exact hc.elim|conv=>whnf)|(refine kB ?_))
  rw[lV,uV]
theorem clonePnW:Calls1 (findFn tab) 88 [.sl false []] ⟨[],0⟩ fun out _=>out=.ok (.sl false []):=by
 refine calls1_of rfl rfl ?_
 (conv=>whnf);repeat' (first  |(refine kA ?_;conv=>whnf)|(refine Br.mk (fun hc=>?_) fun hc=>?_<;>first|exact hc.elim|conv=>whnf)|(refine kB ?_))
 rfl
theorem clonePW {l:List GP} (hl:l.length*80≤2 ^ 47):Calls1 (findFn tab) 88 [.sl true (vs GP.av l)] ⟨[],0⟩ fun out s'=>∃o g,out=.ok (.own o g 0 (vs GP.av l).length)∧nth s'.σ o=some (.arr g 6 true true (vs GP.av l)):=by
 refine calls1_of rfl rfl ?_
 (conv=>whnf);repeat' (first  |(refine kA ?_;conv=>whnf)|(refine Br.mk (fun hc=>?_) fun hc=>?_<;>first|exact hc.elim|conv=>whnf)|(refine kB ?_))
 refine appendK_neW (allSize_vs (f:=GP.av) (fun _=>rfl) l) (by rw[lV];omega) ?_
 (conv=>whnf);repeat' (first  |(refine kA ?_;conv=>whnf)|(refine Br.mk (fun hc=>?_) fun hc=>?_<;>first|exact hc.elim|conv=>whnf)|(refine kB ?_))
 exact⟨_,_,rfl,rfl⟩
end AI
end Go.Proofs.YtgmgkkbpgndaaaaGreatDoor
