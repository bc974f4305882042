/- The arguments of the graph laws, taken apart: values, properties, nodes, edges, graphs. -/
import Derived.Test.YtgmgkkbpgndaaaaGreatDoorEnK
import Derived.Test.YtgmgkkbpgndaaaaGreatDoorVd
import Derived.Test.YtgmgkkbpgndaaaaGreatDoorGrCode
set_option linter.unusedVariables false
set_option maxRecDepth 4000
namespace Go.Proofs.YtgmgkkbpgndaaaaGreatDoor
namespace AI
structure GV where
 k:Int
 n:Int
 d:Int
 s:List UInt8
 nn:Bool
 l:List AV
def GV.av (v:GV):AV:=.agg [.int .i64 v.k,.int .i64 v.n,.int .i64 v.d,.str v.s,.sl v.nn v.l]
structure GP where
 key:List UInt8
 v:GV
def GP.av (p:GP):AV:=.agg [.str p.key,.int .i64 p.v.k,.int .i64 p.v.n,.int .i64 p.v.d,.str p.v.s,.sl p.v.nn p.v.l]
structure GN where
 id:Int
 ln:Bool
 labels:List (List UInt8)
 pn:Bool
 props:List GP
def GN.av (n:GN):AV:=.agg [.int .i64 n.id,.sl n.ln (vs .str n.labels),.sl n.pn (vs GP.av n.props)]
structure GE where
 id:Int
 fr:Int
 to:Int
 ty:List UInt8
 pn:Bool
 props:List GP
def GE.av (n:GE):AV:=.agg [.int .i64 n.id,.int .i64 n.fr,.int .i64 n.to,.str n.ty,.sl n.pn (vs GP.av n.props)]
structure GG where
 nn:Bool
 nodes:List GN
 en:Bool
 edges:List GE
 nextN:Int
 nextE:Int
def GG.av (g:GG):AV:=.agg [.sl g.nn (vs GN.av g.nodes),.sl g.en (vs GE.av g.edges),.int .i64 g.nextN,.int .i64 g.nextE]
def I64 (z:Int):Prop:=-2^63≤z∧z<2^63
def Ln {α:Type} (l:List α):Prop:=l.length<2^63
def GV.ok (v:GV):Prop:=I64 v.k∧I64 v.n∧I64 v.d∧Ln v.s∧Ln v.l∧(v.nn=false→v.l=[])∧∀x∈v.l,Like Tryz.prog 34 x
def GP.ok (p:GP):Prop:=Ln p.key∧p.v.ok
def GN.ok (n:GN):Prop:=I64 n.id∧Ln n.labels∧(n.ln=false→n.labels=[])∧(∀ s∈n.labels,Ln s)∧Ln n.props∧(n.pn=false→n.props=[])∧∀p∈n.props,p.ok
def GE.ok (e:GE):Prop:=I64 e.id∧I64 e.fr∧I64 e.to∧Ln e.ty∧Ln e.props∧(e.pn=false→e.props=[])∧∀p∈e.props,p.ok
def GG.ok (g:GG):Prop:=Ln g.nodes∧(g.nn=false→g.nodes=[])∧(∀ n∈g.nodes,n.ok)∧Ln g.edges∧(g.en=false→g.edges=[])∧(∀ e∈g.edges,e.ok)∧I64 g.nextN∧I64 g.nextE
theorem c_int:Tryz.prog.cellsOf 3=1:=by kernel_rfl
theorem c_string:Tryz.prog.cellsOf 9=1:=by kernel_rfl
theorem c_strings:Tryz.prog.cellsOf 31=1:=by kernel_rfl
theorem c_values:Tryz.prog.cellsOf 32=1:=by kernel_rfl
theorem c_value:Tryz.prog.cellsOf 34=5:=by kernel_rfl
theorem c_prop:Tryz.prog.cellsOf 112=6:=by kernel_rfl
theorem c_props:Tryz.prog.cellsOf 53=1:=by kernel_rfl
theorem c_node:Tryz.prog.cellsOf 55=3:=by kernel_rfl
theorem c_nodes:Tryz.prog.cellsOf 27=1:=by kernel_rfl
theorem c_edge:Tryz.prog.cellsOf 57=5:=by kernel_rfl
theorem c_edges:Tryz.prog.cellsOf 28=1:=by kernel_rfl
theorem c_graph:Tryz.prog.cellsOf 30=4:=by kernel_rfl
theorem len3 {l:List AV} (h:l.length=3):∃a b c,l=[a,b,c]:=by
 rcases l with _|⟨a,_|⟨b,_|⟨c,_|⟨d,r⟩⟩⟩⟩<;>simp at h
 exact⟨a,b,c,rfl⟩
theorem len4 {l:List AV} (h:l.length=4):∃a b c d,l=[a,b,c,d]:=by
 rcases l with _|⟨a,_|⟨b,_|⟨c,_|⟨d,_|⟨e,r⟩⟩⟩⟩⟩<;>simp at h
 exact⟨a,b,c,d,rfl⟩
theorem len5 {l:List AV} (h:l.length=5):∃a b c d e,l=[a,b,c,d,e]:=by
 rcases l with _|⟨a,_|⟨b,_|⟨c,_|⟨d,_|⟨e,_|⟨f,r⟩⟩⟩⟩⟩⟩<;>simp at h
 exact⟨a,b,c,d,e,rfl⟩
theorem len6 {l:List AV} (h:l.length=6):∃a b c d e f,l=[a,b,c,d,e,f]:=by
 rcases l with _|⟨a,_|⟨b,_|⟨c,_|⟨d,_|⟨e,_|⟨f,_|⟨g,r⟩⟩⟩⟩⟩⟩⟩<;>simp at h
 exact⟨a,b,c,d,e,f,rfl⟩
theorem i64_of {n:Int} (h:(Lit.int .i64 n).wf=true):I64 n:=by
 simp[Lit.wf]at h
 have h1:IntKind.i64.min=-2^63:=by rfl
 have h2:IntKind.i64.max=2^63-1:=by rfl
 unfold I64
 omega
theorem ln_of {α:Type} {l:List α} (h:l.length≤maxLen):Ln l:=by unfold Ln;have:=maxLen_lt;omega
theorem likeC_i {d:Nat} {cs:List AV} (h:likeC Tryz.prog d 3 cs):∃n,cs=[.int .i64 n]∧I64 n:=by
 obtain⟨k,e1,h1⟩:=likeC_int Tryz.underlying3 h
 exact⟨k,e1,i64_of h1⟩
theorem likeC_s {d:Nat} {cs:List AV} (h:likeC Tryz.prog d 9 cs):∃n,cs=[.str n]∧Ln n:=by
 obtain⟨k,e1,h1⟩:=likeC_string Tryz.underlying9 h
 exact⟨k,e1,ln_of h1⟩
theorem likeC_value {d:Nat} {cs:List AV} (h:likeC Tryz.prog d 34 cs):∃v:GV,cs=[.int .i64 v.k,.int .i64 v.n,.int .i64 v.d,.str v.s,.sl v.nn v.l]∧v.ok:=by
 obtain⟨d',rfl,g1,g2⟩:=likeC_struct Tryz.underlying34 h
 rw[c_value]at g1
 obtain⟨a,b,c,e,f,rfl⟩:=len5 g1
 clear g1
 simp only[List.forall_mem_cons]at g2
 obtain⟨f1,f2,f3,f4,f5,_⟩:=g2
 simp only[c_int,c_string,c_values,List.drop_zero,List.drop_succ_cons,List.take_succ_cons,List.take_zero]at f1 f2 f3 f4 f5
 obtain⟨k,e1,h1⟩:=likeC_i f1
 obtain⟨n,e2,h2⟩:=likeC_i f2
 obtain⟨m,e3,h3⟩:=likeC_i f3
 obtain⟨s,e4,h4⟩:=likeC_s f4
 obtain⟨d'',_,nl,xs,e5,h5,h6,h7⟩:=likeC_slice Tryz.underlying32 f5
 cases e1;cases e2;cases e3;cases e4;cases e5
 exact⟨⟨k,n,m,s,nl,xs⟩,rfl,h1,h2,h3,h4,ln_of h6,h5,fun x hx=>⟨_,h7 x hx⟩⟩
theorem like_value {a:AV} (h:Like Tryz.prog 34 a):∃v:GV,a=v.av∧v.ok:=by
 obtain⟨d,h⟩:=h
 obtain⟨cs,rfl,h0⟩:=like_struct Tryz.underlying34 h
 obtain⟨v,rfl,h1⟩:=likeC_value h0
 exact⟨v,rfl,h1⟩
theorem like_prop {d:Nat} {a:AV} (h:like Tryz.prog d 112 a):∃v:GP,a=v.av∧v.ok:=by
 obtain⟨cs,rfl,h0⟩:=like_struct Tryz.underlying112 h
 obtain⟨d',rfl,g1,g2⟩:=likeC_struct Tryz.underlying112 h0
 rw[c_prop]at g1
 obtain⟨a,b,c,e,f,g,rfl⟩:=len6 g1
 clear g1
 simp only[List.forall_mem_cons]at g2
 obtain⟨f1,f2,_⟩:=g2
 simp only[c_string,c_value,List.drop_zero,List.drop_succ_cons,List.take_succ_cons,List.take_zero]at f1 f2
 obtain⟨s,e1,h1⟩:=likeC_s f1
 obtain⟨v,e2,h2⟩:=likeC_value f2
 cases e1;cases e2
 exact⟨⟨s,v⟩,rfl,h1,h2⟩
theorem likeC_map {α:Type} {f:α→AV} {Q:α→Prop} {d:Nat} {t e:TypeId} {cs:List AV} (hu:Tryz.prog.underlying t=some (.slice e)) (he:∀d x,like Tryz.prog d e x→∃y,x=f y∧Q y) (h:likeC Tryz.prog d t cs):
 ∃nn l,cs=[.sl nn (vs f l)]∧(nn=false→l=[])∧Ln l∧∀y∈l,Q y:=by
 obtain⟨d',rfl,nn,xs,rfl,h0,h1,h2⟩:=likeC_slice hu h
 obtain⟨l,rfl,h3⟩:=exists_map (f:=f) (Q:=Q) fun x hx=>he d' x (h2 x hx)
 exact⟨nn,l,rfl,fun h=>by have:=h0 h;simpa using this,ln_of (by simpa using h1),h3⟩
theorem like_str {d:Nat} {a:AV} (h:like Tryz.prog d 9 a):∃s:List UInt8,a=.str s∧Ln s:=by
 obtain⟨k,e1,h1⟩:=like_string Tryz.underlying9 h
 exact⟨k,e1,ln_of h1⟩
theorem like_node {d:Nat} {a:AV} (h:like Tryz.prog d 55 a):∃v:GN,a=v.av∧v.ok:=by
 obtain⟨cs,rfl,h0⟩:=like_struct Tryz.underlying55 h
 obtain⟨d',rfl,g1,g2⟩:=likeC_struct Tryz.underlying55 h0
 rw[c_node]at g1
 obtain⟨a,b,c,rfl⟩:=len3 g1
 clear g1
 simp only[List.forall_mem_cons]at g2
 obtain⟨f1,f2,f3,_⟩:=g2
 simp only[c_int,c_strings,c_props,List.drop_zero,List.drop_succ_cons,List.take_succ_cons,List.take_zero]at f1 f2 f3
 obtain⟨s,e1,h1⟩:=likeC_i f1
 obtain⟨ln,L,e2,h2,h2a,h2b⟩:=likeC_map (f:=.str) (Q:=Ln) Tryz.underlying31 (fun d x h=>like_str h) f2
 obtain⟨pn,P,e3,h3,h3a,h3b⟩:=likeC_map (f:=GP.av) (Q:=GP.ok) Tryz.underlying53 (fun d x h=>like_prop h) f3
 cases e1;cases e2;cases e3
 exact⟨⟨s,ln,L,pn,P⟩,rfl,h1,h2a,h2,h2b,h3a,h3,h3b⟩
theorem like_edge {d:Nat} {a:AV} (h:like Tryz.prog d 57 a):∃v:GE,a=v.av∧v.ok:=by
 obtain⟨cs,rfl,h0⟩:=like_struct Tryz.underlying57 h
 obtain⟨d',rfl,g1,g2⟩:=likeC_struct Tryz.underlying57 h0
 rw[c_edge]at g1
 obtain⟨a,b,c,e,f,rfl⟩:=len5 g1
 clear g1
 simp only[List.forall_mem_cons]at g2
 obtain⟨f1,f2,f3,f4,f5,_⟩:=g2
 simp only[c_int,c_string,c_props,List.drop_zero,List.drop_succ_cons,List.take_succ_cons,List.take_zero]at f1 f2 f3 f4 f5
 obtain⟨k,e1,h1⟩:=likeC_i f1
 obtain⟨n,e2,h2⟩:=likeC_i f2
 obtain⟨m,e3,h3⟩:=likeC_i f3
 obtain⟨s,e4,h4⟩:=likeC_s f4
 obtain⟨pn,P,e5,h5,h5a,h5b⟩:=likeC_map (f:=GP.av) (Q:=GP.ok) Tryz.underlying53 (fun d x h=>like_prop h) f5
 cases e1;cases e2;cases e3;cases e4;cases e5
 exact⟨⟨k,n,m,s,pn,P⟩,rfl,h1,h2,h3,h4,h5a,h5,h5b⟩
theorem like_graph {a:AV} (h:Like Tryz.prog 30 a):∃v:GG,a=v.av∧v.ok:=by
 obtain⟨d,h⟩:=h
 obtain⟨cs,rfl,h0⟩:=like_struct Tryz.underlying30 h
 obtain⟨d',rfl,g1,g2⟩:=likeC_struct Tryz.underlying30 h0
 rw[c_graph]at g1
 obtain⟨a,b,c,e,rfl⟩:=len4 g1
 clear g1
 simp only[List.forall_mem_cons]at g2
 obtain⟨f1,f2,f3,f4,_⟩:=g2
 simp only[c_int,c_nodes,c_edges,List.drop_zero,List.drop_succ_cons,List.take_succ_cons,List.take_zero]at f1 f2 f3 f4
 obtain⟨nn,N,e1,h1,h1a,h1b⟩:=likeC_map (f:=GN.av) (Q:=GN.ok) Tryz.underlying27 (fun d x h=>like_node h) f1
 obtain⟨en,E,e2,h2,h2a,h2b⟩:=likeC_map (f:=GE.av) (Q:=GE.ok) Tryz.underlying28 (fun d x h=>like_edge h) f2
 obtain⟨m,e3,h3⟩:=likeC_i f3
 obtain⟨k,e4,h4⟩:=likeC_i f4
 cases e1;cases e2;cases e3;cases e4
 exact⟨⟨nn,N,en,E,m,k⟩,rfl,h1a,h1,h1b,h2a,h2,h2b,h3,h4⟩
end AI
end Go.Proofs.YtgmgkkbpgndaaaaGreatDoor
