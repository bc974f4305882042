/- The arguments of the graph laws, taken apart: values, properties, nodes, edges, graphs. Strings in a list. Strings in a list: the reference. The reference's HasLabel. HasLabel. Counts of labels and types; the inner loops of degree.Of. Sequences in descending order, products of two sequences: plain. Products of two lists are greatest when both are sorted: plain. Sorting in place: lists of a store against arrays of the library's plain sort. math/bits.Len and the next power of two. Comparing two numbers. -/
import Derived.Test.YthnehejdkajjhaaGreatDoorBMab
import Derived.Test.YthnehejdkajjhaaGreatDoorBMaa
import Derived.Test.YthnehejdkajjhaaGreatDoorUGrCode
import Derived.Test.YthnehejdkajjhaaGreatDoorUSu
import Derived.Sort.AssemblyPlain
set_option linter.unusedVariables false
set_option maxRecDepth 4000
namespace Go.Proofs.YthnehejdkajjhaaGreatDoor
namespace AI
structure GV where
 k:Int
 n:Int
 d:Int
 s:List UInt8
 nn:Bool
 l:List AV
def GV.av (v:GV):AV:=.agg [.int .i64 v.k,.int .i64 v.n,.int .i64 v.d,.str v.s,.sl v.nn v.l]
structure GP where
 key:List UInt8
 v:GV
def GP.av (p:GP):AV:=.agg [.str p.key,.int .i64 p.v.k,.int .i64 p.v.n,.int .i64 p.v.d,.str p.v.s,.sl p.v.nn p.v.l]
structure GN where
 id:Int
 ln:Bool
 labels:List (List UInt8)
 pn:Bool
 props:List GP
def GN.av (n:GN):AV:=.agg [.int .i64 n.id,.sl n.ln (vs .str n.labels),.sl n.pn (vs GP.av n.props)]
structure GE where
 id:Int
 fr:Int
 to:Int
 ty:List UInt8
 pn:Bool
 props:List GP
def GE.av (n:GE):AV:=.agg [.int .i64 n.id,.int .i64 n.fr,.int .i64 n.to,.str n.ty,.sl n.pn (vs GP.av n.props)]
structure GG where
 nn:Bool
 nodes:List GN
 en:Bool
 edges:List GE
 BF:Int
 BA:Int
def GG.av (g:GG):AV:=.agg [.sl g.nn (vs GN.av g.nodes),.sl g.en (vs GE.av g.edges),.int .i64 g.BF,.int .i64 g.BA]
def I64 (z:Int):Prop:=-2^63≤z∧z<2^63
def Ln {α:Type} (l:List α):Prop:=l.length<2^63
def GV.ok (v:GV):Prop:=I64 v.k∧I64 v.n∧I64 v.d∧Ln v.s∧Ln v.l∧(v.nn=false→v.l=[])∧∀x∈v.l,Like Tryz.prog 51 x
def GP.ok (p:GP):Prop:=Ln p.key∧p.v.ok
def GN.ok (n:GN):Prop:=I64 n.id∧Ln n.labels∧(n.ln=false→n.labels=[])∧(∀ s∈n.labels,Ln s)∧Ln n.props∧(n.pn=false→n.props=[])∧∀p∈n.props,p.ok
def GE.ok (e:GE):Prop:=I64 e.id∧I64 e.fr∧I64 e.to∧Ln e.ty∧Ln e.props∧(e.pn=false→e.props=[])∧∀p∈e.props,p.ok
def GG.ok (g:GG):Prop:=Ln g.nodes∧(g.nn=false→g.nodes=[])∧(∀ n∈g.nodes,n.ok)∧Ln g.edges∧(g.en=false→g.edges=[])∧(∀ e∈g.edges,e.ok)∧I64 g.BF∧I64 g.BA
theorem Abu:Tryz.prog.cellsOf 3=1:=by kernel_rfl
theorem RZ:Tryz.prog.cellsOf 9=1:=by kernel_rfl
theorem AfX:Tryz.prog.cellsOf 45=1:=by kernel_rfl
theorem Ajo:Tryz.prog.cellsOf 49=1:=by kernel_rfl
theorem ZO:Tryz.prog.cellsOf 51=5:=by kernel_rfl
theorem ApH:Tryz.prog.cellsOf 115=6:=by kernel_rfl
theorem AeP:Tryz.prog.cellsOf 46=1:=by kernel_rfl
theorem ApI:Tryz.prog.cellsOf 48=3:=by kernel_rfl
theorem AlY:Tryz.prog.cellsOf 22=1:=by kernel_rfl
theorem ApJ:Tryz.prog.cellsOf 89=5:=by kernel_rfl
theorem AlZ:Tryz.prog.cellsOf 23=1:=by kernel_rfl
theorem Al0:Tryz.prog.cellsOf 25=4:=by kernel_rfl
theorem AvK {l:List AV} (h:l.length=3):∃a b c,l=[a,b,c]:=by
 rcases l with _|⟨a,_|⟨b,_|⟨c,_|⟨d,r⟩⟩⟩⟩<;>simp at h
 exact⟨a,b,c,rfl⟩
theorem AvL {l:List AV} (h:l.length=4):∃a b c d,l=[a,b,c,d]:=by
 rcases l with _|⟨a,_|⟨b,_|⟨c,_|⟨d,_|⟨e,r⟩⟩⟩⟩⟩<;>simp at h
 exact⟨a,b,c,d,rfl⟩
theorem As9 {l:List AV} (h:l.length=5):∃a b c d e,l=[a,b,c,d,e]:=by
 rcases l with _|⟨a,_|⟨b,_|⟨c,_|⟨d,_|⟨e,_|⟨f,r⟩⟩⟩⟩⟩⟩<;>simp at h
 exact⟨a,b,c,d,e,rfl⟩
theorem Arv {l:List AV} (h:l.length=6):∃a b c d e f,l=[a,b,c,d,e,f]:=by
 rcases l with _|⟨a,_|⟨b,_|⟨c,_|⟨d,_|⟨e,_|⟨f,_|⟨g,r⟩⟩⟩⟩⟩⟩⟩<;>simp at h
 exact⟨a,b,c,d,e,f,rfl⟩
theorem ApK {n:Int} (h:(Lit.int .i64 n).wf=true):I64 n:=by
 simp[Lit.wf]at h
 have h1:IntKind.i64.min=-2^63:=by rfl
 have h2:IntKind.i64.max=2^63-1:=by rfl
 unfold I64
 omega
theorem Abv {α:Type} {l:List α} (h:l.length≤maxLen):Ln l:=by unfold Ln;have:=Afm;omega
theorem G5 {d:Nat} {cs:List AV} (h:Ea Tryz.prog d 3 cs):∃n,cs=[.int .i64 n]∧I64 n:=by
 obtain⟨k,e1,h1⟩:=Yu Tryz.underlying3 h
 exact⟨k,e1,ApK h1⟩
theorem Vq {d:Nat} {cs:List AV} (h:Ea Tryz.prog d 9 cs):∃n,cs=[.str n]∧Ln n:=by
 obtain⟨k,e1,h1⟩:=RH Tryz.underlying9 h
 exact⟨k,e1,Abv h1⟩
theorem OV {d:Nat} {cs:List AV} (h:Ea Tryz.prog d 51 cs):∃v:GV,cs=[.int .i64 v.k,.int .i64 v.n,.int .i64 v.d,.str v.s,.sl v.nn v.l]∧v.ok:=by
 obtain⟨d',rfl,g1,g2⟩:=GZ Tryz.underlying51 h
 rw[ZO]at g1
 obtain⟨a,b,c,e,f,rfl⟩:=As9 g1
 clear g1
 simp only[List.forall_mem_cons]at g2
 obtain⟨f1,f2,f3,f4,f5,_⟩:=g2
 simp only[Abu,RZ,Ajo,List.drop_zero,List.drop_succ_cons,List.take_succ_cons,List.take_zero]at f1 f2 f3 f4 f5
 obtain⟨k,e1,h1⟩:=G5 f1
 obtain⟨n,e2,h2⟩:=G5 f2
 obtain⟨m,e3,h3⟩:=G5 f3
 obtain⟨s,e4,h4⟩:=Vq f4
 obtain⟨d'',_,nl,xs,e5,h5,h6,h7⟩:=OM Tryz.underlying49 f5
 cases e1;cases e2;cases e3;cases e4;cases e5
 exact⟨⟨k,n,m,s,nl,xs⟩,rfl,h1,h2,h3,h4,Abv h6,h5,fun x hx=>⟨_,h7 x hx⟩⟩
theorem Ady {a:AV} (h:Like Tryz.prog 51 a):∃v:GV,a=v.av∧v.ok:=by
 obtain⟨d,h⟩:=h
 obtain⟨cs,rfl,h0⟩:=Ia Tryz.underlying51 h
 obtain⟨v,rfl,h1⟩:=OV h0
 exact⟨v,rfl,h1⟩
theorem Zd {d:Nat} {a:AV} (h:like Tryz.prog d 115 a):∃v:GP,a=v.av∧v.ok:=by
 obtain⟨cs,rfl,h0⟩:=Ia Tryz.underlying115 h
 obtain⟨d',rfl,g1,g2⟩:=GZ Tryz.underlying115 h0
 rw[ApH]at g1
 obtain⟨a,b,c,e,f,g,rfl⟩:=Arv g1
 clear g1
 simp only[List.forall_mem_cons]at g2
 obtain⟨f1,f2,_⟩:=g2
 simp only[RZ,ZO,List.drop_zero,List.drop_succ_cons,List.take_succ_cons,List.take_zero]at f1 f2
 obtain⟨s,e1,h1⟩:=Vq f1
 obtain⟨v,e2,h2⟩:=OV f2
 cases e1;cases e2
 exact⟨⟨s,v⟩,rfl,h1,h2⟩
theorem MP {α:Type} {f:α→AV} {Q:α→Prop} {d:Nat} {t e:TypeId} {cs:List AV} (hu:Tryz.prog.underlying t=some (.slice e)) (he:∀d x,like Tryz.prog d e x→∃y,x=f y∧Q y) (h:Ea Tryz.prog d t cs):
 ∃nn l,cs=[.sl nn (vs f l)]∧(nn=false→l=[])∧Ln l∧∀y∈l,Q y:=by
 obtain⟨d',rfl,nn,xs,rfl,h0,h1,h2⟩:=OM hu h
 obtain⟨l,rfl,h3⟩:=QD (f:=f) (Q:=Q) fun x hx=>he d' x (h2 x hx)
 exact⟨nn,l,rfl,fun h=>by have:=h0 h;simpa using this,Abv (by simpa using h1),h3⟩
theorem Ajp {d:Nat} {a:AV} (h:like Tryz.prog d 9 a):∃s:List UInt8,a=.str s∧Ln s:=by
 obtain⟨k,e1,h1⟩:=Abn Tryz.underlying9 h
 exact⟨k,e1,Abv h1⟩
theorem AfY {d:Nat} {a:AV} (h:like Tryz.prog d 48 a):∃v:GN,a=v.av∧v.ok:=by
 obtain⟨cs,rfl,h0⟩:=Ia Tryz.underlying48 h
 obtain⟨d',rfl,g1,g2⟩:=GZ Tryz.underlying48 h0
 rw[ApI]at g1
 obtain⟨a,b,c,rfl⟩:=AvK g1
 clear g1
 simp only[List.forall_mem_cons]at g2
 obtain⟨f1,f2,f3,_⟩:=g2
 simp only[Abu,AfX,AeP,List.drop_zero,List.drop_succ_cons,List.take_succ_cons,List.take_zero]at f1 f2 f3
 obtain⟨s,e1,h1⟩:=G5 f1
 obtain⟨ln,L,e2,h2,h2a,h2b⟩:=MP (f:=.str) (Q:=Ln) Tryz.underlying45 (fun d x h=>Ajp h) f2
 obtain⟨pn,P,e3,h3,h3a,h3b⟩:=MP (f:=GP.av) (Q:=GP.ok) Tryz.underlying46 (fun d x h=>Zd h) f3
 cases e1;cases e2;cases e3
 exact⟨⟨s,ln,L,pn,P⟩,rfl,h1,h2a,h2,h2b,h3a,h3,h3b⟩
theorem AfZ {d:Nat} {a:AV} (h:like Tryz.prog d 89 a):∃v:GE,a=v.av∧v.ok:=by
 obtain⟨cs,rfl,h0⟩:=Ia Tryz.underlying89 h
 obtain⟨d',rfl,g1,g2⟩:=GZ Tryz.underlying89 h0
 rw[ApJ]at g1
 obtain⟨a,b,c,e,f,rfl⟩:=As9 g1
 clear g1
 simp only[List.forall_mem_cons]at g2
 obtain⟨f1,f2,f3,f4,f5,_⟩:=g2
 simp only[Abu,RZ,AeP,List.drop_zero,List.drop_succ_cons,List.take_succ_cons,List.take_zero]at f1 f2 f3 f4 f5
 obtain⟨k,e1,h1⟩:=G5 f1
 obtain⟨n,e2,h2⟩:=G5 f2
 obtain⟨m,e3,h3⟩:=G5 f3
 obtain⟨s,e4,h4⟩:=Vq f4
 obtain⟨pn,P,e5,h5,h5a,h5b⟩:=MP (f:=GP.av) (Q:=GP.ok) Tryz.underlying46 (fun d x h=>Zd h) f5
 cases e1;cases e2;cases e3;cases e4;cases e5
 exact⟨⟨k,n,m,s,pn,P⟩,rfl,h1,h2,h3,h4,h5a,h5,h5b⟩
theorem NC {a:AV} (h:Like Tryz.prog 25 a):∃v:GG,a=v.av∧v.ok:=by
 obtain⟨d,h⟩:=h
 obtain⟨cs,rfl,h0⟩:=Ia Tryz.underlying25 h
 obtain⟨d',rfl,g1,g2⟩:=GZ Tryz.underlying25 h0
 rw[Al0]at g1
 obtain⟨a,b,c,e,rfl⟩:=AvL g1
 clear g1
 simp only[List.forall_mem_cons]at g2
 obtain⟨f1,f2,f3,f4,_⟩:=g2
 simp only[Abu,AlY,AlZ,List.drop_zero,List.drop_succ_cons,List.take_succ_cons,List.take_zero]at f1 f2 f3 f4
 obtain⟨nn,N,e1,h1,h1a,h1b⟩:=MP (f:=GN.av) (Q:=GN.ok) Tryz.underlying22 (fun d x h=>AfY h) f1
 obtain⟨en,E,e2,h2,h2a,h2b⟩:=MP (f:=GE.av) (Q:=GE.ok) Tryz.underlying23 (fun d x h=>AfZ h) f2
 obtain⟨m,e3,h3⟩:=G5 f3
 obtain⟨k,e4,h4⟩:=G5 f4
 cases e1;cases e2;cases e3;cases e4
 exact⟨⟨nn,N,en,E,m,k⟩,rfl,h1a,h1,h1b,h2a,h2,h2b,h3,h4⟩
theorem AvT {l:List (List UInt8)} {x:List UInt8} {nn:Bool} (hl:l.length<2^63):Ag (Ac tab) 181 [.sl nn (vs .str l),.str x] (fun v=>∃z,v=.int .i64 z∧(0≤z↔x∈l)):=by
 refine Ad rfl rfl ?_
 (conv=>whnf);repeat' (first|(refine kA ?_;conv=>whnf)|(refine Br.mk (fun hc=>?_) fun hc=>?_<;>first|exact hc.elim|conv=>whnf)  |(refine kB ?_))
 refine Af (fun m env s=>∃i:Nat,m=l.length-i∧env=[(0,.sl nn (vs .str l)),(1,.str x),(7,.int .i64 l.length),(8,.int .i64 i)]∧s=⟨[],0⟩∧x∉l.take i) ?_ _ _ _ ⟨0,rfl,by simp,rfl,by simp⟩
 rintro _ _ _ ⟨i,rfl,rfl,rfl,hx⟩
 refine⟨rfl,?_⟩
 (conv=>whnf);repeat' (first|(refine kA ?_;conv=>whnf)|(refine Br.mk (fun hc=>?_) fun hc=>?_<;>first|exact hc.elim|conv=>whnf)  |(refine kB ?_))
 ·subst hc;exact⟨_,rfl,by simp⟩
 ·exact again.mk ⟨_,by omega,i+1,rfl,rfl,rfl,nms (by omega) hx (fun h=>hc h.symm)⟩
 ·rw[CQ hc]at hx;exact⟨_,rfl,by simp[hx]⟩
theorem Ahl {l:List (List UInt8)} {x:List UInt8} {nn:Bool} (hl:l.length<2^63):Ag (Ac tab) 100 [.sl nn (vs .str l),.str x] (· =.bool (decide (x∈l))):=by
 refine Ad rfl rfl ?_
 (conv=>whnf);repeat' (first|(refine kA ?_;conv=>whnf)|(refine Br.mk (fun hc=>?_) fun hc=>?_<;>first|exact hc.elim|conv=>whnf)  |(refine kB ?_))
 refine Aa (AvT hl) ?_
 rintro _ ⟨z,rfl,hz⟩
 (conv=>whnf);repeat' (first|(refine kA ?_;conv=>whnf)|(refine Br.mk (fun hc=>?_) fun hc=>?_<;>first|exact hc.elim|conv=>whnf)  |(refine kB ?_))
 ·exact Bh (hz.1 hc)
 ·exact Ar (mt hz.2 hc)
theorem Avq {l:List (List UInt8)} {x:List UInt8} {nn:Bool} (hl:l.length<2^63):Ag (Ac tab) 188 [.sl nn (vs .str l),.str x] (· =.bool (decide (x∈l))):=by
 refine Ad rfl rfl ?_
 (conv=>whnf);repeat' (first|(refine kA ?_;conv=>whnf)|(refine Br.mk (fun hc=>?_) fun hc=>?_<;>first|exact hc.elim|conv=>whnf)  |(refine kB ?_))
 refine Af (fun m env s=>∃i:Nat,m=l.length-i∧env=[(0,.sl nn (vs .str l)),(1,.str x),(5,.int .i64 i)]∧s=⟨[],0⟩∧x∉l.take i) ?_ _ _ _ ⟨0,rfl,rfl,rfl,by simp⟩
 rintro _ _ _ ⟨i,rfl,rfl,rfl,hx⟩
 refine⟨rfl,?_⟩
 (conv=>whnf);repeat' (first|(refine kA ?_;conv=>whnf)|(refine Br.mk (fun hc=>?_) fun hc=>?_<;>first|exact hc.elim|conv=>whnf)  |(refine kB ?_))
 ·subst hc;exact Bh (by simp)
 ·exact again.mk ⟨_,by omega,i+1,rfl,rfl,rfl,nms (by omega) hx hc⟩
 ·rw[CQ hc]at hx;exact Ar hx
theorem Me {n:GN} {s:List UInt8} (hl:n.labels.length<2^63):Ag (Ac tab) 125 [n.av,.str s] (· =.bool (decide (s∈n.labels))):=by
 refine Ad rfl rfl ?_
 (conv=>whnf);repeat' (first|(refine kA ?_;conv=>whnf)|(refine Br.mk (fun hc=>?_) fun hc=>?_<;>first|exact hc.elim|conv=>whnf)|(refine Bo (Avq hl) (fun hc=>?_) (fun hc=>?_)<;>conv=>whnf)|(refine kB ?_))
 all_goals first|exact Bh (by assumption)|exact Ar (by assumption)
theorem Y0 {n:GN} {s:List UInt8} (hl:n.labels.length<2^63):Ag (Ac tab) 53 [n.av,.str s] (· =.bool (decide (s∈n.labels))):=by
 refine Ad rfl rfl ?_
 (conv=>whnf);repeat' (first|(refine kA ?_;conv=>whnf)|(refine Br.mk (fun hc=>?_) fun hc=>?_<;>first|exact hc.elim|conv=>whnf)|(refine Bo (Ahl hl) (fun hc=>?_) (fun hc=>?_)<;>conv=>whnf)|(refine kB ?_))
 all_goals first|exact Bh (by assumption)|exact Ar (by assumption)
structure CN where
 name:List UInt8
 n:Int
def CN.av (c:CN):AV:=.agg [.str c.name,.int .i64 c.n]
theorem Tq:∀c:CN,c.av.cells.length=2:=fun _=>rfl
def Ace (x:List UInt8) (n:GN):Int:=if x∈n.labels then 1 else 0
def Ij (N:List GN) (x:List UInt8):Int:=EU (N.map (Ace x))
theorem PZ {N:List GN} {x:List UInt8} {i:Nat} (h:i<N.length):Ij (N.take (i+1)) x=Ij (N.take i) x+Ace x N[i]:=PN h
theorem XD {N:List GN} {x:List UInt8}:0≤Ij N x∧Ij N x≤N.length:=by
 have:=KA (l:=N) (f:=Ace x) (c:=1) fun n _=>by unfold Ace;split<;>omega
 unfold Ij;omega
def tyI (x:List UInt8) (e:GE):Int:=if e.ty=x then 1 else 0
def Em (E:List GE) (x:List UInt8):Int:=EU (E.map (tyI x))
theorem Ig {E:List GE} {x:List UInt8} {i:Nat} (h:i<E.length):Em (E.take (i+1)) x=Em (E.take i) x+tyI x E[i]:=PN h
theorem I8 {E:List GE} {x:List UInt8}:0≤Em E x∧Em E x≤E.length:=by
 have:=KA (l:=E) (f:=tyI x) (c:=1) fun n _=>by unfold tyI;split<;>omega
 unfold Em;omega
def cnts (f:List UInt8→Int) (R:List (List UInt8)):List CN:=R.map fun x=>⟨x,f x⟩
theorem J3 {f:List UInt8→Int} {R:List (List UInt8)} {i:Nat} (h:i<R.length):cnts f (R.take (i+1))=cnts f (R.take i)++[⟨R[i],f R[i]⟩]:=by
 unfold cnts
 rw[List.take_succ_eq_append_getElem h,List.map_append];rfl
theorem Auh {g:GG} (hg:g.ok) (hN:g.nodes.length≤2000) {x:List UInt8} {g1 g2 c:Nat} {nn:Bool} {R:List (List UInt8)} {v31 v32:Int} {o1 o2:Obj} {Q:Aw→Env→Aq→Prop}
 (hQ:∀c' tl,Q (.exit 2) ([(1,.ref 0 0 0 0),(2,.ref 1 g1 0 0),(5,.ref 2 g2 0 0),(7,.str x),(8,.int .i64 (Ij g.nodes x)),(30,.sl nn (vs .str R)),(31,.int .i64 v31),(32,.int .i64 v32)]++tl) ⟨[.arr 0 4 true true [g.av],o1,o2],c'⟩):
 Run (Ac tab) (.loop l25_0_h l25_0_b) [(1,.ref 0 0 0 0),(2,.ref 1 g1 0 0),(5,.ref 2 g2 0 0),(7,.str x),(8,.int .i64 0),(30,.sl nn (vs .str R)),(31,.int .i64 v31),(32,.int .i64 v32),(37,.sl g.nn (vs GN.av g.nodes)),(38,.int .i64 g.nodes.length),(39,.int .i64 0)] ⟨[.arr 0 4 true true [g.av],o1,o2],c⟩ Q:=by
 have hlab:∀n∈g.nodes,n.labels.length<2^63:=fun n hn=>(hg.2.2.1 n hn).2.1
 refine Af (fun m env s=>∃(i c:Nat) (z:Int),m=g.nodes.length-i∧i≤g.nodes.length∧z=Ij (g.nodes.take i) x∧env=[(1,.ref 0 0 0 0),(2,.ref 1 g1 0 0),(5,.ref 2 g2 0 0),(7,.str x),(8,.int .i64 z),(30,.sl nn (vs .str R)),(31,.int .i64 v31),(32,.int .i64 v32),(37,.sl g.nn (vs GN.av g.nodes)),(38,.int .i64 g.nodes.length),(39,.int .i64 i)]∧s=⟨[.arr 0 4 true true [g.av],o1,o2],c⟩) ?_ _ _ _ ⟨0,c,0,rfl,by omega,rfl,rfl,rfl⟩
 rintro _ _ _ ⟨i,c,z,rfl,hi,hz,rfl,rfl⟩
 refine⟨rfl,?_⟩
 by_cases hlt:i<g.nodes.length
 ·have hb:=@XD (g.nodes.take i) x
  rw[List.length_take,←hz]at hb
  have h1:x∈(g.nodes[i]).labels→z+1=Ij (g.nodes.take (i+1)) x:=fun h=>by rw[PZ hlt,hz,show Ace x g.nodes[i]=1 from if_pos h]
  have h0:¬x∈(g.nodes[i]).labels→z=Ij (g.nodes.take (i+1)) x:=fun h=>by rw[PZ hlt,hz,show Ace x g.nodes[i]=0 from if_neg h,Int.add_zero]
  clear hz
  (conv=>whnf);repeat' (first|(refine Bo (Y0 (hlab _ (List.getElem_mem hlt))) (fun hc=>?_) (fun hc=>?_)<;>conv=>whnf)|(refine kA ?_;conv=>whnf)|(refine Br.mk (fun hc=>?_) fun hc=>?_<;>first|exact hc.elim|conv=>whnf)|(refine kB ?_))
  ·exact again.mk ⟨_,by omega,i+1,_,_,rfl,by omega,h1 hc,rfl,rfl⟩
  ·exact again.mk ⟨_,by omega,i+1,_,z,rfl,by omega,h0 hc,rfl,rfl⟩
 ·rw[List.take_of_length_le (by omega)]at hz
  subst hz
  (conv=>whnf);repeat' (first  |(refine kA ?_;conv=>whnf)|(refine Br.mk (fun hc=>?_) fun hc=>?_<;>first|exact hc.elim|conv=>whnf)|(refine kB ?_))
  exact hQ _ _
theorem Aui {g:GG} (hg:g.ok) (hN:g.nodes.length≤2000) {x:List UInt8} {g1 g2 c:Nat} {nn:Bool} {R:List (List UInt8)} {v31 v32:Int} {o1 o2 o3:Obj} {Q:Aw→Env→Aq→Prop}
 (hQ:∀c' tl,Q (.exit 2) ([(1,.ref 0 0 0 0),(2,.ref 1 g1 0 0),(5,.ref 2 g2 0 0),(7,.str x),(8,.int .i64 (Ij g.nodes x)),(30,.sl nn (vs .str R)),(31,.int .i64 v31),(32,.int .i64 v32)]++tl) ⟨[.arr 0 4 true true [g.av],o1,o2,o3],c'⟩):
 Run (Ac tab) (.loop l25_0_h l25_0_b) [(1,.ref 0 0 0 0),(2,.ref 1 g1 0 0),(5,.ref 2 g2 0 0),(7,.str x),(8,.int .i64 0),(30,.sl nn (vs .str R)),(31,.int .i64 v31),(32,.int .i64 v32),(37,.sl g.nn (vs GN.av g.nodes)),(38,.int .i64 g.nodes.length),(39,.int .i64 0)] ⟨[.arr 0 4 true true [g.av],o1,o2,o3],c⟩ Q:=by
 have hlab:∀n∈g.nodes,n.labels.length<2^63:=fun n hn=>(hg.2.2.1 n hn).2.1
 refine Af (fun m env s=>∃(i c:Nat) (z:Int),m=g.nodes.length-i∧i≤g.nodes.length∧z=Ij (g.nodes.take i) x∧env=[(1,.ref 0 0 0 0),(2,.ref 1 g1 0 0),(5,.ref 2 g2 0 0),(7,.str x),(8,.int .i64 z),(30,.sl nn (vs .str R)),(31,.int .i64 v31),(32,.int .i64 v32),(37,.sl g.nn (vs GN.av g.nodes)),(38,.int .i64 g.nodes.length),(39,.int .i64 i)]∧s=⟨[.arr 0 4 true true [g.av],o1,o2,o3],c⟩) ?_ _ _ _ ⟨0,c,0,rfl,by omega,rfl,rfl,rfl⟩
 rintro _ _ _ ⟨i,c,z,rfl,hi,hz,rfl,rfl⟩
 refine⟨rfl,?_⟩
 by_cases hlt:i<g.nodes.length
 ·have hb:=@XD (g.nodes.take i) x
  rw[List.length_take,←hz]at hb
  have h1:x∈(g.nodes[i]).labels→z+1=Ij (g.nodes.take (i+1)) x:=fun h=>by rw[PZ hlt,hz,show Ace x g.nodes[i]=1 from if_pos h]
  have h0:¬x∈(g.nodes[i]).labels→z=Ij (g.nodes.take (i+1)) x:=fun h=>by rw[PZ hlt,hz,show Ace x g.nodes[i]=0 from if_neg h,Int.add_zero]
  clear hz
  (conv=>whnf);repeat' (first|(refine Bo (Y0 (hlab _ (List.getElem_mem hlt))) (fun hc=>?_) (fun hc=>?_)<;>conv=>whnf)|(refine kA ?_;conv=>whnf)|(refine Br.mk (fun hc=>?_) fun hc=>?_<;>first|exact hc.elim|conv=>whnf)|(refine kB ?_))
  ·exact again.mk ⟨_,by omega,i+1,_,_,rfl,by omega,h1 hc,rfl,rfl⟩
  ·exact again.mk ⟨_,by omega,i+1,_,z,rfl,by omega,h0 hc,rfl,rfl⟩
 ·rw[List.take_of_length_le (by omega)]at hz
  subst hz
  (conv=>whnf);repeat' (first  |(refine kA ?_;conv=>whnf)|(refine Br.mk (fun hc=>?_) fun hc=>?_<;>first|exact hc.elim|conv=>whnf)|(refine kB ?_))
  exact hQ _ _
theorem ArB {g:GG} (hN:g.edges.length≤4000) {x:List UInt8} {g1 g2 c:Nat} {nn:Bool} {R:List (List UInt8)} {v31 v32:Int} {o1 o2:Obj} {Q:Aw→Env→Aq→Prop}
 (hQ:∀c' tl,Q (.exit 6) ([(1,.ref 0 0 0 0),(2,.ref 1 g1 0 0),(5,.ref 2 g2 0 0),(12,.str x),(13,.int .i64 (Em g.edges x)),(59,.sl nn (vs .str R)),(60,.int .i64 v31),(61,.int .i64 v32)]++tl) ⟨[.arr 0 4 true true [g.av],o1,o2],c'⟩):
 Run (Ac tab) (.loop l25_2_h l25_2_b) [(1,.ref 0 0 0 0),(2,.ref 1 g1 0 0),(5,.ref 2 g2 0 0),(12,.str x),(13,.int .i64 0),(59,.sl nn (vs .str R)),(60,.int .i64 v31),(61,.int .i64 v32),(66,.sl g.en (vs GE.av g.edges)),(67,.int .i64 g.edges.length),(68,.int .i64 0)] ⟨[.arr 0 4 true true [g.av],o1,o2],c⟩ Q:=by
 refine Af (fun m env s=>∃(i c:Nat) (z:Int),m=g.edges.length-i∧i≤g.edges.length∧z=Em (g.edges.take i) x∧env=[(1,.ref 0 0 0 0),(2,.ref 1 g1 0 0),(5,.ref 2 g2 0 0),(12,.str x),(13,.int .i64 z),(59,.sl nn (vs .str R)),(60,.int .i64 v31),(61,.int .i64 v32),(66,.sl g.en (vs GE.av g.edges)),(67,.int .i64 g.edges.length),(68,.int .i64 i)]∧s=⟨[.arr 0 4 true true [g.av],o1,o2],c⟩) ?_ _ _ _ ⟨0,c,0,rfl,by omega,rfl,rfl,rfl⟩
 rintro _ _ _ ⟨i,c,z,rfl,hi,hz,rfl,rfl⟩
 refine⟨rfl,?_⟩
 by_cases hlt:i<g.edges.length
 ·have hb:=@I8 (g.edges.take i) x
  rw[List.length_take,←hz]at hb
  have h1:(g.edges[i]).ty=x→z+1=Em (g.edges.take (i+1)) x:=fun h=>by rw[Ig hlt,hz,show tyI x g.edges[i]=1 from if_pos h]
  have h0:¬(g.edges[i]).ty=x→z=Em (g.edges.take (i+1)) x:=fun h=>by rw[Ig hlt,hz,show tyI x g.edges[i]=0 from if_neg h,Int.add_zero]
  clear hz
  (conv=>whnf);repeat' (first  |(refine kA ?_;conv=>whnf)|(refine Br.mk (fun hc=>?_) fun hc=>?_<;>first|exact hc.elim|conv=>whnf)|(refine kB ?_))
  ·exact again.mk ⟨_,by omega,i+1,_,_,rfl,by omega,h1 hc,rfl,rfl⟩
  ·exact again.mk ⟨_,by omega,i+1,_,z,rfl,by omega,h0 hc,rfl,rfl⟩
 ·rw[List.take_of_length_le (by omega)]at hz
  subst hz
  (conv=>whnf);repeat' (first  |(refine kA ?_;conv=>whnf)|(refine Br.mk (fun hc=>?_) fun hc=>?_<;>first|exact hc.elim|conv=>whnf)|(refine kB ?_))
  exact hQ _ _
theorem ArD {g:GG} (hN:g.edges.length≤4000) {x:List UInt8} {g1 g2 c:Nat} {nn:Bool} {R:List (List UInt8)} {v31 v32:Int} {o1 o2 o3:Obj} {Q:Aw→Env→Aq→Prop}
 (hQ:∀c' tl,Q (.exit 6) ([(1,.ref 0 0 0 0),(2,.ref 1 g1 0 0),(5,.ref 2 g2 0 0),(12,.str x),(13,.int .i64 (Em g.edges x)),(59,.sl nn (vs .str R)),(60,.int .i64 v31),(61,.int .i64 v32)]++tl) ⟨[.arr 0 4 true true [g.av],o1,o2,o3],c'⟩):
 Run (Ac tab) (.loop l25_2_h l25_2_b) [(1,.ref 0 0 0 0),(2,.ref 1 g1 0 0),(5,.ref 2 g2 0 0),(12,.str x),(13,.int .i64 0),(59,.sl nn (vs .str R)),(60,.int .i64 v31),(61,.int .i64 v32),(66,.sl g.en (vs GE.av g.edges)),(67,.int .i64 g.edges.length),(68,.int .i64 0)] ⟨[.arr 0 4 true true [g.av],o1,o2,o3],c⟩ Q:=by
 refine Af (fun m env s=>∃(i c:Nat) (z:Int),m=g.edges.length-i∧i≤g.edges.length∧z=Em (g.edges.take i) x∧env=[(1,.ref 0 0 0 0),(2,.ref 1 g1 0 0),(5,.ref 2 g2 0 0),(12,.str x),(13,.int .i64 z),(59,.sl nn (vs .str R)),(60,.int .i64 v31),(61,.int .i64 v32),(66,.sl g.en (vs GE.av g.edges)),(67,.int .i64 g.edges.length),(68,.int .i64 i)]∧s=⟨[.arr 0 4 true true [g.av],o1,o2,o3],c⟩) ?_ _ _ _ ⟨0,c,0,rfl,by omega,rfl,rfl,rfl⟩
 rintro _ _ _ ⟨i,c,z,rfl,hi,hz,rfl,rfl⟩
 refine⟨rfl,?_⟩
 by_cases hlt:i<g.edges.length
 ·have hb:=@I8 (g.edges.take i) x
  rw[List.length_take,←hz]at hb
  have h1:(g.edges[i]).ty=x→z+1=Em (g.edges.take (i+1)) x:=fun h=>by rw[Ig hlt,hz,show tyI x g.edges[i]=1 from if_pos h]
  have h0:¬(g.edges[i]).ty=x→z=Em (g.edges.take (i+1)) x:=fun h=>by rw[Ig hlt,hz,show tyI x g.edges[i]=0 from if_neg h,Int.add_zero]
  clear hz
  (conv=>whnf);repeat' (first  |(refine kA ?_;conv=>whnf)|(refine Br.mk (fun hc=>?_) fun hc=>?_<;>first|exact hc.elim|conv=>whnf)|(refine kB ?_))
  ·exact again.mk ⟨_,by omega,i+1,_,_,rfl,by omega,h1 hc,rfl,rfl⟩
  ·exact again.mk ⟨_,by omega,i+1,_,z,rfl,by omega,h0 hc,rfl,rfl⟩
 ·rw[List.take_of_length_le (by omega)]at hz
  subst hz
  (conv=>whnf);repeat' (first  |(refine kA ?_;conv=>whnf)|(refine Br.mk (fun hc=>?_) fun hc=>?_<;>first|exact hc.elim|conv=>whnf)|(refine kB ?_))
  exact hQ _ _
theorem ArC {g:GG} (hN:g.edges.length≤4000) {x:List UInt8} {g1 g2 c:Nat} {nn:Bool} {R:List (List UInt8)} {v31 v32:Int} {o1 o2 o3 o4 o5:Obj} {Q:Aw→Env→Aq→Prop}
 (hQ:∀c' tl,Q (.exit 6) ([(1,.ref 0 0 0 0),(2,.ref 1 g1 0 0),(5,.ref 2 g2 0 0),(12,.str x),(13,.int .i64 (Em g.edges x)),(59,.sl nn (vs .str R)),(60,.int .i64 v31),(61,.int .i64 v32)]++tl) ⟨[.arr 0 4 true true [g.av],o1,o2,o3,o4,o5],c'⟩):
 Run (Ac tab) (.loop l25_2_h l25_2_b) [(1,.ref 0 0 0 0),(2,.ref 1 g1 0 0),(5,.ref 2 g2 0 0),(12,.str x),(13,.int .i64 0),(59,.sl nn (vs .str R)),(60,.int .i64 v31),(61,.int .i64 v32),(66,.sl g.en (vs GE.av g.edges)),(67,.int .i64 g.edges.length),(68,.int .i64 0)] ⟨[.arr 0 4 true true [g.av],o1,o2,o3,o4,o5],c⟩ Q:=by
 refine Af (fun m env s=>∃(i c:Nat) (z:Int),m=g.edges.length-i∧i≤g.edges.length∧z=Em (g.edges.take i) x∧env=[(1,.ref 0 0 0 0),(2,.ref 1 g1 0 0),(5,.ref 2 g2 0 0),(12,.str x),(13,.int .i64 z),(59,.sl nn (vs .str R)),(60,.int .i64 v31),(61,.int .i64 v32),(66,.sl g.en (vs GE.av g.edges)),(67,.int .i64 g.edges.length),(68,.int .i64 i)]∧s=⟨[.arr 0 4 true true [g.av],o1,o2,o3,o4,o5],c⟩) ?_ _ _ _ ⟨0,c,0,rfl,by omega,rfl,rfl,rfl⟩
 rintro _ _ _ ⟨i,c,z,rfl,hi,hz,rfl,rfl⟩
 refine⟨rfl,?_⟩
 by_cases hlt:i<g.edges.length
 ·have hb:=@I8 (g.edges.take i) x
  rw[List.length_take,←hz]at hb
  have h1:(g.edges[i]).ty=x→z+1=Em (g.edges.take (i+1)) x:=fun h=>by rw[Ig hlt,hz,show tyI x g.edges[i]=1 from if_pos h]
  have h0:¬(g.edges[i]).ty=x→z=Em (g.edges.take (i+1)) x:=fun h=>by rw[Ig hlt,hz,show tyI x g.edges[i]=0 from if_neg h,Int.add_zero]
  clear hz
  (conv=>whnf);repeat' (first  |(refine kA ?_;conv=>whnf)|(refine Br.mk (fun hc=>?_) fun hc=>?_<;>first|exact hc.elim|conv=>whnf)|(refine kB ?_))
  ·exact again.mk ⟨_,by omega,i+1,_,_,rfl,by omega,h1 hc,rfl,rfl⟩
  ·exact again.mk ⟨_,by omega,i+1,_,z,rfl,by omega,h0 hc,rfl,rfl⟩
 ·rw[List.take_of_length_le (by omega)]at hz
  subst hz
  (conv=>whnf);repeat' (first  |(refine kA ?_;conv=>whnf)|(refine Br.mk (fun hc=>?_) fun hc=>?_<;>first|exact hc.elim|conv=>whnf)|(refine kB ?_))
  exact hQ _ _
theorem ArE {g:GG} (hN:g.edges.length≤4000) {x:List UInt8} {g1 g2 c:Nat} {nn:Bool} {R:List (List UInt8)} {v31 v32:Int} {o1 o2 o3 o4 o5 o6:Obj} {Q:Aw→Env→Aq→Prop}
 (hQ:∀c' tl,Q (.exit 6) ([(1,.ref 0 0 0 0),(2,.ref 1 g1 0 0),(5,.ref 2 g2 0 0),(12,.str x),(13,.int .i64 (Em g.edges x)),(59,.sl nn (vs .str R)),(60,.int .i64 v31),(61,.int .i64 v32)]++tl) ⟨[.arr 0 4 true true [g.av],o1,o2,o3,o4,o5,o6],c'⟩):
 Run (Ac tab) (.loop l25_2_h l25_2_b) [(1,.ref 0 0 0 0),(2,.ref 1 g1 0 0),(5,.ref 2 g2 0 0),(12,.str x),(13,.int .i64 0),(59,.sl nn (vs .str R)),(60,.int .i64 v31),(61,.int .i64 v32),(66,.sl g.en (vs GE.av g.edges)),(67,.int .i64 g.edges.length),(68,.int .i64 0)] ⟨[.arr 0 4 true true [g.av],o1,o2,o3,o4,o5,o6],c⟩ Q:=by
 refine Af (fun m env s=>∃(i c:Nat) (z:Int),m=g.edges.length-i∧i≤g.edges.length∧z=Em (g.edges.take i) x∧env=[(1,.ref 0 0 0 0),(2,.ref 1 g1 0 0),(5,.ref 2 g2 0 0),(12,.str x),(13,.int .i64 z),(59,.sl nn (vs .str R)),(60,.int .i64 v31),(61,.int .i64 v32),(66,.sl g.en (vs GE.av g.edges)),(67,.int .i64 g.edges.length),(68,.int .i64 i)]∧s=⟨[.arr 0 4 true true [g.av],o1,o2,o3,o4,o5,o6],c⟩) ?_ _ _ _ ⟨0,c,0,rfl,by omega,rfl,rfl,rfl⟩
 rintro _ _ _ ⟨i,c,z,rfl,hi,hz,rfl,rfl⟩
 refine⟨rfl,?_⟩
 by_cases hlt:i<g.edges.length
 ·have hb:=@I8 (g.edges.take i) x
  rw[List.length_take,←hz]at hb
  have h1:(g.edges[i]).ty=x→z+1=Em (g.edges.take (i+1)) x:=fun h=>by rw[Ig hlt,hz,show tyI x g.edges[i]=1 from if_pos h]
  have h0:¬(g.edges[i]).ty=x→z=Em (g.edges.take (i+1)) x:=fun h=>by rw[Ig hlt,hz,show tyI x g.edges[i]=0 from if_neg h,Int.add_zero]
  clear hz
  (conv=>whnf);repeat' (first  |(refine kA ?_;conv=>whnf)|(refine Br.mk (fun hc=>?_) fun hc=>?_<;>first|exact hc.elim|conv=>whnf)|(refine kB ?_))
  ·exact again.mk ⟨_,by omega,i+1,_,_,rfl,by omega,h1 hc,rfl,rfl⟩
  ·exact again.mk ⟨_,by omega,i+1,_,z,rfl,by omega,h0 hc,rfl,rfl⟩
 ·rw[List.take_of_length_le (by omega)]at hz
  subst hz
  (conv=>whnf);repeat' (first  |(refine kA ?_;conv=>whnf)|(refine Br.mk (fun hc=>?_) fun hc=>?_<;>first|exact hc.elim|conv=>whnf)|(refine kB ?_))
  exact hQ _ _
abbrev vi (l:List Int):List AV:=vs (.int .i64) l
def desc (l:List Int):Prop:=l.Pairwise (fun x y=>y≤x)
theorem UA:∀{a b:List Int},a.Perm b→desc a→desc b→a=b
 |[],b,hp,_,_=>(List.nil_perm.1 hp).symm
 |x::a,[],hp,_,_=>absurd (List.perm_nil.1 hp) (by simp)
 |x::a,y::b,hp,h1,h2=>by
  have h1':=List.pairwise_cons.1 h1
  have h2':=List.pairwise_cons.1 h2
  have hxy:x=y:=by
   rcases List.mem_cons.1 (hp.mem_iff.1 (List.mem_cons_self ..))with e|h
   ·exact e
   rcases List.mem_cons.1 (hp.mem_iff.2 (List.mem_cons_self ..))with e|h'
   ·exact e.symm
   have:=h1'.1 y h'
   have:=h2'.1 x h
   omega
  subst hxy
  rw[UA (List.Perm.cons_inv hp) h1'.2 h2'.2]
def dot:List Int→List Int→Int
 |x::X,y::Y=>x*y+dot X Y
 |_,_=>0
@[simp] theorem AtA (Y:List Int):dot [] Y=0:=by cases Y<;>rfl
@[simp] theorem AqL (X:List Int):dot X []=0:=by cases X<;>rfl
def Ae9 {α:Type} (k:α→Int) (a:α):List α→List α
 |[]=>[a]
 |b::l=>if k b≤k a then a::b::l else b::Ae9 k a l
def sortB {α:Type} (k:α→Int):List α→List α
 |[]=>[]
 |a::l=>Ae9 k a (sortB k l)
theorem TK {α:Type} {k:α→Int} {a:α}:∀{l:List α},(Ae9 k a l).Perm (a::l)
 |[]=>List.Perm.refl _
 |b::l=>by
  unfold Ae9
  split
  ·exact List.Perm.refl _
  ·exact(List.Perm.cons b TK).trans (List.Perm.swap a b l)
theorem MW {α:Type} {k:α→Int}:∀{l:List α},(sortB k l).Perm l
 |[]=>List.Perm.refl _
 |a::l=>TK.trans (List.Perm.cons a MW)
theorem Yk {α:Type} {k:α→Int} {a:α}:∀{l:List α},l.Pairwise (fun x y=>k y≤k x)→(Ae9 k a l).Pairwise (fun x y=>k y≤k x)
 |[],_=>List.pairwise_singleton ..
 |b::l,h=>by
  have h':=List.pairwise_cons.1 h
  unfold Ae9
  split
  ·rename_i hc
   refine List.pairwise_cons.2 ⟨fun y hy=>?_,h⟩
   rcases List.mem_cons.1 hy with rfl|hy
   ·exact hc
   ·have:=h'.1 y hy;omega
  ·rename_i hc
   refine List.pairwise_cons.2 ⟨fun y hy=>?_,Yk h'.2⟩
   rcases List.mem_cons.1 (TK.mem_iff.1 hy)with rfl|hy
   ·omega
   ·exact h'.1 y hy
theorem Qx {α:Type} {k:α→Int}:∀{l:List α},(sortB k l).Pairwise (fun x y=>k y≤k x)
 |[]=>List.Pairwise.nil
 |a::l=>Yk Qx
section
open Go.Sort
section
variable {α:Type} [Inhabited α] {f:α→AV}
theorem nP {d:Array α} {z:Int} (i:Nat) (hz:z=i) (h:i<d.size):nth (vs f d.toList) (Int.toNat z)=some (f d[i]!):=by
 rw[nVz i hz (by simpa using h)]
 simp[h]
omit [Inhabited α]in
theorem tP {es:Nat} (hf:∀x,(f x).cells.length=es) {d:Array α} {z:Int} (i:Nat) (hz:z=i) {x y:α}:(vs f d.toList).set (Int.toNat z) (BQ (f y) 0 (f x))=vs f (d.setIfInBounds i x).toList:=by
 subst hz
 have e:BQ (f y) 0 (f x)=f x:=by
  unfold BQ
  rw[if_pos ⟨rfl,by rw[hf,hf]⟩]
 rw[e]
 show(vs f d.toList).set i (f x)=_
 simp[vs,List.map_set]
theorem BM {d:Array α} {z:Int} {K:AV→Prop} (i:Nat) (k:K (f d[i]!)) (hz:z=i:=by omega) (h:i<d.size:=by first|omega|(simp;omega)):AB (vs f d.toList) (Int.toNat z) K:=Au (nP i hz h) k
omit [Inhabited α]in
theorem Dn {es:Nat} (hf:∀x,(f x).cells.length=es) {d:Array α} {z:Int} {x y:α} {K:List AV→Prop} (i:Nat) (k:K (vs f (d.setIfInBounds i x).toList)) (hz:z=i:=by omega):eqK ((vs f d.toList).set (Int.toNat z) (BQ (f y) 0 (f x))) K:=BK (tP hf i hz) k
@[simp] theorem Xl (d:Array α) (i j:Nat):(swp d i j).size=d.size:=by simp[swp]
variable {lt:α→α→Bool} {a b i j hi first root:Nat} {d:Array α}
theorem QU (h1:a<j+1) (h2:lt d[j+1]! d[j]! =true):insInner lt a (j+1) d=insInner lt a j (swp d (j+1) j):=by
 rw[insInner,if_pos (by simp[h1,h2])]
theorem Jk (h:a<j+1→lt d[j+1]! d[j]! =false):insInner lt a (j+1) d=d:=by
 rw[insInner,if_neg]
 simp only[Bool.and_eq_true,decide_eq_true_eq,not_and]
 intro h1 h2
 rw[h h1]at h2;cases h2
theorem U2 (h:i<b):insOuter lt a b i d=insOuter lt a b (i+1) (insInner lt a i d):=by rw[insOuter,if_pos h]
theorem U3 (h:¬i<b):insOuter lt a b i d=d:=by rw[insOuter,if_neg h]
@[simp] theorem Acb:∀{j:Nat} {d:Array α},(insInner lt a j d).size=d.size
 |0,d=>rfl
 |j+1,d=>by
  rw[insInner]
  split
  ·rw[Acb,Xl]
  ·rfl
theorem Oo (h:hi≤2*root+1):siftDown lt hi first root d=d:=by
 rw[siftDown,dif_pos h]
theorem Zj (h:2*root+1+1<hi) (h1:lt d[first+(2*root+1)]! d[first+(2*root+1)+1]! =true) (h2:lt d[first+root]! d[first+(2*root+2)]! =true):
 siftDown lt hi first root d=siftDown lt hi first (2*root+2) (swp d (first+root) (first+(2*root+2))):=by
 rw[siftDown,dif_neg (by omega),if_pos (by simp[h,h1]),if_neg (by simp[h2]),dif_pos (by omega)]
theorem U4 (h:2*root+1+1<hi) (h1:lt d[first+(2*root+1)]! d[first+(2*root+1)+1]! =true) (h2:lt d[first+root]! d[first+(2*root+2)]! =false):
 siftDown lt hi first root d=d:=by
 rw[siftDown,dif_neg (by omega),if_pos (by simp[h,h1]),if_pos (by simp[h2])]
theorem Oq (h:¬hi≤2*root+1) (h1:2*root+1+1<hi→lt d[first+(2*root+1)]! d[first+(2*root+1)+1]! =false) (h2:lt d[first+root]! d[first+(2*root+1)]! =true):
 siftDown lt hi first root d=siftDown lt hi first (2*root+1) (swp d (first+root) (first+(2*root+1))):=by
 rw[siftDown,dif_neg h,if_neg,if_neg (by simp[h2])]
 simp only[Bool.and_eq_true,decide_eq_true_eq,not_and]
 intro h3 h4
 rw[h1 h3]at h4;cases h4
theorem KR (h:¬hi≤2*root+1) (h1:2*root+1+1<hi→lt d[first+(2*root+1)]! d[first+(2*root+1)+1]! =false) (h2:lt d[first+root]! d[first+(2*root+1)]! =false):
 siftDown lt hi first root d=d:=by
 rw[siftDown,dif_neg h,if_neg,if_pos (by simp[h2])]
 simp only[Bool.and_eq_true,decide_eq_true_eq,not_and]
 intro h3 h4
 rw[h1 h3]at h4;cases h4
theorem Acd {lt:α→α→Bool} {hi first:Nat}:∀(n root:Nat) (d:Array α),hi-root≤n→(siftDown lt hi first root d).size=d.size:=by
 intro n
 induction n with
 |zero=>intro root d h;rw[Oo (by omega)]
 |succ n ih=>
  intro root d h
  rw[siftDown]
  split
  ·rfl
  ·split
   ·split
    ·rfl
    ·split
     ·rw[ih _ _ (by omega),Xl]
     ·rfl
   ·split
    ·rfl
    ·rw[ih _ _ (by omega),Xl]
@[simp] theorem Al6:(siftDown lt hi first root d).size=d.size:=Acd (hi-root) root d (Nat.le_refl _)
@[simp] theorem Aas:∀{k:Nat} {d:Array α},(heapBuild lt hi first k d).size=d.size
 |0,d=>rfl
 |k+1,d=>by rw[heapBuild,Aas,Al6]
end
theorem CJ {AP:Nat→Option Jc} {f:Nat} {args:List AV} {b:Bool} {K:AV→Prop} (h:Ag AP f args (· =.bool b)) (h1:b=true→K (.bool true)) (h2:b=false→K (.bool false)):AbO AP f args K:=by
 refine Aa h ?_
 rintro _ rfl
 cases b with
 |true=>exact h1 rfl
 |false=>exact h2 rfl
theorem F8 {z:Int} {K:AV→Prop} (n k:Nat) (hz:z=n) (h:n<2^63) (h2:K (.int .i64 ((n / k:Nat):Int))):Kv .i64 (z.tdiv k) K:=by
 subst hz
 have e:(n:Int).tdiv k=((n / k:Nat):Int):=by
  rw[Int.tdiv_eq_ediv_of_nonneg (by omega)];rfl
 rw[e]
 have h3:n / k≤n:=Nat.div_le_self ..
 revert h2 h3 e
 generalize n / k=m
 intro h2 e h3
 exact BI (wrap_i64 (by omega) (by omega)) h2
end
section
open Go.Sort
theorem VD {k:IntKind} {z:Int} (hk:k.signed=false) (h:0≤z) (h2:z<2 ^ k.bits):k.wrap z=z:=by
 simp only[IntKind.wrap,hk,Bool.false_and,Bool.false_eq_true,if_false]
 exact Int.emod_eq_of_lt h h2
theorem wrapN {k:IntKind} {z:Int} {K:AV→Prop} (n:Nat) (hk:k.signed=false) (hz:z=n) (h:n<2 ^ k.bits) (h2:K (.int k n)):Kv k z K:=by
 subst hz
 refine BI (VD hk (by omega) ?_) h2
 exact_mod_cast h
theorem Dy {n:Nat} (k:Nat) (h:2 ^ k≤n):bitsLen (n / 2 ^ k)+k=bitsLen n:=by
 have h0:k<bitsLen n:=by
  rcases Nat.lt_or_ge k (bitsLen n)with h1|h1
  ·exact h1
  ·have:=(bitsLen_le_iff n k).1 h1;omega
 have e1:bitsLen (n / 2 ^ k)≤bitsLen n-k:=by
  rw[bitsLen_le_iff,Nat.div_lt_iff_lt_mul (Nat.two_pow_pos k),←Nat.pow_add,Nat.sub_add_cancel (by omega)]
  exact lt_two_pow_bitsLen n
 have e2:bitsLen n≤bitsLen (n / 2 ^ k)+k:=by
  rw[bitsLen_le_iff,Nat.pow_add,←Nat.div_lt_iff_lt_mul (Nat.two_pow_pos k)]
  exact lt_two_pow_bitsLen _
 omega
def Ac7:List UInt8:=[0,1,2,2,3,3,3,3,4,4,4,4,4,4,4,4]++List.replicate 16 5++List.replicate 32 6++List.replicate 64 7++List.replicate 128 8
theorem Ac8:(List.range 256).all (fun n=>nth Ac7 n==some (UInt8.ofNat (bitsLen n))&&Nat.ble (bitsLen n) 8)=true:=by decide +kernel
theorem YU {n:Nat} (h:n<256):nth Ac7 n=some (UInt8.ofNat (bitsLen n))∧bitsLen n≤8:=by
 have:=List.all_eq_true.1 Ac8 n (List.mem_range.2 h)
 rw[Bool.and_eq_true]at this
 exact⟨by simpa using this.1,Nat.le_of_ble_eq_true this.2⟩
theorem AsY (n:Nat):((n:Int)).fdiv (2 ^ (min (Int.toNat 32) IntKind.u64.bits))=((n / 2 ^ 32:Nat):Int):=by
 rw[show (2:Int) ^ (min (Int.toNat 32) IntKind.u64.bits)=4294967296 by rfl,Int.fdiv_eq_ediv_of_nonneg _ (by omega)]
 rfl
theorem AsZ (n:Nat):((n:Int)).fdiv (2 ^ (min (Int.toNat 16) IntKind.u64.bits))=((n / 2 ^ 16:Nat):Int):=by
 rw[show (2:Int) ^ (min (Int.toNat 16) IntKind.u64.bits)=65536 by rfl,Int.fdiv_eq_ediv_of_nonneg _ (by omega)]
 rfl
theorem AvD (n:Nat):((n:Int)).fdiv (2 ^ (min (Int.toNat 8) IntKind.u64.bits))=((n / 2 ^ 8:Nat):Int):=by
 rw[show (2:Int) ^ (min (Int.toNat 8) IntKind.u64.bits)=256 by rfl,Int.fdiv_eq_ediv_of_nonneg _ (by omega)]
 rfl
theorem Apx {m:Nat} (h:m≤8):(UInt8.ofNat m).toNat=m:=by
 rw[UInt8.toNat_ofNat']
 exact Nat.mod_eq_of_lt (by omega)
set_option maxRecDepth 100000 in
theorem AvE {n:Nat} {K:UInt8→Prop} (hn:n<256) (h:bitsLen n≤8→K (UInt8.ofNat (bitsLen n))):AB Ac7 (Int.toNat (n:Int)) K:=
 Au (YU hn).1 (h (YU hn).2)
set_option maxRecDepth 100000 in
theorem As0 {n:Nat} (h:n<2^64):Ag (Ac tab) 174 [.int .u64 n] (· =.int .i64 (bitsLen n)):=by
 refine Ad rfl rfl ?_
 (conv=>whnf);repeat' (first|(apply BK;(· first|exact AsY _|exact AsZ _|exact AvD _);conv=>whnf)|(refine wrapN _ rfl rfl (by show _<256;omega) ?_;conv=>whnf)|(refine AvE (by omega) (fun hb=>?_);rw[Apx hb];conv=>whnf)|(refine kA ?_;conv=>whnf)|(refine Br.mk (fun hc=>?_) fun hc=>?_<;>first|exact hc.elim|conv=>whnf)|(refine kB ?_))
 all_goals
  show AV.int _ _=_
  congr 1
  first
   |(rw [← Dy 32 (n:=n) (by omega),←Dy 16 (n:=n / 2 ^ 32) (by omega),←Dy 8 (n:=n / 2 ^ 32 / 2 ^ 16) (by omega)];omega)
   |(rw [← Dy 32 (n:=n) (by omega),←Dy 16 (n:=n / 2 ^ 32) (by omega)];omega)
   |(rw [← Dy 32 (n:=n) (by omega),←Dy 8 (n:=n / 2 ^ 32) (by omega)];omega)
   |(rw [← Dy 32 (n:=n) (by omega)];omega)
   |(rw [← Dy 16 (n:=n) (by omega),←Dy 8 (n:=n / 2 ^ 16) (by omega)];omega)
   |(rw [← Dy 16 (n:=n) (by omega)];omega)
   |(rw [← Dy 8 (n:=n) (by omega)];omega)
   |omega
theorem OJ {n:Nat} (h:n<2^63):Ag (Ac tab) 94 [.int .u64 n] (· =.int .i64 (bitsLen n)):=by
 refine Ad rfl rfl ?_
 (conv=>whnf);repeat' (first|(refine Aa (As0 (n:=n) (by omega)) ?_;rintro _ rfl;conv=>whnf)|(refine kA ?_;conv=>whnf)|(refine Br.mk (fun hc=>?_) fun hc=>?_<;>first|exact hc.elim|conv=>whnf)|(refine kB ?_))
 rfl
theorem O9 {n:Nat} (h:n<2^62) (h0:0<n):Ag (Ac tab) 222 [.int .i64 n] (fun v=>∃M:Nat,v=.int .u64 M∧n<M∧M≤2*n):=by
 have h1:=lt_two_pow_bitsLen n
 have h2:=two_pow_bitsLen_le h0
 have h3:bitsLen n≤62:=(bitsLen_le_iff n 62).2 h
 refine Ad rfl rfl ?_
 (conv=>whnf);repeat' (first|(refine wrapN n rfl rfl (by show n<2^64;omega) ?_;conv=>whnf)|(refine Aa (OJ (n:=n) (by omega)) ?_;rintro _ rfl;conv=>whnf)|(refine wrapN (2 ^ bitsLen n) rfl ?_ (by show _<2^64;omega) ?_;(· rw[Int.one_mul,Int.toNat_natCast,Nat.min_eq_left (by show _≤64;omega)];simp);conv=>whnf)|(refine kA ?_;conv=>whnf)|(refine Br.mk (fun hc=>?_) fun hc=>?_<;>first|exact hc.elim|conv=>whnf)|(refine kB ?_))
 exact⟨_,rfl,h1,h2⟩
section
variable {α:Type} [Inhabited α] {lt:α→α→Bool} {a b i j:Nat} {d:Array α}
theorem Sj (h:i<b) (h2:lt d[i]! d[i-1]! =false):scanSorted lt d b i=scanSorted lt d b (i+1):=by
 rw[scanSorted,if_pos (by simp[h,h2])]
theorem Gw (h:i<b→lt d[i]! d[i-1]! =true):scanSorted lt d b i=i:=by
 rw[scanSorted,if_neg]
 simp only[Bool.and_eq_true,decide_eq_true_eq,not_and]
 intro h1 h2
 rw[h h1]at h2;cases h2
theorem Z5 (h:lt d[j+1]! d[j]! =true):shiftDown lt (j+1) d=shiftDown lt j (swp d (j+1) j):=by
 rw[shiftDown,if_neg (by simp[h])]
theorem Sl (h:lt d[j+1]! d[j]! =false):shiftDown lt (j+1) d=d:=by
 rw[shiftDown,if_pos (by simp[h])]
theorem Z7 (h0:j<b) (h:lt d[j]! d[j-1]! =true):shiftUp lt b j d=shiftUp lt b (j+1) (swp d j (j-1)):=by
 rw[shiftUp,if_pos h0,if_neg (by simp[h])]
theorem Jt (h:j<b→lt d[j]! d[j-1]! =false):shiftUp lt b j d=d:=by
 rw[shiftUp]
 split
 ·rename_i h0
  rw[if_pos (by simp[h h0])]
 ·rfl
@[simp] theorem Apy:∀{j:Nat} {d:Array α},(shiftDown lt j d).size=d.size
 |0,d=>rfl
 |j+1,d=>by
  rw[shiftDown]
  split
  ·rfl
  ·rw[Apy,Xl]
theorem AeE:∀(n j:Nat) (d:Array α),b-j≤n→(shiftUp lt b j d).size=d.size
 |0,j,d,h=>by rw[shiftUp,if_neg (by omega)]
 |n+1,j,d,h=>by
  rw[shiftUp]
  split
  ·split
   ·rfl
   ·rw[AeE n _ _ (by omega),Xl]
  ·rfl
@[simp] theorem AvF:(shiftUp lt b j d).size=d.size:=AeE (b-j) j d (Nat.le_refl _)
@[simp] theorem AtY:(fixDown lt a i d).size=d.size:=by unfold fixDown;split<;>simp
@[simp] theorem At1:(fixUp lt b i d).size=d.size:=by unfold fixUp;split<;>simp
variable {p:α→Bool}
theorem JC (h:i≤j) (h2:p d[i]! =true):scanUp p d j i=scanUp p d j (i+1):=by
 rw[scanUp,if_pos (by simp[h,h2])]
theorem CV (h:i≤j→p d[i]! =false):scanUp p d j i=i:=by
 rw[scanUp,if_neg]
 simp only[Bool.and_eq_true,decide_eq_true_eq,not_and]
 intro h1 h2
 rw[h h1]at h2;cases h2
theorem JD (h:i≤j+1) (h2:p d[j+1]! =true):scanDown p d i (j+1)=scanDown p d i j:=by
 rw[scanDown,if_pos (by simp[h,h2])]
theorem CW (h:i≤j→p d[j]! =false):scanDown p d i j=j:=by
 cases j with
 |zero=>rfl
 |succ j=>
  rw[scanDown,if_neg]
  simp only[Bool.and_eq_true,decide_eq_true_eq,not_and]
  intro h1 h2
  rw[h h1]at h2;cases h2
end
theorem Dl {AP:Nat→Option Jc} {a b:AY} {env:Env} {s:Aq} {Q:Aw→Env→Aq→Prop} (h:vC AP a env s (GX (fun env s=>vC AP b env s Q) Q)):vC AP (.seq a b) env s Q:=h
theorem Vg {α:Type} [Inhabited α] {L:List α} {D:Array α} {len:Nat} (hl:L.length=len) (h:PermIn 0 len L.toArray D):D.toList.Perm L:=by
 obtain⟨h1,_,h3⟩:=h
 have e1:D.size=len:=by rw[h1];simpa using hl
 have e2:(D.extract 0 len).toList=D.toList:=by rw[← e1];simp
 have e3:(L.toArray.extract 0 len).toList=L:=by rw[← hl];simp
 rw[e2,e3]at h3
 exact h3
theorem Pz {α:Type} [Inhabited α] {lt:α→α→Bool} {D:Array α} {len:Nat} (hl:D.size=len) (h:SortedIn lt 0 len D):D.toList.Pairwise (fun x y=>lt y x=false):=by
 rw[List.pairwise_iff_getElem]
 intro i j hi hj hij
 have:=h i j (Nat.zero_le _) hij (by simpa[hl]using hj)
 simp only[Array.length_toList]at hi hj
 rw[getElem!_pos D j hj,getElem!_pos D i hi]at this
 simpa using this
end
theorem nan {x:Int}:Ag (Ac tab) 192 [.int .i64 x] (· =.bool (decide False)):=by
 refine Ad rfl rfl ?_
 (conv=>whnf);repeat' (first  |(refine kA ?_;conv=>whnf)|(refine Br.mk (fun hc=>?_) fun hc=>?_<;>first|exact hc.elim|conv=>whnf)|(refine kB ?_))
 all_goals first|exact absurd rfl hc|rfl
def Dq (x y:Int):Int:=if x<y then -1 else if y<x then 1 else 0
theorem compare {x y:Int}:Ag (Ac tab) 135 [.int .i64 x,.int .i64 y] (· =.int .i64 (Dq x y)):=by
 refine Ad rfl rfl ?_
 (conv=>whnf);repeat' (first|(refine Bo nan (fun hc=>absurd hc id) (fun _=>?_);conv=>whnf)|(refine kA ?_;conv=>whnf)|(refine Br.mk (fun hc=>?_) fun hc=>?_<;>first|exact hc.elim|conv=>whnf)|(refine kB ?_))
 all_goals unfold Dq;first|(rw [if_pos (by omega)];rfl)|(rw [if_neg (by omega),if_pos (by omega)];rfl)|(rw [if_neg (by omega),if_neg (by omega)];rfl)
theorem Oj {x y:Int}:Dq x y<0↔x<y:=by unfold Dq;split<;>(try split)<;>omega
theorem D6 {x y:Int}:Dq x y=0↔x=y:=by unfold Dq;split<;>(try split)<;>omega
end AI
end Go.Proofs.YthnehejdkajjhaaGreatDoor
