/- The arguments of the graph laws, taken apart: values, properties, nodes, edges, graphs. Strings in a list. Strings in a list: the reference. The reference's HasLabel. HasLabel. Counts of labels and types; the inner loops of degree.Of. Sequences in descending order, products of two sequences: plain. Products of two lists are greatest when both are sorted: plain. Sorting in place: lists of a store against arrays of the library's plain sort. math/bits.Len and the next power of two. Comparing two numbers. -/
import Derived.Test.YtceiccjppfapjaaGreatDoorBMab
import Derived.Test.YtceiccjppfapjaaGreatDoorBMaa
import Derived.Test.YtceiccjppfapjaaGreatDoorVGrCode
import Derived.Test.YtceiccjppfapjaaGreatDoorVSu
import Derived.Sort.AssemblyPlain
set_option linter.unusedVariables false
set_option maxRecDepth 4000
namespace Go.Proofs.YtceiccjppfapjaaGreatDoor
namespace AI
structure GV where
 k:Int
 n:Int
 d:Int
 s:List UInt8
 nn:Bool
 l:List AV
def GV.av (v:GV):AV:=.agg [.int .i64 v.k,.int .i64 v.n,.int .i64 v.d,.str v.s,.sl v.nn v.l]
structure GP where
 key:List UInt8
 v:GV
def GP.av (p:GP):AV:=.agg [.str p.key,.int .i64 p.v.k,.int .i64 p.v.n,.int .i64 p.v.d,.str p.v.s,.sl p.v.nn p.v.l]
structure GN where
 id:Int
 ln:Bool
 labels:List (List UInt8)
 pn:Bool
 props:List GP
def GN.av (n:GN):AV:=.agg [.int .i64 n.id,.sl n.ln (vs .str n.labels),.sl n.pn (vs GP.av n.props)]
structure GE where
 id:Int
 fr:Int
 to:Int
 ty:List UInt8
 pn:Bool
 props:List GP
def GE.av (n:GE):AV:=.agg [.int .i64 n.id,.int .i64 n.fr,.int .i64 n.to,.str n.ty,.sl n.pn (vs GP.av n.props)]
structure GG where
 nn:Bool
 nodes:List GN
 en:Bool
 edges:List GE
 Bl:Int
 Bg:Int
def GG.av (g:GG):AV:=.agg [.sl g.nn (vs GN.av g.nodes),.sl g.en (vs GE.av g.edges),.int .i64 g.Bl,.int .i64 g.Bg]
def I64 (z:Int):Prop:=-2^63≤z∧z<2^63
def Ln {α:Type} (l:List α):Prop:=l.length<2^63
def GV.ok (v:GV):Prop:=I64 v.k∧I64 v.n∧I64 v.d∧Ln v.s∧Ln v.l∧(v.nn=false→v.l=[])∧∀x∈v.l,Like Tryz.prog 49 x
def GP.ok (p:GP):Prop:=Ln p.key∧p.v.ok
def GN.ok (n:GN):Prop:=I64 n.id∧Ln n.labels∧(n.ln=false→n.labels=[])∧(∀ s∈n.labels,Ln s)∧Ln n.props∧(n.pn=false→n.props=[])∧∀p∈n.props,p.ok
def GE.ok (e:GE):Prop:=I64 e.id∧I64 e.fr∧I64 e.to∧Ln e.ty∧Ln e.props∧(e.pn=false→e.props=[])∧∀p∈e.props,p.ok
def GG.ok (g:GG):Prop:=Ln g.nodes∧(g.nn=false→g.nodes=[])∧(∀ n∈g.nodes,n.ok)∧Ln g.edges∧(g.en=false→g.edges=[])∧(∀ e∈g.edges,e.ok)∧I64 g.Bl∧I64 g.Bg
theorem WI:Tryz.prog.cellsOf 3=1:=by kernel_rfl
theorem Oz:Tryz.prog.cellsOf 9=1:=by kernel_rfl
theorem Ae9:Tryz.prog.cellsOf 60=1:=by kernel_rfl
theorem AiC:Tryz.prog.cellsOf 47=1:=by kernel_rfl
theorem Zn:Tryz.prog.cellsOf 49=5:=by kernel_rfl
theorem AnT:Tryz.prog.cellsOf 104=6:=by kernel_rfl
theorem Ad5:Tryz.prog.cellsOf 61=1:=by kernel_rfl
theorem AnU:Tryz.prog.cellsOf 63=3:=by kernel_rfl
theorem AkK:Tryz.prog.cellsOf 22=1:=by kernel_rfl
theorem AnV:Tryz.prog.cellsOf 95=5:=by kernel_rfl
theorem AkL:Tryz.prog.cellsOf 23=1:=by kernel_rfl
theorem AkM:Tryz.prog.cellsOf 25=4:=by kernel_rfl
theorem Atm {l:List AV} (h:l.length=3):∃a b c,l=[a,b,c]:=by
 rcases l with _|⟨a,_|⟨b,_|⟨c,_|⟨d,r⟩⟩⟩⟩<;>simp at h
 exact⟨a,b,c,rfl⟩
theorem Atn {l:List AV} (h:l.length=4):∃a b c d,l=[a,b,c,d]:=by
 rcases l with _|⟨a,_|⟨b,_|⟨c,_|⟨d,_|⟨e,r⟩⟩⟩⟩⟩<;>simp at h
 exact⟨a,b,c,d,rfl⟩
theorem AqT {l:List AV} (h:l.length=5):∃a b c d e,l=[a,b,c,d,e]:=by
 rcases l with _|⟨a,_|⟨b,_|⟨c,_|⟨d,_|⟨e,_|⟨f,r⟩⟩⟩⟩⟩⟩<;>simp at h
 exact⟨a,b,c,d,e,rfl⟩
theorem Anu {l:List AV} (h:l.length=6):∃a b c d e f,l=[a,b,c,d,e,f]:=by
 rcases l with _|⟨a,_|⟨b,_|⟨c,_|⟨d,_|⟨e,_|⟨f,_|⟨g,r⟩⟩⟩⟩⟩⟩⟩<;>simp at h
 exact⟨a,b,c,d,e,f,rfl⟩
theorem AhX {n:Int} (h:(Lit.int .i64 n).wf=true):I64 n:=by
 simp[Lit.wf]at h
 have h1:IntKind.i64.min=-2^63:=by rfl
 have h2:IntKind.i64.max=2^63-1:=by rfl
 unfold I64
 omega
theorem Yg {α:Type} {l:List α} (h:l.length≤maxLen):Ln l:=by unfold Ln;have:=Aeo;omega
theorem EF {d:Nat} {cs:List AV} (h:DL Tryz.prog d 3 cs):∃n,cs=[.int .i64 n]∧I64 n:=by
 obtain⟨k,e1,h1⟩:=XA Tryz.underlying3 h
 exact⟨k,e1,AhX h1⟩
theorem Q8 {d:Nat} {cs:List AV} (h:DL Tryz.prog d 9 cs):∃n,cs=[.str n]∧Ln n:=by
 obtain⟨k,e1,h1⟩:=Qq Tryz.underlying9 h
 exact⟨k,e1,Yg h1⟩
theorem OB {d:Nat} {cs:List AV} (h:DL Tryz.prog d 49 cs):∃v:GV,cs=[.int .i64 v.k,.int .i64 v.n,.int .i64 v.d,.str v.s,.sl v.nn v.l]∧v.ok:=by
 obtain⟨d',rfl,g1,g2⟩:=Ep Tryz.underlying49 h
 rw[Zn]at g1
 obtain⟨a,b,c,e,f,rfl⟩:=AqT g1
 clear g1
 simp only[List.forall_mem_cons]at g2
 obtain⟨f1,f2,f3,f4,f5,_⟩:=g2
 simp only[WI,Oz,AiC,List.drop_zero,List.drop_succ_cons,List.take_succ_cons,List.take_zero]at f1 f2 f3 f4 f5
 obtain⟨k,e1,h1⟩:=EF f1
 obtain⟨n,e2,h2⟩:=EF f2
 obtain⟨m,e3,h3⟩:=EF f3
 obtain⟨s,e4,h4⟩:=Q8 f4
 obtain⟨d'',_,nl,xs,e5,h5,h6,h7⟩:=NW Tryz.underlying47 f5
 cases e1;cases e2;cases e3;cases e4;cases e5
 exact⟨⟨k,n,m,s,nl,xs⟩,rfl,h1,h2,h3,h4,Yg h6,h5,fun x hx=>⟨_,h7 x hx⟩⟩
theorem Abz {a:AV} (h:Like Tryz.prog 49 a):∃v:GV,a=v.av∧v.ok:=by
 obtain⟨d,h⟩:=h
 obtain⟨cs,rfl,h0⟩:=EU Tryz.underlying49 h
 obtain⟨v,rfl,h1⟩:=OB h0
 exact⟨v,rfl,h1⟩
theorem Yr {d:Nat} {a:AV} (h:like Tryz.prog d 104 a):∃v:GP,a=v.av∧v.ok:=by
 obtain⟨cs,rfl,h0⟩:=EU Tryz.underlying104 h
 obtain⟨d',rfl,g1,g2⟩:=Ep Tryz.underlying104 h0
 rw[AnT]at g1
 obtain⟨a,b,c,e,f,g,rfl⟩:=Anu g1
 clear g1
 simp only[List.forall_mem_cons]at g2
 obtain⟨f1,f2,_⟩:=g2
 simp only[Oz,Zn,List.drop_zero,List.drop_succ_cons,List.take_succ_cons,List.take_zero]at f1 f2
 obtain⟨s,e1,h1⟩:=Q8 f1
 obtain⟨v,e2,h2⟩:=OB f2
 cases e1;cases e2
 exact⟨⟨s,v⟩,rfl,h1,h2⟩
theorem Gz {α:Type} {f:α→AV} {Q:α→Prop} {d:Nat} {t e:TypeId} {cs:List AV} (hu:Tryz.prog.underlying t=some (.slice e)) (he:∀d x,like Tryz.prog d e x→∃y,x=f y∧Q y) (h:DL Tryz.prog d t cs):
 ∃nn l,cs=[.sl nn (vs f l)]∧(nn=false→l=[])∧Ln l∧∀y∈l,Q y:=by
 obtain⟨d',rfl,nn,xs,rfl,h0,h1,h2⟩:=NW hu h
 obtain⟨l,rfl,h3⟩:=PL (f:=f) (Q:=Q) fun x hx=>he d' x (h2 x hx)
 exact⟨nn,l,rfl,fun h=>by have:=h0 h;simpa using this,Yg (by simpa using h1),h3⟩
theorem AiD {d:Nat} {a:AV} (h:like Tryz.prog d 9 a):∃s:List UInt8,a=.str s∧Ln s:=by
 obtain⟨k,e1,h1⟩:=ZX Tryz.underlying9 h
 exact⟨k,e1,Yg h1⟩
theorem Afa {d:Nat} {a:AV} (h:like Tryz.prog d 63 a):∃v:GN,a=v.av∧v.ok:=by
 obtain⟨cs,rfl,h0⟩:=EU Tryz.underlying63 h
 obtain⟨d',rfl,g1,g2⟩:=Ep Tryz.underlying63 h0
 rw[AnU]at g1
 obtain⟨a,b,c,rfl⟩:=Atm g1
 clear g1
 simp only[List.forall_mem_cons]at g2
 obtain⟨f1,f2,f3,_⟩:=g2
 simp only[WI,Ae9,Ad5,List.drop_zero,List.drop_succ_cons,List.take_succ_cons,List.take_zero]at f1 f2 f3
 obtain⟨s,e1,h1⟩:=EF f1
 obtain⟨ln,L,e2,h2,h2a,h2b⟩:=Gz (f:=.str) (Q:=Ln) Tryz.underlying60 (fun d x h=>AiD h) f2
 obtain⟨pn,P,e3,h3,h3a,h3b⟩:=Gz (f:=GP.av) (Q:=GP.ok) Tryz.underlying61 (fun d x h=>Yr h) f3
 cases e1;cases e2;cases e3
 exact⟨⟨s,ln,L,pn,P⟩,rfl,h1,h2a,h2,h2b,h3a,h3,h3b⟩
theorem Afb {d:Nat} {a:AV} (h:like Tryz.prog d 95 a):∃v:GE,a=v.av∧v.ok:=by
 obtain⟨cs,rfl,h0⟩:=EU Tryz.underlying95 h
 obtain⟨d',rfl,g1,g2⟩:=Ep Tryz.underlying95 h0
 rw[AnV]at g1
 obtain⟨a,b,c,e,f,rfl⟩:=AqT g1
 clear g1
 simp only[List.forall_mem_cons]at g2
 obtain⟨f1,f2,f3,f4,f5,_⟩:=g2
 simp only[WI,Oz,Ad5,List.drop_zero,List.drop_succ_cons,List.take_succ_cons,List.take_zero]at f1 f2 f3 f4 f5
 obtain⟨k,e1,h1⟩:=EF f1
 obtain⟨n,e2,h2⟩:=EF f2
 obtain⟨m,e3,h3⟩:=EF f3
 obtain⟨s,e4,h4⟩:=Q8 f4
 obtain⟨pn,P,e5,h5,h5a,h5b⟩:=Gz (f:=GP.av) (Q:=GP.ok) Tryz.underlying61 (fun d x h=>Yr h) f5
 cases e1;cases e2;cases e3;cases e4;cases e5
 exact⟨⟨k,n,m,s,pn,P⟩,rfl,h1,h2,h3,h4,h5a,h5,h5b⟩
theorem PI {a:AV} (h:Like Tryz.prog 25 a):∃v:GG,a=v.av∧v.ok:=by
 obtain⟨d,h⟩:=h
 obtain⟨cs,rfl,h0⟩:=EU Tryz.underlying25 h
 obtain⟨d',rfl,g1,g2⟩:=Ep Tryz.underlying25 h0
 rw[AkM]at g1
 obtain⟨a,b,c,e,rfl⟩:=Atn g1
 clear g1
 simp only[List.forall_mem_cons]at g2
 obtain⟨f1,f2,f3,f4,_⟩:=g2
 simp only[WI,AkK,AkL,List.drop_zero,List.drop_succ_cons,List.take_succ_cons,List.take_zero]at f1 f2 f3 f4
 obtain⟨nn,N,e1,h1,h1a,h1b⟩:=Gz (f:=GN.av) (Q:=GN.ok) Tryz.underlying22 (fun d x h=>Afa h) f1
 obtain⟨en,E,e2,h2,h2a,h2b⟩:=Gz (f:=GE.av) (Q:=GE.ok) Tryz.underlying23 (fun d x h=>Afb h) f2
 obtain⟨m,e3,h3⟩:=EF f3
 obtain⟨k,e4,h4⟩:=EF f4
 cases e1;cases e2;cases e3;cases e4
 exact⟨⟨nn,N,en,E,m,k⟩,rfl,h1a,h1,h1b,h2a,h2,h2b,h3,h4⟩
theorem ArO {l:List (List UInt8)} {x:List UInt8} {nn:Bool} (hl:l.length<2^63):Af (Ad tab) 224 [.sl nn (vs .str l),.str x] (fun v=>∃z,v=.int .i64 z∧(0≤z↔x∈l)):=by
 refine Ac rfl rfl ?_
 (conv=>whnf);repeat' (first|(refine kA ?_;conv=>whnf)|(refine Br.mk (fun hc=>?_) fun hc=>?_<;>first|exact hc.elim|conv=>whnf)  |(refine kB ?_))
 refine Ae (fun m env s=>∃i:Nat,m=l.length-i∧env=[(0,.sl nn (vs .str l)),(1,.str x),(7,.int .i64 l.length),(8,.int .i64 i)]∧s=⟨[],0⟩∧x∉l.take i) ?_ _ _ _ ⟨0,rfl,by simp,rfl,by simp⟩
 rintro _ _ _ ⟨i,rfl,rfl,rfl,hx⟩
 refine⟨rfl,?_⟩
 (conv=>whnf);repeat' (first|(refine kA ?_;conv=>whnf)|(refine Br.mk (fun hc=>?_) fun hc=>?_<;>first|exact hc.elim|conv=>whnf)  |(refine kB ?_))
 ·subst hc;exact⟨_,rfl,by simp⟩
 ·exact again.mk ⟨_,by omega,i+1,rfl,rfl,rfl,nms (by omega) hx (fun h=>hc h.symm)⟩
 ·rw[CJ hc]at hx;exact⟨_,rfl,by simp[hx]⟩
theorem Agl {l:List (List UInt8)} {x:List UInt8} {nn:Bool} (hl:l.length<2^63):Af (Ad tab) 134 [.sl nn (vs .str l),.str x] (· =.bool (decide (x∈l))):=by
 refine Ac rfl rfl ?_
 (conv=>whnf);repeat' (first|(refine kA ?_;conv=>whnf)|(refine Br.mk (fun hc=>?_) fun hc=>?_<;>first|exact hc.elim|conv=>whnf)  |(refine kB ?_))
 refine Aa (ArO hl) ?_
 rintro _ ⟨z,rfl,hz⟩
 (conv=>whnf);repeat' (first|(refine kA ?_;conv=>whnf)|(refine Br.mk (fun hc=>?_) fun hc=>?_<;>first|exact hc.elim|conv=>whnf)  |(refine kB ?_))
 ·exact Bc (hz.1 hc)
 ·exact Am (mt hz.2 hc)
theorem Atj {l:List (List UInt8)} {x:List UInt8} {nn:Bool} (hl:l.length<2^63):Af (Ad tab) 124 [.sl nn (vs .str l),.str x] (· =.bool (decide (x∈l))):=by
 refine Ac rfl rfl ?_
 (conv=>whnf);repeat' (first|(refine kA ?_;conv=>whnf)|(refine Br.mk (fun hc=>?_) fun hc=>?_<;>first|exact hc.elim|conv=>whnf)  |(refine kB ?_))
 refine Ae (fun m env s=>∃i:Nat,m=l.length-i∧env=[(0,.sl nn (vs .str l)),(1,.str x),(5,.int .i64 i)]∧s=⟨[],0⟩∧x∉l.take i) ?_ _ _ _ ⟨0,rfl,rfl,rfl,by simp⟩
 rintro _ _ _ ⟨i,rfl,rfl,rfl,hx⟩
 refine⟨rfl,?_⟩
 (conv=>whnf);repeat' (first|(refine kA ?_;conv=>whnf)|(refine Br.mk (fun hc=>?_) fun hc=>?_<;>first|exact hc.elim|conv=>whnf)  |(refine kB ?_))
 ·subst hc;exact Bc (by simp)
 ·exact again.mk ⟨_,by omega,i+1,rfl,rfl,rfl,nms (by omega) hx hc⟩
 ·rw[CJ hc]at hx;exact Am hx
theorem IW {n:GN} {s:List UInt8} (hl:n.labels.length<2^63):Af (Ad tab) 61 [n.av,.str s] (· =.bool (decide (s∈n.labels))):=by
 refine Ac rfl rfl ?_
 (conv=>whnf);repeat' (first|(refine kA ?_;conv=>whnf)|(refine Br.mk (fun hc=>?_) fun hc=>?_<;>first|exact hc.elim|conv=>whnf)|(refine Bo (Atj hl) (fun hc=>?_) (fun hc=>?_)<;>conv=>whnf)|(refine kB ?_))
 all_goals first|exact Bc (by assumption)|exact Am (by assumption)
theorem Yk {n:GN} {s:List UInt8} (hl:n.labels.length<2^63):Af (Ad tab) 71 [n.av,.str s] (· =.bool (decide (s∈n.labels))):=by
 refine Ac rfl rfl ?_
 (conv=>whnf);repeat' (first|(refine kA ?_;conv=>whnf)|(refine Br.mk (fun hc=>?_) fun hc=>?_<;>first|exact hc.elim|conv=>whnf)|(refine Bo (Agl hl) (fun hc=>?_) (fun hc=>?_)<;>conv=>whnf)|(refine kB ?_))
 all_goals first|exact Bc (by assumption)|exact Am (by assumption)
structure CN where
 name:List UInt8
 n:Int
def CN.av (c:CN):AV:=.agg [.str c.name,.int .i64 c.n]
theorem Jj:∀c:CN,c.av.cells.length=2:=fun _=>rfl
def Um (x:List UInt8) (n:GN):Int:=if x∈n.labels then 1 else 0
def DX (N:List GN) (x:List UInt8):Int:=Ey (N.map (Um x))
theorem H8 {N:List GN} {x:List UInt8} {i:Nat} (h:i<N.length):DX (N.take (i+1)) x=DX (N.take i) x+Um x N[i]:=OC h
theorem Nr {N:List GN} {x:List UInt8}:0≤DX N x∧DX N x≤N.length:=by
 have:=Iy (l:=N) (f:=Um x) (c:=1) fun n _=>by unfold Um;split<;>omega
 unfold DX;omega
def W9 (x:List UInt8) (e:GE):Int:=if e.ty=x then 1 else 0
def BU (E:List GE) (x:List UInt8):Int:=Ey (E.map (W9 x))
theorem Dk {E:List GE} {x:List UInt8} {i:Nat} (h:i<E.length):BU (E.take (i+1)) x=BU (E.take i) x+W9 x E[i]:=OC h
theorem Ez {E:List GE} {x:List UInt8}:0≤BU E x∧BU E x≤E.length:=by
 have:=Iy (l:=E) (f:=W9 x) (c:=1) fun n _=>by unfold W9;split<;>omega
 unfold BU;omega
def cnts (f:List UInt8→Int) (R:List (List UInt8)):List CN:=R.map fun x=>⟨x,f x⟩
theorem Eh {f:List UInt8→Int} {R:List (List UInt8)} {i:Nat} (h:i<R.length):cnts f (R.take (i+1))=cnts f (R.take i)++[⟨R[i],f R[i]⟩]:=by
 unfold cnts
 rw[List.take_succ_eq_append_getElem h,List.map_append];rfl
theorem Asv {g:GG} (hg:g.ok) (hN:g.nodes.length≤2000) {x:List UInt8} {g1 g2 c:Nat} {nn:Bool} {R:List (List UInt8)} {v31 v32:Int} {o1 o2:Obj} {Q:AA→Env→Ap→Prop}
 (hQ:∀c' tl,Q (.exit 2) ([(1,.ref 0 0 0 0),(2,.ref 1 g1 0 0),(5,.ref 2 g2 0 0),(7,.str x),(8,.int .i64 (DX g.nodes x)),(30,.sl nn (vs .str R)),(31,.int .i64 v31),(32,.int .i64 v32)]++tl) ⟨[.arr 0 4 true true [g.av],o1,o2],c'⟩):
 Run (Ad tab) (.loop l32_0_h l32_0_b) [(1,.ref 0 0 0 0),(2,.ref 1 g1 0 0),(5,.ref 2 g2 0 0),(7,.str x),(8,.int .i64 0),(30,.sl nn (vs .str R)),(31,.int .i64 v31),(32,.int .i64 v32),(37,.sl g.nn (vs GN.av g.nodes)),(38,.int .i64 g.nodes.length),(39,.int .i64 0)] ⟨[.arr 0 4 true true [g.av],o1,o2],c⟩ Q:=by
 have hlab:∀n∈g.nodes,n.labels.length<2^63:=fun n hn=>(hg.2.2.1 n hn).2.1
 refine Ae (fun m env s=>∃(i c:Nat) (z:Int),m=g.nodes.length-i∧i≤g.nodes.length∧z=DX (g.nodes.take i) x∧env=[(1,.ref 0 0 0 0),(2,.ref 1 g1 0 0),(5,.ref 2 g2 0 0),(7,.str x),(8,.int .i64 z),(30,.sl nn (vs .str R)),(31,.int .i64 v31),(32,.int .i64 v32),(37,.sl g.nn (vs GN.av g.nodes)),(38,.int .i64 g.nodes.length),(39,.int .i64 i)]∧s=⟨[.arr 0 4 true true [g.av],o1,o2],c⟩) ?_ _ _ _ ⟨0,c,0,rfl,by omega,rfl,rfl,rfl⟩
 rintro _ _ _ ⟨i,c,z,rfl,hi,hz,rfl,rfl⟩
 refine⟨rfl,?_⟩
 by_cases hlt:i<g.nodes.length
 ·have hb:=@Nr (g.nodes.take i) x
  rw[List.length_take,←hz]at hb
  have h1:x∈(g.nodes[i]).labels→z+1=DX (g.nodes.take (i+1)) x:=fun h=>by rw[H8 hlt,hz,show Um x g.nodes[i]=1 from if_pos h]
  have h0:¬x∈(g.nodes[i]).labels→z=DX (g.nodes.take (i+1)) x:=fun h=>by rw[H8 hlt,hz,show Um x g.nodes[i]=0 from if_neg h,Int.add_zero]
  clear hz
  (conv=>whnf);repeat' (first|(refine Bo (Yk (hlab _ (List.getElem_mem hlt))) (fun hc=>?_) (fun hc=>?_)<;>conv=>whnf)|(refine kA ?_;conv=>whnf)|(refine Br.mk (fun hc=>?_) fun hc=>?_<;>first|exact hc.elim|conv=>whnf)|(refine kB ?_))
  ·exact again.mk ⟨_,by omega,i+1,_,_,rfl,by omega,h1 hc,rfl,rfl⟩
  ·exact again.mk ⟨_,by omega,i+1,_,z,rfl,by omega,h0 hc,rfl,rfl⟩
 ·rw[List.take_of_length_le (by omega)]at hz
  subst hz
  (conv=>whnf);repeat' (first  |(refine kA ?_;conv=>whnf)|(refine Br.mk (fun hc=>?_) fun hc=>?_<;>first|exact hc.elim|conv=>whnf)|(refine kB ?_))
  exact hQ _ _
theorem Asw {g:GG} (hg:g.ok) (hN:g.nodes.length≤2000) {x:List UInt8} {g1 g2 c:Nat} {nn:Bool} {R:List (List UInt8)} {v31 v32:Int} {o1 o2 o3:Obj} {Q:AA→Env→Ap→Prop}
 (hQ:∀c' tl,Q (.exit 2) ([(1,.ref 0 0 0 0),(2,.ref 1 g1 0 0),(5,.ref 2 g2 0 0),(7,.str x),(8,.int .i64 (DX g.nodes x)),(30,.sl nn (vs .str R)),(31,.int .i64 v31),(32,.int .i64 v32)]++tl) ⟨[.arr 0 4 true true [g.av],o1,o2,o3],c'⟩):
 Run (Ad tab) (.loop l32_0_h l32_0_b) [(1,.ref 0 0 0 0),(2,.ref 1 g1 0 0),(5,.ref 2 g2 0 0),(7,.str x),(8,.int .i64 0),(30,.sl nn (vs .str R)),(31,.int .i64 v31),(32,.int .i64 v32),(37,.sl g.nn (vs GN.av g.nodes)),(38,.int .i64 g.nodes.length),(39,.int .i64 0)] ⟨[.arr 0 4 true true [g.av],o1,o2,o3],c⟩ Q:=by
 have hlab:∀n∈g.nodes,n.labels.length<2^63:=fun n hn=>(hg.2.2.1 n hn).2.1
 refine Ae (fun m env s=>∃(i c:Nat) (z:Int),m=g.nodes.length-i∧i≤g.nodes.length∧z=DX (g.nodes.take i) x∧env=[(1,.ref 0 0 0 0),(2,.ref 1 g1 0 0),(5,.ref 2 g2 0 0),(7,.str x),(8,.int .i64 z),(30,.sl nn (vs .str R)),(31,.int .i64 v31),(32,.int .i64 v32),(37,.sl g.nn (vs GN.av g.nodes)),(38,.int .i64 g.nodes.length),(39,.int .i64 i)]∧s=⟨[.arr 0 4 true true [g.av],o1,o2,o3],c⟩) ?_ _ _ _ ⟨0,c,0,rfl,by omega,rfl,rfl,rfl⟩
 rintro _ _ _ ⟨i,c,z,rfl,hi,hz,rfl,rfl⟩
 refine⟨rfl,?_⟩
 by_cases hlt:i<g.nodes.length
 ·have hb:=@Nr (g.nodes.take i) x
  rw[List.length_take,←hz]at hb
  have h1:x∈(g.nodes[i]).labels→z+1=DX (g.nodes.take (i+1)) x:=fun h=>by rw[H8 hlt,hz,show Um x g.nodes[i]=1 from if_pos h]
  have h0:¬x∈(g.nodes[i]).labels→z=DX (g.nodes.take (i+1)) x:=fun h=>by rw[H8 hlt,hz,show Um x g.nodes[i]=0 from if_neg h,Int.add_zero]
  clear hz
  (conv=>whnf);repeat' (first|(refine Bo (Yk (hlab _ (List.getElem_mem hlt))) (fun hc=>?_) (fun hc=>?_)<;>conv=>whnf)|(refine kA ?_;conv=>whnf)|(refine Br.mk (fun hc=>?_) fun hc=>?_<;>first|exact hc.elim|conv=>whnf)|(refine kB ?_))
  ·exact again.mk ⟨_,by omega,i+1,_,_,rfl,by omega,h1 hc,rfl,rfl⟩
  ·exact again.mk ⟨_,by omega,i+1,_,z,rfl,by omega,h0 hc,rfl,rfl⟩
 ·rw[List.take_of_length_le (by omega)]at hz
  subst hz
  (conv=>whnf);repeat' (first  |(refine kA ?_;conv=>whnf)|(refine Br.mk (fun hc=>?_) fun hc=>?_<;>first|exact hc.elim|conv=>whnf)|(refine kB ?_))
  exact hQ _ _
theorem AoS {g:GG} (hN:g.edges.length≤4000) {x:List UInt8} {g1 g2 c:Nat} {nn:Bool} {R:List (List UInt8)} {v31 v32:Int} {o1 o2:Obj} {Q:AA→Env→Ap→Prop}
 (hQ:∀c' tl,Q (.exit 6) ([(1,.ref 0 0 0 0),(2,.ref 1 g1 0 0),(5,.ref 2 g2 0 0),(12,.str x),(13,.int .i64 (BU g.edges x)),(59,.sl nn (vs .str R)),(60,.int .i64 v31),(61,.int .i64 v32)]++tl) ⟨[.arr 0 4 true true [g.av],o1,o2],c'⟩):
 Run (Ad tab) (.loop l32_2_h l32_2_b) [(1,.ref 0 0 0 0),(2,.ref 1 g1 0 0),(5,.ref 2 g2 0 0),(12,.str x),(13,.int .i64 0),(59,.sl nn (vs .str R)),(60,.int .i64 v31),(61,.int .i64 v32),(66,.sl g.en (vs GE.av g.edges)),(67,.int .i64 g.edges.length),(68,.int .i64 0)] ⟨[.arr 0 4 true true [g.av],o1,o2],c⟩ Q:=by
 refine Ae (fun m env s=>∃(i c:Nat) (z:Int),m=g.edges.length-i∧i≤g.edges.length∧z=BU (g.edges.take i) x∧env=[(1,.ref 0 0 0 0),(2,.ref 1 g1 0 0),(5,.ref 2 g2 0 0),(12,.str x),(13,.int .i64 z),(59,.sl nn (vs .str R)),(60,.int .i64 v31),(61,.int .i64 v32),(66,.sl g.en (vs GE.av g.edges)),(67,.int .i64 g.edges.length),(68,.int .i64 i)]∧s=⟨[.arr 0 4 true true [g.av],o1,o2],c⟩) ?_ _ _ _ ⟨0,c,0,rfl,by omega,rfl,rfl,rfl⟩
 rintro _ _ _ ⟨i,c,z,rfl,hi,hz,rfl,rfl⟩
 refine⟨rfl,?_⟩
 by_cases hlt:i<g.edges.length
 ·have hb:=@Ez (g.edges.take i) x
  rw[List.length_take,←hz]at hb
  have h1:(g.edges[i]).ty=x→z+1=BU (g.edges.take (i+1)) x:=fun h=>by rw[Dk hlt,hz,show W9 x g.edges[i]=1 from if_pos h]
  have h0:¬(g.edges[i]).ty=x→z=BU (g.edges.take (i+1)) x:=fun h=>by rw[Dk hlt,hz,show W9 x g.edges[i]=0 from if_neg h,Int.add_zero]
  clear hz
  (conv=>whnf);repeat' (first  |(refine kA ?_;conv=>whnf)|(refine Br.mk (fun hc=>?_) fun hc=>?_<;>first|exact hc.elim|conv=>whnf)|(refine kB ?_))
  ·exact again.mk ⟨_,by omega,i+1,_,_,rfl,by omega,h1 hc,rfl,rfl⟩
  ·exact again.mk ⟨_,by omega,i+1,_,z,rfl,by omega,h0 hc,rfl,rfl⟩
 ·rw[List.take_of_length_le (by omega)]at hz
  subst hz
  (conv=>whnf);repeat' (first  |(refine kA ?_;conv=>whnf)|(refine Br.mk (fun hc=>?_) fun hc=>?_<;>first|exact hc.elim|conv=>whnf)|(refine kB ?_))
  exact hQ _ _
theorem AoU {g:GG} (hN:g.edges.length≤4000) {x:List UInt8} {g1 g2 c:Nat} {nn:Bool} {R:List (List UInt8)} {v31 v32:Int} {o1 o2 o3:Obj} {Q:AA→Env→Ap→Prop}
 (hQ:∀c' tl,Q (.exit 6) ([(1,.ref 0 0 0 0),(2,.ref 1 g1 0 0),(5,.ref 2 g2 0 0),(12,.str x),(13,.int .i64 (BU g.edges x)),(59,.sl nn (vs .str R)),(60,.int .i64 v31),(61,.int .i64 v32)]++tl) ⟨[.arr 0 4 true true [g.av],o1,o2,o3],c'⟩):
 Run (Ad tab) (.loop l32_2_h l32_2_b) [(1,.ref 0 0 0 0),(2,.ref 1 g1 0 0),(5,.ref 2 g2 0 0),(12,.str x),(13,.int .i64 0),(59,.sl nn (vs .str R)),(60,.int .i64 v31),(61,.int .i64 v32),(66,.sl g.en (vs GE.av g.edges)),(67,.int .i64 g.edges.length),(68,.int .i64 0)] ⟨[.arr 0 4 true true [g.av],o1,o2,o3],c⟩ Q:=by
 refine Ae (fun m env s=>∃(i c:Nat) (z:Int),m=g.edges.length-i∧i≤g.edges.length∧z=BU (g.edges.take i) x∧env=[(1,.ref 0 0 0 0),(2,.ref 1 g1 0 0),(5,.ref 2 g2 0 0),(12,.str x),(13,.int .i64 z),(59,.sl nn (vs .str R)),(60,.int .i64 v31),(61,.int .i64 v32),(66,.sl g.en (vs GE.av g.edges)),(67,.int .i64 g.edges.length),(68,.int .i64 i)]∧s=⟨[.arr 0 4 true true [g.av],o1,o2,o3],c⟩) ?_ _ _ _ ⟨0,c,0,rfl,by omega,rfl,rfl,rfl⟩
 rintro _ _ _ ⟨i,c,z,rfl,hi,hz,rfl,rfl⟩
 refine⟨rfl,?_⟩
 by_cases hlt:i<g.edges.length
 ·have hb:=@Ez (g.edges.take i) x
  rw[List.length_take,←hz]at hb
  have h1:(g.edges[i]).ty=x→z+1=BU (g.edges.take (i+1)) x:=fun h=>by rw[Dk hlt,hz,show W9 x g.edges[i]=1 from if_pos h]
  have h0:¬(g.edges[i]).ty=x→z=BU (g.edges.take (i+1)) x:=fun h=>by rw[Dk hlt,hz,show W9 x g.edges[i]=0 from if_neg h,Int.add_zero]
  clear hz
  (conv=>whnf);repeat' (first  |(refine kA ?_;conv=>whnf)|(refine Br.mk (fun hc=>?_) fun hc=>?_<;>first|exact hc.elim|conv=>whnf)|(refine kB ?_))
  ·exact again.mk ⟨_,by omega,i+1,_,_,rfl,by omega,h1 hc,rfl,rfl⟩
  ·exact again.mk ⟨_,by omega,i+1,_,z,rfl,by omega,h0 hc,rfl,rfl⟩
 ·rw[List.take_of_length_le (by omega)]at hz
  subst hz
  (conv=>whnf);repeat' (first  |(refine kA ?_;conv=>whnf)|(refine Br.mk (fun hc=>?_) fun hc=>?_<;>first|exact hc.elim|conv=>whnf)|(refine kB ?_))
  exact hQ _ _
theorem AoT {g:GG} (hN:g.edges.length≤4000) {x:List UInt8} {g1 g2 c:Nat} {nn:Bool} {R:List (List UInt8)} {v31 v32:Int} {o1 o2 o3 o4 o5:Obj} {Q:AA→Env→Ap→Prop}
 (hQ:∀c' tl,Q (.exit 6) ([(1,.ref 0 0 0 0),(2,.ref 1 g1 0 0),(5,.ref 2 g2 0 0),(12,.str x),(13,.int .i64 (BU g.edges x)),(59,.sl nn (vs .str R)),(60,.int .i64 v31),(61,.int .i64 v32)]++tl) ⟨[.arr 0 4 true true [g.av],o1,o2,o3,o4,o5],c'⟩):
 Run (Ad tab) (.loop l32_2_h l32_2_b) [(1,.ref 0 0 0 0),(2,.ref 1 g1 0 0),(5,.ref 2 g2 0 0),(12,.str x),(13,.int .i64 0),(59,.sl nn (vs .str R)),(60,.int .i64 v31),(61,.int .i64 v32),(66,.sl g.en (vs GE.av g.edges)),(67,.int .i64 g.edges.length),(68,.int .i64 0)] ⟨[.arr 0 4 true true [g.av],o1,o2,o3,o4,o5],c⟩ Q:=by
 refine Ae (fun m env s=>∃(i c:Nat) (z:Int),m=g.edges.length-i∧i≤g.edges.length∧z=BU (g.edges.take i) x∧env=[(1,.ref 0 0 0 0),(2,.ref 1 g1 0 0),(5,.ref 2 g2 0 0),(12,.str x),(13,.int .i64 z),(59,.sl nn (vs .str R)),(60,.int .i64 v31),(61,.int .i64 v32),(66,.sl g.en (vs GE.av g.edges)),(67,.int .i64 g.edges.length),(68,.int .i64 i)]∧s=⟨[.arr 0 4 true true [g.av],o1,o2,o3,o4,o5],c⟩) ?_ _ _ _ ⟨0,c,0,rfl,by omega,rfl,rfl,rfl⟩
 rintro _ _ _ ⟨i,c,z,rfl,hi,hz,rfl,rfl⟩
 refine⟨rfl,?_⟩
 by_cases hlt:i<g.edges.length
 ·have hb:=@Ez (g.edges.take i) x
  rw[List.length_take,←hz]at hb
  have h1:(g.edges[i]).ty=x→z+1=BU (g.edges.take (i+1)) x:=fun h=>by rw[Dk hlt,hz,show W9 x g.edges[i]=1 from if_pos h]
  have h0:¬(g.edges[i]).ty=x→z=BU (g.edges.take (i+1)) x:=fun h=>by rw[Dk hlt,hz,show W9 x g.edges[i]=0 from if_neg h,Int.add_zero]
  clear hz
  (conv=>whnf);repeat' (first  |(refine kA ?_;conv=>whnf)|(refine Br.mk (fun hc=>?_) fun hc=>?_<;>first|exact hc.elim|conv=>whnf)|(refine kB ?_))
  ·exact again.mk ⟨_,by omega,i+1,_,_,rfl,by omega,h1 hc,rfl,rfl⟩
  ·exact again.mk ⟨_,by omega,i+1,_,z,rfl,by omega,h0 hc,rfl,rfl⟩
 ·rw[List.take_of_length_le (by omega)]at hz
  subst hz
  (conv=>whnf);repeat' (first  |(refine kA ?_;conv=>whnf)|(refine Br.mk (fun hc=>?_) fun hc=>?_<;>first|exact hc.elim|conv=>whnf)|(refine kB ?_))
  exact hQ _ _
theorem AoV {g:GG} (hN:g.edges.length≤4000) {x:List UInt8} {g1 g2 c:Nat} {nn:Bool} {R:List (List UInt8)} {v31 v32:Int} {o1 o2 o3 o4 o5 o6:Obj} {Q:AA→Env→Ap→Prop}
 (hQ:∀c' tl,Q (.exit 6) ([(1,.ref 0 0 0 0),(2,.ref 1 g1 0 0),(5,.ref 2 g2 0 0),(12,.str x),(13,.int .i64 (BU g.edges x)),(59,.sl nn (vs .str R)),(60,.int .i64 v31),(61,.int .i64 v32)]++tl) ⟨[.arr 0 4 true true [g.av],o1,o2,o3,o4,o5,o6],c'⟩):
 Run (Ad tab) (.loop l32_2_h l32_2_b) [(1,.ref 0 0 0 0),(2,.ref 1 g1 0 0),(5,.ref 2 g2 0 0),(12,.str x),(13,.int .i64 0),(59,.sl nn (vs .str R)),(60,.int .i64 v31),(61,.int .i64 v32),(66,.sl g.en (vs GE.av g.edges)),(67,.int .i64 g.edges.length),(68,.int .i64 0)] ⟨[.arr 0 4 true true [g.av],o1,o2,o3,o4,o5,o6],c⟩ Q:=by
 refine Ae (fun m env s=>∃(i c:Nat) (z:Int),m=g.edges.length-i∧i≤g.edges.length∧z=BU (g.edges.take i) x∧env=[(1,.ref 0 0 0 0),(2,.ref 1 g1 0 0),(5,.ref 2 g2 0 0),(12,.str x),(13,.int .i64 z),(59,.sl nn (vs .str R)),(60,.int .i64 v31),(61,.int .i64 v32),(66,.sl g.en (vs GE.av g.edges)),(67,.int .i64 g.edges.length),(68,.int .i64 i)]∧s=⟨[.arr 0 4 true true [g.av],o1,o2,o3,o4,o5,o6],c⟩) ?_ _ _ _ ⟨0,c,0,rfl,by omega,rfl,rfl,rfl⟩
 rintro _ _ _ ⟨i,c,z,rfl,hi,hz,rfl,rfl⟩
 refine⟨rfl,?_⟩
 by_cases hlt:i<g.edges.length
 ·have hb:=@Ez (g.edges.take i) x
  rw[List.length_take,←hz]at hb
  have h1:(g.edges[i]).ty=x→z+1=BU (g.edges.take (i+1)) x:=fun h=>by rw[Dk hlt,hz,show W9 x g.edges[i]=1 from if_pos h]
  have h0:¬(g.edges[i]).ty=x→z=BU (g.edges.take (i+1)) x:=fun h=>by rw[Dk hlt,hz,show W9 x g.edges[i]=0 from if_neg h,Int.add_zero]
  clear hz
  (conv=>whnf);repeat' (first  |(refine kA ?_;conv=>whnf)|(refine Br.mk (fun hc=>?_) fun hc=>?_<;>first|exact hc.elim|conv=>whnf)|(refine kB ?_))
  ·exact again.mk ⟨_,by omega,i+1,_,_,rfl,by omega,h1 hc,rfl,rfl⟩
  ·exact again.mk ⟨_,by omega,i+1,_,z,rfl,by omega,h0 hc,rfl,rfl⟩
 ·rw[List.take_of_length_le (by omega)]at hz
  subst hz
  (conv=>whnf);repeat' (first  |(refine kA ?_;conv=>whnf)|(refine Br.mk (fun hc=>?_) fun hc=>?_<;>first|exact hc.elim|conv=>whnf)|(refine kB ?_))
  exact hQ _ _
abbrev vi (l:List Int):List AV:=vs (.int .i64) l
def desc (l:List Int):Prop:=l.Pairwise (fun x y=>y≤x)
theorem TF:∀{a b:List Int},a.Perm b→desc a→desc b→a=b
 |[],b,hp,_,_=>(List.nil_perm.1 hp).symm
 |x::a,[],hp,_,_=>absurd (List.perm_nil.1 hp) (by simp)
 |x::a,y::b,hp,h1,h2=>by
  have h1':=List.pairwise_cons.1 h1
  have h2':=List.pairwise_cons.1 h2
  have hxy:x=y:=by
   rcases List.mem_cons.1 (hp.mem_iff.1 (List.mem_cons_self ..))with e|h
   ·exact e
   rcases List.mem_cons.1 (hp.mem_iff.2 (List.mem_cons_self ..))with e|h'
   ·exact e.symm
   have:=h1'.1 y h'
   have:=h2'.1 x h
   omega
  subst hxy
  rw[TF (List.Perm.cons_inv hp) h1'.2 h2'.2]
def dot:List Int→List Int→Int
 |x::X,y::Y=>x*y+dot X Y
 |_,_=>0
@[simp] theorem Arr (Y:List Int):dot [] Y=0:=by cases Y<;>rfl
@[simp] theorem AqF (X:List Int):dot X []=0:=by cases X<;>rfl
def Ae7 {α:Type} (k:α→Int) (a:α):List α→List α
 |[]=>[a]
 |b::l=>if k b≤k a then a::b::l else b::Ae7 k a l
def sortB {α:Type} (k:α→Int):List α→List α
 |[]=>[]
 |a::l=>Ae7 k a (sortB k l)
theorem Tf {α:Type} {k:α→Int} {a:α}:∀{l:List α},(Ae7 k a l).Perm (a::l)
 |[]=>List.Perm.refl _
 |b::l=>by
  unfold Ae7
  split
  ·exact List.Perm.refl _
  ·exact(List.Perm.cons b Tf).trans (List.Perm.swap a b l)
theorem L9 {α:Type} {k:α→Int}:∀{l:List α},(sortB k l).Perm l
 |[]=>List.Perm.refl _
 |a::l=>Tf.trans (List.Perm.cons a L9)
theorem Yj {α:Type} {k:α→Int} {a:α}:∀{l:List α},l.Pairwise (fun x y=>k y≤k x)→(Ae7 k a l).Pairwise (fun x y=>k y≤k x)
 |[],_=>List.pairwise_singleton ..
 |b::l,h=>by
  have h':=List.pairwise_cons.1 h
  unfold Ae7
  split
  ·rename_i hc
   refine List.pairwise_cons.2 ⟨fun y hy=>?_,h⟩
   rcases List.mem_cons.1 hy with rfl|hy
   ·exact hc
   ·have:=h'.1 y hy;omega
  ·rename_i hc
   refine List.pairwise_cons.2 ⟨fun y hy=>?_,Yj h'.2⟩
   rcases List.mem_cons.1 (Tf.mem_iff.1 hy)with rfl|hy
   ·omega
   ·exact h'.1 y hy
theorem PG {α:Type} {k:α→Int}:∀{l:List α},(sortB k l).Pairwise (fun x y=>k y≤k x)
 |[]=>List.Pairwise.nil
 |a::l=>Yj PG
section
open Go.Sort
section
variable {α:Type} [Inhabited α] {f:α→AV}
theorem nP {d:Array α} {z:Int} (i:Nat) (hz:z=i) (h:i<d.size):nth (vs f d.toList) (Int.toNat z)=some (f d[i]!):=by
 rw[nVz i hz (by simpa using h)]
 simp[h]
omit [Inhabited α]in
theorem tP {es:Nat} (hf:∀x,(f x).cells.length=es) {d:Array α} {z:Int} (i:Nat) (hz:z=i) {x y:α}:(vs f d.toList).set (Int.toNat z) (BN (f y) 0 (f x))=vs f (d.setIfInBounds i x).toList:=by
 subst hz
 have e:BN (f y) 0 (f x)=f x:=by
  unfold BN
  rw[if_pos ⟨rfl,by rw[hf,hf]⟩]
 rw[e]
 show(vs f d.toList).set i (f x)=_
 simp[vs,List.map_set]
theorem DT {d:Array α} {z:Int} {K:AV→Prop} (i:Nat) (k:K (f d[i]!)) (hz:z=i:=by omega) (h:i<d.size:=by first|omega|(simp;omega)):Bq (vs f d.toList) (Int.toNat z) K:=Aq (nP i hz h) k
omit [Inhabited α]in
theorem Hl {es:Nat} (hf:∀x,(f x).cells.length=es) {d:Array α} {z:Int} {x y:α} {K:List AV→Prop} (i:Nat) (k:K (vs f (d.setIfInBounds i x).toList)) (hz:z=i:=by omega):eqK ((vs f d.toList).set (Int.toNat z) (BN (f y) 0 (f x))) K:=BG (tP hf i hz) k
@[simp] theorem VY (d:Array α) (i j:Nat):(swp d i j).size=d.size:=by simp[swp]
variable {lt:α→α→Bool} {a b i j hi first root:Nat} {d:Array α}
theorem Z9 (h1:a<j+1) (h2:lt d[j+1]! d[j]! =true):insInner lt a (j+1) d=insInner lt a j (swp d (j+1) j):=by
 rw[insInner,if_pos (by simp[h1,h2])]
theorem Qs (h:a<j+1→lt d[j+1]! d[j]! =false):insInner lt a (j+1) d=d:=by
 rw[insInner,if_neg]
 simp only[Bool.and_eq_true,decide_eq_true_eq,not_and]
 intro h1 h2
 rw[h h1]at h2;cases h2
theorem Ac4 (h:i<b):insOuter lt a b i d=insOuter lt a b (i+1) (insInner lt a i d):=by rw[insOuter,if_pos h]
theorem Ac5 (h:¬i<b):insOuter lt a b i d=d:=by rw[insOuter,if_neg h]
@[simp] theorem AaG:∀{j:Nat} {d:Array α},(insInner lt a j d).size=d.size
 |0,d=>rfl
 |j+1,d=>by
  rw[insInner]
  split
  ·rw[AaG,VY]
  ·rfl
theorem Ve (h:hi≤2*root+1):siftDown lt hi first root d=d:=by
 rw[siftDown,dif_pos h]
theorem Ago (h:2*root+1+1<hi) (h1:lt d[first+(2*root+1)]! d[first+(2*root+1)+1]! =true) (h2:lt d[first+root]! d[first+(2*root+2)]! =true):
 siftDown lt hi first root d=siftDown lt hi first (2*root+2) (swp d (first+root) (first+(2*root+2))):=by
 rw[siftDown,dif_neg (by omega),if_pos (by simp[h,h1]),if_neg (by simp[h2]),dif_pos (by omega)]
theorem Ac6 (h:2*root+1+1<hi) (h1:lt d[first+(2*root+1)]! d[first+(2*root+1)+1]! =true) (h2:lt d[first+root]! d[first+(2*root+2)]! =false):
 siftDown lt hi first root d=d:=by
 rw[siftDown,dif_neg (by omega),if_pos (by simp[h,h1]),if_pos (by simp[h2])]
theorem YN (h:¬hi≤2*root+1) (h1:2*root+1+1<hi→lt d[first+(2*root+1)]! d[first+(2*root+1)+1]! =false) (h2:lt d[first+root]! d[first+(2*root+1)]! =true):
 siftDown lt hi first root d=siftDown lt hi first (2*root+1) (swp d (first+root) (first+(2*root+1))):=by
 rw[siftDown,dif_neg h,if_neg,if_neg (by simp[h2])]
 simp only[Bool.and_eq_true,decide_eq_true_eq,not_and]
 intro h3 h4
 rw[h1 h3]at h4;cases h4
theorem Uu (h:¬hi≤2*root+1) (h1:2*root+1+1<hi→lt d[first+(2*root+1)]! d[first+(2*root+1)+1]! =false) (h2:lt d[first+root]! d[first+(2*root+1)]! =false):
 siftDown lt hi first root d=d:=by
 rw[siftDown,dif_neg h,if_neg,if_pos (by simp[h2])]
 simp only[Bool.and_eq_true,decide_eq_true_eq,not_and]
 intro h3 h4
 rw[h1 h3]at h4;cases h4
theorem AaH {lt:α→α→Bool} {hi first:Nat}:∀(n root:Nat) (d:Array α),hi-root≤n→(siftDown lt hi first root d).size=d.size:=by
 intro n
 induction n with
 |zero=>intro root d h;rw[Ve (by omega)]
 |succ n ih=>
  intro root d h
  rw[siftDown]
  split
  ·rfl
  ·split
   ·split
    ·rfl
    ·split
     ·rw[ih _ _ (by omega),VY]
     ·rfl
   ·split
    ·rfl
    ·rw[ih _ _ (by omega),VY]
@[simp] theorem Aju:(siftDown lt hi first root d).size=d.size:=AaH (hi-root) root d (Nat.le_refl _)
@[simp] theorem Y1:∀{k:Nat} {d:Array α},(heapBuild lt hi first k d).size=d.size
 |0,d=>rfl
 |k+1,d=>by rw[heapBuild,Y1,Aju]
end
theorem IE {AP:Nat→Option Jh} {f:Nat} {args:List AV} {b:Bool} {K:AV→Prop} (h:Af AP f args (· =.bool b)) (h1:b=true→K (.bool true)) (h2:b=false→K (.bool false)):Aan AP f args K:=by
 refine Aa h ?_
 rintro _ rfl
 cases b with
 |true=>exact h1 rfl
 |false=>exact h2 rfl
theorem Nz {z:Int} {K:AV→Prop} (n k:Nat) (hz:z=n) (h:n<2^63) (h2:K (.int .i64 ((n / k:Nat):Int))):JQ .i64 (z.tdiv k) K:=by
 subst hz
 have e:(n:Int).tdiv k=((n / k:Nat):Int):=by
  rw[Int.tdiv_eq_ediv_of_nonneg (by omega)];rfl
 rw[e]
 have h3:n / k≤n:=Nat.div_le_self ..
 revert h2 h3 e
 generalize n / k=m
 intro h2 e h3
 exact BQ (wrap_i64 (by omega) (by omega)) h2
end
section
open Go.Sort
theorem Acg {k:IntKind} {z:Int} (hk:k.signed=false) (h:0≤z) (h2:z<2 ^ k.bits):k.wrap z=z:=by
 simp only[IntKind.wrap,hk,Bool.false_and,Bool.false_eq_true,if_false]
 exact Int.emod_eq_of_lt h h2
theorem wrapN {k:IntKind} {z:Int} {K:AV→Prop} (n:Nat) (hk:k.signed=false) (hz:z=n) (h:n<2 ^ k.bits) (h2:K (.int k n)):JQ k z K:=by
 subst hz
 refine BQ (Acg hk (by omega) ?_) h2
 exact_mod_cast h
theorem Dn {n:Nat} (k:Nat) (h:2 ^ k≤n):bitsLen (n / 2 ^ k)+k=bitsLen n:=by
 have h0:k<bitsLen n:=by
  rcases Nat.lt_or_ge k (bitsLen n)with h1|h1
  ·exact h1
  ·have:=(bitsLen_le_iff n k).1 h1;omega
 have e1:bitsLen (n / 2 ^ k)≤bitsLen n-k:=by
  rw[bitsLen_le_iff,Nat.div_lt_iff_lt_mul (Nat.two_pow_pos k),←Nat.pow_add,Nat.sub_add_cancel (by omega)]
  exact lt_two_pow_bitsLen n
 have e2:bitsLen n≤bitsLen (n / 2 ^ k)+k:=by
  rw[bitsLen_le_iff,Nat.pow_add,←Nat.div_lt_iff_lt_mul (Nat.two_pow_pos k)]
  exact lt_two_pow_bitsLen _
 omega
def Ach:List UInt8:=[0,1,2,2,3,3,3,3,4,4,4,4,4,4,4,4]++List.replicate 16 5++List.replicate 32 6++List.replicate 64 7++List.replicate 128 8
theorem Aci:(List.range 256).all (fun n=>nth Ach n==some (UInt8.ofNat (bitsLen n))&&Nat.ble (bitsLen n) 8)=true:=by decide +kernel
theorem X5 {n:Nat} (h:n<256):nth Ach n=some (UInt8.ofNat (bitsLen n))∧bitsLen n≤8:=by
 have:=List.all_eq_true.1 Aci n (List.mem_range.2 h)
 rw[Bool.and_eq_true]at this
 exact⟨by simpa using this.1,Nat.le_of_ble_eq_true this.2⟩
theorem ApA (n:Nat):((n:Int)).fdiv (2 ^ (min (Int.toNat 32) IntKind.u64.bits))=((n / 2 ^ 32:Nat):Int):=by
 rw[show (2:Int) ^ (min (Int.toNat 32) IntKind.u64.bits)=4294967296 by rfl,Int.fdiv_eq_ediv_of_nonneg _ (by omega)]
 rfl
theorem ApB (n:Nat):((n:Int)).fdiv (2 ^ (min (Int.toNat 16) IntKind.u64.bits))=((n / 2 ^ 16:Nat):Int):=by
 rw[show (2:Int) ^ (min (Int.toNat 16) IntKind.u64.bits)=65536 by rfl,Int.fdiv_eq_ediv_of_nonneg _ (by omega)]
 rfl
theorem AsF (n:Nat):((n:Int)).fdiv (2 ^ (min (Int.toNat 8) IntKind.u64.bits))=((n / 2 ^ 8:Nat):Int):=by
 rw[show (2:Int) ^ (min (Int.toNat 8) IntKind.u64.bits)=256 by rfl,Int.fdiv_eq_ediv_of_nonneg _ (by omega)]
 rfl
theorem AmK {m:Nat} (h:m≤8):(UInt8.ofNat m).toNat=m:=by
 rw[UInt8.toNat_ofNat']
 exact Nat.mod_eq_of_lt (by omega)
set_option maxRecDepth 100000 in
theorem AsG {n:Nat} {K:UInt8→Prop} (hn:n<256) (h:bitsLen n≤8→K (UInt8.ofNat (bitsLen n))):Bq Ach (Int.toNat (n:Int)) K:=
 Aq (X5 hn).1 (h (X5 hn).2)
set_option maxRecDepth 100000 in
theorem ApC {n:Nat} (h:n<2^64):Af (Ad tab) 217 [.int .u64 n] (· =.int .i64 (bitsLen n)):=by
 refine Ac rfl rfl ?_
 (conv=>whnf);repeat' (first|(apply BG;(· first|exact ApA _|exact ApB _|exact AsF _);conv=>whnf)|(refine wrapN _ rfl rfl (by show _<256;omega) ?_;conv=>whnf)|(refine AsG (by omega) (fun hb=>?_);rw[AmK hb];conv=>whnf)|(refine kA ?_;conv=>whnf)|(refine Br.mk (fun hc=>?_) fun hc=>?_<;>first|exact hc.elim|conv=>whnf)|(refine kB ?_))
 all_goals
  show AV.int _ _=_
  congr 1
  first
   |(rw [← Dn 32 (n:=n) (by omega),←Dn 16 (n:=n / 2 ^ 32) (by omega),←Dn 8 (n:=n / 2 ^ 32 / 2 ^ 16) (by omega)];omega)
   |(rw [← Dn 32 (n:=n) (by omega),←Dn 16 (n:=n / 2 ^ 32) (by omega)];omega)
   |(rw [← Dn 32 (n:=n) (by omega),←Dn 8 (n:=n / 2 ^ 32) (by omega)];omega)
   |(rw [← Dn 32 (n:=n) (by omega)];omega)
   |(rw [← Dn 16 (n:=n) (by omega),←Dn 8 (n:=n / 2 ^ 16) (by omega)];omega)
   |(rw [← Dn 16 (n:=n) (by omega)];omega)
   |(rw [← Dn 8 (n:=n) (by omega)];omega)
   |omega
theorem U2 {n:Nat} (h:n<2^63):Af (Ad tab) 121 [.int .u64 n] (· =.int .i64 (bitsLen n)):=by
 refine Ac rfl rfl ?_
 (conv=>whnf);repeat' (first|(refine Aa (ApC (n:=n) (by omega)) ?_;rintro _ rfl;conv=>whnf)|(refine kA ?_;conv=>whnf)|(refine Br.mk (fun hc=>?_) fun hc=>?_<;>first|exact hc.elim|conv=>whnf)|(refine kB ?_))
 rfl
theorem X6 {n:Nat} (h:n<2^62) (h0:0<n):Af (Ad tab) 272 [.int .i64 n] (fun v=>∃M:Nat,v=.int .u64 M∧n<M∧M≤2*n):=by
 have h1:=lt_two_pow_bitsLen n
 have h2:=two_pow_bitsLen_le h0
 have h3:bitsLen n≤62:=(bitsLen_le_iff n 62).2 h
 refine Ac rfl rfl ?_
 (conv=>whnf);repeat' (first|(refine wrapN n rfl rfl (by show n<2^64;omega) ?_;conv=>whnf)|(refine Aa (U2 (n:=n) (by omega)) ?_;rintro _ rfl;conv=>whnf)|(refine wrapN (2 ^ bitsLen n) rfl ?_ (by show _<2^64;omega) ?_;(· rw[Int.one_mul,Int.toNat_natCast,Nat.min_eq_left (by show _≤64;omega)];simp);conv=>whnf)|(refine kA ?_;conv=>whnf)|(refine Br.mk (fun hc=>?_) fun hc=>?_<;>first|exact hc.elim|conv=>whnf)|(refine kB ?_))
 exact⟨_,rfl,h1,h2⟩
section
variable {α:Type} [Inhabited α] {lt:α→α→Bool} {a b i j:Nat} {d:Array α}
theorem ZC (h:i<b) (h2:lt d[i]! d[i-1]! =false):scanSorted lt d b i=scanSorted lt d b (i+1):=by
 rw[scanSorted,if_pos (by simp[h,h2])]
theorem L6 (h:i<b→lt d[i]! d[i-1]! =true):scanSorted lt d b i=i:=by
 rw[scanSorted,if_neg]
 simp only[Bool.and_eq_true,decide_eq_true_eq,not_and]
 intro h1 h2
 rw[h h1]at h2;cases h2
theorem AfT (h:lt d[j+1]! d[j]! =true):shiftDown lt (j+1) d=shiftDown lt j (swp d (j+1) j):=by
 rw[shiftDown,if_neg (by simp[h])]
theorem ZE (h:lt d[j+1]! d[j]! =false):shiftDown lt (j+1) d=d:=by
 rw[shiftDown,if_pos (by simp[h])]
theorem AfV (h0:j<b) (h:lt d[j]! d[j-1]! =true):shiftUp lt b j d=shiftUp lt b (j+1) (swp d j (j-1)):=by
 rw[shiftUp,if_pos h0,if_neg (by simp[h])]
theorem Qk (h:j<b→lt d[j]! d[j-1]! =false):shiftUp lt b j d=d:=by
 rw[shiftUp]
 split
 ·rename_i h0
  rw[if_pos (by simp[h h0])]
 ·rfl
@[simp] theorem AmL:∀{j:Nat} {d:Array α},(shiftDown lt j d).size=d.size
 |0,d=>rfl
 |j+1,d=>by
  rw[shiftDown]
  split
  ·rfl
  ·rw[AmL,VY]
theorem AdA:∀(n j:Nat) (d:Array α),b-j≤n→(shiftUp lt b j d).size=d.size
 |0,j,d,h=>by rw[shiftUp,if_neg (by omega)]
 |n+1,j,d,h=>by
  rw[shiftUp]
  split
  ·split
   ·rfl
   ·rw[AdA n _ _ (by omega),VY]
  ·rfl
@[simp] theorem AsH:(shiftUp lt b j d).size=d.size:=AdA (b-j) j d (Nat.le_refl _)
@[simp] theorem Ari:(fixDown lt a i d).size=d.size:=by unfold fixDown;split<;>simp
@[simp] theorem Arj:(fixUp lt b i d).size=d.size:=by unfold fixUp;split<;>simp
variable {p:α→Bool}
theorem RN (h:i≤j) (h2:p d[i]! =true):scanUp p d j i=scanUp p d j (i+1):=by
 rw[scanUp,if_pos (by simp[h,h2])]
theorem FB (h:i≤j→p d[i]! =false):scanUp p d j i=i:=by
 rw[scanUp,if_neg]
 simp only[Bool.and_eq_true,decide_eq_true_eq,not_and]
 intro h1 h2
 rw[h h1]at h2;cases h2
theorem RP (h:i≤j+1) (h2:p d[j+1]! =true):scanDown p d i (j+1)=scanDown p d i j:=by
 rw[scanDown,if_pos (by simp[h,h2])]
theorem FC (h:i≤j→p d[j]! =false):scanDown p d i j=j:=by
 cases j with
 |zero=>rfl
 |succ j=>
  rw[scanDown,if_neg]
  simp only[Bool.and_eq_true,decide_eq_true_eq,not_and]
  intro h1 h2
  rw[h h1]at h2;cases h2
end
theorem GU {AP:Nat→Option Jh} {a b:AZ} {env:Env} {s:Ap} {Q:AA→Env→Ap→Prop} (h:vC AP a env s (NI (fun env s=>vC AP b env s Q) Q)):vC AP (.seq a b) env s Q:=h
theorem AdB {α:Type} [Inhabited α] {L:List α} {D:Array α} {len:Nat} (hl:L.length=len) (h:PermIn 0 len L.toArray D):D.toList.Perm L:=by
 obtain⟨h1,_,h3⟩:=h
 have e1:D.size=len:=by rw[h1];simpa using hl
 have e2:(D.extract 0 len).toList=D.toList:=by rw[← e1];simp
 have e3:(L.toArray.extract 0 len).toList=L:=by rw[← hl];simp
 rw[e2,e3]at h3
 exact h3
theorem X7 {α:Type} [Inhabited α] {lt:α→α→Bool} {D:Array α} {len:Nat} (hl:D.size=len) (h:SortedIn lt 0 len D):D.toList.Pairwise (fun x y=>lt y x=false):=by
 rw[List.pairwise_iff_getElem]
 intro i j hi hj hij
 have:=h i j (Nat.zero_le _) hij (by simpa[hl]using hj)
 simp only[Array.length_toList]at hi hj
 rw[getElem!_pos D j hj,getElem!_pos D i hi]at this
 simpa using this
end
theorem nan {x:Int}:Af (Ad tab) 237 [.int .i64 x] (· =.bool (decide False)):=by
 refine Ac rfl rfl ?_
 (conv=>whnf);repeat' (first  |(refine kA ?_;conv=>whnf)|(refine Br.mk (fun hc=>?_) fun hc=>?_<;>first|exact hc.elim|conv=>whnf)|(refine kB ?_))
 all_goals first|exact absurd rfl hc|rfl
def C9 (x y:Int):Int:=if x<y then -1 else if y<x then 1 else 0
theorem compare {x y:Int}:Af (Ad tab) 150 [.int .i64 x,.int .i64 y] (· =.int .i64 (C9 x y)):=by
 refine Ac rfl rfl ?_
 (conv=>whnf);repeat' (first|(refine Bo nan (fun hc=>absurd hc id) (fun _=>?_);conv=>whnf)|(refine kA ?_;conv=>whnf)|(refine Br.mk (fun hc=>?_) fun hc=>?_<;>first|exact hc.elim|conv=>whnf)|(refine kB ?_))
 all_goals unfold C9;first|(rw [if_pos (by omega)];rfl)|(rw [if_neg (by omega),if_pos (by omega)];rfl)|(rw [if_neg (by omega),if_neg (by omega)];rfl)
theorem NY {x y:Int}:C9 x y<0↔x<y:=by unfold C9;split<;>(try split)<;>omega
theorem DK {x y:Int}:C9 x y=0↔x=y:=by unfold C9;split<;>(try split)<;>omega
end AI
end Go.Proofs.YtceiccjppfapjaaGreatDoor
