/- The arguments of the graph laws, taken apart: values, properties, nodes, edges, graphs. A value in a list of values. What a change leaves alone: plain. Changes as arguments. Looking for the first. The reference looks up nodes and edges. The budget of a graph; names and types; entries. Looking for the first: good properties. Small values. A value cloned reads as the value. Clones: they read as what was cloned. The program looks up nodes and edges. Comparing two numbers. Sorting in place: lists of a store against arrays of the library's plain sort. math/bits.Len and the next power of two. Orders: lexicographic, of numbers, of strings; the first that is not 0. Names: the program's and the reference's. value.Plain and the reference's Plain: which values may be stored. Valid values, and values that are alike: plain. Valid fractions: the program's. -/
import Derived.Test.YthnehejdkajjhaaGreatDoorBMab
import Derived.Test.YthnehejdkajjhaaGreatDoorBMaa
import Derived.Test.YthnehejdkajjhaaGreatDoorKGrCode
import Derived.Sort.AssemblyPlain
import Derived.Test.YthnehejdkajjhaaGreatDoorKMab
set_option linter.unusedVariables false
set_option maxRecDepth 4000
namespace Go.Proofs.YthnehejdkajjhaaGreatDoor
namespace AI
structure GV where
 k:Int
 n:Int
 d:Int
 s:List UInt8
 nn:Bool
 l:List AV
def GV.av (v:GV):AV:=.agg [.int .i64 v.k,.int .i64 v.n,.int .i64 v.d,.str v.s,.sl v.nn v.l]
structure GP where
 key:List UInt8
 v:GV
def GP.av (p:GP):AV:=.agg [.str p.key,.int .i64 p.v.k,.int .i64 p.v.n,.int .i64 p.v.d,.str p.v.s,.sl p.v.nn p.v.l]
structure GN where
 id:Int
 ln:Bool
 labels:List (List UInt8)
 pn:Bool
 props:List GP
def GN.av (n:GN):AV:=.agg [.int .i64 n.id,.sl n.ln (vs .str n.labels),.sl n.pn (vs GP.av n.props)]
structure GE where
 id:Int
 fr:Int
 to:Int
 ty:List UInt8
 pn:Bool
 props:List GP
def GE.av (n:GE):AV:=.agg [.int .i64 n.id,.int .i64 n.fr,.int .i64 n.to,.str n.ty,.sl n.pn (vs GP.av n.props)]
structure GG where
 nn:Bool
 nodes:List GN
 en:Bool
 edges:List GE
 BF:Int
 BA:Int
def GG.av (g:GG):AV:=.agg [.sl g.nn (vs GN.av g.nodes),.sl g.en (vs GE.av g.edges),.int .i64 g.BF,.int .i64 g.BA]
def I64 (z:Int):Prop:=-2^63≤z∧z<2^63
def Ln {α:Type} (l:List α):Prop:=l.length<2^63
def GV.ok (v:GV):Prop:=I64 v.k∧I64 v.n∧I64 v.d∧Ln v.s∧Ln v.l∧(v.nn=false→v.l=[])∧∀x∈v.l,Like Tryz.prog 51 x
def GP.ok (p:GP):Prop:=Ln p.key∧p.v.ok
def GN.ok (n:GN):Prop:=I64 n.id∧Ln n.labels∧(n.ln=false→n.labels=[])∧(∀ s∈n.labels,Ln s)∧Ln n.props∧(n.pn=false→n.props=[])∧∀p∈n.props,p.ok
def GE.ok (e:GE):Prop:=I64 e.id∧I64 e.fr∧I64 e.to∧Ln e.ty∧Ln e.props∧(e.pn=false→e.props=[])∧∀p∈e.props,p.ok
def GG.ok (g:GG):Prop:=Ln g.nodes∧(g.nn=false→g.nodes=[])∧(∀ n∈g.nodes,n.ok)∧Ln g.edges∧(g.en=false→g.edges=[])∧(∀ e∈g.edges,e.ok)∧I64 g.BF∧I64 g.BA
theorem Abu:Tryz.prog.cellsOf 3=1:=by kernel_rfl
theorem RZ:Tryz.prog.cellsOf 9=1:=by kernel_rfl
theorem AfX:Tryz.prog.cellsOf 45=1:=by kernel_rfl
theorem Ajo:Tryz.prog.cellsOf 49=1:=by kernel_rfl
theorem ZO:Tryz.prog.cellsOf 51=5:=by kernel_rfl
theorem ApH:Tryz.prog.cellsOf 115=6:=by kernel_rfl
theorem AeP:Tryz.prog.cellsOf 46=1:=by kernel_rfl
theorem ApI:Tryz.prog.cellsOf 48=3:=by kernel_rfl
theorem AlY:Tryz.prog.cellsOf 22=1:=by kernel_rfl
theorem ApJ:Tryz.prog.cellsOf 89=5:=by kernel_rfl
theorem AlZ:Tryz.prog.cellsOf 23=1:=by kernel_rfl
theorem Al0:Tryz.prog.cellsOf 25=4:=by kernel_rfl
theorem AvK {l:List AV} (h:l.length=3):∃a b c,l=[a,b,c]:=by
 rcases l with _|⟨a,_|⟨b,_|⟨c,_|⟨d,r⟩⟩⟩⟩<;>simp at h
 exact⟨a,b,c,rfl⟩
theorem AvL {l:List AV} (h:l.length=4):∃a b c d,l=[a,b,c,d]:=by
 rcases l with _|⟨a,_|⟨b,_|⟨c,_|⟨d,_|⟨e,r⟩⟩⟩⟩⟩<;>simp at h
 exact⟨a,b,c,d,rfl⟩
theorem As9 {l:List AV} (h:l.length=5):∃a b c d e,l=[a,b,c,d,e]:=by
 rcases l with _|⟨a,_|⟨b,_|⟨c,_|⟨d,_|⟨e,_|⟨f,r⟩⟩⟩⟩⟩⟩<;>simp at h
 exact⟨a,b,c,d,e,rfl⟩
theorem Arv {l:List AV} (h:l.length=6):∃a b c d e f,l=[a,b,c,d,e,f]:=by
 rcases l with _|⟨a,_|⟨b,_|⟨c,_|⟨d,_|⟨e,_|⟨f,_|⟨g,r⟩⟩⟩⟩⟩⟩⟩<;>simp at h
 exact⟨a,b,c,d,e,f,rfl⟩
theorem ApK {n:Int} (h:(Lit.int .i64 n).wf=true):I64 n:=by
 simp[Lit.wf]at h
 have h1:IntKind.i64.min=-2^63:=by rfl
 have h2:IntKind.i64.max=2^63-1:=by rfl
 unfold I64
 omega
theorem Abv {α:Type} {l:List α} (h:l.length≤maxLen):Ln l:=by unfold Ln;have:=Afm;omega
theorem G5 {d:Nat} {cs:List AV} (h:Ea Tryz.prog d 3 cs):∃n,cs=[.int .i64 n]∧I64 n:=by
 obtain⟨k,e1,h1⟩:=Yu Tryz.underlying3 h
 exact⟨k,e1,ApK h1⟩
theorem Vq {d:Nat} {cs:List AV} (h:Ea Tryz.prog d 9 cs):∃n,cs=[.str n]∧Ln n:=by
 obtain⟨k,e1,h1⟩:=RH Tryz.underlying9 h
 exact⟨k,e1,Abv h1⟩
theorem OV {d:Nat} {cs:List AV} (h:Ea Tryz.prog d 51 cs):∃v:GV,cs=[.int .i64 v.k,.int .i64 v.n,.int .i64 v.d,.str v.s,.sl v.nn v.l]∧v.ok:=by
 obtain⟨d',rfl,g1,g2⟩:=GZ Tryz.underlying51 h
 rw[ZO]at g1
 obtain⟨a,b,c,e,f,rfl⟩:=As9 g1
 clear g1
 simp only[List.forall_mem_cons]at g2
 obtain⟨f1,f2,f3,f4,f5,_⟩:=g2
 simp only[Abu,RZ,Ajo,List.drop_zero,List.drop_succ_cons,List.take_succ_cons,List.take_zero]at f1 f2 f3 f4 f5
 obtain⟨k,e1,h1⟩:=G5 f1
 obtain⟨n,e2,h2⟩:=G5 f2
 obtain⟨m,e3,h3⟩:=G5 f3
 obtain⟨s,e4,h4⟩:=Vq f4
 obtain⟨d'',_,nl,xs,e5,h5,h6,h7⟩:=OM Tryz.underlying49 f5
 cases e1;cases e2;cases e3;cases e4;cases e5
 exact⟨⟨k,n,m,s,nl,xs⟩,rfl,h1,h2,h3,h4,Abv h6,h5,fun x hx=>⟨_,h7 x hx⟩⟩
theorem Ady {a:AV} (h:Like Tryz.prog 51 a):∃v:GV,a=v.av∧v.ok:=by
 obtain⟨d,h⟩:=h
 obtain⟨cs,rfl,h0⟩:=Ia Tryz.underlying51 h
 obtain⟨v,rfl,h1⟩:=OV h0
 exact⟨v,rfl,h1⟩
theorem Zd {d:Nat} {a:AV} (h:like Tryz.prog d 115 a):∃v:GP,a=v.av∧v.ok:=by
 obtain⟨cs,rfl,h0⟩:=Ia Tryz.underlying115 h
 obtain⟨d',rfl,g1,g2⟩:=GZ Tryz.underlying115 h0
 rw[ApH]at g1
 obtain⟨a,b,c,e,f,g,rfl⟩:=Arv g1
 clear g1
 simp only[List.forall_mem_cons]at g2
 obtain⟨f1,f2,_⟩:=g2
 simp only[RZ,ZO,List.drop_zero,List.drop_succ_cons,List.take_succ_cons,List.take_zero]at f1 f2
 obtain⟨s,e1,h1⟩:=Vq f1
 obtain⟨v,e2,h2⟩:=OV f2
 cases e1;cases e2
 exact⟨⟨s,v⟩,rfl,h1,h2⟩
theorem MP {α:Type} {f:α→AV} {Q:α→Prop} {d:Nat} {t e:TypeId} {cs:List AV} (hu:Tryz.prog.underlying t=some (.slice e)) (he:∀d x,like Tryz.prog d e x→∃y,x=f y∧Q y) (h:Ea Tryz.prog d t cs):
 ∃nn l,cs=[.sl nn (vs f l)]∧(nn=false→l=[])∧Ln l∧∀y∈l,Q y:=by
 obtain⟨d',rfl,nn,xs,rfl,h0,h1,h2⟩:=OM hu h
 obtain⟨l,rfl,h3⟩:=QD (f:=f) (Q:=Q) fun x hx=>he d' x (h2 x hx)
 exact⟨nn,l,rfl,fun h=>by have:=h0 h;simpa using this,Abv (by simpa using h1),h3⟩
theorem Ajp {d:Nat} {a:AV} (h:like Tryz.prog d 9 a):∃s:List UInt8,a=.str s∧Ln s:=by
 obtain⟨k,e1,h1⟩:=Abn Tryz.underlying9 h
 exact⟨k,e1,Abv h1⟩
theorem AfY {d:Nat} {a:AV} (h:like Tryz.prog d 48 a):∃v:GN,a=v.av∧v.ok:=by
 obtain⟨cs,rfl,h0⟩:=Ia Tryz.underlying48 h
 obtain⟨d',rfl,g1,g2⟩:=GZ Tryz.underlying48 h0
 rw[ApI]at g1
 obtain⟨a,b,c,rfl⟩:=AvK g1
 clear g1
 simp only[List.forall_mem_cons]at g2
 obtain⟨f1,f2,f3,_⟩:=g2
 simp only[Abu,AfX,AeP,List.drop_zero,List.drop_succ_cons,List.take_succ_cons,List.take_zero]at f1 f2 f3
 obtain⟨s,e1,h1⟩:=G5 f1
 obtain⟨ln,L,e2,h2,h2a,h2b⟩:=MP (f:=.str) (Q:=Ln) Tryz.underlying45 (fun d x h=>Ajp h) f2
 obtain⟨pn,P,e3,h3,h3a,h3b⟩:=MP (f:=GP.av) (Q:=GP.ok) Tryz.underlying46 (fun d x h=>Zd h) f3
 cases e1;cases e2;cases e3
 exact⟨⟨s,ln,L,pn,P⟩,rfl,h1,h2a,h2,h2b,h3a,h3,h3b⟩
theorem AfZ {d:Nat} {a:AV} (h:like Tryz.prog d 89 a):∃v:GE,a=v.av∧v.ok:=by
 obtain⟨cs,rfl,h0⟩:=Ia Tryz.underlying89 h
 obtain⟨d',rfl,g1,g2⟩:=GZ Tryz.underlying89 h0
 rw[ApJ]at g1
 obtain⟨a,b,c,e,f,rfl⟩:=As9 g1
 clear g1
 simp only[List.forall_mem_cons]at g2
 obtain⟨f1,f2,f3,f4,f5,_⟩:=g2
 simp only[Abu,RZ,AeP,List.drop_zero,List.drop_succ_cons,List.take_succ_cons,List.take_zero]at f1 f2 f3 f4 f5
 obtain⟨k,e1,h1⟩:=G5 f1
 obtain⟨n,e2,h2⟩:=G5 f2
 obtain⟨m,e3,h3⟩:=G5 f3
 obtain⟨s,e4,h4⟩:=Vq f4
 obtain⟨pn,P,e5,h5,h5a,h5b⟩:=MP (f:=GP.av) (Q:=GP.ok) Tryz.underlying46 (fun d x h=>Zd h) f5
 cases e1;cases e2;cases e3;cases e4;cases e5
 exact⟨⟨k,n,m,s,pn,P⟩,rfl,h1,h2,h3,h4,h5a,h5,h5b⟩
theorem NC {a:AV} (h:Like Tryz.prog 25 a):∃v:GG,a=v.av∧v.ok:=by
 obtain⟨d,h⟩:=h
 obtain⟨cs,rfl,h0⟩:=Ia Tryz.underlying25 h
 obtain⟨d',rfl,g1,g2⟩:=GZ Tryz.underlying25 h0
 rw[Al0]at g1
 obtain⟨a,b,c,e,rfl⟩:=AvL g1
 clear g1
 simp only[List.forall_mem_cons]at g2
 obtain⟨f1,f2,f3,f4,_⟩:=g2
 simp only[Abu,AlY,AlZ,List.drop_zero,List.drop_succ_cons,List.take_succ_cons,List.take_zero]at f1 f2 f3 f4
 obtain⟨nn,N,e1,h1,h1a,h1b⟩:=MP (f:=GN.av) (Q:=GN.ok) Tryz.underlying22 (fun d x h=>AfY h) f1
 obtain⟨en,E,e2,h2,h2a,h2b⟩:=MP (f:=GE.av) (Q:=GE.ok) Tryz.underlying23 (fun d x h=>AfZ h) f2
 obtain⟨m,e3,h3⟩:=G5 f3
 obtain⟨k,e4,h4⟩:=G5 f4
 cases e1;cases e2;cases e3;cases e4
 exact⟨⟨nn,N,en,E,m,k⟩,rfl,h1a,h1,h1b,h2a,h2,h2b,h3,h4⟩
theorem Nz {l:List AV} (h:∀x∈l,Like Tryz.prog 51 x) (i:Nat):
 ∃g:GV,∀hi:i<l.length,nth l (Int.toNat (Nat.cast i))=some g.av∧l[i]=g.av∧g.ok:=by
 by_cases hi:i<l.length
 ·obtain⟨g,e,hg⟩:=Ady (h _ (List.getElem_mem hi))
  exact⟨g,fun _=>⟨by rw[← e];exact nR hi,e,hg⟩⟩
 ·exact⟨⟨0,0,0,[],true,[]⟩,fun h=>absurd h hi⟩
structure GC where
 op:Int
 id:Int
 fr:Int
 to:Int
 name:List UInt8
 v:GV
def GC.av (c:GC):AV:=.agg [.int .i64 c.op,.int .i64 c.id,.int .i64 c.fr,.int .i64 c.to,.str c.name,.int .i64 c.v.k,.int .i64 c.v.n,.int .i64 c.v.d,.str c.v.s,.sl c.v.nn c.v.l]
def GC.ok (c:GC):Prop:=I64 c.op∧I64 c.id∧I64 c.fr∧I64 c.to∧Ln c.name∧c.v.ok
def AmZ (ns:List Int) (N:List GN):List GN:=N.filter fun n=>decide (n.id∉ns)
def Am0 (es:List Int) (E:List GE):List GE:=E.filter fun e=>decide (e.id∉es)
theorem Xe:∀n:GN,n.av.cells.length=3:=fun _=>rfl
theorem cellsE:∀n:GE,n.av.cells.length=5:=fun _=>rfl
theorem Uf:∀n:GP,n.av.cells.length=6:=fun _=>rfl
def Ug (ns es:List Int) (g h:GG):Prop:=AmZ ns h.nodes=AmZ ns g.nodes∧Am0 es h.edges=Am0 es g.edges
theorem Ug.refl (ns es:List Int) (g:GG):Ug ns es g g:=⟨rfl,rfl⟩
theorem Ug.trans {ns es:List Int} {g h k:GG} (h1:Ug ns es g h) (h2:Ug ns es h k):Ug ns es g k:=⟨h2.1.trans h1.1,h2.2.trans h1.2⟩
theorem Pg {α:Type} {p:α→Bool} {l:List α} {i:Nat} (hi:i<l.length) (h:∀x∈l.take i,p x=false) (hp:p l[i]=true):l.find? p=some l[i]:=by
 have e:l=l.take i++l[i]::l.drop (i+1):=by rw[← List.drop_eq_getElem_cons hi,List.take_append_drop]
 have h1:(l.take i).find? p=none:=List.find?_eq_none.2 fun x hx=>by simp[h x hx]
 refine(congrArg (List.find? p) e).trans ?_
 rw[List.find?_append,h1,List.find?_cons_of_pos hp]
 rfl
theorem Pj {α:Type} {p:α→Bool} {l:List α} (h:∀x∈l,p x=false):l.find? p=none:=List.find?_eq_none.2 fun x hx=>by simp[h x hx]
theorem Ph {α:Type} {p:α→Bool} {l:List α} {i:Nat} (hi:i<l.length) (h:∀x∈l.take i,p x=false) (hp:p l[i]=false):∀x∈l.take (i+1),p x=false:=Cb hi h hp
def N0:GN:=⟨0,false,[],false,[]⟩
def E0:GE:=⟨0,0,0,[],false,[]⟩
def X9 (id:Int) (n:GN):Bool:=decide (n.id=id)
def XI (id:Int) (n:GE):Bool:=decide (n.id=id)
def Jj (l:List GN) (id:Int):AV:=match l.find? (X9 id)with
 |some n=>.BG [n.av,.bool true]
 |none=>.BG [N0.av,.bool false]
def JE (l:List GE) (id:Int):AV:=match l.find? (XI id)with
 |some n=>.BG [n.av,.bool true]
 |none=>.BG [E0.av,.bool false]
theorem AdD {g:GG} (hl:g.nodes.length<2^63) {id:Int}:Ag (Ac tab) 70 [g.av,.int .i64 id] (· =Jj g.nodes id):=by
 refine Ad rfl rfl ?_
 (conv=>whnf);repeat' (first|refine kA ?_;conv=>whnf|(apply Br.mk<;>intro hc<;>first|exact hc.elim|conv=>whnf)  |refine kB ?_)
 refine Af (fun m env s=>∃i:Nat,m=g.nodes.length-i∧(∀ x∈g.nodes.take i,X9 id x=false)∧env=[(1,.int .i64 id),(2,.ref 0 0 0 0),(4,.ref 1 1 0 0),(6,.int .i64 i)]∧s=⟨[.arr 0 4 true true [g.av],.arr 1 3 true true [.agg [.int .i64 0,.sl false [],.sl false []]]],2⟩) ?_ _ _ _ ⟨0,rfl,by simp,rfl,rfl⟩
 rintro _ _ _ ⟨i,rfl,hx,rfl,rfl⟩
 refine⟨rfl,?_⟩
 (conv=>whnf);repeat' (first|refine kA ?_;conv=>whnf|(apply Br.mk<;>intro hc<;>first|exact hc.elim|conv=>whnf)  |refine kB ?_)
 ·rw[Jj,Pg (by omega) hx (decide_eq_true hc)];rfl
 ·exact again.mk ⟨_,by omega,i+1,rfl,Ph (by omega) hx (decide_eq_false hc),rfl,rfl⟩
 ·rw[CQ hc]at hx
  rw[Jj,Pj hx];rfl
theorem Amd {g:GG} (hl:g.edges.length<2^63) {id:Int}:Ag (Ac tab) 71 [g.av,.int .i64 id] (· =JE g.edges id):=by
 refine Ad rfl rfl ?_
 (conv=>whnf);repeat' (first|refine kA ?_;conv=>whnf|(apply Br.mk<;>intro hc<;>first|exact hc.elim|conv=>whnf)  |refine kB ?_)
 refine Af (fun m env s=>∃i:Nat,m=g.edges.length-i∧(∀ x∈g.edges.take i,XI id x=false)∧env=[(1,.int .i64 id),(2,.ref 0 0 0 0),(4,.ref 1 1 0 0),(6,.int .i64 i)]∧s=⟨[.arr 0 4 true true [g.av],.arr 1 5 true true [.agg [.int .i64 0,.int .i64 0,.int .i64 0,.str [],.sl false []]]],2⟩) ?_ _ _ _ ⟨0,rfl,by simp,rfl,rfl⟩
 rintro _ _ _ ⟨i,rfl,hx,rfl,rfl⟩
 refine⟨rfl,?_⟩
 (conv=>whnf);repeat' (first|refine kA ?_;conv=>whnf|(apply Br.mk<;>intro hc<;>first|exact hc.elim|conv=>whnf)  |refine kB ?_)
 ·rw[JE,Pg (by omega) hx (decide_eq_true hc)];rfl
 ·exact again.mk ⟨_,by omega,i+1,rfl,Ph (by omega) hx (decide_eq_false hc),rfl,rfl⟩
 ·rw[CQ hc]at hx
  rw[JE,Pj hx];rfl
def GY:Nat→AV→Prop
 |0,_=>False
 |d+1,a=>∃g:GV,a=g.av∧g.ok∧g.s.length≤101000∧g.l.length≤2000∧∀x∈g.l,GY d x
theorem wei:∀(d:Nat),d≤12→∀{g:GV} (hg:g.ok) {left:Int} (h1:-184467440737095530≤left) (h2:left≤2000),
 Ag (Ac tab) 31 [g.av,.int .i64 left,.int .i64 d] (fun v=>∃r,v=.int .i64 r∧-368934881474191048≤r∧r≤1999∧(0≤r→r+1≤left∧GY d g.av)):=by
 intro d
 induction d with
 |zero=>
  intro _ g hg left h1 h2
  obtain⟨g1,g2,g3,g4,g5,g6,g7⟩:=hg
  unfold Ln at g4 g5
  refine Ad rfl rfl ?_
  (conv=>whnf);repeat' (first|refine kA ?_;conv=>whnf|(apply Br.mk<;>intro hc<;>first|exact hc.elim|conv=>whnf)|(refine WB (by omega) ?_;conv=>whnf)|refine kB ?_)
  all_goals exact⟨_,rfl,by omega,by omega,fun h=>absurd h (by omega)⟩
 |succ d ih=>
  intro hd g hg left h1 h2
  obtain⟨g1,g2,g3,g4,g5,g6,g7⟩:=hg
  unfold Ln at g4 g5
  refine Ad rfl rfl ?_
  (conv=>whnf);repeat' (first|refine kA ?_;conv=>whnf|(apply Br.mk<;>intro hc<;>first|exact hc.elim|conv=>whnf)|(refine WB (by omega) ?_;conv=>whnf)|refine kB ?_)
  have hw:∀{g:GV} (hg:g.ok) {left:Int} (h1:-184467440737095530≤left) (h2:left≤2000),
        Ag (Ac tab) 31 [g.av,.int .i64 left,.int .i64 (((d+1:Nat):Int)-1)] (fun v=>∃r,v=.int .i64 r∧-368934881474191048≤r∧r≤1999∧(0≤r→r+1≤left∧GY d g.av)):=by
   rw[show ((d+1:Nat):Int)-1=(d:Int) by omega]
   exact ih (by omega)
  refine Af (fun m env s=>∃(i:Nat) (cur:Int),m=g.l.length-i∧env=[(1,.int .i64 cur),(2,.int .i64 (d+1:Nat)),(3,.ref 0 0 0 0),(7,.int .i64 i)]∧s=⟨[.arr 0 5 true true [g.av]],1⟩∧
   -368934881474191048≤cur∧cur≤1999∧(0≤cur→cur+i+g.s.length / 50+1≤left∧∀x∈g.l.take i,GY d x)) ?_ _ _ _ ⟨0,_,rfl,rfl,rfl,by omega,by omega,fun h=>⟨by omega,by simp⟩⟩
  rintro _ _ _ ⟨i,cur,rfl,rfl,rfl,b1,b2,hx⟩
  refine⟨rfl,?_⟩
  obtain⟨gx,hgx⟩:=Nz g7 i
  (conv=>whnf);repeat' (first|refine kA ?_;conv=>whnf|(apply Br.mk<;>intro hc<;>first|exact hc.elim|conv=>whnf)|(apply Au;(· exact(hgx (by omega)).1);conv=>whnf)|refine kB ?_)
  ·obtain⟨_,ge,gl⟩:=hgx (by omega)
   refine Aa (hw gl (by omega) (by omega)) ?_
   rintro _ ⟨r,rfl,r1,r2,r3⟩
   (conv=>whnf);repeat' (first|refine kA ?_;conv=>whnf|(apply Br.mk<;>intro hc<;>first|exact hc.elim|conv=>whnf)  |refine kB ?_)
   exact again.mk ⟨_,by omega,i+1,r,rfl,rfl,rfl,by omega,by omega,fun h=>⟨by have:=hx (by omega);have:=r3 h;omega,Cb (by omega) (hx (by omega)).2 (ge▸(r3 h).2)⟩⟩
  ·exact⟨_,rfl,by omega,by omega,fun h=>absurd h (by omega)⟩
  ·refine⟨_,rfl,by omega,by omega,fun h=>?_⟩
   obtain⟨x1,x2⟩:=hx h
   rw[CQ hc]at x2
   exact⟨by omega,g,rfl,⟨g1,g2,g3,g4,g5,g6,g7⟩,by omega,by omega,x2⟩
def IK (ps:List GP):Prop:=ps.length≤2000∧∀p∈ps,p.ok∧GY 12 p.v.av
theorem Z9 {d:Nat} {a:AV} (h:GY d a):∃g:GV,a=g.av∧g.ok∧g.l.length≤2000∧∃d',d=d'+1∧∀x∈g.l,GY d' x:=by
 cases d with
 |zero=>cases h
 |succ d=>
  obtain⟨g,e,h1,h2,h3,h4⟩:=h
  exact⟨g,e,h1,h3,d,rfl,h4⟩
theorem Als {d:Nat} {l:List AV} (h:∀x∈l,GY d x) (i:Nat):∃g:GV,∀hi:i<l.length,nth l (Int.toNat (Nat.cast i))=some g.av∧l[i]=g.av∧g.ok∧GY d g.av:=by
 by_cases hi:i<l.length
 ·obtain⟨g,e,hg,_⟩:=Z9 (h _ (List.getElem_mem hi))
  exact⟨g,fun _=>⟨by rw[← e];exact nR hi,e,hg,e▸h _ (List.getElem_mem hi)⟩⟩
 ·exact⟨⟨0,0,0,[],true,[]⟩,fun h=>absurd h hi⟩
theorem Lr {g es:Nat} {ys:List AV} {bytes:Nat} {K:Nat→Bool→Bool→List AV→Prop} (hs:BN es ys) (hr:ys.length*bytes≤2 ^ 46) (h:K ys.length true true ys):
 La g g es es 0 true true true [] ys bytes K:=by
 refine⟨⟨rfl,rfl,by simp,hs,?_⟩,?_⟩
 ·rw[Nat.zero_add];exact hr
 ·rw[Nat.zero_add];exact h
theorem Amc:Am (Ac tab) 272 [.sl false []] ⟨[],0⟩ fun out _=>out=.ok (.sl false []):=by
 refine Ah rfl rfl ?_
 (conv=>whnf);repeat' (first|refine kA ?_;conv=>whnf|(apply Br.mk<;>intro hc<;>first|exact hc.elim|conv=>whnf)  |refine kB ?_)
 rfl
theorem ApV {l:List AV} (hs:BN 5 l) (hl:l.length≤2000):Am (Ac tab) 272 [.sl true l] ⟨[],0⟩ fun out s'=>∃o g,out=.ok (.own o g 0 l.length)∧nth s'.σ o=some (.arr g 5 true true l):=by
 refine Ah rfl rfl ?_
 (conv=>whnf);repeat' (first|refine kA ?_;conv=>whnf|(apply Br.mk<;>intro hc<;>first|exact hc.elim|conv=>whnf)  |refine kB ?_)
 refine Lr hs (by omega) ?_
 (conv=>whnf);repeat' (first|refine kA ?_;conv=>whnf|(apply Br.mk<;>intro hc<;>first|exact hc.elim|conv=>whnf)  |refine kB ?_)
 exact⟨_,_,rfl,rfl⟩
theorem Af9 {d:Nat} {l:List AV} (h:∀x∈l,GY d x):BN 5 l:=by
 intro x hx
 obtain⟨g,rfl,_⟩:=Z9 (h x hx)
 rfl
theorem Ze {l:List AV} {z:Nat} {x:AV} (h:nth l z=some x):l.set z x=l:=by
 rw[Bl]at h
 obtain⟨hz,rfl⟩:=List.getElem?_eq_some_iff.1 h
 exact List.set_getElem_self hz
theorem Ajs (l:List AV):sub l 0 l.length=l:=by unfold sub;exact List.take_of_length_le (by simp)
theorem Aga {d:Nat} {g:GV} (hg:g.ok) (h2:g.l.length≤2000) (h3:∀x∈g.l,GY d x) (ih:∀{g:GV},g.ok→GY d g.av→Ag (Ac tab) 242 [g.av] (· =g.av)):
 Ag (Ac tab) 242 [g.av] (· =g.av):=by
 obtain⟨g1,g2,g3,g4,g5,g6,g7⟩:=hg
 obtain⟨k,n,dd,s,nn,l⟩:=g
 simp only at*
 cases nn with
 |false=>
  obtain rfl:=g6 rfl
  refine Ad rfl rfl ?_
  (conv=>whnf);repeat' (first|refine kA ?_;conv=>whnf|(apply Br.mk<;>intro hc<;>first|exact hc.elim|conv=>whnf)  |refine kB ?_)
  refine WR rfl Amc ?_
  (conv=>whnf);repeat' (first|refine kA ?_;conv=>whnf|(apply Br.mk<;>intro hc<;>first|exact hc.elim|conv=>whnf)  |refine kB ?_)
  refine Ue ?_ rfl
  (conv=>whnf);repeat' (first|refine kA ?_;conv=>whnf|(apply Br.mk<;>intro hc<;>first|exact hc.elim|conv=>whnf)  |refine kB ?_)
  rfl
 |true=>
  refine Ad rfl rfl ?_
  (conv=>whnf);repeat' (first|refine kA ?_;conv=>whnf|(apply Br.mk<;>intro hc<;>first|exact hc.elim|conv=>whnf)  |refine kB ?_)
  refine Aok rfl (ApV (Af9 h3) h2) ?_
  (conv=>whnf);repeat' (first|refine kA ?_;conv=>whnf|(apply Br.mk<;>intro hc<;>first|exact hc.elim|conv=>whnf)  |refine kB ?_)
  refine Af (fun m env st=>∃i:Nat,m=l.length-i∧env=[(1,.ref 0 0 0 0),(2,.ref 1 1 0 0),(10,.int .i64 l.length),(11,.int .i64 i)]∧st=⟨[.arr 0 5 true false [.agg [.int .i64 k,.int .i64 n,.int .i64 dd,.str s,.own 2 2 0 l.length]],.arr 1 5 true true [.agg [.int .i64 0,.int .i64 0,.int .i64 0,.str [],.sl false []]],.arr 2 5 true true l],3⟩) ?_ _ _ _ ⟨0,rfl,rfl,rfl⟩
  rintro _ _ _ ⟨i,rfl,rfl,rfl⟩
  refine⟨rfl,?_⟩
  unfold Ln at g5
  obtain⟨gx,hgx⟩:=Als h3 i
  (conv=>whnf);repeat' (first|(apply Au;(· exact(hgx (by omega)).1);conv=>whnf)|(refine Aa (ih (g:=gx) (hgx (by omega)).2.2.1 (hgx (by omega)).2.2.2) ?_;rintro _ rfl;conv=>whnf)|(apply BK;(· exact Ze (x:=gx.av) (hgx (by omega)).1);conv=>whnf)|refine kA ?_;conv=>whnf|(apply Br.mk<;>intro hc<;>first|exact hc.elim|conv=>whnf)|refine kB ?_)
  ·exact again.mk ⟨_,by omega,i+1,rfl,rfl,rfl⟩
  ·rw[Ajs];rfl
theorem Xk:∀(d:Nat) {g:GV},g.ok→GY d g.av→Ag (Ac tab) 242 [g.av] (· =g.av)
 |0,_,_,h=>by cases h
 |d+1,g,hg,h=>by
  obtain⟨g',e,h1,h2,d',e2,h3⟩:=Z9 h
  obtain rfl:d=d':=by omega
  have:g.l=g'.l:=by injection e with e;simp only[List.cons.injEq,AV.sl.injEq]at e;exact e.2.2.2.2.1.2
  exact Aga hg (by rw[this];exact h2) (by rw[this];exact h3) (Xk d)
theorem cloneS {l:List (List UInt8)} {nn:Bool} (hl:l.length≤2000) (hn:nn=false→l=[]):Ag (Ac tab) 80 [.sl nn (vs .str l)] (· =.sl nn (vs .str l)):=by
 cases nn with
 |false=>
  obtain rfl:=hn rfl
  refine Ad rfl rfl ?_
  (conv=>whnf);repeat' (first|refine kA ?_;conv=>whnf|(apply Br.mk<;>intro hc<;>first|exact hc.elim|conv=>whnf)  |refine kB ?_)
  rfl
 |true=>
  refine Ad rfl rfl ?_
  (conv=>whnf);repeat' (first|refine kA ?_;conv=>whnf|(apply Br.mk<;>intro hc<;>first|exact hc.elim|conv=>whnf)|(refine Lr (Ey (fun _=>rfl) _) (by rw[lV];omega) ?_;conv=>whnf)|refine kB ?_)
  refine Lr (Ey (f:=.str) (fun _=>rfl) l) (by rw[lV];omega) ?_
  (conv=>whnf);repeat' (first|refine kA ?_;conv=>whnf|(apply Br.mk<;>intro hc<;>first|exact hc.elim|conv=>whnf)  |refine kB ?_)
  rw[lV,uV]
theorem Al1:Am (Ac tab) 81 [.sl false []] ⟨[],0⟩ fun out _=>out=.ok (.sl false []):=by
 refine Ah rfl rfl ?_
 (conv=>whnf);repeat' (first|refine kA ?_;conv=>whnf|(apply Br.mk<;>intro hc<;>first|exact hc.elim|conv=>whnf)  |refine kB ?_)
 rfl
theorem ApP {l:List GP} (hl:l.length≤2000):Am (Ac tab) 81 [.sl true (vs GP.av l)] ⟨[],0⟩ fun out s'=>∃o g,out=.ok (.own o g 0 (vs GP.av l).length)∧nth s'.σ o=some (.arr g 6 true true (vs GP.av l)):=by
 refine Ah rfl rfl ?_
 (conv=>whnf);repeat' (first|refine kA ?_;conv=>whnf|(apply Br.mk<;>intro hc<;>first|exact hc.elim|conv=>whnf)  |refine kB ?_)
 refine Lr (Ey (f:=GP.av) (fun _=>rfl) l) (by rw[lV];omega) ?_
 (conv=>whnf);repeat' (first|refine kA ?_;conv=>whnf|(apply Br.mk<;>intro hc<;>first|exact hc.elim|conv=>whnf)  |refine kB ?_)
 exact⟨_,_,rfl,rfl⟩
theorem AeD {ps:List GP} {nn:Bool} (hl:ps.length≤2000) (hn:nn=false→ps=[]) (hok:∀p∈ps,p.ok) (hL:∀p∈ps,GY 12 p.v.av):Ag (Ac tab) 183 [.sl nn (vs GP.av ps)] (· =.sl nn (vs GP.av ps)):=by
 cases nn with
 |false=>
  obtain rfl:=hn rfl
  refine Ad rfl rfl ?_
  (conv=>whnf);repeat' (first|refine kA ?_;conv=>whnf|(apply Br.mk<;>intro hc<;>first|exact hc.elim|conv=>whnf)  |refine kB ?_)
  refine WR rfl Al1 ?_
  (conv=>whnf);repeat' (first|refine kA ?_;conv=>whnf|(apply Br.mk<;>intro hc<;>first|exact hc.elim|conv=>whnf)  |refine kB ?_)
  refine Ue ?_ rfl
  (conv=>whnf);repeat' (first|refine kA ?_;conv=>whnf|(apply Br.mk<;>intro hc<;>first|exact hc.elim|conv=>whnf)  |refine kB ?_)
  rfl
 |true=>
  refine Ad rfl rfl ?_
  (conv=>whnf);repeat' (first|refine kA ?_;conv=>whnf|(apply Br.mk<;>intro hc<;>first|exact hc.elim|conv=>whnf)  |refine kB ?_)
  refine Aok rfl (ApP hl) ?_
  (conv=>whnf);repeat' (first|refine kA ?_;conv=>whnf|(apply Br.mk<;>intro hc<;>first|exact hc.elim|conv=>whnf)  |refine kB ?_)
  refine Af (fun m env st=>∃i:Nat,m=ps.length-i∧env=[(3,.own 0 0 0 (vs GP.av ps).length),(8,.int .i64 (vs GP.av ps).length),(9,.int .i64 i)]∧st=⟨[.arr 0 6 true true (vs GP.av ps)],1⟩) ?_ _ _ _ ⟨0,rfl,rfl,rfl⟩
  rintro _ _ _ ⟨i,rfl,rfl,rfl⟩
  refine⟨rfl,?_⟩
  have hll:(vs GP.av ps).length=ps.length:=lV _
  have ho:∀h:i<ps.length,(ps[i]).v.ok∧GY 12 (ps[i]).v.av:=fun h=>⟨(hok _ (List.getElem_mem h)).2,hL _ (List.getElem_mem h)⟩
  (conv=>whnf);repeat' (first|(refine Aa (Xk 12 (g:=ps[i].v) (ho (by omega)).1 (ho (by omega)).2) ?_;rintro _ rfl;conv=>whnf)|(apply BK;(· exact Ze (x:=(ps[i]).av) (nVN (by omega)));conv=>whnf)|refine kA ?_;conv=>whnf|(apply Br.mk<;>intro hc<;>first|exact hc.elim|conv=>whnf)|refine kB ?_)
  ·exact again.mk ⟨_,by omega,i+1,rfl,rfl,rfl⟩
  ·rw[Ajs]
def AiQ (n:GN):Prop:=n.labels.length≤2000∧(n.ln=false→n.labels=[])∧(n.pn=false→n.props=[])∧IK n.props
def AiR (e:GE):Prop:=(e.pn=false→e.props=[])∧IK e.props
theorem AsV {g:GG} (hl:g.nodes.length<2^63) (hg:∀n∈g.nodes,AiQ n) {id:Int}:Ag (Ac tab) 109 [g.av,.int .i64 id] (· =Jj g.nodes id):=by
 refine Ad rfl rfl ?_
 (conv=>whnf);repeat' (first|refine kA ?_;conv=>whnf|(apply Br.mk<;>intro hc<;>first|exact hc.elim|conv=>whnf)  |refine kB ?_)
 refine Af (fun m env s=>∃i c:Nat,m=g.nodes.length-i∧(∀ x∈g.nodes.take i,X9 id x=false)∧env=[(1,.int .i64 id),(4,.ref 1 1 0 0),(9,.sl g.nn (vs GN.av g.nodes)),(10,.int .i64 g.nodes.length),(11,.int .i64 i)]∧s=⟨[.arr 0 4 true true [g.av],.arr 1 3 true true [.agg [.int .i64 0,.sl false [],.sl false []]]],c⟩) ?_ _ _ _ ⟨0,_,rfl,by simp,rfl,rfl⟩
 rintro _ _ _ ⟨i,c,rfl,hx,rfl,rfl⟩
 refine⟨rfl,?_⟩
 have ho:∀h:i<g.nodes.length,AiQ g.nodes[i]:=fun h=>hg _ (List.getElem_mem h)
 (conv=>whnf);repeat' (first|refine kA ?_;conv=>whnf|(apply Br.mk<;>intro hc<;>first|exact hc.elim|conv=>whnf)|(refine Aa (cloneS (l:=g.nodes[i].labels) (ho (by omega)).1 (ho (by omega)).2.1) ?_;rintro _ rfl;conv=>whnf)|(refine Aa (AeD (ps:=g.nodes[i].props) (ho (by omega)).2.2.2.1 (ho (by omega)).2.2.1 (fun p hp=>((ho (by omega)).2.2.2.2 p hp).1) (fun p hp=>((ho (by omega)).2.2.2.2 p hp).2)) ?_;rintro _ rfl;conv=>whnf)|refine kB ?_)
 ·rw[Jj,Pg (by omega) hx (decide_eq_true hc)]
  simp only
  unfold GN.av
  rw[hc];rfl
 ·exact again.mk ⟨_,by omega,i+1,_,rfl,Ph (by omega) hx (decide_eq_false hc),rfl,rfl⟩
 ·rw[CQ hc]at hx
  rw[Jj,Pj hx];rfl
theorem AsW {g:GG} (hl:g.edges.length<2^63) (hg:∀n∈g.edges,AiR n) {id:Int}:Ag (Ac tab) 106 [g.av,.int .i64 id] (· =JE g.edges id):=by
 refine Ad rfl rfl ?_
 (conv=>whnf);repeat' (first|refine kA ?_;conv=>whnf|(apply Br.mk<;>intro hc<;>first|exact hc.elim|conv=>whnf)  |refine kB ?_)
 refine Af (fun m env s=>∃i c:Nat,m=g.edges.length-i∧(∀ x∈g.edges.take i,XI id x=false)∧env=[(1,.int .i64 id),(4,.ref 1 1 0 0),(9,.sl g.en (vs GE.av g.edges)),(10,.int .i64 g.edges.length),(11,.int .i64 i)]∧s=⟨[.arr 0 4 true true [g.av],.arr 1 5 true true [.agg [.int .i64 0,.int .i64 0,.int .i64 0,.str [],.sl false []]]],c⟩) ?_ _ _ _ ⟨0,_,rfl,by simp,rfl,rfl⟩
 rintro _ _ _ ⟨i,c,rfl,hx,rfl,rfl⟩
 refine⟨rfl,?_⟩
 have ho:∀h:i<g.edges.length,AiR g.edges[i]:=fun h=>hg _ (List.getElem_mem h)
 (conv=>whnf);repeat' (first|refine kA ?_;conv=>whnf|(apply Br.mk<;>intro hc<;>first|exact hc.elim|conv=>whnf)|(refine Aa (AeD (ps:=g.edges[i].props) (ho (by omega)).2.1 (ho (by omega)).1 (fun p hp=>((ho (by omega)).2.2 p hp).1) (fun p hp=>((ho (by omega)).2.2 p hp).2)) ?_;rintro _ rfl;conv=>whnf)|refine kB ?_)
 ·rw[JE,Pg (by omega) hx (decide_eq_true hc)];rfl
 ·exact again.mk ⟨_,by omega,i+1,_,rfl,Ph (by omega) hx (decide_eq_false hc),rfl,rfl⟩
 ·rw[CQ hc]at hx
  rw[JE,Pj hx];rfl
theorem nan {x:Int}:Ag (Ac tab) 192 [.int .i64 x] (· =.bool (decide False)):=by
 refine Ad rfl rfl ?_
 (conv=>whnf);repeat' (first  |refine kA ?_;conv=>whnf|(apply Br.mk<;>intro hc<;>first|exact hc.elim|conv=>whnf)|refine kB ?_)
 all_goals first|exact absurd rfl hc|rfl
def Dq (x y:Int):Int:=if x<y then -1 else if y<x then 1 else 0
theorem compare {x y:Int}:Ag (Ac tab) 135 [.int .i64 x,.int .i64 y] (· =.int .i64 (Dq x y)):=by
 refine Ad rfl rfl ?_
 (conv=>whnf);repeat' (first|(refine Bo nan (fun hc=>absurd hc id) (fun _=>?_);conv=>whnf)|refine kA ?_;conv=>whnf|(apply Br.mk<;>intro hc<;>first|exact hc.elim|conv=>whnf)|refine kB ?_)
 all_goals unfold Dq;first|(rw [if_pos (by omega)];rfl)|(rw [if_neg (by omega),if_pos (by omega)];rfl)|(rw [if_neg (by omega),if_neg (by omega)];rfl)
theorem Oj {x y:Int}:Dq x y<0↔x<y:=by unfold Dq;split<;>(try split)<;>omega
theorem D6 {x y:Int}:Dq x y=0↔x=y:=by unfold Dq;split<;>(try split)<;>omega
section
open Go.Sort
section
variable {α:Type} [Inhabited α] {f:α→AV}
theorem nP {d:Array α} {z:Int} (i:Nat) (hz:z=i) (h:i<d.size):nth (vs f d.toList) (Int.toNat z)=some (f d[i]!):=by
 rw[nVz i hz (by simpa using h)]
 simp[h]
omit [Inhabited α]in
theorem tP {es:Nat} (hf:∀x,(f x).cells.length=es) {d:Array α} {z:Int} (i:Nat) (hz:z=i) {x y:α}:(vs f d.toList).set (Int.toNat z) (BQ (f y) 0 (f x))=vs f (d.setIfInBounds i x).toList:=by
 subst hz
 have e:BQ (f y) 0 (f x)=f x:=by
  unfold BQ
  rw[if_pos ⟨rfl,by rw[hf,hf]⟩]
 rw[e]
 show(vs f d.toList).set i (f x)=_
 simp[vs,List.map_set]
theorem BM {d:Array α} {z:Int} {K:AV→Prop} (i:Nat) (k:K (f d[i]!)) (hz:z=i:=by omega) (h:i<d.size:=by first|omega|(simp;omega)):AB (vs f d.toList) (Int.toNat z) K:=Au (nP i hz h) k
omit [Inhabited α]in
theorem Dn {es:Nat} (hf:∀x,(f x).cells.length=es) {d:Array α} {z:Int} {x y:α} {K:List AV→Prop} (i:Nat) (k:K (vs f (d.setIfInBounds i x).toList)) (hz:z=i:=by omega):eqK ((vs f d.toList).set (Int.toNat z) (BQ (f y) 0 (f x))) K:=BK (tP hf i hz) k
@[simp] theorem Xl (d:Array α) (i j:Nat):(swp d i j).size=d.size:=by simp[swp]
variable {lt:α→α→Bool} {a b i j hi first root:Nat} {d:Array α}
@[simp] theorem Acb:∀{j:Nat} {d:Array α},(insInner lt a j d).size=d.size
 |0,d=>rfl
 |j+1,d=>by
  rw[insInner]
  split
  ·rw[Acb,Xl]
  ·rfl
theorem Oo (h:hi≤2*root+1):siftDown lt hi first root d=d:=by
 rw[siftDown,dif_pos h]
theorem Acd {lt:α→α→Bool} {hi first:Nat}:∀(n root:Nat) (d:Array α),hi-root≤n→(siftDown lt hi first root d).size=d.size:=by
 intro n
 induction n with
 |zero=>intro root d h;rw[Oo (by omega)]
 |succ n ih=>
  intro root d h
  rw[siftDown]
  split
  ·rfl
  ·split
   ·split
    ·rfl
    ·split
     ·rw[ih _ _ (by omega),Xl]
     ·rfl
   ·split
    ·rfl
    ·rw[ih _ _ (by omega),Xl]
@[simp] theorem Al6:(siftDown lt hi first root d).size=d.size:=Acd (hi-root) root d (Nat.le_refl _)
@[simp] theorem Aas:∀{k:Nat} {d:Array α},(heapBuild lt hi first k d).size=d.size
 |0,d=>rfl
 |k+1,d=>by rw[heapBuild,Aas,Al6]
end
end
section
open Go.Sort
section
variable {α:Type} [Inhabited α] {lt:α→α→Bool} {a b i j:Nat} {d:Array α}
@[simp] theorem Apy:∀{j:Nat} {d:Array α},(shiftDown lt j d).size=d.size
 |0,d=>rfl
 |j+1,d=>by
  rw[shiftDown]
  split
  ·rfl
  ·rw[Apy,Xl]
theorem AeE:∀(n j:Nat) (d:Array α),b-j≤n→(shiftUp lt b j d).size=d.size
 |0,j,d,h=>by rw[shiftUp,if_neg (by omega)]
 |n+1,j,d,h=>by
  rw[shiftUp]
  split
  ·split
   ·rfl
   ·rw[AeE n _ _ (by omega),Xl]
  ·rfl
@[simp] theorem AvF:(shiftUp lt b j d).size=d.size:=AeE (b-j) j d (Nat.le_refl _)
@[simp] theorem AtY:(fixDown lt a i d).size=d.size:=by unfold fixDown;split<;>simp
@[simp] theorem At1:(fixUp lt b i d).size=d.size:=by unfold fixUp;split<;>simp
variable {p:α→Bool}
end
end
section
open Go.Sort
def Eh (a b:Int):Int:=if a=0 then b else a
def cS (x y:List UInt8):Int:=if Op.bytesLess x y=true then -1 else if Op.bytesLess y x=true then 1 else 0
structure PC {α:Type} (c:α→α→Int):Prop where
 anti:∀x y,c y x=-c x y
 trans:∀x y z,c x y≤0→c y z≤0→c x z≤0
theorem PC.lex {α:Type} {c d:α→α→Int} (hc:PC c) (hd:PC d):PC fun x y=>Eh (c x y) (d x y) where
 anti x y:=by
  have h1:=hc.anti x y
  have h2:=hd.anti x y
  unfold Eh;split<;>split<;>omega
 trans x y z h1 h2:=by
  have a1:=hc.trans x y z
  have a2:=hc.trans y z x
  have a3:=hc.trans z x y
  have b1:=hc.anti x y
  have b2:=hc.anti y z
  have b3:=hc.anti x z
  have d1:=hd.trans x y z
  unfold Eh at*
  split at h1<;>split at h2<;>split<;>omega
theorem PC.on {α β:Type} {c:β→β→Int} (h:PC c) (p:α→β):PC fun x y=>c (p x) (p y):=⟨fun x y=>h.anti _ _,fun x y z=>h.trans _ _ _⟩
theorem Xv:PC Dq where
 anti x y:=by unfold Dq;repeat' split
              all_goals omega
 trans x y z:=by unfold Dq;repeat' split
                 all_goals omega
theorem Vx:∀(x y:List UInt8),Op.bytesLess x y=decide (x<y)
 |[],[]=>by simp[Op.bytesLess]
 |_::_,[]=>by simp[Op.bytesLess]
 |[],_::_=>by simp[Op.bytesLess]
 |a::x,b::y=>by
  rw[Op.bytesLess,Vx x y]
  simp only[List.cons_lt_cons_iff]
  by_cases h1:a<b<;>by_cases h2:a=b<;>by_cases h3:x<y<;>simp[h1,h2,h3]
theorem Ab7 (x y:List UInt8):Op.bytesLess x y=ltStr x y:=Vx x y
theorem Adp {x y:List UInt8} (h1:Op.bytesLess x y=false) (h2:Op.bytesLess y x=false):x=y:=by
 rw[Ab7]at h1 h2
 simp only[ltStr,decide_eq_false_iff_not]at h1 h2
 exact List.le_antisymm (List.not_lt.1 h2) (List.not_lt.1 h1)
theorem Adq:PC cS where
 anti x y:=by
  have h:Op.bytesLess x y=true→Op.bytesLess y x=true→False:=fun a b=>by
   rw[Ab7]at a b
   have:=swo_ltStr.trans x y x a b
   rw[swo_ltStr.irrefl]at this;cases this
  unfold cS
  by_cases a:Op.bytesLess x y=true<;>by_cases b:Op.bytesLess y x=true<;>simp[a,b]
  exact h a b
 trans x y z h1 h2:=by
  have n1:Op.bytesLess y x=false:=by
   unfold cS at h1
   split at h1
   ·rename_i a
    cases hb:Op.bytesLess y x with
    |false=>rfl
    |true=>
     rw[Ab7]at a hb
     have:=swo_ltStr.trans x y x a hb
     rw[swo_ltStr.irrefl]at this;cases this
   ·split at h1
    ·omega
    ·rename_i b;simpa using b
  have n2:Op.bytesLess z y=false:=by
   unfold cS at h2
   split at h2
   ·rename_i a
    cases hb:Op.bytesLess z y with
    |false=>rfl
    |true=>
     rw[Ab7]at a hb
     have:=swo_ltStr.trans y z y a hb
     rw[swo_ltStr.irrefl]at this;cases this
   ·split at h2
    ·omega
    ·rename_i b;simpa using b
  have n3:Op.bytesLess z x=false:=by rw[Ab7]at *;exact swo_ltStr.ntrans z y x n2 n1
  unfold cS
  split
  ·omega
  ·rw[n3];simp
theorem Va {x y:List UInt8}:cS x y=0↔x=y:=by
 constructor
 ·intro h
  unfold cS at h
  split at h
  ·omega
  ·split at h
   ·omega
   ·rename_i a b;exact Adp (by simpa using a) (by simpa using b)
 ·rintro rfl
  have:=Adq.anti x x
  omega
theorem Anc {x:List UInt8}:Ag (Ac tab) 251 [.str x] (· =.bool false):=by
 refine Ad rfl rfl ?_
 (conv=>whnf);repeat' (first  |refine kA ?_;conv=>whnf|(apply Br.mk<;>intro hc<;>first|exact hc.elim|conv=>whnf)|refine kB ?_)
 all_goals first|rfl|(exfalso;simp_all)
theorem Amj {x y:List UInt8} (h:Op.bytesLess x y=true):AV.int .i64 (-1)=.int .i64 (cS x y):=by unfold cS;rw[if_pos h]
theorem Amk {x y:List UInt8} (h:Op.bytesLess x y=false) (h2:(Op.bytesLess x y||x==y)=true):AV.int .i64 0=.int .i64 (cS x y):=by
 rw[h,Bool.false_or,beq_iff_eq]at h2
 rw[Va.2 h2]
theorem Aml {x y:List UInt8} (h2:(Op.bytesLess x y||x==y)=false):AV.int .i64 1=.int .i64 (cS x y):=by
 rw[Bool.or_eq_false_iff,beq_eq_false_iff_ne]at h2
 have h3:Op.bytesLess y x=true:=by
  cases h:Op.bytesLess y x with
  |true=>rfl
  |false=>exact absurd (Adp h2.1 h) h2.2
 unfold cS;rw[h2.1,h3];rfl
theorem WV {x y:List UInt8}:Ag (Ac tab) 202 [.str x,.str y] (· =.int .i64 (cS x y)):=by
 refine Ad rfl rfl ?_
 (conv=>whnf);repeat' (first|(refine Aa Anc ?_;rintro _ rfl;conv=>whnf)|refine kA ?_;conv=>whnf|(apply Br.mk<;>intro hc<;>first|exact hc.elim|conv=>whnf)|refine kB ?_)
 all_goals first|exact Amj hc|exact Amk (by assumption) hc|exact Aml hc
def fnz:List Int→Int
 |[]=>0
 |a::l=>Eh a (fnz l)
theorem Ajj {l:List Int} {i:Nat} (h:i<l.length):fnz (l.drop i)=Eh l[i] (fnz (l.drop (i+1))):=by
 rw[List.drop_eq_getElem_cons h];rfl
theorem orV {l:List Int} {nn:Bool} (hl:l.length<2^62):Ag (Ac tab) 244 [.sl nn (vs (.int .i64) l)] (· =.int .i64 (fnz l)):=by
 refine Ad rfl rfl ?_
 (conv=>whnf);repeat' (first  |refine kA ?_;conv=>whnf|(apply Br.mk<;>intro hc<;>first|exact hc.elim|conv=>whnf)|refine kB ?_)
 refine Af (fun m env s=>∃i:Nat,m=l.length-i∧fnz (l.drop i)=fnz l∧env=[(3,.int .i64 0),(6,.sl nn (vs (.int .i64) l)),(7,.int .i64 l.length),(8,.int .i64 i)]∧s=⟨[],0⟩) ?_ _ _ _ ⟨0,rfl,by simp,by first|rfl|(rw [← lV (f:=.int .i64) l];rfl),rfl⟩
 rintro _ _ _ ⟨i,rfl,hx,rfl,rfl⟩
 refine⟨rfl,?_⟩
 by_cases hlt:i<l.length
 ·rw[Ajj hlt]at hx
  unfold Eh at hx
  (conv=>whnf);repeat' (first  |refine kA ?_;conv=>whnf|(apply Br.mk<;>intro hc<;>first|exact hc.elim|conv=>whnf)|refine kB ?_)
  all_goals first
   |(rw [if_pos (by assumption)]at hx;exact again.mk ⟨_,by omega,i+1,rfl,hx,rfl,rfl⟩)
   |(rw [if_neg (by assumption)]at hx;rw[← hx];rfl)
 ·rw[List.drop_eq_nil_of_le (by omega)]at hx
  (conv=>whnf);repeat' (first  |refine kA ?_;conv=>whnf|(apply Br.mk<;>intro hc<;>first|exact hc.elim|conv=>whnf)|refine kB ?_)
  all_goals first|(rw [← hx];rfl)
theorem TM {α:Type} {p:α→Bool} {l:List α} {k:Nat} (h:k<l.length):(l.take (k+1)).filter p=(l.take k).filter p++if p l[k]=true then[l[k]]else[]:=by
 rw[List.take_succ_eq_append_getElem h,List.filter_append]
 congr 1
 simp only[List.filter_cons,List.filter_nil]
end
def Ez (c:Int):Prop:=(97≤c∧c≤122)∨(65≤c∧c≤90)
instance (c:Int):Decidable (Ez c):=by unfold Ez;infer_instance
theorem Aem {c:Int}:Ag (Ac tab) 136 [.int .u8 c] (· =.bool (decide (Ez c))):=by
 refine Ad rfl rfl ?_
 (conv=>whnf);repeat' (first|refine kA ?_;conv=>whnf|(apply Br.mk<;>intro hc<;>first|exact hc.elim|conv=>whnf)  |refine kB ?_)
 all_goals first|exact Bh (by unfold Ez;omega)|exact Ar (by unfold Ez;omega)
theorem Aen {c:Int}:Ag (Ac tab) 178 [.int .u8 c] (· =.bool (decide (Ez c))):=by
 refine Ad rfl rfl ?_
 (conv=>whnf);repeat' (first|refine kA ?_;conv=>whnf|(apply Br.mk<;>intro hc<;>first|exact hc.elim|conv=>whnf)  |refine kB ?_)
 all_goals first|exact Bh (by unfold Ez;omega)|exact Ar (by unfold Ez;omega)
def JB (c:Int):Prop:=Ez c∨(48≤c∧c≤57)∨c=95
instance (c:Int):Decidable (JB c):=by unfold JB;infer_instance
def isName (s:List UInt8):Prop:=0<s.length∧s.length≤20∧(∀ c,s[0]?=some c→Ez c.toNat)∧∀c∈s,JB c.toNat
instance (s:List UInt8):Decidable (isName s):=by unfold isName;infer_instance
theorem Qk {s:List UInt8} (hs:0<s.length) (h:isName s):Ez s[0].toNat:=h.2.2.1 _ (List.getElem?_eq_getElem hs)
theorem YL {s:List UInt8} {i:Nat} (hi:i<s.length) (h:isName s):JB s[i].toNat:=h.2.2.2 _ (List.getElem_mem _)
theorem AoP {s:List UInt8} (hs:0<s.length) (h:JB s[0].toNat):∀c∈s.take 1,JB c.toNat:=by
 cases s with
 |nil=>simp at hs
 |cons a l=>simpa using h
theorem name1 {s:List UInt8} (hl:s.length<2^63):Ag (Ac tab) 78 [.str s] (· =.bool (decide (isName s))):=by
 by_cases h0:s.length=0
 ·obtain rfl:s=[]:=List.length_eq_zero_iff.1 h0
  refine Ad rfl rfl ?_
  (conv=>whnf);repeat' (first|refine kA ?_;conv=>whnf|(apply Br.mk<;>intro hc<;>first|exact hc.elim|conv=>whnf)  |refine kB ?_)
  all_goals exact Ar (by simp[isName])
 have hs:0<s.length:=by omega
 have hne:s≠[]:=by rintro rfl;simp at h0
 have hz:s[0]?=some s[0]:=List.getElem?_eq_getElem hs
 refine Ad rfl rfl ?_
 (conv=>whnf);repeat' (first|refine kA ?_;conv=>whnf|(apply Br.mk<;>intro hc<;>first|exact hc.elim|conv=>whnf)|(refine Bo (Aem) (fun hc=>?_) (fun hc=>?_)<;>conv=>whnf)|refine kB ?_)
 all_goals first|exact absurd hc hne|exact Ar (by unfold isName;omega)|exact Ar fun h=>hc (Qk hs h)|skip
 refine Af (fun m env s'=>∃i:Nat,m=s.length-i∧env=[(0,.str s),(18,.int .i64 s.length),(19,.int .i64 i)]∧s'=⟨[],0⟩∧∀c∈s.take i,JB c.toNat) ?_ _ _ _ ⟨0,rfl,by simp,rfl,by simp⟩
 rintro _ _ _ ⟨i,rfl,rfl,rfl,hx⟩
 refine⟨rfl,?_⟩
 (conv=>whnf);repeat' (first|refine kA ?_;conv=>whnf|(apply Br.mk<;>intro hc<;>first|exact hc.elim|conv=>whnf)|(refine Bo (Aem) (fun hc=>?_) (fun hc=>?_)<;>conv=>whnf)|refine kB ?_)
 all_goals first
  |exact again.mk ⟨_,by omega,i+1,rfl,rfl,rfl,Cb (by omega) hx (by unfold JB Ez at *;omega)⟩
  |(refine Ar fun h=>?_;have:=YL (i:=i) (by omega) h;unfold JB Ez at *;omega)
  |(rename_i hc1;exact Bh ⟨hs,by omega,fun c h=>by rw[hz]at h;cases h;assumption,by rw[CQ hc]at hx;exact hx⟩)
theorem name2 {s:List UInt8} (hl:s.length<2^63):Ag (Ac tab) 96 [.str s] (· =.bool (decide (isName s))):=by
 by_cases h0:s.length=0
 ·obtain rfl:s=[]:=List.length_eq_zero_iff.1 h0
  refine Ad rfl rfl ?_
  (conv=>whnf);repeat' (first|refine kA ?_;conv=>whnf|(apply Br.mk<;>intro hc<;>first|exact hc.elim|conv=>whnf)  |refine kB ?_)
  all_goals exact Ar (by simp[isName])
 have hs:0<s.length:=by omega
 have hne:s≠[]:=by rintro rfl;simp at h0
 have hz:s[0]?=some s[0]:=List.getElem?_eq_getElem hs
 refine Ad rfl rfl ?_
 (conv=>whnf);repeat' (first|refine kA ?_;conv=>whnf|(apply Br.mk<;>intro hc<;>first|exact hc.elim|conv=>whnf)|(refine Bo (Aen) (fun hc=>?_) (fun hc=>?_)<;>conv=>whnf)|refine kB ?_)
 all_goals first|exact absurd hc hne|exact Ar (by unfold isName;omega)|exact Ar fun h=>hc (Qk hs h)|skip
 refine Af (fun m env s'=>∃i:Nat,m=s.length-i∧env=[(0,.str s),(3,.int .i64 i)]∧s'=⟨[],0⟩∧∀c∈s.take i,JB c.toNat) ?_ _ _ _ ⟨1,rfl,rfl,rfl,AoP hs (Or.inl hc)⟩
 rintro _ _ _ ⟨i,rfl,rfl,rfl,hx⟩
 refine⟨rfl,?_⟩
 (conv=>whnf);repeat' (first|refine kA ?_;conv=>whnf|(apply Br.mk<;>intro hc<;>first|exact hc.elim|conv=>whnf)|(refine Bo (Aen) (fun hc=>?_) (fun hc=>?_)<;>conv=>whnf)|refine kB ?_)
 all_goals first
  |exact again.mk ⟨_,by omega,i+1,rfl,rfl,rfl,Cb (by omega) hx (by unfold JB Ez at *;omega)⟩
  |(refine Ar fun h=>?_;have:=YL (i:=i) (by omega) h;unfold JB Ez at *;omega)
  |(rename_i hc1;exact Bh ⟨hs,by omega,fun c h=>by rw[hz]at h;cases h;assumption,by rw[CQ hc]at hx;exact hx⟩)
theorem TP {AP:Nat→Option Jc} {f:Nat} {sp:List AV→Aq→Option (Bf×Aq)} {args:List AV} {R:AV→Prop} {v v':AV} {s:Aq} (hf:AP f=some (.ext sp)) (h:sp args ⟨[],0⟩=some (.ok v,s)) (hs:snap s.σ F5 v=some v') (hR:R v'):Ag AP f args R:=
 ⟨v',⟨1,by simp only[Fb,run,hf,h];exact hs⟩,hR⟩
theorem ixP {l:List UInt8}:Ag (Ac tab) 278 [.str l,.fn 279 []] (· =.int .i64 (MO l)):=
 TP rfl rfl rfl rfl
theorem JX {l:List UInt8}:MO l<0↔∀c∈l,Sr c=false:=by
 unfold MO
 cases h:List.findIdx? Sr l with
 |none=>
  refine⟨fun _ c hc=>?_,fun _=>by decide⟩
  have:=List.findIdx?_eq_none_iff.1 h c hc
  simpa using this
 |some i=>
  refine⟨fun h=>?_,fun ha=>?_⟩
  ·simp at h;omega
  ·obtain⟨h1,h2,_⟩:=List.findIdx?_eq_some_iff_getElem.1 h
   rw[ha _ (List.getElem_mem h1)]at h2
   cases h2
def MR (n:Int):Prop:=-1000000000000000≤n∧n≤1000000000000000
instance (n:Int):Decidable (MR n):=by unfold MR;infer_instance
theorem inP {n:Int}:Ag (Ac tab) 276 [.int .i64 n] (· =.bool (decide (MR n))):=by
 refine Ad rfl rfl ?_
 (conv=>whnf);repeat' (first|refine kA ?_;conv=>whnf|(apply Br.mk<;>intro hc<;>first|exact hc.elim|conv=>whnf)  |refine kB ?_)
 all_goals first|exact Bh (by unfold MR;omega)|exact Ar (by unfold MR;omega)
theorem Arb {n:Int}:Ag (Ac tab) 257 [.int .i64 n] (· =.bool (decide (MR n))):=by
 refine Ad rfl rfl ?_
 (conv=>whnf);repeat' (first|refine kA ?_;conv=>whnf|(apply Br.mk<;>intro hc<;>first|exact hc.elim|conv=>whnf)  |refine kB ?_)
 all_goals first|exact Bh (by unfold MR;omega)|exact Ar (by unfold MR;omega)
def okS (s:List UInt8):Prop:=s.length≤100∧∀c∈s,Sr c=false
instance (s:List UInt8):Decidable (okS s):=by unfold okS;infer_instance
def DW (v:GV):Prop:=v.d=0∧v.l.length=0∧(v.k=1∧v.s=[]∧(v.n=0∨v.n=1)∨v.k=2∧v.s=[]∧MR v.n∨v.k=4∧v.n=0∧okS v.s)
instance (v:GV):Decidable (DW v):=by unfold DW;infer_instance
def KC (v:GV):Prop:=v.k=1∨v.k=2∨v.k=4
instance (v:GV):Decidable (KC v):=by unfold KC;infer_instance
theorem Yw {v:GV} (h:DW v):KC v:=by unfold DW at h;unfold KC;omega
theorem Aom {v:GV} (h:v.k=1) (h1:v.d=0) (h2:v.l.length=0) (h3:v.s=[]) (h4:v.n=0∨v.n=1):DW v:=⟨h1,h2,.inl ⟨h,h3,h4⟩⟩
theorem Aon {v:GV} (h:v.k=2) (h1:v.d=0) (h2:v.l.length=0) (h3:v.s=[]) (h4:MR v.n):DW v:=⟨h1,h2,.inr (.inl ⟨h,h3,h4⟩)⟩
theorem Aoo {v:GV} (h:v.k=4) (h1:v.d=0) (h2:v.l.length=0) (h3:v.n=0) (h4:okS v.s):DW v:=⟨h1,h2,.inr (.inr ⟨h,h3,h4⟩)⟩
theorem Aop {v:GV} (h:DW v) (hk:v.k≠4):v.s=[]:=by
 obtain⟨_,_,h⟩:=h
 rcases h with h|h|h
 ·exact h.2.1
 ·exact h.2.1
 ·exact absurd h.1 hk
theorem Aoq {v:GV} (h:DW v) (hk:v.k=1):v.n=0∨v.n=1:=by
 obtain⟨_,_,h⟩:=h;omega
theorem Aor {v:GV} (h:DW v) (hk:v.k=2):MR v.n:=by
 obtain⟨_,_,h⟩:=h
 rcases h with h|h|h<;>first|exact h.2.2|omega
theorem Ahm {v:GV} (h:DW v) (hk:v.k=4):v.n=0∧okS v.s:=by
 obtain⟨_,_,h⟩:=h
 rcases h with h|h|h<;>first|exact h.2|omega
theorem vld {v:GV} (hv:v.ok) (hk:KC v) {n:Int}:Ag (Ac tab) 249 [v.av,.int .i64 n] (· =.bool (decide (DW v))):=by
 obtain⟨g1,g2,g3,g4,g5,g6,g7⟩:=hv
 unfold Ln at g4 g5
 unfold KC at hk
 refine Ad rfl rfl ?_
 (conv=>whnf);repeat' (first|refine kA ?_;conv=>whnf|(apply Br.mk<;>intro hc<;>first|exact hc.elim|conv=>whnf)|(refine Bo (inP (n:=v.n)) (fun hr=>?_) (fun hr=>?_)<;>conv=>whnf)|(refine Aa (ixP (l:=v.s)) ?_;rintro _ rfl;conv=>whnf)|refine kB ?_)
 all_goals first
  |exact Ar (fun h=>by have:=h.2.1;omega)
  |(refine Bh ?_;clear g7 g6;unfold DW okS;rw[← JX];first|(simp_all;done)|(simp_all;omega))
  |(refine Ar ?_;clear g7 g6;unfold DW okS;rw[← JX];first|(simp_all;done)|(simp_all;omega))
theorem Avv {v:GV} (hv:v.ok) (hk:KC v):Ag (Ac tab) 191 [v.av] (· =.bool (decide (DW v))):=by
 refine Ad rfl rfl ?_
 (conv=>whnf);repeat' (first|refine kA ?_;conv=>whnf|(apply Br.mk<;>intro hc<;>first|exact hc.elim|conv=>whnf)|(refine Bo (vld (v:=v) hv hk) (fun hr=>?_) (fun hr=>?_)<;>conv=>whnf)|refine kB ?_)
 all_goals first|exact Bh (by assumption)|exact Ar (by assumption)
theorem AgT {v:GV} (hv:v.ok):Ag (Ac tab) 132 [v.av] (· =.bool (decide (DW v))):=by
 refine Ad rfl rfl ?_
 (conv=>whnf);repeat' (first|refine kA ?_;conv=>whnf|(apply Br.mk<;>intro hc<;>first|exact hc.elim|conv=>whnf)|(refine Bo (Avv (v:=v) hv (by unfold KC;omega)) (fun hr=>?_) (fun hr=>?_)<;>conv=>whnf)|refine kB ?_)
 all_goals first|exact Bh (by assumption)|exact Ar (by assumption)|exact Ar fun h=>absurd (Yw h) (by unfold KC;omega)
def VF (n d:Int):Prop:=1≤d∧d≤1000000000000000∧MR n∧Nat.gcd n.natAbs d.natAbs=1
instance (n d:Int):Decidable (VF n d):=by unfold VF;infer_instance
def VB (g:GV):Prop:=g.l.length=0∧(g.k=0∧g.n=0∧g.d=0∧g.s=[]∨g.k=1∧(g.n=0∨g.n=1)∧g.d=0∧g.s=[]∨g.k=2∧MR g.n∧g.d=0∧g.s=[]∨
 g.k=3∧2≤g.d∧VF g.n g.d∧g.s=[]∨g.k=4∧g.n=0∧g.d=0∧okS g.s∨(g.k=5∨g.k=6)∧1≤g.n∧g.n≤1000000∧g.d=0∧g.s=[])
instance (g:GV):Decidable (VB g):=by unfold VB;infer_instance
def VPa (l:List AV):Prop:=l.length % 2=1∧l.length≤25∧∀i (h:i<l.length),∃x:GV,l[i]=x.av∧x.k=5+i % 2∧VB x
def VV:Nat→GV→Prop
 |0,g=>VB g∨g.k=7∧g.n=0∧g.d=0∧g.s=[]∧VPa g.l
 |m+1,g=>VB g∨g.k=7∧g.n=0∧g.d=0∧g.s=[]∧VPa g.l∨g.k=8∧g.n=0∧g.d=0∧g.s=[]∧g.l.length≤64∧∀i (h:i<g.l.length),∃x:GV,g.l[i]=x.av∧VV m x
theorem Aef:∀{m:Nat} {g:GV},VV m g→VV (m+1) g
 |0,g,h=>by
  rcases h with h|h
  ·exact .inl h
  ·exact .inr (.inl h)
 |m+1,g,h=>by
  rcases h with h|h|⟨h1,h2,h3,h4,h5,h6⟩
  ·exact .inl h
  ·exact .inr (.inl h)
  ·exact .inr (.inr ⟨h1,h2,h3,h4,h5,fun i hi=>by obtain⟨x,e,hx⟩:=h6 i hi;exact⟨x,e,Aef hx⟩⟩)
theorem GV.TS {g h:GV} (e:g.av=h.av):g=h:=by
 obtain⟨k,n,d,s,nn,l⟩:=g
 obtain⟨k',n',d',s',nn',l'⟩:=h
 simp only[GV.av,AV.agg.injEq,List.cons.injEq,AV.int.injEq,AV.str.injEq,AV.sl.injEq,true_and,and_true]at e
 obtain⟨rfl,rfl,rfl,rfl,rfl,rfl⟩:=e
 rfl
theorem AbB (x y:Nat):Nat.gcd y (x % y)=Nat.gcd x y:=by
 rw[Nat.gcd_comm x y,Nat.gcd_rec y x,Nat.gcd_comm]
theorem absP {n:Int} (h:MR n):Ag (Ac tab) 298 [.int .i64 n] (· =.int .i64 n.natAbs):=by
 unfold MR at h
 have e:(if 0-n>n then 0-n else n)=(n.natAbs:Int):=by split<;>omega
 refine Ad rfl rfl ?_
 (conv=>whnf);repeat' (first  |refine kA ?_;conv=>whnf|(apply Br.mk<;>intro hc<;>first|exact hc.elim|conv=>whnf)|refine kB ?_)
 rw[← e];rfl
theorem Avr {n d:Int} (hn:MR n) (hd:MR d):Ag (Ac tab) 290 [.int .i64 n,.int .i64 d] (· =.int .i64 (Nat.gcd n.natAbs d.natAbs)):=by
 have hn':=hn
 have hd':=hd
 unfold MR at hn' hd'
 refine Ad rfl rfl ?_
 (conv=>whnf);repeat' (first|(refine Bo (inP (n:=n)) (fun hr=>?_) (fun hr=>absurd hn hr);conv=>whnf)|(refine Bo (inP (n:=d)) (fun hr=>?_) (fun hr=>absurd hd hr);conv=>whnf)|((first|refine Aa (absP hn) ?_|refine Aa (absP hd) ?_);rintro _ rfl;conv=>whnf)|refine kA ?_;conv=>whnf|(apply Br.mk<;>intro hc<;>first|exact hc.elim|conv=>whnf)|refine kB ?_)
 refine Af (fun m env s=>∃(x y:Nat),m=1*y∧x<2^63∧y<2^63∧Nat.gcd x y=Nat.gcd n.natAbs d.natAbs∧env=[(0,.int .i64 x),(1,.int .i64 y)]∧s=⟨[],0⟩) ?_ _ _ _ ⟨n.natAbs,d.natAbs,(Nat.one_mul _).symm,by omega,by omega,rfl,rfl,rfl⟩
 clear hn hd hn' hd'
 rintro m _ _ ⟨x,y,hm,hx,hy,hg,rfl,rfl⟩
 have hm2:y=m:=by omega
 subst hm2
 refine⟨rfl,?_⟩
 (conv=>whnf);repeat' (first  |refine kA ?_;conv=>whnf|(apply Br.mk<;>intro hc<;>first|exact hc.elim|conv=>whnf)|refine kB ?_)
 ·have h0:y=0:=by omega
  subst h0
  rw[Nat.gcd_zero_right]at hg
  rw[← hg];rfl
 ·have h0:0<y:=by omega
  have:=Nat.mod_lt x h0
  exact again.mk ⟨_,this,y,x % y,(Nat.one_mul _).symm,hy,by omega,by rw[AbB];exact hg,by rw[Int.ofNat_tmod],rfl⟩
theorem Aio {n d:Int} (h:¬(1≤d∧d≤1000000000000000∧MR n)):¬VF n d:=fun hv=>h ⟨hv.1,hv.2.1,hv.2.2.1⟩
theorem fvP {n d:Int}:Ag (Ac tab) 277 [.agg [.int .i64 n,.int .i64 d]] (· =.bool (decide (VF n d))):=by
 by_cases h:1≤d∧d≤1000000000000000∧MR n
 ·obtain⟨h1,h2,h3⟩:=h
  have hg:=Avr h3 (show MR d by unfold MR;omega)
  refine Ad rfl rfl ?_
  (conv=>whnf);repeat' (first|(refine Bo (inP (n:=n)) (fun hr=>?_) (fun hr=>absurd h3 hr);conv=>whnf)|(refine Aa hg ?_;rintro _ rfl;conv=>whnf)|refine kA ?_;conv=>whnf|(apply Br.mk<;>intro hc<;>first|exact hc.elim|conv=>whnf)|refine kB ?_)
  all_goals first
   |exact Bh ⟨h1,h2,h3,by omega⟩
   |exact Ar fun hv=>by have:=hv.2.2.2;omega
   |trace_state
 ·have hno:=Aio h
  have hnr:¬MR n∨¬(1≤d∧d≤1000000000000000):=by
   by_cases h3:MR n
   ·exact .inr fun h12=>h ⟨h12.1,h12.2,h3⟩
   ·exact .inl h3
  refine Ad rfl rfl ?_
  (conv=>whnf);repeat' (first|(refine Bo (inP (n:=n)) (fun hr=>?_) (fun hr=>?_)<;>conv=>whnf)|refine kA ?_;conv=>whnf|(apply Br.mk<;>intro hc<;>first|exact hc.elim|conv=>whnf)|refine kB ?_)
  all_goals first
   |exact Ar hno
   |(exfalso;rcases hnr with h|h;exact h hr;omega)
   |trace_state
end AI
end Go.Proofs.YthnehejdkajjhaaGreatDoor
