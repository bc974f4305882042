/- The arguments of the graph laws, taken apart: values, properties, nodes, edges, graphs. A value in a list of values. What a change leaves alone: plain. Changes as arguments. Looking for the first. The reference looks up nodes and edges. The budget of a graph; names and types; entries. Looking for the first: good properties. Small values. A value cloned reads as the value. Clones: they read as what was cloned. The program looks up nodes and edges. Comparing two numbers. Sorting in place: lists of a store against arrays of the library's plain sort. math/bits.Len and the next power of two. -/
import Derived.Test.YtjijnamhalgamaaGreatDoorBMab
import Derived.Test.YtjijnamhalgamaaGreatDoorBMaa
import Derived.Test.YtjijnamhalgamaaGreatDoorTGrCode
import Derived.Sort.AssemblyPlain
set_option linter.unusedVariables false
set_option maxRecDepth 4000
namespace Go.Proofs.YtjijnamhalgamaaGreatDoor
namespace AI
structure GV where
 k:Int
 n:Int
 d:Int
 s:List UInt8
 nn:Bool
 l:List AV
def GV.av (v:GV):AV:=.agg [.int .i64 v.k,.int .i64 v.n,.int .i64 v.d,.str v.s,.sl v.nn v.l]
structure GP where
 key:List UInt8
 v:GV
def GP.av (p:GP):AV:=.agg [.str p.key,.int .i64 p.v.k,.int .i64 p.v.n,.int .i64 p.v.d,.str p.v.s,.sl p.v.nn p.v.l]
structure GN where
 id:Int
 ln:Bool
 labels:List (List UInt8)
 pn:Bool
 props:List GP
def GN.av (n:GN):AV:=.agg [.int .i64 n.id,.sl n.ln (vs .str n.labels),.sl n.pn (vs GP.av n.props)]
structure GE where
 id:Int
 fr:Int
 to:Int
 ty:List UInt8
 pn:Bool
 props:List GP
def GE.av (n:GE):AV:=.agg [.int .i64 n.id,.int .i64 n.fr,.int .i64 n.to,.str n.ty,.sl n.pn (vs GP.av n.props)]
structure GG where
 nn:Bool
 nodes:List GN
 en:Bool
 edges:List GE
 Df:Int
 DC:Int
def GG.av (g:GG):AV:=.agg [.sl g.nn (vs GN.av g.nodes),.sl g.en (vs GE.av g.edges),.int .i64 g.Df,.int .i64 g.DC]
def I64 (z:Int):Prop:=-2^63≤z∧z<2^63
def Ln {α:Type} (l:List α):Prop:=l.length<2^63
def GV.ok (v:GV):Prop:=I64 v.k∧I64 v.n∧I64 v.d∧Ln v.s∧Ln v.l∧(v.nn=false→v.l=[])∧∀x∈v.l,Like Tryz.prog 42 x
def GP.ok (p:GP):Prop:=Ln p.key∧p.v.ok
def GN.ok (n:GN):Prop:=I64 n.id∧Ln n.labels∧(n.ln=false→n.labels=[])∧(∀ s∈n.labels,Ln s)∧Ln n.props∧(n.pn=false→n.props=[])∧∀p∈n.props,p.ok
def GE.ok (e:GE):Prop:=I64 e.id∧I64 e.fr∧I64 e.to∧Ln e.ty∧Ln e.props∧(e.pn=false→e.props=[])∧∀p∈e.props,p.ok
def GG.ok (g:GG):Prop:=Ln g.nodes∧(g.nn=false→g.nodes=[])∧(∀ n∈g.nodes,n.ok)∧Ln g.edges∧(g.en=false→g.edges=[])∧(∀ e∈g.edges,e.ok)∧I64 g.Df∧I64 g.DC
theorem Vk:Tryz.prog.cellsOf 3=1:=by kernel_rfl
theorem MI:Tryz.prog.cellsOf 9=1:=by kernel_rfl
theorem Ab1:Tryz.prog.cellsOf 54=1:=by kernel_rfl
theorem Ael:Tryz.prog.cellsOf 40=1:=by kernel_rfl
theorem WH:Tryz.prog.cellsOf 42=5:=by kernel_rfl
theorem Aj5:Tryz.prog.cellsOf 131=6:=by kernel_rfl
theorem AaQ:Tryz.prog.cellsOf 55=1:=by kernel_rfl
theorem Aj6:Tryz.prog.cellsOf 57=3:=by kernel_rfl
theorem AgY:Tryz.prog.cellsOf 22=1:=by kernel_rfl
theorem Aj7:Tryz.prog.cellsOf 87=5:=by kernel_rfl
theorem AgZ:Tryz.prog.cellsOf 23=1:=by kernel_rfl
theorem Ag0:Tryz.prog.cellsOf 25=4:=by kernel_rfl
theorem AoA {l:List AV} (h:l.length=3):∃a b c,l=[a,b,c]:=by
 rcases l with _|⟨a,_|⟨b,_|⟨c,_|⟨d,r⟩⟩⟩⟩<;>simp at h
 exact⟨a,b,c,rfl⟩
theorem AoB {l:List AV} (h:l.length=4):∃a b c d,l=[a,b,c,d]:=by
 rcases l with _|⟨a,_|⟨b,_|⟨c,_|⟨d,_|⟨e,r⟩⟩⟩⟩⟩<;>simp at h
 exact⟨a,b,c,d,rfl⟩
theorem AmC {l:List AV} (h:l.length=5):∃a b c d e,l=[a,b,c,d,e]:=by
 rcases l with _|⟨a,_|⟨b,_|⟨c,_|⟨d,_|⟨e,_|⟨f,r⟩⟩⟩⟩⟩⟩<;>simp at h
 exact⟨a,b,c,d,e,rfl⟩
theorem Aj8 {l:List AV} (h:l.length=6):∃a b c d e f,l=[a,b,c,d,e,f]:=by
 rcases l with _|⟨a,_|⟨b,_|⟨c,_|⟨d,_|⟨e,_|⟨f,_|⟨g,r⟩⟩⟩⟩⟩⟩⟩<;>simp at h
 exact⟨a,b,c,d,e,f,rfl⟩
theorem Aj9 {n:Int} (h:(Lit.int .i64 n).wf=true):I64 n:=by
 simp[Lit.wf]at h
 have h1:IntKind.i64.min=-2^63:=by rfl
 have h2:IntKind.i64.max=2^63-1:=by rfl
 unfold I64
 omega
theorem Va {α:Type} {l:List α} (h:l.length≤maxLen):Ln l:=by unfold Ln;have:=Ab2;omega
theorem F9 {d:Nat} {cs:List AV} (h:Dl Tryz.prog d 3 cs):∃n,cs=[.int .i64 n]∧I64 n:=by
 obtain⟨k,e1,h1⟩:=Ab3 Tryz.underlying3 h
 exact⟨k,e1,Aj9 h1⟩
theorem Ic {d:Nat} {cs:List AV} (h:Dl Tryz.prog d 9 cs):∃n,cs=[.str n]∧Ln n:=by
 obtain⟨k,e1,h1⟩:=PN Tryz.underlying9 h
 exact⟨k,e1,Va h1⟩
theorem MJ {d:Nat} {cs:List AV} (h:Dl Tryz.prog d 42 cs):∃v:GV,cs=[.int .i64 v.k,.int .i64 v.n,.int .i64 v.d,.str v.s,.sl v.nn v.l]∧v.ok:=by
 obtain⟨d',rfl,g1,g2⟩:=Ez Tryz.underlying42 h
 rw[WH]at g1
 obtain⟨a,b,c,e,f,rfl⟩:=AmC g1
 clear g1
 simp only[List.forall_mem_cons]at g2
 obtain⟨f1,f2,f3,f4,f5,_⟩:=g2
 simp only[Vk,MI,Ael,List.drop_zero,List.drop_succ_cons,List.take_succ_cons,List.take_zero]at f1 f2 f3 f4 f5
 obtain⟨k,e1,h1⟩:=F9 f1
 obtain⟨n,e2,h2⟩:=F9 f2
 obtain⟨m,e3,h3⟩:=F9 f3
 obtain⟨s,e4,h4⟩:=Ic f4
 obtain⟨d'',_,nl,xs,e5,h5,h6,h7⟩:=MK Tryz.underlying40 f5
 cases e1;cases e2;cases e3;cases e4;cases e5
 exact⟨⟨k,n,m,s,nl,xs⟩,rfl,h1,h2,h3,h4,Va h6,h5,fun x hx=>⟨_,h7 x hx⟩⟩
theorem ZF {a:AV} (h:Like Tryz.prog 42 a):∃v:GV,a=v.av∧v.ok:=by
 obtain⟨d,h⟩:=h
 obtain⟨cs,rfl,h0⟩:=Fq Tryz.underlying42 h
 obtain⟨v,rfl,h1⟩:=MJ h0
 exact⟨v,rfl,h1⟩
theorem Vl {d:Nat} {a:AV} (h:like Tryz.prog d 131 a):∃v:GP,a=v.av∧v.ok:=by
 obtain⟨cs,rfl,h0⟩:=Fq Tryz.underlying131 h
 obtain⟨d',rfl,g1,g2⟩:=Ez Tryz.underlying131 h0
 rw[Aj5]at g1
 obtain⟨a,b,c,e,f,g,rfl⟩:=Aj8 g1
 clear g1
 simp only[List.forall_mem_cons]at g2
 obtain⟨f1,f2,_⟩:=g2
 simp only[MI,WH,List.drop_zero,List.drop_succ_cons,List.take_succ_cons,List.take_zero]at f1 f2
 obtain⟨s,e1,h1⟩:=Ic f1
 obtain⟨v,e2,h2⟩:=MJ f2
 cases e1;cases e2
 exact⟨⟨s,v⟩,rfl,h1,h2⟩
theorem Kv {α:Type} {f:α→AV} {Q:α→Prop} {d:Nat} {t e:TypeId} {cs:List AV} (hu:Tryz.prog.underlying t=some (.slice e)) (he:∀d x,like Tryz.prog d e x→∃y,x=f y∧Q y) (h:Dl Tryz.prog d t cs):
 ∃nn l,cs=[.sl nn (vs f l)]∧(nn=false→l=[])∧Ln l∧∀y∈l,Q y:=by
 obtain⟨d',rfl,nn,xs,rfl,h0,h1,h2⟩:=MK hu h
 obtain⟨l,rfl,h3⟩:=Ld (f:=f) (Q:=Q) fun x hx=>he d' x (h2 x hx)
 exact⟨nn,l,rfl,fun h=>by have:=h0 h;simpa using this,Va (by simpa using h1),h3⟩
theorem Aem {d:Nat} {a:AV} (h:like Tryz.prog d 9 a):∃s:List UInt8,a=.str s∧Ln s:=by
 obtain⟨k,e1,h1⟩:=X9 Tryz.underlying9 h
 exact⟨k,e1,Va h1⟩
theorem Ab4 {d:Nat} {a:AV} (h:like Tryz.prog d 57 a):∃v:GN,a=v.av∧v.ok:=by
 obtain⟨cs,rfl,h0⟩:=Fq Tryz.underlying57 h
 obtain⟨d',rfl,g1,g2⟩:=Ez Tryz.underlying57 h0
 rw[Aj6]at g1
 obtain⟨a,b,c,rfl⟩:=AoA g1
 clear g1
 simp only[List.forall_mem_cons]at g2
 obtain⟨f1,f2,f3,_⟩:=g2
 simp only[Vk,Ab1,AaQ,List.drop_zero,List.drop_succ_cons,List.take_succ_cons,List.take_zero]at f1 f2 f3
 obtain⟨s,e1,h1⟩:=F9 f1
 obtain⟨ln,L,e2,h2,h2a,h2b⟩:=Kv (f:=.str) (Q:=Ln) Tryz.underlying54 (fun d x h=>Aem h) f2
 obtain⟨pn,P,e3,h3,h3a,h3b⟩:=Kv (f:=GP.av) (Q:=GP.ok) Tryz.underlying55 (fun d x h=>Vl h) f3
 cases e1;cases e2;cases e3
 exact⟨⟨s,ln,L,pn,P⟩,rfl,h1,h2a,h2,h2b,h3a,h3,h3b⟩
theorem Ab5 {d:Nat} {a:AV} (h:like Tryz.prog d 87 a):∃v:GE,a=v.av∧v.ok:=by
 obtain⟨cs,rfl,h0⟩:=Fq Tryz.underlying87 h
 obtain⟨d',rfl,g1,g2⟩:=Ez Tryz.underlying87 h0
 rw[Aj7]at g1
 obtain⟨a,b,c,e,f,rfl⟩:=AmC g1
 clear g1
 simp only[List.forall_mem_cons]at g2
 obtain⟨f1,f2,f3,f4,f5,_⟩:=g2
 simp only[Vk,MI,AaQ,List.drop_zero,List.drop_succ_cons,List.take_succ_cons,List.take_zero]at f1 f2 f3 f4 f5
 obtain⟨k,e1,h1⟩:=F9 f1
 obtain⟨n,e2,h2⟩:=F9 f2
 obtain⟨m,e3,h3⟩:=F9 f3
 obtain⟨s,e4,h4⟩:=Ic f4
 obtain⟨pn,P,e5,h5,h5a,h5b⟩:=Kv (f:=GP.av) (Q:=GP.ok) Tryz.underlying55 (fun d x h=>Vl h) f5
 cases e1;cases e2;cases e3;cases e4;cases e5
 exact⟨⟨k,n,m,s,pn,P⟩,rfl,h1,h2,h3,h4,h5a,h5,h5b⟩
theorem ZG {a:AV} (h:Like Tryz.prog 25 a):∃v:GG,a=v.av∧v.ok:=by
 obtain⟨d,h⟩:=h
 obtain⟨cs,rfl,h0⟩:=Fq Tryz.underlying25 h
 obtain⟨d',rfl,g1,g2⟩:=Ez Tryz.underlying25 h0
 rw[Ag0]at g1
 obtain⟨a,b,c,e,rfl⟩:=AoB g1
 clear g1
 simp only[List.forall_mem_cons]at g2
 obtain⟨f1,f2,f3,f4,_⟩:=g2
 simp only[Vk,AgY,AgZ,List.drop_zero,List.drop_succ_cons,List.take_succ_cons,List.take_zero]at f1 f2 f3 f4
 obtain⟨nn,N,e1,h1,h1a,h1b⟩:=Kv (f:=GN.av) (Q:=GN.ok) Tryz.underlying22 (fun d x h=>Ab4 h) f1
 obtain⟨en,E,e2,h2,h2a,h2b⟩:=Kv (f:=GE.av) (Q:=GE.ok) Tryz.underlying23 (fun d x h=>Ab5 h) f2
 obtain⟨m,e3,h3⟩:=F9 f3
 obtain⟨k,e4,h4⟩:=F9 f4
 cases e1;cases e2;cases e3;cases e4
 exact⟨⟨nn,N,en,E,m,k⟩,rfl,h1a,h1,h1b,h2a,h2,h2b,h3,h4⟩
theorem DX {l:List AV} (h:∀x∈l,Like Tryz.prog 42 x) (i:Nat):
 ∃g:GV,∀hi:i<l.length,nth l (Int.toNat (Nat.cast i))=some g.av∧l[i]=g.av∧g.ok:=by
 by_cases hi:i<l.length
 ·obtain⟨g,e,hg⟩:=ZF (h _ (List.getElem_mem hi))
  exact⟨g,fun _=>⟨by rw[← e];exact nR hi,e,hg⟩⟩
 ·exact⟨⟨0,0,0,[],true,[]⟩,fun h=>absurd h hi⟩
structure GC where
 op:Int
 id:Int
 fr:Int
 to:Int
 name:List UInt8
 v:GV
def GC.av (c:GC):AV:=.agg [.int .i64 c.op,.int .i64 c.id,.int .i64 c.fr,.int .i64 c.to,.str c.name,.int .i64 c.v.k,.int .i64 c.v.n,.int .i64 c.v.d,.str c.v.s,.sl c.v.nn c.v.l]
def GC.ok (c:GC):Prop:=I64 c.op∧I64 c.id∧I64 c.fr∧I64 c.to∧Ln c.name∧c.v.ok
def Aip (ns:List Int) (N:List GN):List GN:=N.filter fun n=>decide (n.id∉ns)
def Aiq (es:List Int) (E:List GE):List GE:=E.filter fun e=>decide (e.id∉es)
def Qy (ns es:List Int) (g h:GG):Prop:=Aip ns h.nodes=Aip ns g.nodes∧Aiq es h.edges=Aiq es g.edges
theorem Qy.refl (ns es:List Int) (g:GG):Qy ns es g g:=⟨rfl,rfl⟩
theorem Qy.trans {ns es:List Int} {g h k:GG} (h1:Qy ns es g h) (h2:Qy ns es h k):Qy ns es g k:=⟨h2.1.trans h1.1,h2.2.trans h1.2⟩
theorem O8 {α:Type} {p:α→Bool} {l:List α} {i:Nat} (hi:i<l.length) (h:∀x∈l.take i,p x=false) (hp:p l[i]=true):l.find? p=some l[i]:=by
 have e:l=l.take i++l[i]::l.drop (i+1):=by rw[← List.drop_eq_getElem_cons hi,List.take_append_drop]
 have h1:(l.take i).find? p=none:=List.find?_eq_none.2 fun x hx=>by simp[h x hx]
 refine(congrArg (List.find? p) e).trans ?_
 rw[List.find?_append,h1,List.find?_cons_of_pos hp]
 rfl
theorem WS {α:Type} {p:α→Bool} {l:List α} (h:∀x∈l,p x=false):l.find? p=none:=List.find?_eq_none.2 fun x hx=>by simp[h x hx]
theorem WT {α:Type} {p:α→Bool} {l:List α} {i:Nat} (hi:i<l.length) (h:∀x∈l.take i,p x=false) (hp:p l[i]=false):∀x∈l.take (i+1),p x=false:=Bl hi h hp
def N0:GN:=⟨0,false,[],false,[]⟩
def VZ (id:Int) (n:GN):Bool:=decide (n.id=id)
def QJ (l:List GN) (id:Int):AV:=match l.find? (VZ id)with
 |some n=>.BD [n.av,.bool true]
 |none=>.BD [N0.av,.bool false]
theorem AmW {g:GG} (hl:g.nodes.length<2^63) {id:Int}:Ae (Ad tab) 81 [g.av,.int .i64 id] (· =QJ g.nodes id):=by
 refine Ac rfl rfl ?_
 (conv=>whnf);repeat' (first|((first|refine kA ?_|(apply Br.mk<;>intro hc))<;>first|exact hc.elim|conv=>whnf)|refine kB ?_)
 refine Ag (fun m env s=>∃i:Nat,m=g.nodes.length-i∧(∀ x∈g.nodes.take i,VZ id x=false)∧env=[(1,.int .i64 id),(2,.ref 0 0 0 0),(4,.ref 1 1 0 0),(6,.int .i64 i)]∧s=⟨[.arr 0 4 true true [g.av],.arr 1 3 true true [.agg [.int .i64 0,.sl false [],.sl false []]]],2⟩) ?_ _ _ _ ⟨0,rfl,by simp,rfl,rfl⟩
 rintro _ _ _ ⟨i,rfl,hx,rfl,rfl⟩
 refine⟨rfl,?_⟩
 (conv=>whnf);repeat' (first|((first|refine kA ?_|(apply Br.mk<;>intro hc))<;>first|exact hc.elim|conv=>whnf)|refine kB ?_)
 ·rw[QJ,O8 (by omega) hx (decide_eq_true hc)];rfl
 ·exact again.mk ⟨_,by omega,i+1,rfl,WT (by omega) hx (decide_eq_false hc),rfl,rfl⟩
 ·rw[BN hc]at hx
  rw[QJ,WS hx];rfl
def Gx:Nat→AV→Prop
 |0,_=>False
 |d+1,a=>∃g:GV,a=g.av∧g.ok∧g.s.length≤101000∧g.l.length≤2000∧∀x∈g.l,Gx d x
theorem wei:∀(d:Nat),d≤12→∀{g:GV} (hg:g.ok) {left:Int} (h1:-184467440737095530≤left) (h2:left≤2000),
 Ae (Ad tab) 88 [g.av,.int .i64 left,.int .i64 d] (fun v=>∃r,v=.int .i64 r∧-368934881474191048≤r∧r≤1999∧(0≤r→r+1≤left∧Gx d g.av)):=by
 intro d
 induction d with
 |zero=>
  intro _ g hg left h1 h2
  obtain⟨g1,g2,g3,g4,g5,g6,g7⟩:=hg
  unfold Ln at g4 g5
  refine Ac rfl rfl ?_
  (conv=>whnf);repeat' (first|((first|refine kA ?_|(apply Br.mk<;>intro hc)|refine VD (by omega) ?_)<;>first|exact hc.elim|conv=>whnf)|refine kB ?_)
  all_goals exact⟨_,rfl,by omega,by omega,fun h=>absurd h (by omega)⟩
 |succ d ih=>
  intro hd g hg left h1 h2
  obtain⟨g1,g2,g3,g4,g5,g6,g7⟩:=hg
  unfold Ln at g4 g5
  refine Ac rfl rfl ?_
  (conv=>whnf);repeat' (first|((first|refine kA ?_|(apply Br.mk<;>intro hc)|refine VD (by omega) ?_)<;>first|exact hc.elim|conv=>whnf)|refine kB ?_)
  have hw:∀{g:GV} (hg:g.ok) {left:Int} (h1:-184467440737095530≤left) (h2:left≤2000),
        Ae (Ad tab) 88 [g.av,.int .i64 left,.int .i64 (((d+1:Nat):Int)-1)] (fun v=>∃r,v=.int .i64 r∧-368934881474191048≤r∧r≤1999∧(0≤r→r+1≤left∧Gx d g.av)):=by
   rw[show ((d+1:Nat):Int)-1=(d:Int) by omega]
   exact ih (by omega)
  refine Ag (fun m env s=>∃(i:Nat) (cur:Int),m=g.l.length-i∧env=[(1,.int .i64 cur),(2,.int .i64 (d+1:Nat)),(3,.ref 0 0 0 0),(7,.int .i64 i)]∧s=⟨[.arr 0 5 true true [g.av]],1⟩∧
   -368934881474191048≤cur∧cur≤1999∧(0≤cur→cur+i+g.s.length / 50+1≤left∧∀x∈g.l.take i,Gx d x)) ?_ _ _ _ ⟨0,_,rfl,rfl,rfl,by omega,by omega,fun h=>⟨by omega,by simp⟩⟩
  rintro _ _ _ ⟨i,cur,rfl,rfl,rfl,b1,b2,hx⟩
  refine⟨rfl,?_⟩
  obtain⟨gx,hgx⟩:=DX g7 i
  (conv=>whnf);repeat' (first|((first|refine kA ?_|(apply Br.mk<;>intro hc)|(apply Af;(· exact(hgx (by omega)).1)))<;>first|exact hc.elim|conv=>whnf)|refine kB ?_)
  ·obtain⟨_,ge,gl⟩:=hgx (by omega)
   refine Aa (hw gl (by omega) (by omega)) ?_
   rintro _ ⟨r,rfl,r1,r2,r3⟩
   (conv=>whnf);repeat' (first|((first|refine kA ?_|(apply Br.mk<;>intro hc))<;>first|exact hc.elim|conv=>whnf)|refine kB ?_)
   exact again.mk ⟨_,by omega,i+1,r,rfl,rfl,rfl,by omega,by omega,fun h=>⟨by have:=hx (by omega);have:=r3 h;omega,Bl (by omega) (hx (by omega)).2 (ge▸(r3 h).2)⟩⟩
  ·exact⟨_,rfl,by omega,by omega,fun h=>absurd h (by omega)⟩
  ·refine⟨_,rfl,by omega,by omega,fun h=>?_⟩
   obtain⟨x1,x2⟩:=hx h
   rw[BN hc]at x2
   exact⟨by omega,g,rfl,⟨g1,g2,g3,g4,g5,g6,g7⟩,by omega,by omega,x2⟩
def AiG (ps:List GP):Prop:=ps.length≤2000∧∀p∈ps,p.ok∧Gx 12 p.v.av
theorem Ny {d:Nat} {a:AV} (h:Gx d a):∃g:GV,a=g.av∧g.ok∧g.l.length≤2000∧∃d',d=d'+1∧∀x∈g.l,Gx d' x:=by
 cases d with
 |zero=>cases h
 |succ d=>
  obtain⟨g,e,h1,h2,h3,h4⟩:=h
  exact⟨g,e,h1,h3,d,rfl,h4⟩
theorem Ahd {d:Nat} {l:List AV} (h:∀x∈l,Gx d x) (i:Nat):∃g:GV,∀hi:i<l.length,nth l (Int.toNat (Nat.cast i))=some g.av∧l[i]=g.av∧g.ok∧Gx d g.av:=by
 by_cases hi:i<l.length
 ·obtain⟨g,e,hg,_⟩:=Ny (h _ (List.getElem_mem hi))
  exact⟨g,fun _=>⟨by rw[← e];exact nR hi,e,hg,e▸h _ (List.getElem_mem hi)⟩⟩
 ·exact⟨⟨0,0,0,[],true,[]⟩,fun h=>absurd h hi⟩
theorem Jy {g es:Nat} {ys:List AV} {bytes:Nat} {K:Nat→Bool→Bool→List AV→Prop} (hs:Bc es ys) (hr:ys.length*bytes≤2 ^ 46) (h:K ys.length true true ys):
 IW g g es es 0 true true true [] ys bytes K:=by
 refine⟨⟨rfl,rfl,by simp,hs,?_⟩,?_⟩
 ·rw[Nat.zero_add];exact Jq hr
 ·rw[Nat.zero_add];exact h
theorem AhT:Ar (Ad tab) 240 [.sl false []] ⟨[],0⟩ fun out _=>out=.ok (.sl false []):=by
 refine Ai rfl rfl ?_
 (conv=>whnf);repeat' (first|((first|refine kA ?_|(apply Br.mk<;>intro hc))<;>first|exact hc.elim|conv=>whnf)|refine kB ?_)
 rfl
theorem Ak7 {l:List AV} (hs:Bc 5 l) (hl:l.length≤2000):Ar (Ad tab) 240 [.sl true l] ⟨[],0⟩ fun out s'=>∃o g,out=.ok (.own o g 0 l.length)∧nth s'.σ o=some (.arr g 5 true true l):=by
 refine Ai rfl rfl ?_
 (conv=>whnf);repeat' (first|((first|refine kA ?_|(apply Br.mk<;>intro hc))<;>first|exact hc.elim|conv=>whnf)|refine kB ?_)
 refine Jy hs (by omega) ?_
 (conv=>whnf);repeat' (first|((first|refine kA ?_|(apply Br.mk<;>intro hc))<;>first|exact hc.elim|conv=>whnf)|refine kB ?_)
 exact⟨_,_,rfl,rfl⟩
theorem Acm {d:Nat} {l:List AV} (h:∀x∈l,Gx d x):Bc 5 l:=by
 intro x hx
 obtain⟨g,rfl,_⟩:=Ny (h x hx)
 rfl
theorem UU {l:List AV} {z:Nat} {x:AV} (h:nth l z=some x):l.set z x=l:=by
 rw[AU]at h
 obtain⟨hz,rfl⟩:=List.getElem?_eq_some_iff.1 h
 exact List.set_getElem_self hz
theorem AcX (l:List AV):sub l 0 l.length=l:=by unfold sub;exact List.take_of_length_le (by simp)
theorem Acn {d:Nat} {g:GV} (hg:g.ok) (h2:g.l.length≤2000) (h3:∀x∈g.l,Gx d x) (ih:∀{g:GV},g.ok→Gx d g.av→Ae (Ad tab) 177 [g.av] (· =g.av)):
 Ae (Ad tab) 177 [g.av] (· =g.av):=by
 obtain⟨g1,g2,g3,g4,g5,g6,g7⟩:=hg
 obtain⟨k,n,dd,s,nn,l⟩:=g
 simp only at*
 cases nn with
 |false=>
  obtain rfl:=g6 rfl
  refine Ac rfl rfl ?_
  (conv=>whnf);repeat' (first|((first|refine kA ?_|(apply Br.mk<;>intro hc))<;>first|exact hc.elim|conv=>whnf)|refine kB ?_)
  refine FW rfl AhT ?_
  (conv=>whnf);repeat' (first|((first|refine kA ?_|(apply Br.mk<;>intro hc))<;>first|exact hc.elim|conv=>whnf)|refine kB ?_)
  refine DR ?_ rfl
  (conv=>whnf);repeat' (first|((first|refine kA ?_|(apply Br.mk<;>intro hc))<;>first|exact hc.elim|conv=>whnf)|refine kB ?_)
  rfl
 |true=>
  refine Ac rfl rfl ?_
  (conv=>whnf);repeat' (first|((first|refine kA ?_|(apply Br.mk<;>intro hc))<;>first|exact hc.elim|conv=>whnf)|refine kB ?_)
  refine RY rfl (Ak7 (Acm h3) h2) ?_
  (conv=>whnf);repeat' (first|((first|refine kA ?_|(apply Br.mk<;>intro hc))<;>first|exact hc.elim|conv=>whnf)|refine kB ?_)
  refine Ag (fun m env st=>∃i:Nat,m=l.length-i∧env=[(1,.ref 0 0 0 0),(2,.ref 1 1 0 0),(10,.int .i64 l.length),(11,.int .i64 i)]∧st=⟨[.arr 0 5 true false [.agg [.int .i64 k,.int .i64 n,.int .i64 dd,.str s,.own 2 2 0 l.length]],.arr 1 5 true true [.agg [.int .i64 0,.int .i64 0,.int .i64 0,.str [],.sl false []]],.arr 2 5 true true l],3⟩) ?_ _ _ _ ⟨0,rfl,rfl,rfl⟩
  rintro _ _ _ ⟨i,rfl,rfl,rfl⟩
  refine⟨rfl,?_⟩
  unfold Ln at g5
  obtain⟨gx,hgx⟩:=Ahd h3 i
  (conv=>whnf);repeat' (first|((first|(apply Af;(· exact(hgx (by omega)).1))|apply kE (ih (g:=gx) (hgx (by omega)).2.2.1 (hgx (by omega)).2.2.2)|(apply Cb;(· exact UU (x:=gx.av) (hgx (by omega)).1))|refine kA ?_|(apply Br.mk<;>intro hc))<;>first|exact hc.elim|conv=>whnf)|refine kB ?_)
  ·exact again.mk ⟨_,by omega,i+1,rfl,rfl,rfl⟩
  ·rw[AcX];rfl
theorem RZ:∀(d:Nat) {g:GV},g.ok→Gx d g.av→Ae (Ad tab) 177 [g.av] (· =g.av)
 |0,_,_,h=>by cases h
 |d+1,g,hg,h=>by
  obtain⟨g',e,h1,h2,d',e2,h3⟩:=Ny h
  obtain rfl:d=d':=by omega
  have:g.l=g'.l:=by injection e with e;simp only[List.cons.injEq,AV.sl.injEq]at e;exact e.2.2.2.2.1.2
  exact Acn hg (by rw[this];exact h2) (by rw[this];exact h3) (RZ d)
theorem cloneS {l:List (List UInt8)} {nn:Bool} (hl:l.length≤2000) (hn:nn=false→l=[]):Ae (Ad tab) 65 [.sl nn (vs .str l)] (· =.sl nn (vs .str l)):=by
 cases nn with
 |false=>
  obtain rfl:=hn rfl
  refine Ac rfl rfl ?_
  (conv=>whnf);repeat' (first|((first|refine kA ?_|(apply Br.mk<;>intro hc))<;>first|exact hc.elim|conv=>whnf)|refine kB ?_)
  rfl
 |true=>
  refine Ac rfl rfl ?_
  (conv=>whnf);repeat' (first|((first|refine kA ?_|(apply Br.mk<;>intro hc)|refine Jy (Cj (fun _=>rfl) _) (by rw[lV];omega) ?_)<;>first|exact hc.elim|conv=>whnf)|refine kB ?_)
  refine Jy (Cj (f:=.str) (fun _=>rfl) l) (by rw[lV];omega) ?_
  (conv=>whnf);repeat' (first|((first|refine kA ?_|(apply Br.mk<;>intro hc))<;>first|exact hc.elim|conv=>whnf)|refine kB ?_)
  rw[lV,uV]
theorem Af8:Ar (Ad tab) 124 [.sl false []] ⟨[],0⟩ fun out _=>out=.ok (.sl false []):=by
 refine Ai rfl rfl ?_
 (conv=>whnf);repeat' (first|((first|refine kA ?_|(apply Br.mk<;>intro hc))<;>first|exact hc.elim|conv=>whnf)|refine kB ?_)
 rfl
theorem Ajn {l:List GP} (hl:l.length≤2000):Ar (Ad tab) 124 [.sl true (vs GP.av l)] ⟨[],0⟩ fun out s'=>∃o g,out=.ok (.own o g 0 (vs GP.av l).length)∧nth s'.σ o=some (.arr g 6 true true (vs GP.av l)):=by
 refine Ai rfl rfl ?_
 (conv=>whnf);repeat' (first|((first|refine kA ?_|(apply Br.mk<;>intro hc))<;>first|exact hc.elim|conv=>whnf)|refine kB ?_)
 refine Jy (Cj (f:=GP.av) (fun _=>rfl) l) (by rw[lV];omega) ?_
 (conv=>whnf);repeat' (first|((first|refine kA ?_|(apply Br.mk<;>intro hc))<;>first|exact hc.elim|conv=>whnf)|refine kB ?_)
 exact⟨_,_,rfl,rfl⟩
theorem Af9 {ps:List GP} {nn:Bool} (hl:ps.length≤2000) (hn:nn=false→ps=[]) (hok:∀p∈ps,p.ok) (hL:∀p∈ps,Gx 12 p.v.av):Ae (Ad tab) 312 [.sl nn (vs GP.av ps)] (· =.sl nn (vs GP.av ps)):=by
 cases nn with
 |false=>
  obtain rfl:=hn rfl
  refine Ac rfl rfl ?_
  (conv=>whnf);repeat' (first|((first|refine kA ?_|(apply Br.mk<;>intro hc))<;>first|exact hc.elim|conv=>whnf)|refine kB ?_)
  refine FW rfl Af8 ?_
  (conv=>whnf);repeat' (first|((first|refine kA ?_|(apply Br.mk<;>intro hc))<;>first|exact hc.elim|conv=>whnf)|refine kB ?_)
  refine DR ?_ rfl
  (conv=>whnf);repeat' (first|((first|refine kA ?_|(apply Br.mk<;>intro hc))<;>first|exact hc.elim|conv=>whnf)|refine kB ?_)
  rfl
 |true=>
  refine Ac rfl rfl ?_
  (conv=>whnf);repeat' (first|((first|refine kA ?_|(apply Br.mk<;>intro hc))<;>first|exact hc.elim|conv=>whnf)|refine kB ?_)
  refine RY rfl (Ajn hl) ?_
  (conv=>whnf);repeat' (first|((first|refine kA ?_|(apply Br.mk<;>intro hc))<;>first|exact hc.elim|conv=>whnf)|refine kB ?_)
  refine Ag (fun m env st=>∃i:Nat,m=ps.length-i∧env=[(3,.own 0 0 0 (vs GP.av ps).length),(8,.int .i64 (vs GP.av ps).length),(9,.int .i64 i)]∧st=⟨[.arr 0 6 true true (vs GP.av ps)],1⟩) ?_ _ _ _ ⟨0,rfl,rfl,rfl⟩
  rintro _ _ _ ⟨i,rfl,rfl,rfl⟩
  refine⟨rfl,?_⟩
  have hll:(vs GP.av ps).length=ps.length:=lV _
  have ho:∀h:i<ps.length,(ps[i]).v.ok∧Gx 12 (ps[i]).v.av:=fun h=>⟨(hok _ (List.getElem_mem h)).2,hL _ (List.getElem_mem h)⟩
  (conv=>whnf);repeat' (first|((first|apply kE (RZ 12 (g:=ps[i].v) (ho (by omega)).1 (ho (by omega)).2)|(apply Cb;(· exact UU (x:=(ps[i]).av) (nVN (by omega))))|refine kA ?_|(apply Br.mk<;>intro hc))<;>first|exact hc.elim|conv=>whnf)|refine kB ?_)
  ·exact again.mk ⟨_,by omega,i+1,rfl,rfl,rfl⟩
  ·rw[AcX]
def Aal (n:GN):Prop:=n.labels.length≤2000∧(n.ln=false→n.labels=[])∧(n.pn=false→n.props=[])∧AiG n.props
theorem AlQ {g:GG} (hl:g.nodes.length<2^63) (hg:∀n∈g.nodes,Aal n) {id:Int}:Ae (Ad tab) 292 [g.av,.int .i64 id] (· =QJ g.nodes id):=by
 refine Ac rfl rfl ?_
 (conv=>whnf);repeat' (first|((first|refine kA ?_|(apply Br.mk<;>intro hc))<;>first|exact hc.elim|conv=>whnf)|refine kB ?_)
 refine Ag (fun m env s=>∃i c:Nat,m=g.nodes.length-i∧(∀ x∈g.nodes.take i,VZ id x=false)∧env=[(1,.int .i64 id),(4,.ref 1 1 0 0),(9,.sl g.nn (vs GN.av g.nodes)),(10,.int .i64 g.nodes.length),(11,.int .i64 i)]∧s=⟨[.arr 0 4 true true [g.av],.arr 1 3 true true [.agg [.int .i64 0,.sl false [],.sl false []]]],c⟩) ?_ _ _ _ ⟨0,_,rfl,by simp,rfl,rfl⟩
 rintro _ _ _ ⟨i,c,rfl,hx,rfl,rfl⟩
 refine⟨rfl,?_⟩
 have ho:∀h:i<g.nodes.length,Aal g.nodes[i]:=fun h=>hg _ (List.getElem_mem h)
 (conv=>whnf);repeat' (first|((first|refine kA ?_|(apply Br.mk<;>intro hc)|apply kE (cloneS (l:=g.nodes[i].labels) (ho (by omega)).1 (ho (by omega)).2.1)|refine kE (Af9 (ps:=g.nodes[i].props) (ho (by omega)).2.2.2.1 (ho (by omega)).2.2.1 (fun p hp=>((ho (by omega)).2.2.2.2 p hp).1) (fun p hp=>((ho (by omega)).2.2.2.2 p hp).2)) ?_)<;>first|exact hc.elim|conv=>whnf)|refine kB ?_)
 ·rw[QJ,O8 (by omega) hx (decide_eq_true hc)]
  simp only
  unfold GN.av
  rw[hc];rfl
 ·exact again.mk ⟨_,by omega,i+1,_,rfl,WT (by omega) hx (decide_eq_false hc),rfl,rfl⟩
 ·rw[BN hc]at hx
  rw[QJ,WS hx];rfl
theorem nan {x:Int}:Ae (Ad tab) 190 [.int .i64 x] (· =.bool (decide False)):=by
 refine Ac rfl rfl ?_
 (conv=>whnf);repeat' (first|((first|refine kA ?_|(apply Br.mk<;>intro hc))<;>first|exact hc.elim|conv=>whnf)|refine kB ?_)
 all_goals first|exact absurd rfl hc|rfl
def GK (x y:Int):Int:=if x<y then -1 else if y<x then 1 else 0
theorem compare {x y:Int}:Ae (Ad tab) 122 [.int .i64 x,.int .i64 y] (· =.int .i64 (GK x y)):=by
 refine Ac rfl rfl ?_
 (conv=>whnf);repeat' (first|((first|refine Aq nan (fun hc=>absurd hc id) (fun _=>?_)|refine kA ?_|(apply Br.mk<;>intro hc))<;>first|exact hc.elim|conv=>whnf)|refine kB ?_)
 all_goals unfold GK;first|(rw [if_pos (by omega)];rfl)|(rw [if_neg (by omega),if_pos (by omega)];rfl)|(rw [if_neg (by omega),if_neg (by omega)];rfl)
theorem OV {x y:Int}:GK x y<0↔x<y:=by unfold GK;split<;>(try split)<;>omega
theorem Gj {x y:Int}:GK x y=0↔x=y:=by unfold GK;split<;>(try split)<;>omega
section
open Go.Sort
section
variable {α:Type} [Inhabited α] {f:α→AV}
theorem nP {d:Array α} {z:Int} (i:Nat) (hz:z=i) (h:i<d.size):nth (vs f d.toList) (Int.toNat z)=some (f d[i]!):=by
 rw[nVz i hz (by simpa using h)]
 simp[h]
omit [Inhabited α]in
theorem tP {es:Nat} (hf:∀x,(f x).cells.length=es) {d:Array α} {z:Int} (i:Nat) (hz:z=i) {x y:α}:(vs f d.toList).set (Int.toNat z) (BF (f y) 0 (f x))=vs f (d.setIfInBounds i x).toList:=by
 subst hz
 have e:BF (f y) 0 (f x)=f x:=by
  unfold BF
  rw[if_pos ⟨rfl,by rw[hf,hf]⟩]
 rw[e]
 show(vs f d.toList).set i (f x)=_
 simp[vs,List.map_set]
theorem Hu {d:Array α} {z:Int} {K:AV→Prop} (i:Nat) (k:K (f d[i]!)) (hz:z=i:=by omega) (h:i<d.size:=by first|omega|(simp;omega)):Ci (vs f d.toList) (Int.toNat z) K:=Af (nP i hz h) k
omit [Inhabited α]in
theorem NJ {es:Nat} (hf:∀x,(f x).cells.length=es) {d:Array α} {z:Int} {x y:α} {K:List AV→Prop} (i:Nat) (k:K (vs f (d.setIfInBounds i x).toList)) (hz:z=i:=by omega):eqK ((vs f d.toList).set (Int.toNat z) (BF (f y) 0 (f x))) K:=Cb (tP hf i hz) k
@[simp] theorem Tv (d:Array α) (i j:Nat):(swp d i j).size=d.size:=by simp[swp]
variable {lt:α→α→Bool} {a b i j hi first root:Nat} {d:Array α}
theorem AfC (h1:a<j+1) (h2:lt d[j+1]! d[j]! =true):insInner lt a (j+1) d=insInner lt a j (swp d (j+1) j):=by
 rw[insInner,if_pos (by simp[h1,h2])]
theorem YE (h:a<j+1→lt d[j+1]! d[j]! =false):insInner lt a (j+1) d=d:=by
 rw[insInner,if_neg]
 simp only[Bool.and_eq_true,decide_eq_true_eq,not_and]
 intro h1 h2
 rw[h h1]at h2;cases h2
theorem Ah6 (h:i<b):insOuter lt a b i d=insOuter lt a b (i+1) (insInner lt a i d):=by rw[insOuter,if_pos h]
theorem Ah7 (h:¬i<b):insOuter lt a b i d=d:=by rw[insOuter,if_neg h]
@[simp] theorem YF:∀{j:Nat} {d:Array α},(insInner lt a j d).size=d.size
 |0,d=>rfl
 |j+1,d=>by
  rw[insInner]
  split
  ·rw[YF,Tv]
  ·rfl
theorem YG (h:hi≤2*root+1):siftDown lt hi first root d=d:=by
 rw[siftDown,dif_pos h]
theorem Alo (h:2*root+1+1<hi) (h1:lt d[first+(2*root+1)]! d[first+(2*root+1)+1]! =true) (h2:lt d[first+root]! d[first+(2*root+2)]! =true):
 siftDown lt hi first root d=siftDown lt hi first (2*root+2) (swp d (first+root) (first+(2*root+2))):=by
 rw[siftDown,dif_neg (by omega),if_pos (by simp[h,h1]),if_neg (by simp[h2]),dif_pos (by omega)]
theorem Ah8 (h:2*root+1+1<hi) (h1:lt d[first+(2*root+1)]! d[first+(2*root+1)+1]! =true) (h2:lt d[first+root]! d[first+(2*root+2)]! =false):
 siftDown lt hi first root d=d:=by
 rw[siftDown,dif_neg (by omega),if_pos (by simp[h,h1]),if_pos (by simp[h2])]
theorem AfD (h:¬hi≤2*root+1) (h1:2*root+1+1<hi→lt d[first+(2*root+1)]! d[first+(2*root+1)+1]! =false) (h2:lt d[first+root]! d[first+(2*root+1)]! =true):
 siftDown lt hi first root d=siftDown lt hi first (2*root+1) (swp d (first+root) (first+(2*root+1))):=by
 rw[siftDown,dif_neg h,if_neg,if_neg (by simp[h2])]
 simp only[Bool.and_eq_true,decide_eq_true_eq,not_and]
 intro h3 h4
 rw[h1 h3]at h4;cases h4
theorem Abm (h:¬hi≤2*root+1) (h1:2*root+1+1<hi→lt d[first+(2*root+1)]! d[first+(2*root+1)+1]! =false) (h2:lt d[first+root]! d[first+(2*root+1)]! =false):
 siftDown lt hi first root d=d:=by
 rw[siftDown,dif_neg h,if_neg,if_pos (by simp[h2])]
 simp only[Bool.and_eq_true,decide_eq_true_eq,not_and]
 intro h3 h4
 rw[h1 h3]at h4;cases h4
theorem YH {lt:α→α→Bool} {hi first:Nat}:∀(n root:Nat) (d:Array α),hi-root≤n→(siftDown lt hi first root d).size=d.size:=by
 intro n
 induction n with
 |zero=>intro root d h;rw[YG (by omega)]
 |succ n ih=>
  intro root d h
  rw[siftDown]
  split
  ·rfl
  ·split
   ·split
    ·rfl
    ·split
     ·rw[ih _ _ (by omega),Tv]
     ·rfl
   ·split
    ·rfl
    ·rw[ih _ _ (by omega),Tv]
@[simp] theorem Ah9:(siftDown lt hi first root d).size=d.size:=YH (hi-root) root d (Nat.le_refl _)
@[simp] theorem Xg:∀{k:Nat} {d:Array α},(heapBuild lt hi first k d).size=d.size
 |0,d=>rfl
 |k+1,d=>by rw[heapBuild,Xg,Ah9]
end
theorem U9 {z:Int} {K:AV→Prop} (n k:Nat) (hz:z=n) (h:n<2^63) (h2:K (.int .i64 ((n / k:Nat):Int))):Jk .i64 (z.tdiv k) K:=by
 subst hz
 have e:(n:Int).tdiv k=((n / k:Nat):Int):=by
  rw[Int.tdiv_eq_ediv_of_nonneg (by omega)];rfl
 rw[e]
 have h3:n / k≤n:=Nat.div_le_self ..
 revert h2 h3 e
 generalize n / k=m
 intro h2 e h3
 exact BI (wrap_i64 (by omega) (by omega)) h2
end
section
open Go.Sort
theorem Adw {k:IntKind} {z:Int} (hk:k.signed=false) (h:0≤z) (h2:z<2 ^ k.bits):k.wrap z=z:=by
 simp only[IntKind.wrap,hk,Bool.false_and,Bool.false_eq_true,if_false]
 exact Int.emod_eq_of_lt h h2
theorem wrapN {k:IntKind} {z:Int} {K:AV→Prop} (n:Nat) (hk:k.signed=false) (hz:z=n) (h:n<2 ^ k.bits) (h2:K (.int k n)):Jk k z K:=by
 subst hz
 refine BI (Adw hk (by omega) ?_) h2
 exact_mod_cast h
theorem CU {n:Nat} (k:Nat) (h:2 ^ k≤n):bitsLen (n / 2 ^ k)+k=bitsLen n:=by
 have h0:k<bitsLen n:=by
  rcases Nat.lt_or_ge k (bitsLen n)with h1|h1
  ·exact h1
  ·have:=(bitsLen_le_iff n k).1 h1;omega
 have e1:bitsLen (n / 2 ^ k)≤bitsLen n-k:=by
  rw[bitsLen_le_iff,Nat.div_lt_iff_lt_mul (Nat.two_pow_pos k),←Nat.pow_add,Nat.sub_add_cancel (by omega)]
  exact lt_two_pow_bitsLen n
 have e2:bitsLen n≤bitsLen (n / 2 ^ k)+k:=by
  rw[bitsLen_le_iff,Nat.pow_add,←Nat.div_lt_iff_lt_mul (Nat.two_pow_pos k)]
  exact lt_two_pow_bitsLen _
 omega
def Zd:List UInt8:=[0,1,2,2,3,3,3,3,4,4,4,4,4,4,4,4]++List.replicate 16 5++List.replicate 32 6++List.replicate 64 7++List.replicate 128 8
theorem Ze:(List.range 256).all (fun n=>nth Zd n==some (UInt8.ofNat (bitsLen n))&&Nat.ble (bitsLen n) 8)=true:=by decide +kernel
theorem U8 {n:Nat} (h:n<256):nth Zd n=some (UInt8.ofNat (bitsLen n))∧bitsLen n≤8:=by
 have:=List.all_eq_true.1 Ze n (List.mem_range.2 h)
 rw[Bool.and_eq_true]at this
 exact⟨by simpa using this.1,Nat.le_of_ble_eq_true this.2⟩
theorem AlY (n:Nat):((n:Int)).fdiv (2 ^ (min (Int.toNat 32) IntKind.u64.bits))=((n / 2 ^ 32:Nat):Int):=by
 rw[show (2:Int) ^ (min (Int.toNat 32) IntKind.u64.bits)=4294967296 by rfl,Int.fdiv_eq_ediv_of_nonneg _ (by omega)]
 rfl
theorem AlZ (n:Nat):((n:Int)).fdiv (2 ^ (min (Int.toNat 16) IntKind.u64.bits))=((n / 2 ^ 16:Nat):Int):=by
 rw[show (2:Int) ^ (min (Int.toNat 16) IntKind.u64.bits)=65536 by rfl,Int.fdiv_eq_ediv_of_nonneg _ (by omega)]
 rfl
theorem Aog (n:Nat):((n:Int)).fdiv (2 ^ (min (Int.toNat 8) IntKind.u64.bits))=((n / 2 ^ 8:Nat):Int):=by
 rw[show (2:Int) ^ (min (Int.toNat 8) IntKind.u64.bits)=256 by rfl,Int.fdiv_eq_ediv_of_nonneg _ (by omega)]
 rfl
theorem AjE {m:Nat} (h:m≤8):(UInt8.ofNat m).toNat=m:=by
 rw[UInt8.toNat_ofNat']
 exact Nat.mod_eq_of_lt (by omega)
set_option maxRecDepth 100000 in
theorem Aoh {n:Nat} {K:UInt8→Prop} (hn:n<256) (h:bitsLen n≤8→K (UInt8.ofNat (bitsLen n))):Ci Zd (Int.toNat (n:Int)) K:=
 Af (U8 hn).1 (h (U8 hn).2)
set_option maxRecDepth 100000 in
theorem Al0 {n:Nat} (h:n<2^64):Ae (Ad tab) 189 [.int .u64 n] (· =.int .i64 (bitsLen n)):=by
 refine Ac rfl rfl ?_
 (conv=>whnf);repeat' (first|((first|(apply Cb;(· first|exact AlY _|exact AlZ _|exact Aog _))|refine wrapN _ rfl rfl (by show _<256;omega) ?_|(refine Aoh (by omega) (fun hb=>?_);rw[AjE hb])|refine kA ?_|(apply Br.mk<;>intro hc))<;>first|exact hc.elim|conv=>whnf)|refine kB ?_)
 all_goals
  show AV.int _ _=_
  congr 1
  first
   |(rw [← CU 32 (n:=n) (by omega),←CU 16 (n:=n / 2 ^ 32) (by omega),←CU 8 (n:=n / 2 ^ 32 / 2 ^ 16) (by omega)];omega)
   |(rw [← CU 32 (n:=n) (by omega),←CU 16 (n:=n / 2 ^ 32) (by omega)];omega)
   |(rw [← CU 32 (n:=n) (by omega),←CU 8 (n:=n / 2 ^ 32) (by omega)];omega)
   |(rw [← CU 32 (n:=n) (by omega)];omega)
   |(rw [← CU 16 (n:=n) (by omega),←CU 8 (n:=n / 2 ^ 16) (by omega)];omega)
   |(rw [← CU 16 (n:=n) (by omega)];omega)
   |(rw [← CU 8 (n:=n) (by omega)];omega)
   |omega
theorem XL {n:Nat} (h:n<2^63):Ae (Ad tab) 120 [.int .u64 n] (· =.int .i64 (bitsLen n)):=by
 refine Ac rfl rfl ?_
 (conv=>whnf);repeat' (first|((first|apply kE (Al0 (n:=n) (by omega))|refine kA ?_|(apply Br.mk<;>intro hc))<;>first|exact hc.elim|conv=>whnf)|refine kB ?_)
 rfl
theorem AbL {n:Nat} (h:n<2^62) (h0:0<n):Ae (Ad tab) 243 [.int .i64 n] (fun v=>∃M:Nat,v=.int .u64 M∧n<M∧M≤2*n):=by
 have h1:=lt_two_pow_bitsLen n
 have h2:=two_pow_bitsLen_le h0
 have h3:bitsLen n≤62:=(bitsLen_le_iff n 62).2 h
 refine Ac rfl rfl ?_
 (conv=>whnf);repeat' (first|((first|refine wrapN n rfl rfl (by show n<2^64;omega) ?_|apply kE (XL (n:=n) (by omega))|(refine wrapN (2 ^ bitsLen n) rfl ?_ (by show _<2^64;omega) ?_;(· rw[Int.one_mul,Int.toNat_natCast,Nat.min_eq_left (by show _≤64;omega)];simp))|refine kA ?_|(apply Br.mk<;>intro hc))<;>first|exact hc.elim|conv=>whnf)|refine kB ?_)
 exact⟨_,rfl,h1,h2⟩
section
variable {α:Type} [Inhabited α] {lt:α→α→Bool} {a b i j:Nat} {d:Array α}
theorem Adx (h:i<b) (h2:lt d[i]! d[i-1]! =false):scanSorted lt d b i=scanSorted lt d b (i+1):=by
 rw[scanSorted,if_pos (by simp[h,h2])]
theorem Tt (h:i<b→lt d[i]! d[i-1]! =true):scanSorted lt d b i=i:=by
 rw[scanSorted,if_neg]
 simp only[Bool.and_eq_true,decide_eq_true_eq,not_and]
 intro h1 h2
 rw[h h1]at h2;cases h2
theorem AjF (h:lt d[j+1]! d[j]! =true):shiftDown lt (j+1) d=shiftDown lt j (swp d (j+1) j):=by
 rw[shiftDown,if_neg (by simp[h])]
theorem Ady (h:lt d[j+1]! d[j]! =false):shiftDown lt (j+1) d=d:=by
 rw[shiftDown,if_pos (by simp[h])]
theorem AjG (h0:j<b) (h:lt d[j]! d[j-1]! =true):shiftUp lt b j d=shiftUp lt b (j+1) (swp d j (j-1)):=by
 rw[shiftUp,if_pos h0,if_neg (by simp[h])]
theorem XM (h:j<b→lt d[j]! d[j-1]! =false):shiftUp lt b j d=d:=by
 rw[shiftUp]
 split
 ·rename_i h0
  rw[if_pos (by simp[h h0])]
 ·rfl
@[simp] theorem AjH:∀{j:Nat} {d:Array α},(shiftDown lt j d).size=d.size
 |0,d=>rfl
 |j+1,d=>by
  rw[shiftDown]
  split
  ·rfl
  ·rw[AjH,Tv]
theorem AaB:∀(n j:Nat) (d:Array α),b-j≤n→(shiftUp lt b j d).size=d.size
 |0,j,d,h=>by rw[shiftUp,if_neg (by omega)]
 |n+1,j,d,h=>by
  rw[shiftUp]
  split
  ·split
   ·rfl
   ·rw[AaB n _ _ (by omega),Tv]
  ·rfl
@[simp] theorem Aoi:(shiftUp lt b j d).size=d.size:=AaB (b-j) j d (Nat.le_refl _)
@[simp] theorem AnG:(fixDown lt a i d).size=d.size:=by unfold fixDown;split<;>simp
@[simp] theorem AnH:(fixUp lt b i d).size=d.size:=by unfold fixUp;split<;>simp
variable {p:α→Bool}
theorem Zf (h:i≤j) (h2:p d[i]! =true):scanUp p d j i=scanUp p d j (i+1):=by
 rw[scanUp,if_pos (by simp[h,h2])]
theorem Kr (h:i≤j→p d[i]! =false):scanUp p d j i=i:=by
 rw[scanUp,if_neg]
 simp only[Bool.and_eq_true,decide_eq_true_eq,not_and]
 intro h1 h2
 rw[h h1]at h2;cases h2
theorem Zg (h:i≤j+1) (h2:p d[j+1]! =true):scanDown p d i (j+1)=scanDown p d i j:=by
 rw[scanDown,if_pos (by simp[h,h2])]
theorem Kt (h:i≤j→p d[j]! =false):scanDown p d i j=j:=by
 cases j with
 |zero=>rfl
 |succ j=>
  rw[scanDown,if_neg]
  simp only[Bool.and_eq_true,decide_eq_true_eq,not_and]
  intro h1 h2
  rw[h h1]at h2;cases h2
end
theorem Me {AP:Nat→Option Ir} {a b:Bg} {env:Env} {s:Am} {Q:AQ→Env→Am→Prop} (h:vC AP a env s (UE (fun env s=>vC AP b env s Q) Q)):vC AP (.seq a b) env s Q:=h
theorem Ags {α:Type} [Inhabited α] {L:List α} {D:Array α} {len:Nat} (hl:L.length=len) (h:PermIn 0 len L.toArray D):D.toList.Perm L:=by
 obtain⟨h1,_,h3⟩:=h
 have e1:D.size=len:=by rw[h1];simpa using hl
 have e2:(D.extract 0 len).toList=D.toList:=by rw[← e1];simp
 have e3:(L.toArray.extract 0 len).toList=L:=by rw[← hl];simp
 rw[e2,e3]at h3
 exact h3
theorem AbM {α:Type} [Inhabited α] {lt:α→α→Bool} {D:Array α} {len:Nat} (hl:D.size=len) (h:SortedIn lt 0 len D):D.toList.Pairwise (fun x y=>lt y x=false):=by
 rw[List.pairwise_iff_getElem]
 intro i j hi hj hij
 have:=h i j (Nat.zero_le _) hij (by simpa[hl]using hj)
 simp only[Array.length_toList]at hi hj
 rw[getElem!_pos D j hj,getElem!_pos D i hi]at this
 simpa using this
end
end AI
end Go.Proofs.YtjijnamhalgamaaGreatDoor
