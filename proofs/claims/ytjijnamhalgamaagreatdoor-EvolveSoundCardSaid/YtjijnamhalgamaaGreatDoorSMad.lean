/- The arguments of the graph laws, taken apart: values, properties, nodes, edges, graphs. A value in a list of values. The arguments of the laws about migrations, taken apart: rules, migrations. Names: the program's and the reference's. What is wrong with a rule: the program's and the reference's Check. Comparing two numbers. Sorting in place: lists of a store against arrays of the library's plain sort. -/
import Derived.Test.YtjijnamhalgamaaGreatDoorBMab
import Derived.Test.YtjijnamhalgamaaGreatDoorBMaa
import Derived.Test.YtjijnamhalgamaaGreatDoorSGrCode
import Derived.Sort.AssemblyPlain
set_option linter.unusedVariables false
set_option maxRecDepth 4000
namespace Go.Proofs.YtjijnamhalgamaaGreatDoor
namespace AI
structure GV where
 k:Int
 n:Int
 d:Int
 s:List UInt8
 nn:Bool
 l:List AV
def GV.av (v:GV):AV:=.agg [.int .i64 v.k,.int .i64 v.n,.int .i64 v.d,.str v.s,.sl v.nn v.l]
structure GP where
 key:List UInt8
 v:GV
def GP.av (p:GP):AV:=.agg [.str p.key,.int .i64 p.v.k,.int .i64 p.v.n,.int .i64 p.v.d,.str p.v.s,.sl p.v.nn p.v.l]
structure GN where
 id:Int
 ln:Bool
 labels:List (List UInt8)
 pn:Bool
 props:List GP
def GN.av (n:GN):AV:=.agg [.int .i64 n.id,.sl n.ln (vs .str n.labels),.sl n.pn (vs GP.av n.props)]
structure GE where
 id:Int
 fr:Int
 to:Int
 ty:List UInt8
 pn:Bool
 props:List GP
def GE.av (n:GE):AV:=.agg [.int .i64 n.id,.int .i64 n.fr,.int .i64 n.to,.str n.ty,.sl n.pn (vs GP.av n.props)]
structure GG where
 nn:Bool
 nodes:List GN
 en:Bool
 edges:List GE
 Df:Int
 DC:Int
def GG.av (g:GG):AV:=.agg [.sl g.nn (vs GN.av g.nodes),.sl g.en (vs GE.av g.edges),.int .i64 g.Df,.int .i64 g.DC]
def I64 (z:Int):Prop:=-2^63≤z∧z<2^63
def Ln {α:Type} (l:List α):Prop:=l.length<2^63
def GV.ok (v:GV):Prop:=I64 v.k∧I64 v.n∧I64 v.d∧Ln v.s∧Ln v.l∧(v.nn=false→v.l=[])∧∀x∈v.l,Like Tryz.prog 42 x
def GP.ok (p:GP):Prop:=Ln p.key∧p.v.ok
def GN.ok (n:GN):Prop:=I64 n.id∧Ln n.labels∧(n.ln=false→n.labels=[])∧(∀ s∈n.labels,Ln s)∧Ln n.props∧(n.pn=false→n.props=[])∧∀p∈n.props,p.ok
def GE.ok (e:GE):Prop:=I64 e.id∧I64 e.fr∧I64 e.to∧Ln e.ty∧Ln e.props∧(e.pn=false→e.props=[])∧∀p∈e.props,p.ok
def GG.ok (g:GG):Prop:=Ln g.nodes∧(g.nn=false→g.nodes=[])∧(∀ n∈g.nodes,n.ok)∧Ln g.edges∧(g.en=false→g.edges=[])∧(∀ e∈g.edges,e.ok)∧I64 g.Df∧I64 g.DC
theorem Vk:Tryz.prog.cellsOf 3=1:=by kernel_rfl
theorem MI:Tryz.prog.cellsOf 9=1:=by kernel_rfl
theorem Ab1:Tryz.prog.cellsOf 54=1:=by kernel_rfl
theorem Ael:Tryz.prog.cellsOf 40=1:=by kernel_rfl
theorem WH:Tryz.prog.cellsOf 42=5:=by kernel_rfl
theorem Aj5:Tryz.prog.cellsOf 131=6:=by kernel_rfl
theorem AaQ:Tryz.prog.cellsOf 55=1:=by kernel_rfl
theorem Aj6:Tryz.prog.cellsOf 57=3:=by kernel_rfl
theorem AgY:Tryz.prog.cellsOf 22=1:=by kernel_rfl
theorem Aj7:Tryz.prog.cellsOf 87=5:=by kernel_rfl
theorem AgZ:Tryz.prog.cellsOf 23=1:=by kernel_rfl
theorem Ag0:Tryz.prog.cellsOf 25=4:=by kernel_rfl
theorem AoA {l:List AV} (h:l.length=3):∃a b c,l=[a,b,c]:=by
 rcases l with _|⟨a,_|⟨b,_|⟨c,_|⟨d,r⟩⟩⟩⟩<;>simp at h
 exact⟨a,b,c,rfl⟩
theorem AoB {l:List AV} (h:l.length=4):∃a b c d,l=[a,b,c,d]:=by
 rcases l with _|⟨a,_|⟨b,_|⟨c,_|⟨d,_|⟨e,r⟩⟩⟩⟩⟩<;>simp at h
 exact⟨a,b,c,d,rfl⟩
theorem AmC {l:List AV} (h:l.length=5):∃a b c d e,l=[a,b,c,d,e]:=by
 rcases l with _|⟨a,_|⟨b,_|⟨c,_|⟨d,_|⟨e,_|⟨f,r⟩⟩⟩⟩⟩⟩<;>simp at h
 exact⟨a,b,c,d,e,rfl⟩
theorem Aj8 {l:List AV} (h:l.length=6):∃a b c d e f,l=[a,b,c,d,e,f]:=by
 rcases l with _|⟨a,_|⟨b,_|⟨c,_|⟨d,_|⟨e,_|⟨f,_|⟨g,r⟩⟩⟩⟩⟩⟩⟩<;>simp at h
 exact⟨a,b,c,d,e,f,rfl⟩
theorem Aj9 {n:Int} (h:(Lit.int .i64 n).wf=true):I64 n:=by
 simp[Lit.wf]at h
 have h1:IntKind.i64.min=-2^63:=by rfl
 have h2:IntKind.i64.max=2^63-1:=by rfl
 unfold I64
 omega
theorem Va {α:Type} {l:List α} (h:l.length≤maxLen):Ln l:=by unfold Ln;have:=Ab2;omega
theorem F9 {d:Nat} {cs:List AV} (h:Dl Tryz.prog d 3 cs):∃n,cs=[.int .i64 n]∧I64 n:=by
 obtain⟨k,e1,h1⟩:=Ab3 Tryz.underlying3 h
 exact⟨k,e1,Aj9 h1⟩
theorem Ic {d:Nat} {cs:List AV} (h:Dl Tryz.prog d 9 cs):∃n,cs=[.str n]∧Ln n:=by
 obtain⟨k,e1,h1⟩:=PN Tryz.underlying9 h
 exact⟨k,e1,Va h1⟩
theorem MJ {d:Nat} {cs:List AV} (h:Dl Tryz.prog d 42 cs):∃v:GV,cs=[.int .i64 v.k,.int .i64 v.n,.int .i64 v.d,.str v.s,.sl v.nn v.l]∧v.ok:=by
 obtain⟨d',rfl,g1,g2⟩:=Ez Tryz.underlying42 h
 rw[WH]at g1
 obtain⟨a,b,c,e,f,rfl⟩:=AmC g1
 clear g1
 simp only[List.forall_mem_cons]at g2
 obtain⟨f1,f2,f3,f4,f5,_⟩:=g2
 simp only[Vk,MI,Ael,List.drop_zero,List.drop_succ_cons,List.take_succ_cons,List.take_zero]at f1 f2 f3 f4 f5
 obtain⟨k,e1,h1⟩:=F9 f1
 obtain⟨n,e2,h2⟩:=F9 f2
 obtain⟨m,e3,h3⟩:=F9 f3
 obtain⟨s,e4,h4⟩:=Ic f4
 obtain⟨d'',_,nl,xs,e5,h5,h6,h7⟩:=MK Tryz.underlying40 f5
 cases e1;cases e2;cases e3;cases e4;cases e5
 exact⟨⟨k,n,m,s,nl,xs⟩,rfl,h1,h2,h3,h4,Va h6,h5,fun x hx=>⟨_,h7 x hx⟩⟩
theorem ZF {a:AV} (h:Like Tryz.prog 42 a):∃v:GV,a=v.av∧v.ok:=by
 obtain⟨d,h⟩:=h
 obtain⟨cs,rfl,h0⟩:=Fq Tryz.underlying42 h
 obtain⟨v,rfl,h1⟩:=MJ h0
 exact⟨v,rfl,h1⟩
theorem Vl {d:Nat} {a:AV} (h:like Tryz.prog d 131 a):∃v:GP,a=v.av∧v.ok:=by
 obtain⟨cs,rfl,h0⟩:=Fq Tryz.underlying131 h
 obtain⟨d',rfl,g1,g2⟩:=Ez Tryz.underlying131 h0
 rw[Aj5]at g1
 obtain⟨a,b,c,e,f,g,rfl⟩:=Aj8 g1
 clear g1
 simp only[List.forall_mem_cons]at g2
 obtain⟨f1,f2,_⟩:=g2
 simp only[MI,WH,List.drop_zero,List.drop_succ_cons,List.take_succ_cons,List.take_zero]at f1 f2
 obtain⟨s,e1,h1⟩:=Ic f1
 obtain⟨v,e2,h2⟩:=MJ f2
 cases e1;cases e2
 exact⟨⟨s,v⟩,rfl,h1,h2⟩
theorem Kv {α:Type} {f:α→AV} {Q:α→Prop} {d:Nat} {t e:TypeId} {cs:List AV} (hu:Tryz.prog.underlying t=some (.slice e)) (he:∀d x,like Tryz.prog d e x→∃y,x=f y∧Q y) (h:Dl Tryz.prog d t cs):
 ∃nn l,cs=[.sl nn (vs f l)]∧(nn=false→l=[])∧Ln l∧∀y∈l,Q y:=by
 obtain⟨d',rfl,nn,xs,rfl,h0,h1,h2⟩:=MK hu h
 obtain⟨l,rfl,h3⟩:=Ld (f:=f) (Q:=Q) fun x hx=>he d' x (h2 x hx)
 exact⟨nn,l,rfl,fun h=>by have:=h0 h;simpa using this,Va (by simpa using h1),h3⟩
theorem Aem {d:Nat} {a:AV} (h:like Tryz.prog d 9 a):∃s:List UInt8,a=.str s∧Ln s:=by
 obtain⟨k,e1,h1⟩:=X9 Tryz.underlying9 h
 exact⟨k,e1,Va h1⟩
theorem Ab4 {d:Nat} {a:AV} (h:like Tryz.prog d 57 a):∃v:GN,a=v.av∧v.ok:=by
 obtain⟨cs,rfl,h0⟩:=Fq Tryz.underlying57 h
 obtain⟨d',rfl,g1,g2⟩:=Ez Tryz.underlying57 h0
 rw[Aj6]at g1
 obtain⟨a,b,c,rfl⟩:=AoA g1
 clear g1
 simp only[List.forall_mem_cons]at g2
 obtain⟨f1,f2,f3,_⟩:=g2
 simp only[Vk,Ab1,AaQ,List.drop_zero,List.drop_succ_cons,List.take_succ_cons,List.take_zero]at f1 f2 f3
 obtain⟨s,e1,h1⟩:=F9 f1
 obtain⟨ln,L,e2,h2,h2a,h2b⟩:=Kv (f:=.str) (Q:=Ln) Tryz.underlying54 (fun d x h=>Aem h) f2
 obtain⟨pn,P,e3,h3,h3a,h3b⟩:=Kv (f:=GP.av) (Q:=GP.ok) Tryz.underlying55 (fun d x h=>Vl h) f3
 cases e1;cases e2;cases e3
 exact⟨⟨s,ln,L,pn,P⟩,rfl,h1,h2a,h2,h2b,h3a,h3,h3b⟩
theorem Ab5 {d:Nat} {a:AV} (h:like Tryz.prog d 87 a):∃v:GE,a=v.av∧v.ok:=by
 obtain⟨cs,rfl,h0⟩:=Fq Tryz.underlying87 h
 obtain⟨d',rfl,g1,g2⟩:=Ez Tryz.underlying87 h0
 rw[Aj7]at g1
 obtain⟨a,b,c,e,f,rfl⟩:=AmC g1
 clear g1
 simp only[List.forall_mem_cons]at g2
 obtain⟨f1,f2,f3,f4,f5,_⟩:=g2
 simp only[Vk,MI,AaQ,List.drop_zero,List.drop_succ_cons,List.take_succ_cons,List.take_zero]at f1 f2 f3 f4 f5
 obtain⟨k,e1,h1⟩:=F9 f1
 obtain⟨n,e2,h2⟩:=F9 f2
 obtain⟨m,e3,h3⟩:=F9 f3
 obtain⟨s,e4,h4⟩:=Ic f4
 obtain⟨pn,P,e5,h5,h5a,h5b⟩:=Kv (f:=GP.av) (Q:=GP.ok) Tryz.underlying55 (fun d x h=>Vl h) f5
 cases e1;cases e2;cases e3;cases e4;cases e5
 exact⟨⟨k,n,m,s,pn,P⟩,rfl,h1,h2,h3,h4,h5a,h5,h5b⟩
theorem ZG {a:AV} (h:Like Tryz.prog 25 a):∃v:GG,a=v.av∧v.ok:=by
 obtain⟨d,h⟩:=h
 obtain⟨cs,rfl,h0⟩:=Fq Tryz.underlying25 h
 obtain⟨d',rfl,g1,g2⟩:=Ez Tryz.underlying25 h0
 rw[Ag0]at g1
 obtain⟨a,b,c,e,rfl⟩:=AoB g1
 clear g1
 simp only[List.forall_mem_cons]at g2
 obtain⟨f1,f2,f3,f4,_⟩:=g2
 simp only[Vk,AgY,AgZ,List.drop_zero,List.drop_succ_cons,List.take_succ_cons,List.take_zero]at f1 f2 f3 f4
 obtain⟨nn,N,e1,h1,h1a,h1b⟩:=Kv (f:=GN.av) (Q:=GN.ok) Tryz.underlying22 (fun d x h=>Ab4 h) f1
 obtain⟨en,E,e2,h2,h2a,h2b⟩:=Kv (f:=GE.av) (Q:=GE.ok) Tryz.underlying23 (fun d x h=>Ab5 h) f2
 obtain⟨m,e3,h3⟩:=F9 f3
 obtain⟨k,e4,h4⟩:=F9 f4
 cases e1;cases e2;cases e3;cases e4
 exact⟨⟨nn,N,en,E,m,k⟩,rfl,h1a,h1,h1b,h2a,h2,h2b,h3,h4⟩
theorem DX {l:List AV} (h:∀x∈l,Like Tryz.prog 42 x) (i:Nat):
 ∃g:GV,∀hi:i<l.length,nth l (Int.toNat (Nat.cast i))=some g.av∧l[i]=g.av∧g.ok:=by
 by_cases hi:i<l.length
 ·obtain⟨g,e,hg⟩:=ZF (h _ (List.getElem_mem hi))
  exact⟨g,fun _=>⟨by rw[← e];exact nR hi,e,hg⟩⟩
 ·exact⟨⟨0,0,0,[],true,[]⟩,fun h=>absurd h hi⟩
structure GR where
 k:Int
 n:Int
 name:List UInt8
 key:List UInt8
 fr:List UInt8
 to:List UInt8
def GR.av (r:GR):AV:=.agg [.int .i64 r.k,.int .i64 r.n,.str r.name,.str r.key,.str r.fr,.str r.to]
def GR.ok (r:GR):Prop:=I64 r.k∧I64 r.n∧Ln r.name∧Ln r.key∧Ln r.fr∧Ln r.to
structure GM where
 k:Int
 label:List UInt8
 fr:List UInt8
 to:List UInt8
 v:GV
 r:GR
def GM.av (m:GM):AV:=.agg [.int .i64 m.k,.str m.label,.str m.fr,.str m.to,.int .i64 m.v.k,.int .i64 m.v.n,.int .i64 m.v.d,.str m.v.s,.sl m.v.nn m.v.l,.int .i64 m.r.k,.int .i64 m.r.n,.str m.r.name,.str m.r.key,.str m.r.fr,.str m.r.to]
def GM.ok (m:GM):Prop:=I64 m.k∧Ln m.label∧Ln m.fr∧Ln m.to∧m.v.ok∧m.r.ok
theorem AeU:Tryz.prog.cellsOf 44=6:=by kernel_rfl
theorem Yq:Tryz.prog.cellsOf 46=15:=by kernel_rfl
theorem G7 {l:List AV} {n:Nat} (h:l.length=n+1):∃a r,l=a::r∧r.length=n:=by
 cases l with
 |nil=>simp at h
 |cons a r=>exact⟨a,r,rfl,by simpa using h⟩
theorem Ue {d:Nat} {cs:List AV} (h:Dl Tryz.prog d 44 cs):∃r:GR,cs=[.int .i64 r.k,.int .i64 r.n,.str r.name,.str r.key,.str r.fr,.str r.to]∧r.ok:=by
 obtain⟨d',rfl,g1,g2⟩:=Ez Tryz.underlying44 h
 rw[AeU]at g1
 obtain⟨a,b,c,e,f,g,rfl⟩:=Aj8 g1
 clear g1
 simp only[List.forall_mem_cons]at g2
 obtain⟨f1,f2,f3,f4,f5,f6,_⟩:=g2
 simp only[Vk,MI,List.drop_zero,List.drop_succ_cons,List.take_succ_cons,List.take_zero]at f1 f2 f3 f4 f5 f6
 obtain⟨k,e1,h1⟩:=F9 f1
 obtain⟨n,e2,h2⟩:=F9 f2
 obtain⟨s3,e3,h3⟩:=Ic f3
 obtain⟨s4,e4,h4⟩:=Ic f4
 obtain⟨s5,e5,h5⟩:=Ic f5
 obtain⟨s6,e6,h6⟩:=Ic f6
 cases e1;cases e2;cases e3;cases e4;cases e5;cases e6
 exact⟨⟨k,n,s3,s4,s5,s6⟩,rfl,h1,h2,h3,h4,h5,h6⟩
theorem TB {a:AV} (h:Like Tryz.prog 46 a):∃m:GM,a=m.av∧m.ok:=by
 obtain⟨d,h⟩:=h
 obtain⟨cs,rfl,h0⟩:=Fq Tryz.underlying46 h
 obtain⟨d',rfl,g1,g2⟩:=Ez Tryz.underlying46 h0
 rw[Yq]at g1
 obtain⟨a1,r1,rfl,q1⟩:=G7 g1
 obtain⟨a2,r2,rfl,q2⟩:=G7 q1
 obtain⟨a3,r3,rfl,q3⟩:=G7 q2
 obtain⟨a4,r4,rfl,q4⟩:=G7 q3
 obtain⟨a5,r5,rfl,q5⟩:=G7 q4
 obtain⟨a6,r6,rfl,q6⟩:=G7 q5
 obtain⟨a7,r7,rfl,q7⟩:=G7 q6
 obtain⟨a8,r8,rfl,q8⟩:=G7 q7
 obtain⟨a9,r9,rfl,q9⟩:=G7 q8
 obtain⟨b1,b2,b3,b4,b5,b6,rfl⟩:=Aj8 q9
 clear g1 q1 q2 q3 q4 q5 q6 q7 q8 q9
 simp only[List.forall_mem_cons]at g2
 obtain⟨f1,f2,f3,f4,f5,f6,_⟩:=g2
 simp only[Vk,MI,WH,AeU,List.drop_zero,List.drop_succ_cons,List.take_succ_cons,List.take_zero]at f1 f2 f3 f4 f5 f6
 obtain⟨k,e1,h1⟩:=F9 f1
 obtain⟨s2,e2,h2⟩:=Ic f2
 obtain⟨s3,e3,h3⟩:=Ic f3
 obtain⟨s4,e4,h4⟩:=Ic f4
 obtain⟨v,e5,h5⟩:=MJ f5
 obtain⟨r,e6,h6⟩:=Ue f6
 cases e1;cases e2;cases e3;cases e4;cases e5;cases e6
 exact⟨⟨k,s2,s3,s4,v,r⟩,rfl,h1,h2,h3,h4,h5,h6⟩
def CB (c:Int):Prop:=(97≤c∧c≤122)∨(65≤c∧c≤90)
instance (c:Int):Decidable (CB c):=by unfold CB;infer_instance
theorem Aa9 {c:Int}:Ae (Ad tab) 165 [.int .u8 c] (· =.bool (decide (CB c))):=by
 refine Ac rfl rfl ?_
 (conv=>whnf);repeat' (first|((first|refine kA ?_|(apply Br.mk<;>intro hc))<;>first|exact hc.elim|conv=>whnf)|refine kB ?_)
 all_goals first|exact Bd (by unfold CB;omega)|exact Au (by unfold CB;omega)
theorem Aba {c:Int}:Ae (Ad tab) 150 [.int .u8 c] (· =.bool (decide (CB c))):=by
 refine Ac rfl rfl ?_
 (conv=>whnf);repeat' (first|((first|refine kA ?_|(apply Br.mk<;>intro hc))<;>first|exact hc.elim|conv=>whnf)|refine kB ?_)
 all_goals first|exact Bd (by unfold CB;omega)|exact Au (by unfold CB;omega)
def Gi (c:Int):Prop:=CB c∨(48≤c∧c≤57)∨c=95
instance (c:Int):Decidable (Gi c):=by unfold Gi;infer_instance
def isName (s:List UInt8):Prop:=0<s.length∧s.length≤20∧(∀ c,s[0]?=some c→CB c.toNat)∧∀c∈s,Gi c.toNat
instance (s:List UInt8):Decidable (isName s):=by unfold isName;infer_instance
theorem J3 {s:List UInt8} (hs:0<s.length) (h:isName s):CB s[0].toNat:=h.2.2.1 _ (List.getElem?_eq_getElem hs)
theorem QF {s:List UInt8} {i:Nat} (hi:i<s.length) (h:isName s):Gi s[i].toNat:=h.2.2.2 _ (List.getElem_mem _)
theorem Aky {s:List UInt8} (hs:0<s.length) (h:Gi s[0].toNat):∀c∈s.take 1,Gi c.toNat:=by
 cases s with
 |nil=>simp at hs
 |cons a l=>simpa using h
theorem name1 {s:List UInt8} (hl:s.length<2^63):Ae (Ad tab) 100 [.str s] (· =.bool (decide (isName s))):=by
 by_cases h0:s.length=0
 ·obtain rfl:s=[]:=List.length_eq_zero_iff.1 h0
  refine Ac rfl rfl ?_
  (conv=>whnf);repeat' (first|((first|refine kA ?_|(apply Br.mk<;>intro hc))<;>first|exact hc.elim|conv=>whnf)|refine kB ?_)
  all_goals exact Au (by simp[isName])
 have hs:0<s.length:=by omega
 have hne:s≠[]:=by rintro rfl;simp at h0
 have hz:s[0]?=some s[0]:=List.getElem?_eq_getElem hs
 refine Ac rfl rfl ?_
 (conv=>whnf);repeat' (first|((first|refine kA ?_|(apply Br.mk<;>intro hc)|refine Aq (Aa9) (fun hc=>?_) (fun hc=>?_))<;>first|exact hc.elim|conv=>whnf)|refine kB ?_)
 all_goals first|exact absurd hc hne|exact Au (by unfold isName;omega)|exact Au fun h=>hc (J3 hs h)|skip
 refine Ag (fun m env s'=>∃i:Nat,m=s.length-i∧env=[(0,.str s),(18,.int .i64 s.length),(19,.int .i64 i)]∧s'=⟨[],0⟩∧∀c∈s.take i,Gi c.toNat) ?_ _ _ _ ⟨0,rfl,by simp,rfl,by simp⟩
 rintro _ _ _ ⟨i,rfl,rfl,rfl,hx⟩
 refine⟨rfl,?_⟩
 (conv=>whnf);repeat' (first|((first|refine kA ?_|(apply Br.mk<;>intro hc)|refine Aq (Aa9) (fun hc=>?_) (fun hc=>?_))<;>first|exact hc.elim|conv=>whnf)|refine kB ?_)
 all_goals first
  |exact again.mk ⟨_,by omega,i+1,rfl,rfl,rfl,Bl (by omega) hx (by unfold Gi CB at *;omega)⟩
  |(refine Au fun h=>?_;have:=QF (i:=i) (by omega) h;unfold Gi CB at *;omega)
  |(rename_i hc1;exact Bd ⟨hs,by omega,fun c h=>by rw[hz]at h;cases h;assumption,by rw[BN hc]at hx;exact hx⟩)
theorem name2 {s:List UInt8} (hl:s.length<2^63):Ae (Ad tab) 82 [.str s] (· =.bool (decide (isName s))):=by
 by_cases h0:s.length=0
 ·obtain rfl:s=[]:=List.length_eq_zero_iff.1 h0
  refine Ac rfl rfl ?_
  (conv=>whnf);repeat' (first|((first|refine kA ?_|(apply Br.mk<;>intro hc))<;>first|exact hc.elim|conv=>whnf)|refine kB ?_)
  all_goals exact Au (by simp[isName])
 have hs:0<s.length:=by omega
 have hne:s≠[]:=by rintro rfl;simp at h0
 have hz:s[0]?=some s[0]:=List.getElem?_eq_getElem hs
 refine Ac rfl rfl ?_
 (conv=>whnf);repeat' (first|((first|refine kA ?_|(apply Br.mk<;>intro hc)|refine Aq (Aba) (fun hc=>?_) (fun hc=>?_))<;>first|exact hc.elim|conv=>whnf)|refine kB ?_)
 all_goals first|exact absurd hc hne|exact Au (by unfold isName;omega)|exact Au fun h=>hc (J3 hs h)|skip
 refine Ag (fun m env s'=>∃i:Nat,m=s.length-i∧env=[(0,.str s),(3,.int .i64 i)]∧s'=⟨[],0⟩∧∀c∈s.take i,Gi c.toNat) ?_ _ _ _ ⟨1,rfl,rfl,rfl,Aky hs (Or.inl hc)⟩
 rintro _ _ _ ⟨i,rfl,rfl,rfl,hx⟩
 refine⟨rfl,?_⟩
 (conv=>whnf);repeat' (first|((first|refine kA ?_|(apply Br.mk<;>intro hc)|refine Aq (Aba) (fun hc=>?_) (fun hc=>?_))<;>first|exact hc.elim|conv=>whnf)|refine kB ?_)
 all_goals first
  |exact again.mk ⟨_,by omega,i+1,rfl,rfl,rfl,Bl (by omega) hx (by unfold Gi CB at *;omega)⟩
  |(refine Au fun h=>?_;have:=QF (i:=i) (by omega) h;unfold Gi CB at *;omega)
  |(rename_i hc1;exact Bd ⟨hs,by omega,fun c h=>by rw[hz]at h;cases h;assumption,by rw[BN hc]at hx;exact hx⟩)
theorem name3 {s:List UInt8} (hl:s.length<2^63):Ae (Ad tab) 85 [.str s] (· =.bool (decide (isName s))):=by
 by_cases h0:s.length=0
 ·obtain rfl:s=[]:=List.length_eq_zero_iff.1 h0
  refine Ac rfl rfl ?_
  (conv=>whnf);repeat' (first|((first|refine kA ?_|(apply Br.mk<;>intro hc))<;>first|exact hc.elim|conv=>whnf)|refine kB ?_)
  all_goals exact Au (by simp[isName])
 have hs:0<s.length:=by omega
 have hz:s[0]?=some s[0]:=List.getElem?_eq_getElem hs
 refine Ac rfl rfl ?_
 (conv=>whnf);repeat' (first|((first|refine kA ?_|(apply Br.mk<;>intro hc))<;>first|exact hc.elim|conv=>whnf)|refine kB ?_)
 all_goals first|exact Au (by unfold isName;omega)|skip
 refine Ag (fun m env s'=>∃i:Nat,m=s.length-i∧env=[(0,.str s),(3,.int .i64 i)]∧s'=⟨[],0⟩∧(∀ c∈s.take i,Gi c.toNat)∧(0<i→CB s[0].toNat)) ?_ _ _ _ ⟨0,rfl,rfl,rfl,by simp,by simp⟩
 rintro _ _ _ ⟨i,rfl,rfl,rfl,hx,hy⟩
 refine⟨rfl,?_⟩
 (conv=>whnf);repeat' (first|((first|refine kA ?_|(apply Br.mk<;>intro hc))<;>first|exact hc.elim|conv=>whnf)|refine kB ?_)
 all_goals first
  |exact again.mk ⟨_,by omega,i+1,rfl,rfl,rfl,Bl (by omega) hx (by unfold Gi CB;omega),fun _=>by
        rcases Nat.eq_zero_or_pos i with h|h
        ·subst h;unfold CB;omega
        ·exact hy h⟩
  |(refine Au fun h=>?_
    have h1:=QF (i:=i) (by omega) h
    unfold Gi CB at *;omega)
  |(refine Au fun h=>?_
    obtain rfl:i=0:=by omega
    have h1:=J3 hs h
    unfold CB at *;omega)
  |exact Bd ⟨hs,by omega,fun c h=>by rw[hz]at h;cases h;exact hy (by omega),by rw[BN hc]at hx;exact hx⟩
def GH (r:GR):Prop:=if r.k=3∨r.k=5 then r.n=1∨r.n=2∨r.n=4 else if r.k=7 then 0≤r.n∧r.n≤4000 else r.n=0
instance (r:GR):Decidable (GH r):=by unfold GH;infer_instance
def badR (r:GR):Prop:=¬(1≤r.k∧r.k≤7)∨¬GH r∨(¬ (1≤r.k∧r.k≤5)∧r.key≠[])∨(r.k≠6∧(r.fr≠[]∨r.to≠[]))
def En (r:GR):Prop:=¬isName r.name∨((1≤r.k∧r.k≤5)∧¬isName r.key)∨(r.fr≠[]∧¬isName r.fr)∨(r.to≠[]∧¬isName r.to)
instance (r:GR):Decidable (badR r):=by unfold badR;infer_instance
instance (r:GR):Decidable (En r):=by unfold En;infer_instance
def Dt (r:GR):Int:=if badR r then 1 else if En r then 6 else 0
theorem I7 {r:GR} (h:badR r):AV.int .i64 1=AV.int .i64 (Dt r):=by rw[Dt,if_pos h]
theorem JI {r:GR} (h:¬badR r) (h1:En r):AV.int .i64 6=AV.int .i64 (Dt r):=by rw[Dt,if_neg h,if_pos h1]
theorem JJ {r:GR} (h:¬badR r) (h1:¬En r):AV.int .i64 0=AV.int .i64 (Dt r):=by rw[Dt,if_neg h,if_neg h1]
theorem AhU {r:GR}:Ae (Ad tab) 83 [r.av] (· =.bool (decide (GH r))):=by
 refine Ac rfl rfl ?_
 (conv=>whnf);repeat' (first|((first|refine kA ?_|(apply Br.mk<;>intro hc))<;>first|exact hc.elim|conv=>whnf)|refine kB ?_)
 all_goals first
  |exact Bd (by unfold GH;split<;>(try split)<;>omega)
  |exact Au (by unfold GH;split<;>(try split)<;>omega)
theorem Ak8 {k:Int}:Ae (Ad tab) 84 [.int .i64 k] (· =.bool (decide (1≤k∧k≤5))):=by
 refine Ac rfl rfl ?_
 (conv=>whnf);repeat' (first|((first|refine kA ?_|(apply Br.mk<;>intro hc))<;>first|exact hc.elim|conv=>whnf)|refine kB ?_)
 all_goals first
  |exact Bd (by omega)
  |exact Au (by omega)
theorem Ak9:Ae (Ad tab) 166 [.int .i64 1] (· =.BD [.agg [.bool true,.bool false,.bool false],.bool true]):=⟨_,⟨20,by kernel_rfl⟩,rfl⟩
theorem Ala:Ae (Ad tab) 166 [.int .i64 2] (· =.BD [.agg [.bool true,.bool false,.bool false],.bool true]):=⟨_,⟨20,by kernel_rfl⟩,rfl⟩
theorem Alb:Ae (Ad tab) 166 [.int .i64 3] (· =.BD [.agg [.bool true,.bool true,.bool false],.bool true]):=⟨_,⟨20,by kernel_rfl⟩,rfl⟩
theorem Alc:Ae (Ad tab) 166 [.int .i64 4] (· =.BD [.agg [.bool true,.bool false,.bool false],.bool true]):=⟨_,⟨20,by kernel_rfl⟩,rfl⟩
theorem Ald:Ae (Ad tab) 166 [.int .i64 5] (· =.BD [.agg [.bool true,.bool true,.bool false],.bool true]):=⟨_,⟨20,by kernel_rfl⟩,rfl⟩
theorem Ale:Ae (Ad tab) 166 [.int .i64 6] (· =.BD [.agg [.bool false,.bool false,.bool true],.bool true]):=⟨_,⟨20,by kernel_rfl⟩,rfl⟩
theorem Alf:Ae (Ad tab) 166 [.int .i64 7] (· =.BD [.agg [.bool false,.bool true,.bool false],.bool true]):=⟨_,⟨20,by kernel_rfl⟩,rfl⟩
theorem Alg {k:Int} (h:¬(1≤k∧k≤7)):Ae (Ad tab) 166 [.int .i64 k] (· =.BD [.agg [.bool false,.bool false,.bool false],.bool false]):=by
 refine Ac rfl rfl ?_
 (conv=>whnf);repeat' (first|((first|refine kA ?_|(apply Br.mk<;>intro hc))<;>first|exact hc.elim|conv=>whnf)|refine kB ?_)
 all_goals first|rfl|(exfalso;omega)
theorem OO {n:Int}:Ae (Ad tab) 167 [.int .i64 n] (fun v=>∃s,v=.str s∧(s=[]↔¬(n=1∨n=2∨n=4))):=by
 refine Ac rfl rfl ?_
 (conv=>whnf);repeat' (first|((first|refine kA ?_|(apply Br.mk<;>intro hc))<;>first|exact hc.elim|conv=>whnf)|refine kB ?_)
 all_goals first|exact⟨_,rfl,by simp;omega⟩|exact⟨_,rfl,by simp[*]⟩
theorem AhV {r:GR} (hr:r.ok) (hk:¬(1≤r.k∧r.k≤7)):Ae (Ad tab) 102 [r.av] (· =.int .i64 (Dt r)):=by
 refine Ac rfl rfl ?_
 (conv=>whnf);repeat' (first|((first|refine kE (Alg hk) ?_|refine kA ?_|(apply Br.mk<;>intro hc))<;>first|exact hc.elim|conv=>whnf)|refine kB ?_)
 all_goals exact I7 (.inl hk)
set_option maxHeartbeats 2000000 in
theorem AhW {r:GR} (hr:r.ok) (hk:r.k=1):Ae (Ad tab) 102 [r.av] (· =.int .i64 (Dt r)):=by
 obtain⟨k,n,nm,key,fr,to⟩:=r
 obtain⟨g1,g2,g3,g4,g5,g6⟩:=hr
 unfold Ln at g3 g4 g5 g6
 dsimp only at g1 g2 g3 g4 g5 g6 hk
 subst hk
 refine Ac rfl rfl ?_
 (conv=>whnf);repeat' (first|((first|refine kE Ak9 ?_|(refine Aa OO ?_;rintro _ ⟨s,rfl,hs⟩)|refine Aq (name1 (s:=nm) g3) (fun ha=>?_) (fun ha=>?_)|refine Aq (name1 (s:=key) g4) (fun hd=>?_) (fun hd=>?_)|refine Aq (name1 (s:=fr) g5) (fun he=>?_) (fun he=>?_)|refine Aq (name1 (s:=to) g6) (fun hf=>?_) (fun hf=>?_)|refine kA ?_|(apply Br.mk<;>intro hc))<;>first|exact hc.elim|conv=>whnf)|refine kB ?_)
 all_goals clear g1 g2 g3 g4 g5 g6
 all_goals first
  |exact I7 (by unfold badR GH;dsimp only;grind)
  |exact JI (by unfold badR GH;dsimp only;grind) (by unfold En;dsimp only;grind)
  |exact JJ (by unfold badR GH;dsimp only;grind) (by unfold En;dsimp only;grind)
  |(exfalso;grind)
set_option maxHeartbeats 2000000 in
theorem AhX {r:GR} (hr:r.ok) (hk:r.k=2):Ae (Ad tab) 102 [r.av] (· =.int .i64 (Dt r)):=by
 obtain⟨k,n,nm,key,fr,to⟩:=r
 obtain⟨g1,g2,g3,g4,g5,g6⟩:=hr
 unfold Ln at g3 g4 g5 g6
 dsimp only at g1 g2 g3 g4 g5 g6 hk
 subst hk
 refine Ac rfl rfl ?_
 (conv=>whnf);repeat' (first|((first|refine kE Ala ?_|(refine Aa OO ?_;rintro _ ⟨s,rfl,hs⟩)|refine Aq (name1 (s:=nm) g3) (fun ha=>?_) (fun ha=>?_)|refine Aq (name1 (s:=key) g4) (fun hd=>?_) (fun hd=>?_)|refine Aq (name1 (s:=fr) g5) (fun he=>?_) (fun he=>?_)|refine Aq (name1 (s:=to) g6) (fun hf=>?_) (fun hf=>?_)|refine kA ?_|(apply Br.mk<;>intro hc))<;>first|exact hc.elim|conv=>whnf)|refine kB ?_)
 all_goals clear g1 g2 g3 g4 g5 g6
 all_goals first
  |exact I7 (by unfold badR GH;dsimp only;grind)
  |exact JI (by unfold badR GH;dsimp only;grind) (by unfold En;dsimp only;grind)
  |exact JJ (by unfold badR GH;dsimp only;grind) (by unfold En;dsimp only;grind)
  |(exfalso;grind)
set_option maxHeartbeats 2000000 in
theorem AhY {r:GR} (hr:r.ok) (hk:r.k=3):Ae (Ad tab) 102 [r.av] (· =.int .i64 (Dt r)):=by
 obtain⟨k,n,nm,key,fr,to⟩:=r
 obtain⟨g1,g2,g3,g4,g5,g6⟩:=hr
 unfold Ln at g3 g4 g5 g6
 dsimp only at g1 g2 g3 g4 g5 g6 hk
 subst hk
 refine Ac rfl rfl ?_
 (conv=>whnf);repeat' (first|((first|refine kE Alb ?_|(refine Aa OO ?_;rintro _ ⟨s,rfl,hs⟩)|refine Aq (name1 (s:=nm) g3) (fun ha=>?_) (fun ha=>?_)|refine Aq (name1 (s:=key) g4) (fun hd=>?_) (fun hd=>?_)|refine Aq (name1 (s:=fr) g5) (fun he=>?_) (fun he=>?_)|refine Aq (name1 (s:=to) g6) (fun hf=>?_) (fun hf=>?_)|refine kA ?_|(apply Br.mk<;>intro hc))<;>first|exact hc.elim|conv=>whnf)|refine kB ?_)
 all_goals clear g1 g2 g3 g4 g5 g6
 all_goals first
  |exact I7 (by unfold badR GH;dsimp only;grind)
  |exact JI (by unfold badR GH;dsimp only;grind) (by unfold En;dsimp only;grind)
  |exact JJ (by unfold badR GH;dsimp only;grind) (by unfold En;dsimp only;grind)
  |(exfalso;grind)
set_option maxHeartbeats 2000000 in
theorem AhZ {r:GR} (hr:r.ok) (hk:r.k=4):Ae (Ad tab) 102 [r.av] (· =.int .i64 (Dt r)):=by
 obtain⟨k,n,nm,key,fr,to⟩:=r
 obtain⟨g1,g2,g3,g4,g5,g6⟩:=hr
 unfold Ln at g3 g4 g5 g6
 dsimp only at g1 g2 g3 g4 g5 g6 hk
 subst hk
 refine Ac rfl rfl ?_
 (conv=>whnf);repeat' (first|((first|refine kE Alc ?_|(refine Aa OO ?_;rintro _ ⟨s,rfl,hs⟩)|refine Aq (name1 (s:=nm) g3) (fun ha=>?_) (fun ha=>?_)|refine Aq (name1 (s:=key) g4) (fun hd=>?_) (fun hd=>?_)|refine Aq (name1 (s:=fr) g5) (fun he=>?_) (fun he=>?_)|refine Aq (name1 (s:=to) g6) (fun hf=>?_) (fun hf=>?_)|refine kA ?_|(apply Br.mk<;>intro hc))<;>first|exact hc.elim|conv=>whnf)|refine kB ?_)
 all_goals clear g1 g2 g3 g4 g5 g6
 all_goals first
  |exact I7 (by unfold badR GH;dsimp only;grind)
  |exact JI (by unfold badR GH;dsimp only;grind) (by unfold En;dsimp only;grind)
  |exact JJ (by unfold badR GH;dsimp only;grind) (by unfold En;dsimp only;grind)
  |(exfalso;grind)
set_option maxHeartbeats 2000000 in
theorem Ah0 {r:GR} (hr:r.ok) (hk:r.k=5):Ae (Ad tab) 102 [r.av] (· =.int .i64 (Dt r)):=by
 obtain⟨k,n,nm,key,fr,to⟩:=r
 obtain⟨g1,g2,g3,g4,g5,g6⟩:=hr
 unfold Ln at g3 g4 g5 g6
 dsimp only at g1 g2 g3 g4 g5 g6 hk
 subst hk
 refine Ac rfl rfl ?_
 (conv=>whnf);repeat' (first|((first|refine kE Ald ?_|(refine Aa OO ?_;rintro _ ⟨s,rfl,hs⟩)|refine Aq (name1 (s:=nm) g3) (fun ha=>?_) (fun ha=>?_)|refine Aq (name1 (s:=key) g4) (fun hd=>?_) (fun hd=>?_)|refine Aq (name1 (s:=fr) g5) (fun he=>?_) (fun he=>?_)|refine Aq (name1 (s:=to) g6) (fun hf=>?_) (fun hf=>?_)|refine kA ?_|(apply Br.mk<;>intro hc))<;>first|exact hc.elim|conv=>whnf)|refine kB ?_)
 all_goals clear g1 g2 g3 g4 g5 g6
 all_goals first
  |exact I7 (by unfold badR GH;dsimp only;grind)
  |exact JI (by unfold badR GH;dsimp only;grind) (by unfold En;dsimp only;grind)
  |exact JJ (by unfold badR GH;dsimp only;grind) (by unfold En;dsimp only;grind)
  |(exfalso;grind)
set_option maxHeartbeats 2000000 in
theorem Ah1 {r:GR} (hr:r.ok) (hk:r.k=6):Ae (Ad tab) 102 [r.av] (· =.int .i64 (Dt r)):=by
 obtain⟨k,n,nm,key,fr,to⟩:=r
 obtain⟨g1,g2,g3,g4,g5,g6⟩:=hr
 unfold Ln at g3 g4 g5 g6
 dsimp only at g1 g2 g3 g4 g5 g6 hk
 subst hk
 refine Ac rfl rfl ?_
 (conv=>whnf);repeat' (first|((first|refine kE Ale ?_|(refine Aa OO ?_;rintro _ ⟨s,rfl,hs⟩)|refine Aq (name1 (s:=nm) g3) (fun ha=>?_) (fun ha=>?_)|refine Aq (name1 (s:=key) g4) (fun hd=>?_) (fun hd=>?_)|refine Aq (name1 (s:=fr) g5) (fun he=>?_) (fun he=>?_)|refine Aq (name1 (s:=to) g6) (fun hf=>?_) (fun hf=>?_)|refine kA ?_|(apply Br.mk<;>intro hc))<;>first|exact hc.elim|conv=>whnf)|refine kB ?_)
 all_goals clear g1 g2 g3 g4 g5 g6
 all_goals first
  |exact I7 (by unfold badR GH;dsimp only;grind)
  |exact JI (by unfold badR GH;dsimp only;grind) (by unfold En;dsimp only;grind)
  |exact JJ (by unfold badR GH;dsimp only;grind) (by unfold En;dsimp only;grind)
  |(exfalso;grind)
set_option maxHeartbeats 2000000 in
theorem Ah2 {r:GR} (hr:r.ok) (hk:r.k=7):Ae (Ad tab) 102 [r.av] (· =.int .i64 (Dt r)):=by
 obtain⟨k,n,nm,key,fr,to⟩:=r
 obtain⟨g1,g2,g3,g4,g5,g6⟩:=hr
 unfold Ln at g3 g4 g5 g6
 dsimp only at g1 g2 g3 g4 g5 g6 hk
 subst hk
 refine Ac rfl rfl ?_
 (conv=>whnf);repeat' (first|((first|refine kE Alf ?_|(refine Aa OO ?_;rintro _ ⟨s,rfl,hs⟩)|refine Aq (name1 (s:=nm) g3) (fun ha=>?_) (fun ha=>?_)|refine Aq (name1 (s:=key) g4) (fun hd=>?_) (fun hd=>?_)|refine Aq (name1 (s:=fr) g5) (fun he=>?_) (fun he=>?_)|refine Aq (name1 (s:=to) g6) (fun hf=>?_) (fun hf=>?_)|refine kA ?_|(apply Br.mk<;>intro hc))<;>first|exact hc.elim|conv=>whnf)|refine kB ?_)
 all_goals clear g1 g2 g3 g4 g5 g6
 all_goals first
  |exact I7 (by unfold badR GH;dsimp only;grind)
  |exact JI (by unfold badR GH;dsimp only;grind) (by unfold En;dsimp only;grind)
  |exact JJ (by unfold badR GH;dsimp only;grind) (by unfold En;dsimp only;grind)
  |(exfalso;grind)
theorem NQ {r:GR} (hr:r.ok):Ae (Ad tab) 102 [r.av] (· =.int .i64 (Dt r)):=by
 by_cases hk:1≤r.k∧r.k≤7
 case neg=>exact AhV hr hk
 have h:r.k=1∨r.k=2∨r.k=3∨r.k=4∨r.k=5∨r.k=6∨r.k=7:=by omega
 rcases h with h|h|h|h|h|h|h
 ·exact AhW hr h
 ·exact AhX hr h
 ·exact AhY hr h
 ·exact AhZ hr h
 ·exact Ah0 hr h
 ·exact Ah1 hr h
 ·exact Ah2 hr h
set_option maxHeartbeats 4000000 in
theorem Aih {r:GR} (hr:r.ok):Ae (Ad tab) 37 [r.av] (· =.int .i64 (Dt r)):=by
 obtain⟨g1,g2,g3,g4,g5,g6⟩:=hr
 unfold Ln at g3 g4 g5 g6
 refine Ac rfl rfl ?_
 (conv=>whnf);repeat' (first|((first|refine Aq (AhU (r:=r)) (fun hn=>?_) (fun hn=>?_)|refine Aq (Ak8 (k:=r.k)) (fun hb=>?_) (fun hb=>?_)|refine Aq (name3 (s:=r.name) g3) (fun ha=>?_) (fun ha=>?_)|refine Aq (name3 (s:=r.key) g4) (fun hd=>?_) (fun hd=>?_)|refine Aq (name3 (s:=r.fr) g5) (fun he=>?_) (fun he=>?_)|refine Aq (name3 (s:=r.to) g6) (fun hf=>?_) (fun hf=>?_)|refine kA ?_|(apply Br.mk<;>intro hc))<;>first|exact hc.elim|conv=>whnf)|refine kB ?_)
 all_goals clear g1 g2 g3 g4 g5 g6
 all_goals first
  |exact I7 (by unfold badR;grind)
  |exact JI (by unfold badR;grind) (by unfold En;grind)
  |exact JJ (by unfold badR;grind) (by unfold En;grind)
  |(exfalso;grind)
theorem nan {x:Int}:Ae (Ad tab) 190 [.int .i64 x] (· =.bool (decide False)):=by
 refine Ac rfl rfl ?_
 (conv=>whnf);repeat' (first|((first|refine kA ?_|(apply Br.mk<;>intro hc))<;>first|exact hc.elim|conv=>whnf)|refine kB ?_)
 all_goals first|exact absurd rfl hc|rfl
def GK (x y:Int):Int:=if x<y then -1 else if y<x then 1 else 0
theorem compare {x y:Int}:Ae (Ad tab) 122 [.int .i64 x,.int .i64 y] (· =.int .i64 (GK x y)):=by
 refine Ac rfl rfl ?_
 (conv=>whnf);repeat' (first|((first|refine Aq nan (fun hc=>absurd hc id) (fun _=>?_)|refine kA ?_|(apply Br.mk<;>intro hc))<;>first|exact hc.elim|conv=>whnf)|refine kB ?_)
 all_goals unfold GK;first|(rw [if_pos (by omega)];rfl)|(rw [if_neg (by omega),if_pos (by omega)];rfl)|(rw [if_neg (by omega),if_neg (by omega)];rfl)
theorem OV {x y:Int}:GK x y<0↔x<y:=by unfold GK;split<;>(try split)<;>omega
theorem Gj {x y:Int}:GK x y=0↔x=y:=by unfold GK;split<;>(try split)<;>omega
section
open Go.Sort
section
variable {α:Type} [Inhabited α] {f:α→AV}
theorem nP {d:Array α} {z:Int} (i:Nat) (hz:z=i) (h:i<d.size):nth (vs f d.toList) (Int.toNat z)=some (f d[i]!):=by
 rw[nVz i hz (by simpa using h)]
 simp[h]
omit [Inhabited α]in
theorem tP {es:Nat} (hf:∀x,(f x).cells.length=es) {d:Array α} {z:Int} (i:Nat) (hz:z=i) {x y:α}:(vs f d.toList).set (Int.toNat z) (BF (f y) 0 (f x))=vs f (d.setIfInBounds i x).toList:=by
 subst hz
 have e:BF (f y) 0 (f x)=f x:=by
  unfold BF
  rw[if_pos ⟨rfl,by rw[hf,hf]⟩]
 rw[e]
 show(vs f d.toList).set i (f x)=_
 simp[vs,List.map_set]
theorem Hu {d:Array α} {z:Int} {K:AV→Prop} (i:Nat) (k:K (f d[i]!)) (hz:z=i:=by omega) (h:i<d.size:=by first|omega|(simp;omega)):Ci (vs f d.toList) (Int.toNat z) K:=Af (nP i hz h) k
omit [Inhabited α]in
theorem NJ {es:Nat} (hf:∀x,(f x).cells.length=es) {d:Array α} {z:Int} {x y:α} {K:List AV→Prop} (i:Nat) (k:K (vs f (d.setIfInBounds i x).toList)) (hz:z=i:=by omega):eqK ((vs f d.toList).set (Int.toNat z) (BF (f y) 0 (f x))) K:=Cb (tP hf i hz) k
@[simp] theorem Tv (d:Array α) (i j:Nat):(swp d i j).size=d.size:=by simp[swp]
variable {lt:α→α→Bool} {a b i j hi first root:Nat} {d:Array α}
theorem AfC (h1:a<j+1) (h2:lt d[j+1]! d[j]! =true):insInner lt a (j+1) d=insInner lt a j (swp d (j+1) j):=by
 rw[insInner,if_pos (by simp[h1,h2])]
theorem YE (h:a<j+1→lt d[j+1]! d[j]! =false):insInner lt a (j+1) d=d:=by
 rw[insInner,if_neg]
 simp only[Bool.and_eq_true,decide_eq_true_eq,not_and]
 intro h1 h2
 rw[h h1]at h2;cases h2
theorem Ah6 (h:i<b):insOuter lt a b i d=insOuter lt a b (i+1) (insInner lt a i d):=by rw[insOuter,if_pos h]
theorem Ah7 (h:¬i<b):insOuter lt a b i d=d:=by rw[insOuter,if_neg h]
@[simp] theorem YF:∀{j:Nat} {d:Array α},(insInner lt a j d).size=d.size
 |0,d=>rfl
 |j+1,d=>by
  rw[insInner]
  split
  ·rw[YF,Tv]
  ·rfl
theorem YG (h:hi≤2*root+1):siftDown lt hi first root d=d:=by
 rw[siftDown,dif_pos h]
theorem Alo (h:2*root+1+1<hi) (h1:lt d[first+(2*root+1)]! d[first+(2*root+1)+1]! =true) (h2:lt d[first+root]! d[first+(2*root+2)]! =true):
 siftDown lt hi first root d=siftDown lt hi first (2*root+2) (swp d (first+root) (first+(2*root+2))):=by
 rw[siftDown,dif_neg (by omega),if_pos (by simp[h,h1]),if_neg (by simp[h2]),dif_pos (by omega)]
theorem Ah8 (h:2*root+1+1<hi) (h1:lt d[first+(2*root+1)]! d[first+(2*root+1)+1]! =true) (h2:lt d[first+root]! d[first+(2*root+2)]! =false):
 siftDown lt hi first root d=d:=by
 rw[siftDown,dif_neg (by omega),if_pos (by simp[h,h1]),if_pos (by simp[h2])]
theorem AfD (h:¬hi≤2*root+1) (h1:2*root+1+1<hi→lt d[first+(2*root+1)]! d[first+(2*root+1)+1]! =false) (h2:lt d[first+root]! d[first+(2*root+1)]! =true):
 siftDown lt hi first root d=siftDown lt hi first (2*root+1) (swp d (first+root) (first+(2*root+1))):=by
 rw[siftDown,dif_neg h,if_neg,if_neg (by simp[h2])]
 simp only[Bool.and_eq_true,decide_eq_true_eq,not_and]
 intro h3 h4
 rw[h1 h3]at h4;cases h4
theorem Abm (h:¬hi≤2*root+1) (h1:2*root+1+1<hi→lt d[first+(2*root+1)]! d[first+(2*root+1)+1]! =false) (h2:lt d[first+root]! d[first+(2*root+1)]! =false):
 siftDown lt hi first root d=d:=by
 rw[siftDown,dif_neg h,if_neg,if_pos (by simp[h2])]
 simp only[Bool.and_eq_true,decide_eq_true_eq,not_and]
 intro h3 h4
 rw[h1 h3]at h4;cases h4
theorem YH {lt:α→α→Bool} {hi first:Nat}:∀(n root:Nat) (d:Array α),hi-root≤n→(siftDown lt hi first root d).size=d.size:=by
 intro n
 induction n with
 |zero=>intro root d h;rw[YG (by omega)]
 |succ n ih=>
  intro root d h
  rw[siftDown]
  split
  ·rfl
  ·split
   ·split
    ·rfl
    ·split
     ·rw[ih _ _ (by omega),Tv]
     ·rfl
   ·split
    ·rfl
    ·rw[ih _ _ (by omega),Tv]
@[simp] theorem Ah9:(siftDown lt hi first root d).size=d.size:=YH (hi-root) root d (Nat.le_refl _)
@[simp] theorem Xg:∀{k:Nat} {d:Array α},(heapBuild lt hi first k d).size=d.size
 |0,d=>rfl
 |k+1,d=>by rw[heapBuild,Xg,Ah9]
end
theorem U9 {z:Int} {K:AV→Prop} (n k:Nat) (hz:z=n) (h:n<2^63) (h2:K (.int .i64 ((n / k:Nat):Int))):Jk .i64 (z.tdiv k) K:=by
 subst hz
 have e:(n:Int).tdiv k=((n / k:Nat):Int):=by
  rw[Int.tdiv_eq_ediv_of_nonneg (by omega)];rfl
 rw[e]
 have h3:n / k≤n:=Nat.div_le_self ..
 revert h2 h3 e
 generalize n / k=m
 intro h2 e h3
 exact BI (wrap_i64 (by omega) (by omega)) h2
end
end AI
end Go.Proofs.YtjijnamhalgamaaGreatDoor
