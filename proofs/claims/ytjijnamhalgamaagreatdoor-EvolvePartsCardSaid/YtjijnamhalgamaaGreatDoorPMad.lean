/- The arguments of the graph laws, taken apart: values, properties, nodes, edges, graphs. A value in a list of values. The arguments of the laws about migrations, taken apart: rules, migrations. Names: the program's and the reference's. What is wrong with a rule: the program's and the reference's Check. Comparing two numbers. Sorting in place: lists of a store against arrays of the library's plain sort. math/bits.Len and the next power of two. -/
import Derived.Test.YtjijnamhalgamaaGreatDoorBMab
import Derived.Test.YtjijnamhalgamaaGreatDoorBMaa
import Derived.Test.YtjijnamhalgamaaGreatDoorPGrCode
import Derived.Sort.AssemblyPlain
set_option linter.unusedVariables false
set_option maxRecDepth 4000
namespace Go.Proofs.YtjijnamhalgamaaGreatDoor
namespace AI
structure GV where
 k:Int
 n:Int
 d:Int
 s:List UInt8
 nn:Bool
 l:List AV
def GV.av (v:GV):AV:=.agg [.int .i64 v.k,.int .i64 v.n,.int .i64 v.d,.str v.s,.sl v.nn v.l]
structure GP where
 key:List UInt8
 v:GV
def GP.av (p:GP):AV:=.agg [.str p.key,.int .i64 p.v.k,.int .i64 p.v.n,.int .i64 p.v.d,.str p.v.s,.sl p.v.nn p.v.l]
structure GN where
 id:Int
 ln:Bool
 labels:List (List UInt8)
 pn:Bool
 props:List GP
def GN.av (n:GN):AV:=.agg [.int .i64 n.id,.sl n.ln (vs .str n.labels),.sl n.pn (vs GP.av n.props)]
structure GE where
 id:Int
 fr:Int
 to:Int
 ty:List UInt8
 pn:Bool
 props:List GP
def GE.av (n:GE):AV:=.agg [.int .i64 n.id,.int .i64 n.fr,.int .i64 n.to,.str n.ty,.sl n.pn (vs GP.av n.props)]
structure GG where
 nn:Bool
 nodes:List GN
 en:Bool
 edges:List GE
 Dc:Int
 Dw:Int
def GG.av (g:GG):AV:=.agg [.sl g.nn (vs GN.av g.nodes),.sl g.en (vs GE.av g.edges),.int .i64 g.Dc,.int .i64 g.Dw]
def I64 (z:Int):Prop:=-2^63≤z∧z<2^63
def Ln {α:Type} (l:List α):Prop:=l.length<2^63
def GV.ok (v:GV):Prop:=I64 v.k∧I64 v.n∧I64 v.d∧Ln v.s∧Ln v.l∧(v.nn=false→v.l=[])∧∀x∈v.l,Like Tryz.prog 42 x
def GP.ok (p:GP):Prop:=Ln p.key∧p.v.ok
def GN.ok (n:GN):Prop:=I64 n.id∧Ln n.labels∧(n.ln=false→n.labels=[])∧(∀ s∈n.labels,Ln s)∧Ln n.props∧(n.pn=false→n.props=[])∧∀p∈n.props,p.ok
def GE.ok (e:GE):Prop:=I64 e.id∧I64 e.fr∧I64 e.to∧Ln e.ty∧Ln e.props∧(e.pn=false→e.props=[])∧∀p∈e.props,p.ok
def GG.ok (g:GG):Prop:=Ln g.nodes∧(g.nn=false→g.nodes=[])∧(∀ n∈g.nodes,n.ok)∧Ln g.edges∧(g.en=false→g.edges=[])∧(∀ e∈g.edges,e.ok)∧I64 g.Dc∧I64 g.Dw
theorem Vl:Tryz.prog.cellsOf 3=1:=by kernel_rfl
theorem L8:Tryz.prog.cellsOf 9=1:=by kernel_rfl
theorem Ace:Tryz.prog.cellsOf 54=1:=by kernel_rfl
theorem AeD:Tryz.prog.cellsOf 40=1:=by kernel_rfl
theorem WE:Tryz.prog.cellsOf 42=5:=by kernel_rfl
theorem Akd:Tryz.prog.cellsOf 131=6:=by kernel_rfl
theorem AaU:Tryz.prog.cellsOf 55=1:=by kernel_rfl
theorem Ake:Tryz.prog.cellsOf 57=3:=by kernel_rfl
theorem Ag6:Tryz.prog.cellsOf 22=1:=by kernel_rfl
theorem Akf:Tryz.prog.cellsOf 87=5:=by kernel_rfl
theorem Ag7:Tryz.prog.cellsOf 23=1:=by kernel_rfl
theorem Ag8:Tryz.prog.cellsOf 25=4:=by kernel_rfl
theorem Aox {l:List AV} (h:l.length=3):∃a b c,l=[a,b,c]:=by
 rcases l with _|⟨a,_|⟨b,_|⟨c,_|⟨d,r⟩⟩⟩⟩<;>simp at h
 exact⟨a,b,c,rfl⟩
theorem Aoy {l:List AV} (h:l.length=4):∃a b c d,l=[a,b,c,d]:=by
 rcases l with _|⟨a,_|⟨b,_|⟨c,_|⟨d,_|⟨e,r⟩⟩⟩⟩⟩<;>simp at h
 exact⟨a,b,c,d,rfl⟩
theorem AmA {l:List AV} (h:l.length=5):∃a b c d e,l=[a,b,c,d,e]:=by
 rcases l with _|⟨a,_|⟨b,_|⟨c,_|⟨d,_|⟨e,_|⟨f,r⟩⟩⟩⟩⟩⟩<;>simp at h
 exact⟨a,b,c,d,e,rfl⟩
theorem Akg {l:List AV} (h:l.length=6):∃a b c d e f,l=[a,b,c,d,e,f]:=by
 rcases l with _|⟨a,_|⟨b,_|⟨c,_|⟨d,_|⟨e,_|⟨f,_|⟨g,r⟩⟩⟩⟩⟩⟩⟩<;>simp at h
 exact⟨a,b,c,d,e,f,rfl⟩
theorem Akh {n:Int} (h:(Lit.int .i64 n).wf=true):I64 n:=by
 simp[Lit.wf]at h
 have h1:IntKind.i64.min=-2^63:=by rfl
 have h2:IntKind.i64.max=2^63-1:=by rfl
 unfold I64
 omega
theorem Va {α:Type} {l:List α} (h:l.length≤maxLen):Ln l:=by unfold Ln;have:=Acf;omega
theorem F7 {d:Nat} {cs:List AV} (h:Dj Tryz.prog d 3 cs):∃n,cs=[.int .i64 n]∧I64 n:=by
 obtain⟨k,e1,h1⟩:=Acg Tryz.underlying3 h
 exact⟨k,e1,Akh h1⟩
theorem H6 {d:Nat} {cs:List AV} (h:Dj Tryz.prog d 9 cs):∃n,cs=[.str n]∧Ln n:=by
 obtain⟨k,e1,h1⟩:=PE Tryz.underlying9 h
 exact⟨k,e1,Va h1⟩
theorem L9 {d:Nat} {cs:List AV} (h:Dj Tryz.prog d 42 cs):∃v:GV,cs=[.int .i64 v.k,.int .i64 v.n,.int .i64 v.d,.str v.s,.sl v.nn v.l]∧v.ok:=by
 obtain⟨d',rfl,g1,g2⟩:=Ep Tryz.underlying42 h
 rw[WE]at g1
 obtain⟨a,b,c,e,f,rfl⟩:=AmA g1
 clear g1
 simp only[List.forall_mem_cons]at g2
 obtain⟨f1,f2,f3,f4,f5,_⟩:=g2
 simp only[Vl,L8,AeD,List.drop_zero,List.drop_succ_cons,List.take_succ_cons,List.take_zero]at f1 f2 f3 f4 f5
 obtain⟨k,e1,h1⟩:=F7 f1
 obtain⟨n,e2,h2⟩:=F7 f2
 obtain⟨m,e3,h3⟩:=F7 f3
 obtain⟨s,e4,h4⟩:=H6 f4
 obtain⟨d'',_,nl,xs,e5,h5,h6,h7⟩:=Mc Tryz.underlying40 f5
 cases e1;cases e2;cases e3;cases e4;cases e5
 exact⟨⟨k,n,m,s,nl,xs⟩,rfl,h1,h2,h3,h4,Va h6,h5,fun x hx=>⟨_,h7 x hx⟩⟩
theorem ZC {a:AV} (h:Like Tryz.prog 42 a):∃v:GV,a=v.av∧v.ok:=by
 obtain⟨d,h⟩:=h
 obtain⟨cs,rfl,h0⟩:=Fa Tryz.underlying42 h
 obtain⟨v,rfl,h1⟩:=L9 h0
 exact⟨v,rfl,h1⟩
theorem Vm {d:Nat} {a:AV} (h:like Tryz.prog d 131 a):∃v:GP,a=v.av∧v.ok:=by
 obtain⟨cs,rfl,h0⟩:=Fa Tryz.underlying131 h
 obtain⟨d',rfl,g1,g2⟩:=Ep Tryz.underlying131 h0
 rw[Akd]at g1
 obtain⟨a,b,c,e,f,g,rfl⟩:=Akg g1
 clear g1
 simp only[List.forall_mem_cons]at g2
 obtain⟨f1,f2,_⟩:=g2
 simp only[L8,WE,List.drop_zero,List.drop_succ_cons,List.take_succ_cons,List.take_zero]at f1 f2
 obtain⟨s,e1,h1⟩:=H6 f1
 obtain⟨v,e2,h2⟩:=L9 f2
 cases e1;cases e2
 exact⟨⟨s,v⟩,rfl,h1,h2⟩
theorem J6 {α:Type} {f:α→AV} {Q:α→Prop} {d:Nat} {t e:TypeId} {cs:List AV} (hu:Tryz.prog.underlying t=some (.slice e)) (he:∀d x,like Tryz.prog d e x→∃y,x=f y∧Q y) (h:Dj Tryz.prog d t cs):
 ∃nn l,cs=[.sl nn (vs f l)]∧(nn=false→l=[])∧Ln l∧∀y∈l,Q y:=by
 obtain⟨d',rfl,nn,xs,rfl,h0,h1,h2⟩:=Mc hu h
 obtain⟨l,rfl,h3⟩:=KQ (f:=f) (Q:=Q) fun x hx=>he d' x (h2 x hx)
 exact⟨nn,l,rfl,fun h=>by have:=h0 h;simpa using this,Va (by simpa using h1),h3⟩
theorem AeE {d:Nat} {a:AV} (h:like Tryz.prog d 9 a):∃s:List UInt8,a=.str s∧Ln s:=by
 obtain⟨k,e1,h1⟩:=X6 Tryz.underlying9 h
 exact⟨k,e1,Va h1⟩
theorem Ach {d:Nat} {a:AV} (h:like Tryz.prog d 57 a):∃v:GN,a=v.av∧v.ok:=by
 obtain⟨cs,rfl,h0⟩:=Fa Tryz.underlying57 h
 obtain⟨d',rfl,g1,g2⟩:=Ep Tryz.underlying57 h0
 rw[Ake]at g1
 obtain⟨a,b,c,rfl⟩:=Aox g1
 clear g1
 simp only[List.forall_mem_cons]at g2
 obtain⟨f1,f2,f3,_⟩:=g2
 simp only[Vl,Ace,AaU,List.drop_zero,List.drop_succ_cons,List.take_succ_cons,List.take_zero]at f1 f2 f3
 obtain⟨s,e1,h1⟩:=F7 f1
 obtain⟨ln,L,e2,h2,h2a,h2b⟩:=J6 (f:=.str) (Q:=Ln) Tryz.underlying54 (fun d x h=>AeE h) f2
 obtain⟨pn,P,e3,h3,h3a,h3b⟩:=J6 (f:=GP.av) (Q:=GP.ok) Tryz.underlying55 (fun d x h=>Vm h) f3
 cases e1;cases e2;cases e3
 exact⟨⟨s,ln,L,pn,P⟩,rfl,h1,h2a,h2,h2b,h3a,h3,h3b⟩
theorem Aci {d:Nat} {a:AV} (h:like Tryz.prog d 87 a):∃v:GE,a=v.av∧v.ok:=by
 obtain⟨cs,rfl,h0⟩:=Fa Tryz.underlying87 h
 obtain⟨d',rfl,g1,g2⟩:=Ep Tryz.underlying87 h0
 rw[Akf]at g1
 obtain⟨a,b,c,e,f,rfl⟩:=AmA g1
 clear g1
 simp only[List.forall_mem_cons]at g2
 obtain⟨f1,f2,f3,f4,f5,_⟩:=g2
 simp only[Vl,L8,AaU,List.drop_zero,List.drop_succ_cons,List.take_succ_cons,List.take_zero]at f1 f2 f3 f4 f5
 obtain⟨k,e1,h1⟩:=F7 f1
 obtain⟨n,e2,h2⟩:=F7 f2
 obtain⟨m,e3,h3⟩:=F7 f3
 obtain⟨s,e4,h4⟩:=H6 f4
 obtain⟨pn,P,e5,h5,h5a,h5b⟩:=J6 (f:=GP.av) (Q:=GP.ok) Tryz.underlying55 (fun d x h=>Vm h) f5
 cases e1;cases e2;cases e3;cases e4;cases e5
 exact⟨⟨k,n,m,s,pn,P⟩,rfl,h1,h2,h3,h4,h5a,h5,h5b⟩
theorem ZE {a:AV} (h:Like Tryz.prog 25 a):∃v:GG,a=v.av∧v.ok:=by
 obtain⟨d,h⟩:=h
 obtain⟨cs,rfl,h0⟩:=Fa Tryz.underlying25 h
 obtain⟨d',rfl,g1,g2⟩:=Ep Tryz.underlying25 h0
 rw[Ag8]at g1
 obtain⟨a,b,c,e,rfl⟩:=Aoy g1
 clear g1
 simp only[List.forall_mem_cons]at g2
 obtain⟨f1,f2,f3,f4,_⟩:=g2
 simp only[Vl,Ag6,Ag7,List.drop_zero,List.drop_succ_cons,List.take_succ_cons,List.take_zero]at f1 f2 f3 f4
 obtain⟨nn,N,e1,h1,h1a,h1b⟩:=J6 (f:=GN.av) (Q:=GN.ok) Tryz.underlying22 (fun d x h=>Ach h) f1
 obtain⟨en,E,e2,h2,h2a,h2b⟩:=J6 (f:=GE.av) (Q:=GE.ok) Tryz.underlying23 (fun d x h=>Aci h) f2
 obtain⟨m,e3,h3⟩:=F7 f3
 obtain⟨k,e4,h4⟩:=F7 f4
 cases e1;cases e2;cases e3;cases e4
 exact⟨⟨nn,N,en,E,m,k⟩,rfl,h1a,h1,h1b,h2a,h2,h2b,h3,h4⟩
theorem DV {l:List AV} (h:∀x∈l,Like Tryz.prog 42 x) (i:Nat):
 ∃g:GV,∀hi:i<l.length,nth l (Int.toNat (Nat.cast i))=some g.av∧l[i]=g.av∧g.ok:=by
 by_cases hi:i<l.length
 ·obtain⟨g,e,hg⟩:=ZC (h _ (List.getElem_mem hi))
  exact⟨g,fun _=>⟨by rw[← e];exact nR hi,e,hg⟩⟩
 ·exact⟨⟨0,0,0,[],true,[]⟩,fun h=>absurd h hi⟩
structure GR where
 k:Int
 n:Int
 name:List UInt8
 key:List UInt8
 fr:List UInt8
 to:List UInt8
def GR.av (r:GR):AV:=.agg [.int .i64 r.k,.int .i64 r.n,.str r.name,.str r.key,.str r.fr,.str r.to]
def GR.ok (r:GR):Prop:=I64 r.k∧I64 r.n∧Ln r.name∧Ln r.key∧Ln r.fr∧Ln r.to
structure GM where
 k:Int
 label:List UInt8
 fr:List UInt8
 to:List UInt8
 v:GV
 r:GR
def GM.av (m:GM):AV:=.agg [.int .i64 m.k,.str m.label,.str m.fr,.str m.to,.int .i64 m.v.k,.int .i64 m.v.n,.int .i64 m.v.d,.str m.v.s,.sl m.v.nn m.v.l,.int .i64 m.r.k,.int .i64 m.r.n,.str m.r.name,.str m.r.key,.str m.r.fr,.str m.r.to]
def GM.ok (m:GM):Prop:=I64 m.k∧Ln m.label∧Ln m.fr∧Ln m.to∧m.v.ok∧m.r.ok
theorem Afa:Tryz.prog.cellsOf 44=6:=by kernel_rfl
theorem Yn:Tryz.prog.cellsOf 46=15:=by kernel_rfl
theorem GL {l:List AV} {n:Nat} (h:l.length=n+1):∃a r,l=a::r∧r.length=n:=by
 cases l with
 |nil=>simp at h
 |cons a r=>exact⟨a,r,rfl,by simpa using h⟩
theorem TW {d:Nat} {cs:List AV} (h:Dj Tryz.prog d 44 cs):∃r:GR,cs=[.int .i64 r.k,.int .i64 r.n,.str r.name,.str r.key,.str r.fr,.str r.to]∧r.ok:=by
 obtain⟨d',rfl,g1,g2⟩:=Ep Tryz.underlying44 h
 rw[Afa]at g1
 obtain⟨a,b,c,e,f,g,rfl⟩:=Akg g1
 clear g1
 simp only[List.forall_mem_cons]at g2
 obtain⟨f1,f2,f3,f4,f5,f6,_⟩:=g2
 simp only[Vl,L8,List.drop_zero,List.drop_succ_cons,List.take_succ_cons,List.take_zero]at f1 f2 f3 f4 f5 f6
 obtain⟨k,e1,h1⟩:=F7 f1
 obtain⟨n,e2,h2⟩:=F7 f2
 obtain⟨s3,e3,h3⟩:=H6 f3
 obtain⟨s4,e4,h4⟩:=H6 f4
 obtain⟨s5,e5,h5⟩:=H6 f5
 obtain⟨s6,e6,h6⟩:=H6 f6
 cases e1;cases e2;cases e3;cases e4;cases e5;cases e6
 exact⟨⟨k,n,s3,s4,s5,s6⟩,rfl,h1,h2,h3,h4,h5,h6⟩
theorem Ti {a:AV} (h:Like Tryz.prog 46 a):∃m:GM,a=m.av∧m.ok:=by
 obtain⟨d,h⟩:=h
 obtain⟨cs,rfl,h0⟩:=Fa Tryz.underlying46 h
 obtain⟨d',rfl,g1,g2⟩:=Ep Tryz.underlying46 h0
 rw[Yn]at g1
 obtain⟨a1,r1,rfl,q1⟩:=GL g1
 obtain⟨a2,r2,rfl,q2⟩:=GL q1
 obtain⟨a3,r3,rfl,q3⟩:=GL q2
 obtain⟨a4,r4,rfl,q4⟩:=GL q3
 obtain⟨a5,r5,rfl,q5⟩:=GL q4
 obtain⟨a6,r6,rfl,q6⟩:=GL q5
 obtain⟨a7,r7,rfl,q7⟩:=GL q6
 obtain⟨a8,r8,rfl,q8⟩:=GL q7
 obtain⟨a9,r9,rfl,q9⟩:=GL q8
 obtain⟨b1,b2,b3,b4,b5,b6,rfl⟩:=Akg q9
 clear g1 q1 q2 q3 q4 q5 q6 q7 q8 q9
 simp only[List.forall_mem_cons]at g2
 obtain⟨f1,f2,f3,f4,f5,f6,_⟩:=g2
 simp only[Vl,L8,WE,Afa,List.drop_zero,List.drop_succ_cons,List.take_succ_cons,List.take_zero]at f1 f2 f3 f4 f5 f6
 obtain⟨k,e1,h1⟩:=F7 f1
 obtain⟨s2,e2,h2⟩:=H6 f2
 obtain⟨s3,e3,h3⟩:=H6 f3
 obtain⟨s4,e4,h4⟩:=H6 f4
 obtain⟨v,e5,h5⟩:=L9 f5
 obtain⟨r,e6,h6⟩:=TW f6
 cases e1;cases e2;cases e3;cases e4;cases e5;cases e6
 exact⟨⟨k,s2,s3,s4,v,r⟩,rfl,h1,h2,h3,h4,h5,h6⟩
def FX (c:Int):Prop:=(97≤c∧c≤122)∨(65≤c∧c≤90)
instance (c:Int):Decidable (FX c):=by unfold FX;infer_instance
theorem Abk {c:Int}:Ae (Ad tab) 165 [.int .u8 c] (· =.bool (decide (FX c))):=by
 refine Ac rfl rfl ?_
 (conv=>whnf);repeat' (first|(refine kA ?_;conv=>whnf)|(refine Br.mk (fun hc=>?_) fun hc=>?_<;>first|exact hc.elim|conv=>whnf)  |(refine kB ?_))
 all_goals first|exact Bl (by unfold FX;omega)|exact Au (by unfold FX;omega)
def OA (c:Int):Prop:=FX c∨(48≤c∧c≤57)∨c=95
instance (c:Int):Decidable (OA c):=by unfold OA;infer_instance
def isName (s:List UInt8):Prop:=0<s.length∧s.length≤20∧(∀ c,s[0]?=some c→FX c.toNat)∧∀c∈s,OA c.toNat
instance (s:List UInt8):Decidable (isName s):=by unfold isName;infer_instance
theorem UH {s:List UInt8} (hs:0<s.length) (h:isName s):FX s[0].toNat:=h.2.2.1 _ (List.getElem?_eq_getElem hs)
theorem Acu {s:List UInt8} {i:Nat} (hi:i<s.length) (h:isName s):OA s[i].toNat:=h.2.2.2 _ (List.getElem_mem _)
theorem name1 {s:List UInt8} (hl:s.length<2^63):Ae (Ad tab) 100 [.str s] (· =.bool (decide (isName s))):=by
 by_cases h0:s.length=0
 ·obtain rfl:s=[]:=List.length_eq_zero_iff.1 h0
  refine Ac rfl rfl ?_
  (conv=>whnf);repeat' (first|(refine kA ?_;conv=>whnf)|(refine Br.mk (fun hc=>?_) fun hc=>?_<;>first|exact hc.elim|conv=>whnf)  |(refine kB ?_))
  all_goals exact Au (by simp[isName])
 have hs:0<s.length:=by omega
 have hne:s≠[]:=by rintro rfl;simp at h0
 have hz:s[0]?=some s[0]:=List.getElem?_eq_getElem hs
 refine Ac rfl rfl ?_
 (conv=>whnf);repeat' (first|(refine kA ?_;conv=>whnf)|(refine Br.mk (fun hc=>?_) fun hc=>?_<;>first|exact hc.elim|conv=>whnf)|(refine Ar (Abk) (fun hc=>?_) (fun hc=>?_)<;>conv=>whnf)|(refine kB ?_))
 all_goals first|exact absurd hc hne|exact Au (by unfold isName;omega)|exact Au fun h=>hc (UH hs h)|skip
 refine Ag (fun m env s'=>∃i:Nat,m=s.length-i∧env=[(0,.str s),(18,.int .i64 s.length),(19,.int .i64 i)]∧s'=⟨[],0⟩∧∀c∈s.take i,OA c.toNat) ?_ _ _ _ ⟨0,rfl,by simp,rfl,by simp⟩
 rintro _ _ _ ⟨i,rfl,rfl,rfl,hx⟩
 refine⟨rfl,?_⟩
 (conv=>whnf);repeat' (first|(refine kA ?_;conv=>whnf)|(refine Br.mk (fun hc=>?_) fun hc=>?_<;>first|exact hc.elim|conv=>whnf)|(refine Ar (Abk) (fun hc=>?_) (fun hc=>?_)<;>conv=>whnf)|(refine kB ?_))
 all_goals first
  |exact again.mk ⟨_,by omega,i+1,rfl,rfl,rfl,BO (by omega) hx (by unfold OA FX at *;omega)⟩
  |(refine Au fun h=>?_;have:=Acu (i:=i) (by omega) h;unfold OA FX at *;omega)
  |(rename_i hc1;exact Bl ⟨hs,by omega,fun c h=>by rw[hz]at h;cases h;assumption,by rw[Dz hc]at hx;exact hx⟩)
def IZ (r:GR):Prop:=if r.k=3∨r.k=5 then r.n=1∨r.n=2∨r.n=4 else if r.k=7 then 0≤r.n∧r.n≤4000 else r.n=0
instance (r:GR):Decidable (IZ r):=by unfold IZ;infer_instance
def badR (r:GR):Prop:=¬(1≤r.k∧r.k≤7)∨¬IZ r∨(¬ (1≤r.k∧r.k≤5)∧r.key≠[])∨(r.k≠6∧(r.fr≠[]∨r.to≠[]))
def GZ (r:GR):Prop:=¬isName r.name∨((1≤r.k∧r.k≤5)∧¬isName r.key)∨(r.fr≠[]∧¬isName r.fr)∨(r.to≠[]∧¬isName r.to)
instance (r:GR):Decidable (badR r):=by unfold badR;infer_instance
instance (r:GR):Decidable (GZ r):=by unfold GZ;infer_instance
def EI (r:GR):Int:=if badR r then 1 else if GZ r then 6 else 0
theorem JF {r:GR} (h:badR r):AV.int .i64 1=AV.int .i64 (EI r):=by rw[EI,if_pos h]
theorem Lj {r:GR} (h:¬badR r) (h1:GZ r):AV.int .i64 6=AV.int .i64 (EI r):=by rw[EI,if_neg h,if_pos h1]
theorem Ll {r:GR} (h:¬badR r) (h1:¬GZ r):AV.int .i64 0=AV.int .i64 (EI r):=by rw[EI,if_neg h,if_neg h1]
theorem Ak8:Ae (Ad tab) 166 [.int .i64 1] (· =.BF [.agg [.bool true,.bool false,.bool false],.bool true]):=⟨_,⟨20,by kernel_rfl⟩,rfl⟩
theorem Ak9:Ae (Ad tab) 166 [.int .i64 2] (· =.BF [.agg [.bool true,.bool false,.bool false],.bool true]):=⟨_,⟨20,by kernel_rfl⟩,rfl⟩
theorem Ala:Ae (Ad tab) 166 [.int .i64 3] (· =.BF [.agg [.bool true,.bool true,.bool false],.bool true]):=⟨_,⟨20,by kernel_rfl⟩,rfl⟩
theorem Alb:Ae (Ad tab) 166 [.int .i64 4] (· =.BF [.agg [.bool true,.bool false,.bool false],.bool true]):=⟨_,⟨20,by kernel_rfl⟩,rfl⟩
theorem Alc:Ae (Ad tab) 166 [.int .i64 5] (· =.BF [.agg [.bool true,.bool true,.bool false],.bool true]):=⟨_,⟨20,by kernel_rfl⟩,rfl⟩
theorem Ald:Ae (Ad tab) 166 [.int .i64 6] (· =.BF [.agg [.bool false,.bool false,.bool true],.bool true]):=⟨_,⟨20,by kernel_rfl⟩,rfl⟩
theorem Ale:Ae (Ad tab) 166 [.int .i64 7] (· =.BF [.agg [.bool false,.bool true,.bool false],.bool true]):=⟨_,⟨20,by kernel_rfl⟩,rfl⟩
theorem Alf {k:Int} (h:¬(1≤k∧k≤7)):Ae (Ad tab) 166 [.int .i64 k] (· =.BF [.agg [.bool false,.bool false,.bool false],.bool false]):=by
 refine Ac rfl rfl ?_
 (conv=>whnf);repeat' (first  |(refine kA ?_;conv=>whnf)|(refine Br.mk (fun hc=>?_) fun hc=>?_<;>first|exact hc.elim|conv=>whnf)|(refine kB ?_))
 all_goals first|rfl|(exfalso;omega)
theorem OC {n:Int}:Ae (Ad tab) 167 [.int .i64 n] (fun v=>∃s,v=.str s∧(s=[]↔¬(n=1∨n=2∨n=4))):=by
 refine Ac rfl rfl ?_
 (conv=>whnf);repeat' (first  |(refine kA ?_;conv=>whnf)|(refine Br.mk (fun hc=>?_) fun hc=>?_<;>first|exact hc.elim|conv=>whnf)|(refine kB ?_))
 all_goals first|exact⟨_,rfl,by simp;omega⟩|exact⟨_,rfl,by simp[*]⟩
theorem Ah0 {r:GR} (hr:r.ok) (hk:¬(1≤r.k∧r.k≤7)):Ae (Ad tab) 102 [r.av] (· =.int .i64 (EI r)):=by
 refine Ac rfl rfl ?_
 (conv=>whnf);repeat' (first|(refine Aa (Alf hk) ?_;rintro _ rfl;conv=>whnf)|(refine kA ?_;conv=>whnf)|(refine Br.mk (fun hc=>?_) fun hc=>?_<;>first|exact hc.elim|conv=>whnf)|(refine kB ?_))
 all_goals exact JF (.inl hk)
set_option maxHeartbeats 2000000 in
theorem Ah1 {r:GR} (hr:r.ok) (hk:r.k=1):Ae (Ad tab) 102 [r.av] (· =.int .i64 (EI r)):=by
 obtain⟨k,n,nm,key,fr,to⟩:=r
 obtain⟨g1,g2,g3,g4,g5,g6⟩:=hr
 unfold Ln at g3 g4 g5 g6
 dsimp only at g1 g2 g3 g4 g5 g6 hk
 subst hk
 refine Ac rfl rfl ?_
 (conv=>whnf);repeat' (first|(refine Aa Ak8 ?_;rintro _ rfl;conv=>whnf)|(refine Aa OC ?_;rintro _ ⟨s,rfl,hs⟩;conv=>whnf)|(refine Ar (name1 (s:=nm) g3) (fun ha=>?_) (fun ha=>?_)<;>conv=>whnf)|(refine Ar (name1 (s:=key) g4) (fun hd=>?_) (fun hd=>?_)<;>conv=>whnf)|(refine Ar (name1 (s:=fr) g5) (fun he=>?_) (fun he=>?_)<;>conv=>whnf)|(refine Ar (name1 (s:=to) g6) (fun hf=>?_) (fun hf=>?_)<;>conv=>whnf)|(refine kA ?_;conv=>whnf)|(refine Br.mk (fun hc=>?_) fun hc=>?_<;>first|exact hc.elim|conv=>whnf)|(refine kB ?_))
 all_goals clear g1 g2 g3 g4 g5 g6
 all_goals first
  |exact JF (by unfold badR IZ;dsimp only;grind)
  |exact Lj (by unfold badR IZ;dsimp only;grind) (by unfold GZ;dsimp only;grind)
  |exact Ll (by unfold badR IZ;dsimp only;grind) (by unfold GZ;dsimp only;grind)
  |(exfalso;grind)
set_option maxHeartbeats 2000000 in
theorem Ah2 {r:GR} (hr:r.ok) (hk:r.k=2):Ae (Ad tab) 102 [r.av] (· =.int .i64 (EI r)):=by
 obtain⟨k,n,nm,key,fr,to⟩:=r
 obtain⟨g1,g2,g3,g4,g5,g6⟩:=hr
 unfold Ln at g3 g4 g5 g6
 dsimp only at g1 g2 g3 g4 g5 g6 hk
 subst hk
 refine Ac rfl rfl ?_
 (conv=>whnf);repeat' (first|(refine Aa Ak9 ?_;rintro _ rfl;conv=>whnf)|(refine Aa OC ?_;rintro _ ⟨s,rfl,hs⟩;conv=>whnf)|(refine Ar (name1 (s:=nm) g3) (fun ha=>?_) (fun ha=>?_)<;>conv=>whnf)|(refine Ar (name1 (s:=key) g4) (fun hd=>?_) (fun hd=>?_)<;>conv=>whnf)|(refine Ar (name1 (s:=fr) g5) (fun he=>?_) (fun he=>?_)<;>conv=>whnf)|(refine Ar (name1 (s:=to) g6) (fun hf=>?_) (fun hf=>?_)<;>conv=>whnf)|(refine kA ?_;conv=>whnf)|(refine Br.mk (fun hc=>?_) fun hc=>?_<;>first|exact hc.elim|conv=>whnf)|(refine kB ?_))
 all_goals clear g1 g2 g3 g4 g5 g6
 all_goals first
  |exact JF (by unfold badR IZ;dsimp only;grind)
  |exact Lj (by unfold badR IZ;dsimp only;grind) (by unfold GZ;dsimp only;grind)
  |exact Ll (by unfold badR IZ;dsimp only;grind) (by unfold GZ;dsimp only;grind)
  |(exfalso;grind)
set_option maxHeartbeats 2000000 in
theorem Ah3 {r:GR} (hr:r.ok) (hk:r.k=3):Ae (Ad tab) 102 [r.av] (· =.int .i64 (EI r)):=by
 obtain⟨k,n,nm,key,fr,to⟩:=r
 obtain⟨g1,g2,g3,g4,g5,g6⟩:=hr
 unfold Ln at g3 g4 g5 g6
 dsimp only at g1 g2 g3 g4 g5 g6 hk
 subst hk
 refine Ac rfl rfl ?_
 (conv=>whnf);repeat' (first|(refine Aa Ala ?_;rintro _ rfl;conv=>whnf)|(refine Aa OC ?_;rintro _ ⟨s,rfl,hs⟩;conv=>whnf)|(refine Ar (name1 (s:=nm) g3) (fun ha=>?_) (fun ha=>?_)<;>conv=>whnf)|(refine Ar (name1 (s:=key) g4) (fun hd=>?_) (fun hd=>?_)<;>conv=>whnf)|(refine Ar (name1 (s:=fr) g5) (fun he=>?_) (fun he=>?_)<;>conv=>whnf)|(refine Ar (name1 (s:=to) g6) (fun hf=>?_) (fun hf=>?_)<;>conv=>whnf)|(refine kA ?_;conv=>whnf)|(refine Br.mk (fun hc=>?_) fun hc=>?_<;>first|exact hc.elim|conv=>whnf)|(refine kB ?_))
 all_goals clear g1 g2 g3 g4 g5 g6
 all_goals first
  |exact JF (by unfold badR IZ;dsimp only;grind)
  |exact Lj (by unfold badR IZ;dsimp only;grind) (by unfold GZ;dsimp only;grind)
  |exact Ll (by unfold badR IZ;dsimp only;grind) (by unfold GZ;dsimp only;grind)
  |(exfalso;grind)
set_option maxHeartbeats 2000000 in
theorem Ah4 {r:GR} (hr:r.ok) (hk:r.k=4):Ae (Ad tab) 102 [r.av] (· =.int .i64 (EI r)):=by
 obtain⟨k,n,nm,key,fr,to⟩:=r
 obtain⟨g1,g2,g3,g4,g5,g6⟩:=hr
 unfold Ln at g3 g4 g5 g6
 dsimp only at g1 g2 g3 g4 g5 g6 hk
 subst hk
 refine Ac rfl rfl ?_
 (conv=>whnf);repeat' (first|(refine Aa Alb ?_;rintro _ rfl;conv=>whnf)|(refine Aa OC ?_;rintro _ ⟨s,rfl,hs⟩;conv=>whnf)|(refine Ar (name1 (s:=nm) g3) (fun ha=>?_) (fun ha=>?_)<;>conv=>whnf)|(refine Ar (name1 (s:=key) g4) (fun hd=>?_) (fun hd=>?_)<;>conv=>whnf)|(refine Ar (name1 (s:=fr) g5) (fun he=>?_) (fun he=>?_)<;>conv=>whnf)|(refine Ar (name1 (s:=to) g6) (fun hf=>?_) (fun hf=>?_)<;>conv=>whnf)|(refine kA ?_;conv=>whnf)|(refine Br.mk (fun hc=>?_) fun hc=>?_<;>first|exact hc.elim|conv=>whnf)|(refine kB ?_))
 all_goals clear g1 g2 g3 g4 g5 g6
 all_goals first
  |exact JF (by unfold badR IZ;dsimp only;grind)
  |exact Lj (by unfold badR IZ;dsimp only;grind) (by unfold GZ;dsimp only;grind)
  |exact Ll (by unfold badR IZ;dsimp only;grind) (by unfold GZ;dsimp only;grind)
  |(exfalso;grind)
set_option maxHeartbeats 2000000 in
theorem Ah5 {r:GR} (hr:r.ok) (hk:r.k=5):Ae (Ad tab) 102 [r.av] (· =.int .i64 (EI r)):=by
 obtain⟨k,n,nm,key,fr,to⟩:=r
 obtain⟨g1,g2,g3,g4,g5,g6⟩:=hr
 unfold Ln at g3 g4 g5 g6
 dsimp only at g1 g2 g3 g4 g5 g6 hk
 subst hk
 refine Ac rfl rfl ?_
 (conv=>whnf);repeat' (first|(refine Aa Alc ?_;rintro _ rfl;conv=>whnf)|(refine Aa OC ?_;rintro _ ⟨s,rfl,hs⟩;conv=>whnf)|(refine Ar (name1 (s:=nm) g3) (fun ha=>?_) (fun ha=>?_)<;>conv=>whnf)|(refine Ar (name1 (s:=key) g4) (fun hd=>?_) (fun hd=>?_)<;>conv=>whnf)|(refine Ar (name1 (s:=fr) g5) (fun he=>?_) (fun he=>?_)<;>conv=>whnf)|(refine Ar (name1 (s:=to) g6) (fun hf=>?_) (fun hf=>?_)<;>conv=>whnf)|(refine kA ?_;conv=>whnf)|(refine Br.mk (fun hc=>?_) fun hc=>?_<;>first|exact hc.elim|conv=>whnf)|(refine kB ?_))
 all_goals clear g1 g2 g3 g4 g5 g6
 all_goals first
  |exact JF (by unfold badR IZ;dsimp only;grind)
  |exact Lj (by unfold badR IZ;dsimp only;grind) (by unfold GZ;dsimp only;grind)
  |exact Ll (by unfold badR IZ;dsimp only;grind) (by unfold GZ;dsimp only;grind)
  |(exfalso;grind)
set_option maxHeartbeats 2000000 in
theorem Ah6 {r:GR} (hr:r.ok) (hk:r.k=6):Ae (Ad tab) 102 [r.av] (· =.int .i64 (EI r)):=by
 obtain⟨k,n,nm,key,fr,to⟩:=r
 obtain⟨g1,g2,g3,g4,g5,g6⟩:=hr
 unfold Ln at g3 g4 g5 g6
 dsimp only at g1 g2 g3 g4 g5 g6 hk
 subst hk
 refine Ac rfl rfl ?_
 (conv=>whnf);repeat' (first|(refine Aa Ald ?_;rintro _ rfl;conv=>whnf)|(refine Aa OC ?_;rintro _ ⟨s,rfl,hs⟩;conv=>whnf)|(refine Ar (name1 (s:=nm) g3) (fun ha=>?_) (fun ha=>?_)<;>conv=>whnf)|(refine Ar (name1 (s:=key) g4) (fun hd=>?_) (fun hd=>?_)<;>conv=>whnf)|(refine Ar (name1 (s:=fr) g5) (fun he=>?_) (fun he=>?_)<;>conv=>whnf)|(refine Ar (name1 (s:=to) g6) (fun hf=>?_) (fun hf=>?_)<;>conv=>whnf)|(refine kA ?_;conv=>whnf)|(refine Br.mk (fun hc=>?_) fun hc=>?_<;>first|exact hc.elim|conv=>whnf)|(refine kB ?_))
 all_goals clear g1 g2 g3 g4 g5 g6
 all_goals first
  |exact JF (by unfold badR IZ;dsimp only;grind)
  |exact Lj (by unfold badR IZ;dsimp only;grind) (by unfold GZ;dsimp only;grind)
  |exact Ll (by unfold badR IZ;dsimp only;grind) (by unfold GZ;dsimp only;grind)
  |(exfalso;grind)
set_option maxHeartbeats 2000000 in
theorem Ah7 {r:GR} (hr:r.ok) (hk:r.k=7):Ae (Ad tab) 102 [r.av] (· =.int .i64 (EI r)):=by
 obtain⟨k,n,nm,key,fr,to⟩:=r
 obtain⟨g1,g2,g3,g4,g5,g6⟩:=hr
 unfold Ln at g3 g4 g5 g6
 dsimp only at g1 g2 g3 g4 g5 g6 hk
 subst hk
 refine Ac rfl rfl ?_
 (conv=>whnf);repeat' (first|(refine Aa Ale ?_;rintro _ rfl;conv=>whnf)|(refine Aa OC ?_;rintro _ ⟨s,rfl,hs⟩;conv=>whnf)|(refine Ar (name1 (s:=nm) g3) (fun ha=>?_) (fun ha=>?_)<;>conv=>whnf)|(refine Ar (name1 (s:=key) g4) (fun hd=>?_) (fun hd=>?_)<;>conv=>whnf)|(refine Ar (name1 (s:=fr) g5) (fun he=>?_) (fun he=>?_)<;>conv=>whnf)|(refine Ar (name1 (s:=to) g6) (fun hf=>?_) (fun hf=>?_)<;>conv=>whnf)|(refine kA ?_;conv=>whnf)|(refine Br.mk (fun hc=>?_) fun hc=>?_<;>first|exact hc.elim|conv=>whnf)|(refine kB ?_))
 all_goals clear g1 g2 g3 g4 g5 g6
 all_goals first
  |exact JF (by unfold badR IZ;dsimp only;grind)
  |exact Lj (by unfold badR IZ;dsimp only;grind) (by unfold GZ;dsimp only;grind)
  |exact Ll (by unfold badR IZ;dsimp only;grind) (by unfold GZ;dsimp only;grind)
  |(exfalso;grind)
theorem Ny {r:GR} (hr:r.ok):Ae (Ad tab) 102 [r.av] (· =.int .i64 (EI r)):=by
 by_cases hk:1≤r.k∧r.k≤7
 case neg=>exact Ah0 hr hk
 have h:r.k=1∨r.k=2∨r.k=3∨r.k=4∨r.k=5∨r.k=6∨r.k=7:=by omega
 rcases h with h|h|h|h|h|h|h
 ·exact Ah1 hr h
 ·exact Ah2 hr h
 ·exact Ah3 hr h
 ·exact Ah4 hr h
 ·exact Ah5 hr h
 ·exact Ah6 hr h
 ·exact Ah7 hr h
theorem nan {x:Int}:Ae (Ad tab) 190 [.int .i64 x] (· =.bool (decide False)):=by
 refine Ac rfl rfl ?_
 (conv=>whnf);repeat' (first  |(refine kA ?_;conv=>whnf)|(refine Br.mk (fun hc=>?_) fun hc=>?_<;>first|exact hc.elim|conv=>whnf)|(refine kB ?_))
 all_goals first|exact absurd rfl hc|rfl
def CY (x y:Int):Int:=if x<y then -1 else if y<x then 1 else 0
theorem compare {x y:Int}:Ae (Ad tab) 122 [.int .i64 x,.int .i64 y] (· =.int .i64 (CY x y)):=by
 refine Ac rfl rfl ?_
 (conv=>whnf);repeat' (first|(refine Ar nan (fun hc=>absurd hc id) (fun _=>?_);conv=>whnf)|(refine kA ?_;conv=>whnf)|(refine Br.mk (fun hc=>?_) fun hc=>?_<;>first|exact hc.elim|conv=>whnf)|(refine kB ?_))
 all_goals unfold CY;first|(rw [if_pos (by omega)];rfl)|(rw [if_neg (by omega),if_pos (by omega)];rfl)|(rw [if_neg (by omega),if_neg (by omega)];rfl)
theorem OI {x y:Int}:CY x y<0↔x<y:=by unfold CY;split<;>(try split)<;>omega
theorem Dy {x y:Int}:CY x y=0↔x=y:=by unfold CY;split<;>(try split)<;>omega
section
open Go.Sort
section
variable {α:Type} [Inhabited α] {f:α→AV}
theorem nP {d:Array α} {z:Int} (i:Nat) (hz:z=i) (h:i<d.size):nth (vs f d.toList) (Int.toNat z)=some (f d[i]!):=by
 rw[nVz i hz (by simpa using h)]
 simp[h]
omit [Inhabited α]in
theorem tP {es:Nat} (hf:∀x,(f x).cells.length=es) {d:Array α} {z:Int} (i:Nat) (hz:z=i) {x y:α}:(vs f d.toList).set (Int.toNat z) (BG (f y) 0 (f x))=vs f (d.setIfInBounds i x).toList:=by
 subst hz
 have e:BG (f y) 0 (f x)=f x:=by
  unfold BG
  rw[if_pos ⟨rfl,by rw[hf,hf]⟩]
 rw[e]
 show(vs f d.toList).set i (f x)=_
 simp[vs,List.map_set]
theorem Hg {d:Array α} {z:Int} {K:AV→Prop} (i:Nat) (k:K (f d[i]!)) (hz:z=i:=by omega) (h:i<d.size:=by first|omega|(simp;omega)):Ci (vs f d.toList) (Int.toNat z) K:=Aj (nP i hz h) k
omit [Inhabited α]in
theorem Nr {es:Nat} (hf:∀x,(f x).cells.length=es) {d:Array α} {z:Int} {x y:α} {K:List AV→Prop} (i:Nat) (k:K (vs f (d.setIfInBounds i x).toList)) (hz:z=i:=by omega):eqK ((vs f d.toList).set (Int.toNat z) (BG (f y) 0 (f x))) K:=Bo (tP hf i hz) k
@[simp] theorem Td (d:Array α) (i j:Nat):(swp d i j).size=d.size:=by simp[swp]
variable {lt:α→α→Bool} {a b i j hi first root:Nat} {d:Array α}
theorem AfR (h1:a<j+1) (h2:lt d[j+1]! d[j]! =true):insInner lt a (j+1) d=insInner lt a j (swp d (j+1) j):=by
 rw[insInner,if_pos (by simp[h1,h2])]
theorem YE (h:a<j+1→lt d[j+1]! d[j]! =false):insInner lt a (j+1) d=d:=by
 rw[insInner,if_neg]
 simp only[Bool.and_eq_true,decide_eq_true_eq,not_and]
 intro h1 h2
 rw[h h1]at h2;cases h2
theorem Aic (h:i<b):insOuter lt a b i d=insOuter lt a b (i+1) (insInner lt a i d):=by rw[insOuter,if_pos h]
theorem Aid (h:¬i<b):insOuter lt a b i d=d:=by rw[insOuter,if_neg h]
@[simp] theorem YF:∀{j:Nat} {d:Array α},(insInner lt a j d).size=d.size
 |0,d=>rfl
 |j+1,d=>by
  rw[insInner]
  split
  ·rw[YF,Td]
  ·rfl
theorem YG (h:hi≤2*root+1):siftDown lt hi first root d=d:=by
 rw[siftDown,dif_pos h]
theorem Alo (h:2*root+1+1<hi) (h1:lt d[first+(2*root+1)]! d[first+(2*root+1)+1]! =true) (h2:lt d[first+root]! d[first+(2*root+2)]! =true):
 siftDown lt hi first root d=siftDown lt hi first (2*root+2) (swp d (first+root) (first+(2*root+2))):=by
 rw[siftDown,dif_neg (by omega),if_pos (by simp[h,h1]),if_neg (by simp[h2]),dif_pos (by omega)]
theorem Aie (h:2*root+1+1<hi) (h1:lt d[first+(2*root+1)]! d[first+(2*root+1)+1]! =true) (h2:lt d[first+root]! d[first+(2*root+2)]! =false):
 siftDown lt hi first root d=d:=by
 rw[siftDown,dif_neg (by omega),if_pos (by simp[h,h1]),if_pos (by simp[h2])]
theorem AfS (h:¬hi≤2*root+1) (h1:2*root+1+1<hi→lt d[first+(2*root+1)]! d[first+(2*root+1)+1]! =false) (h2:lt d[first+root]! d[first+(2*root+1)]! =true):
 siftDown lt hi first root d=siftDown lt hi first (2*root+1) (swp d (first+root) (first+(2*root+1))):=by
 rw[siftDown,dif_neg h,if_neg,if_neg (by simp[h2])]
 simp only[Bool.and_eq_true,decide_eq_true_eq,not_and]
 intro h3 h4
 rw[h1 h3]at h4;cases h4
theorem AbA (h:¬hi≤2*root+1) (h1:2*root+1+1<hi→lt d[first+(2*root+1)]! d[first+(2*root+1)+1]! =false) (h2:lt d[first+root]! d[first+(2*root+1)]! =false):
 siftDown lt hi first root d=d:=by
 rw[siftDown,dif_neg h,if_neg,if_pos (by simp[h2])]
 simp only[Bool.and_eq_true,decide_eq_true_eq,not_and]
 intro h3 h4
 rw[h1 h3]at h4;cases h4
theorem YH {lt:α→α→Bool} {hi first:Nat}:∀(n root:Nat) (d:Array α),hi-root≤n→(siftDown lt hi first root d).size=d.size:=by
 intro n
 induction n with
 |zero=>intro root d h;rw[YG (by omega)]
 |succ n ih=>
  intro root d h
  rw[siftDown]
  split
  ·rfl
  ·split
   ·split
    ·rfl
    ·split
     ·rw[ih _ _ (by omega),Td]
     ·rfl
   ·split
    ·rfl
    ·rw[ih _ _ (by omega),Td]
@[simp] theorem Aif:(siftDown lt hi first root d).size=d.size:=YH (hi-root) root d (Nat.le_refl _)
@[simp] theorem Xg:∀{k:Nat} {d:Array α},(heapBuild lt hi first k d).size=d.size
 |0,d=>rfl
 |k+1,d=>by rw[heapBuild,Xg,Aif]
end
theorem U9 {z:Int} {K:AV→Prop} (n k:Nat) (hz:z=n) (h:n<2^63) (h2:K (.int .i64 ((n / k:Nat):Int))):Iw .i64 (z.tdiv k) K:=by
 subst hz
 have e:(n:Int).tdiv k=((n / k:Nat):Int):=by
  rw[Int.tdiv_eq_ediv_of_nonneg (by omega)];rfl
 rw[e]
 have h3:n / k≤n:=Nat.div_le_self ..
 revert h2 h3 e
 generalize n / k=m
 intro h2 e h3
 exact BD (wrap_i64 (by omega) (by omega)) h2
end
section
open Go.Sort
theorem AdK {k:IntKind} {z:Int} (hk:k.signed=false) (h:0≤z) (h2:z<2 ^ k.bits):k.wrap z=z:=by
 simp only[IntKind.wrap,hk,Bool.false_and,Bool.false_eq_true,if_false]
 exact Int.emod_eq_of_lt h h2
theorem wrapN {k:IntKind} {z:Int} {K:AV→Prop} (n:Nat) (hk:k.signed=false) (hz:z=n) (h:n<2 ^ k.bits) (h2:K (.int k n)):Iw k z K:=by
 subst hz
 refine BD (AdK hk (by omega) ?_) h2
 exact_mod_cast h
theorem CP {n:Nat} (k:Nat) (h:2 ^ k≤n):bitsLen (n / 2 ^ k)+k=bitsLen n:=by
 have h0:k<bitsLen n:=by
  rcases Nat.lt_or_ge k (bitsLen n)with h1|h1
  ·exact h1
  ·have:=(bitsLen_le_iff n k).1 h1;omega
 have e1:bitsLen (n / 2 ^ k)≤bitsLen n-k:=by
  rw[bitsLen_le_iff,Nat.div_lt_iff_lt_mul (Nat.two_pow_pos k),←Nat.pow_add,Nat.sub_add_cancel (by omega)]
  exact lt_two_pow_bitsLen n
 have e2:bitsLen n≤bitsLen (n / 2 ^ k)+k:=by
  rw[bitsLen_le_iff,Nat.pow_add,←Nat.div_lt_iff_lt_mul (Nat.two_pow_pos k)]
  exact lt_two_pow_bitsLen _
 omega
def Zd:List UInt8:=[0,1,2,2,3,3,3,3,4,4,4,4,4,4,4,4]++List.replicate 16 5++List.replicate 32 6++List.replicate 64 7++List.replicate 128 8
theorem Ze:(List.range 256).all (fun n=>nth Zd n==some (UInt8.ofNat (bitsLen n))&&Nat.ble (bitsLen n) 8)=true:=by decide +kernel
theorem U8 {n:Nat} (h:n<256):nth Zd n=some (UInt8.ofNat (bitsLen n))∧bitsLen n≤8:=by
 have:=List.all_eq_true.1 Ze n (List.mem_range.2 h)
 rw[Bool.and_eq_true]at this
 exact⟨by simpa using this.1,Nat.le_of_ble_eq_true this.2⟩
theorem AlY (n:Nat):((n:Int)).fdiv (2 ^ (min (Int.toNat 32) IntKind.u64.bits))=((n / 2 ^ 32:Nat):Int):=by
 rw[show (2:Int) ^ (min (Int.toNat 32) IntKind.u64.bits)=4294967296 by rfl,Int.fdiv_eq_ediv_of_nonneg _ (by omega)]
 rfl
theorem AlZ (n:Nat):((n:Int)).fdiv (2 ^ (min (Int.toNat 16) IntKind.u64.bits))=((n / 2 ^ 16:Nat):Int):=by
 rw[show (2:Int) ^ (min (Int.toNat 16) IntKind.u64.bits)=65536 by rfl,Int.fdiv_eq_ediv_of_nonneg _ (by omega)]
 rfl
theorem Aod (n:Nat):((n:Int)).fdiv (2 ^ (min (Int.toNat 8) IntKind.u64.bits))=((n / 2 ^ 8:Nat):Int):=by
 rw[show (2:Int) ^ (min (Int.toNat 8) IntKind.u64.bits)=256 by rfl,Int.fdiv_eq_ediv_of_nonneg _ (by omega)]
 rfl
theorem AjM {m:Nat} (h:m≤8):(UInt8.ofNat m).toNat=m:=by
 rw[UInt8.toNat_ofNat']
 exact Nat.mod_eq_of_lt (by omega)
set_option maxRecDepth 100000 in
theorem Aoe {n:Nat} {K:UInt8→Prop} (hn:n<256) (h:bitsLen n≤8→K (UInt8.ofNat (bitsLen n))):Ci Zd (Int.toNat (n:Int)) K:=
 Aj (U8 hn).1 (h (U8 hn).2)
set_option maxRecDepth 100000 in
theorem Al0 {n:Nat} (h:n<2^64):Ae (Ad tab) 189 [.int .u64 n] (· =.int .i64 (bitsLen n)):=by
 refine Ac rfl rfl ?_
 (conv=>whnf);repeat' (first|(apply Bo;(· first|exact AlY _|exact AlZ _|exact Aod _);conv=>whnf)|(refine wrapN _ rfl rfl (by show _<256;omega) ?_;conv=>whnf)|(refine Aoe (by omega) (fun hb=>?_);rw[AjM hb];conv=>whnf)|(refine kA ?_;conv=>whnf)|(refine Br.mk (fun hc=>?_) fun hc=>?_<;>first|exact hc.elim|conv=>whnf)|(refine kB ?_))
 all_goals
  show AV.int _ _=_
  congr 1
  first
   |(rw [← CP 32 (n:=n) (by omega),←CP 16 (n:=n / 2 ^ 32) (by omega),←CP 8 (n:=n / 2 ^ 32 / 2 ^ 16) (by omega)];omega)
   |(rw [← CP 32 (n:=n) (by omega),←CP 16 (n:=n / 2 ^ 32) (by omega)];omega)
   |(rw [← CP 32 (n:=n) (by omega),←CP 8 (n:=n / 2 ^ 32) (by omega)];omega)
   |(rw [← CP 32 (n:=n) (by omega)];omega)
   |(rw [← CP 16 (n:=n) (by omega),←CP 8 (n:=n / 2 ^ 16) (by omega)];omega)
   |(rw [← CP 16 (n:=n) (by omega)];omega)
   |(rw [← CP 8 (n:=n) (by omega)];omega)
   |omega
theorem XJ {n:Nat} (h:n<2^63):Ae (Ad tab) 120 [.int .u64 n] (· =.int .i64 (bitsLen n)):=by
 refine Ac rfl rfl ?_
 (conv=>whnf);repeat' (first|(refine Aa (Al0 (n:=n) (by omega)) ?_;rintro _ rfl;conv=>whnf)|(refine kA ?_;conv=>whnf)|(refine Br.mk (fun hc=>?_) fun hc=>?_<;>first|exact hc.elim|conv=>whnf)|(refine kB ?_))
 rfl
theorem AbX {n:Nat} (h:n<2^62) (h0:0<n):Ae (Ad tab) 243 [.int .i64 n] (fun v=>∃M:Nat,v=.int .u64 M∧n<M∧M≤2*n):=by
 have h1:=lt_two_pow_bitsLen n
 have h2:=two_pow_bitsLen_le h0
 have h3:bitsLen n≤62:=(bitsLen_le_iff n 62).2 h
 refine Ac rfl rfl ?_
 (conv=>whnf);repeat' (first|(refine wrapN n rfl rfl (by show n<2^64;omega) ?_;conv=>whnf)|(refine Aa (XJ (n:=n) (by omega)) ?_;rintro _ rfl;conv=>whnf)|(refine wrapN (2 ^ bitsLen n) rfl ?_ (by show _<2^64;omega) ?_;(· rw[Int.one_mul,Int.toNat_natCast,Nat.min_eq_left (by show _≤64;omega)];simp);conv=>whnf)|(refine kA ?_;conv=>whnf)|(refine Br.mk (fun hc=>?_) fun hc=>?_<;>first|exact hc.elim|conv=>whnf)|(refine kB ?_))
 exact⟨_,rfl,h1,h2⟩
section
variable {α:Type} [Inhabited α] {lt:α→α→Bool} {a b i j:Nat} {d:Array α}
theorem AdL (h:i<b) (h2:lt d[i]! d[i-1]! =false):scanSorted lt d b i=scanSorted lt d b (i+1):=by
 rw[scanSorted,if_pos (by simp[h,h2])]
theorem Tc (h:i<b→lt d[i]! d[i-1]! =true):scanSorted lt d b i=i:=by
 rw[scanSorted,if_neg]
 simp only[Bool.and_eq_true,decide_eq_true_eq,not_and]
 intro h1 h2
 rw[h h1]at h2;cases h2
theorem AjN (h:lt d[j+1]! d[j]! =true):shiftDown lt (j+1) d=shiftDown lt j (swp d (j+1) j):=by
 rw[shiftDown,if_neg (by simp[h])]
theorem AdM (h:lt d[j+1]! d[j]! =false):shiftDown lt (j+1) d=d:=by
 rw[shiftDown,if_pos (by simp[h])]
theorem AjO (h0:j<b) (h:lt d[j]! d[j-1]! =true):shiftUp lt b j d=shiftUp lt b (j+1) (swp d j (j-1)):=by
 rw[shiftUp,if_pos h0,if_neg (by simp[h])]
theorem XK (h:j<b→lt d[j]! d[j-1]! =false):shiftUp lt b j d=d:=by
 rw[shiftUp]
 split
 ·rename_i h0
  rw[if_pos (by simp[h h0])]
 ·rfl
@[simp] theorem AjP:∀{j:Nat} {d:Array α},(shiftDown lt j d).size=d.size
 |0,d=>rfl
 |j+1,d=>by
  rw[shiftDown]
  split
  ·rfl
  ·rw[AjP,Td]
theorem AaC:∀(n j:Nat) (d:Array α),b-j≤n→(shiftUp lt b j d).size=d.size
 |0,j,d,h=>by rw[shiftUp,if_neg (by omega)]
 |n+1,j,d,h=>by
  rw[shiftUp]
  split
  ·split
   ·rfl
   ·rw[AaC n _ _ (by omega),Td]
  ·rfl
@[simp] theorem Aof:(shiftUp lt b j d).size=d.size:=AaC (b-j) j d (Nat.le_refl _)
@[simp] theorem AnA:(fixDown lt a i d).size=d.size:=by unfold fixDown;split<;>simp
@[simp] theorem AnB:(fixUp lt b i d).size=d.size:=by unfold fixUp;split<;>simp
variable {p:α→Bool}
theorem Zf (h:i≤j) (h2:p d[i]! =true):scanUp p d j i=scanUp p d j (i+1):=by
 rw[scanUp,if_pos (by simp[h,h2])]
theorem J3 (h:i≤j→p d[i]! =false):scanUp p d j i=i:=by
 rw[scanUp,if_neg]
 simp only[Bool.and_eq_true,decide_eq_true_eq,not_and]
 intro h1 h2
 rw[h h1]at h2;cases h2
theorem Zg (h:i≤j+1) (h2:p d[j+1]! =true):scanDown p d i (j+1)=scanDown p d i j:=by
 rw[scanDown,if_pos (by simp[h,h2])]
theorem J4 (h:i≤j→p d[j]! =false):scanDown p d i j=j:=by
 cases j with
 |zero=>rfl
 |succ j=>
  rw[scanDown,if_neg]
  simp only[Bool.and_eq_true,decide_eq_true_eq,not_and]
  intro h1 h2
  rw[h h1]at h2;cases h2
end
theorem LX {AP:Nat→Option Ip} {a b:Bf} {env:Env} {s:Am} {Q:AQ→Env→Am→Prop} (h:vC AP a env s (UA (fun env s=>vC AP b env s Q) Q)):vC AP (.seq a b) env s Q:=h
theorem AgA {α:Type} [Inhabited α] {L:List α} {D:Array α} {len:Nat} (hl:L.length=len) (h:PermIn 0 len L.toArray D):D.toList.Perm L:=by
 obtain⟨h1,_,h3⟩:=h
 have e1:D.size=len:=by rw[h1];simpa using hl
 have e2:(D.extract 0 len).toList=D.toList:=by rw[← e1];simp
 have e3:(L.toArray.extract 0 len).toList=L:=by rw[← hl];simp
 rw[e2,e3]at h3
 exact h3
theorem AbY {α:Type} [Inhabited α] {lt:α→α→Bool} {D:Array α} {len:Nat} (hl:D.size=len) (h:SortedIn lt 0 len D):D.toList.Pairwise (fun x y=>lt y x=false):=by
 rw[List.pairwise_iff_getElem]
 intro i j hi hj hij
 have:=h i j (Nat.zero_le _) hij (by simpa[hl]using hj)
 simp only[Array.length_toList]at hi hj
 rw[getElem!_pos D j hj,getElem!_pos D i hi]at this
 simpa using this
end
end AI
end Go.Proofs.YtjijnamhalgamaaGreatDoor
