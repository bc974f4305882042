/- The arguments of the graph laws, taken apart: values, properties, nodes, edges, graphs. A value in a list of values. The reference's validity of values: it answers. The reference's validity of values, with lists in lists. The reference's numbers, classes, strings compared. Names: the program's and the reference's. value.Plain and the reference's Plain: which values may be stored. The reference's bare values and strings. The null value. The reference's order of a value and null. Comparing two numbers. Sorting in place: lists of a store against arrays of the library's plain sort. -/
import Derived.Test.YtceiccjppfapjaaGreatDoorXMaa
import Derived.Test.YtceiccjppfapjaaGreatDoorXGrCode
import Derived.Test.YtceiccjppfapjaaGreatDoorXMac
import Derived.Sort.AssemblyPlain
set_option linter.unusedVariables false
set_option maxRecDepth 4000
namespace Go.Proofs.YtceiccjppfapjaaGreatDoor
namespace AI
structure GV where
 k:Int
 n:Int
 d:Int
 s:List UInt8
 nn:Bool
 l:List AV
def GV.av (v:GV):AV:=.agg [.int .i64 v.k,.int .i64 v.n,.int .i64 v.d,.str v.s,.sl v.nn v.l]
structure GP where
 key:List UInt8
 v:GV
def GP.av (p:GP):AV:=.agg [.str p.key,.int .i64 p.v.k,.int .i64 p.v.n,.int .i64 p.v.d,.str p.v.s,.sl p.v.nn p.v.l]
structure GN where
 id:Int
 ln:Bool
 labels:List (List UInt8)
 pn:Bool
 props:List GP
def GN.av (n:GN):AV:=.agg [.int .i64 n.id,.sl n.ln (vs .str n.labels),.sl n.pn (vs GP.av n.props)]
structure GE where
 id:Int
 fr:Int
 to:Int
 ty:List UInt8
 pn:Bool
 props:List GP
def GE.av (n:GE):AV:=.agg [.int .i64 n.id,.int .i64 n.fr,.int .i64 n.to,.str n.ty,.sl n.pn (vs GP.av n.props)]
structure GG where
 nn:Bool
 nodes:List GN
 en:Bool
 edges:List GE
 Bv:Int
 BD:Int
def GG.av (g:GG):AV:=.agg [.sl g.nn (vs GN.av g.nodes),.sl g.en (vs GE.av g.edges),.int .i64 g.Bv,.int .i64 g.BD]
def I64 (z:Int):Prop:=-2^63≤z∧z<2^63
def Ln {α:Type} (l:List α):Prop:=l.length<2^63
def GV.ok (v:GV):Prop:=I64 v.k∧I64 v.n∧I64 v.d∧Ln v.s∧Ln v.l∧(v.nn=false→v.l=[])∧∀x∈v.l,Like Tryz.prog 49 x
def GP.ok (p:GP):Prop:=Ln p.key∧p.v.ok
def GN.ok (n:GN):Prop:=I64 n.id∧Ln n.labels∧(n.ln=false→n.labels=[])∧(∀ s∈n.labels,Ln s)∧Ln n.props∧(n.pn=false→n.props=[])∧∀p∈n.props,p.ok
def GE.ok (e:GE):Prop:=I64 e.id∧I64 e.fr∧I64 e.to∧Ln e.ty∧Ln e.props∧(e.pn=false→e.props=[])∧∀p∈e.props,p.ok
def GG.ok (g:GG):Prop:=Ln g.nodes∧(g.nn=false→g.nodes=[])∧(∀ n∈g.nodes,n.ok)∧Ln g.edges∧(g.en=false→g.edges=[])∧(∀ e∈g.edges,e.ok)∧I64 g.Bv∧I64 g.BD
theorem QH:Tryz.prog.cellsOf 3=1:=by kernel_rfl
theorem Je:Tryz.prog.cellsOf 9=1:=by kernel_rfl
theorem Aac:Tryz.prog.cellsOf 60=1:=by kernel_rfl
theorem VI:Tryz.prog.cellsOf 47=1:=by kernel_rfl
theorem NI:Tryz.prog.cellsOf 49=5:=by kernel_rfl
theorem Agt:Tryz.prog.cellsOf 104=6:=by kernel_rfl
theorem Y0:Tryz.prog.cellsOf 61=1:=by kernel_rfl
theorem Agu:Tryz.prog.cellsOf 63=3:=by kernel_rfl
theorem Aej:Tryz.prog.cellsOf 22=1:=by kernel_rfl
theorem Agv:Tryz.prog.cellsOf 95=5:=by kernel_rfl
theorem Aek:Tryz.prog.cellsOf 23=1:=by kernel_rfl
theorem Ael:Tryz.prog.cellsOf 25=4:=by kernel_rfl
theorem Akq {l:List AV} (h:l.length=3):∃a b c,l=[a,b,c]:=by
 rcases l with _|⟨a,_|⟨b,_|⟨c,_|⟨d,r⟩⟩⟩⟩<;>simp at h
 exact⟨a,b,c,rfl⟩
theorem Akr {l:List AV} (h:l.length=4):∃a b c d,l=[a,b,c,d]:=by
 rcases l with _|⟨a,_|⟨b,_|⟨c,_|⟨d,_|⟨e,r⟩⟩⟩⟩⟩<;>simp at h
 exact⟨a,b,c,d,rfl⟩
theorem Af6 {l:List AV} (h:l.length=5):∃a b c d e,l=[a,b,c,d,e]:=by
 rcases l with _|⟨a,_|⟨b,_|⟨c,_|⟨d,_|⟨e,_|⟨f,r⟩⟩⟩⟩⟩⟩<;>simp at h
 exact⟨a,b,c,d,e,rfl⟩
theorem Aij {l:List AV} (h:l.length=6):∃a b c d e f,l=[a,b,c,d,e,f]:=by
 rcases l with _|⟨a,_|⟨b,_|⟨c,_|⟨d,_|⟨e,_|⟨f,_|⟨g,r⟩⟩⟩⟩⟩⟩⟩<;>simp at h
 exact⟨a,b,c,d,e,f,rfl⟩
theorem Agw {n:Int} (h:(Lit.int .i64 n).wf=true):I64 n:=by
 simp[Lit.wf]at h
 have h1:IntKind.i64.min=-2^63:=by rfl
 have h2:IntKind.i64.max=2^63-1:=by rfl
 unfold I64
 omega
theorem SX {α:Type} {l:List α} (h:l.length≤maxLen):Ln l:=by unfold Ln;have:=ZH;omega
theorem DN {d:Nat} {cs:List AV} (h:CZ Tryz.prog d 3 cs):∃n,cs=[.int .i64 n]∧I64 n:=by
 obtain⟨k,e1,h1⟩:=ZG Tryz.underlying3 h
 exact⟨k,e1,Agw h1⟩
theorem JI {d:Nat} {cs:List AV} (h:CZ Tryz.prog d 9 cs):∃n,cs=[.str n]∧Ln n:=by
 obtain⟨k,e1,h1⟩:=Nu Tryz.underlying9 h
 exact⟨k,e1,SX h1⟩
theorem KI {d:Nat} {cs:List AV} (h:CZ Tryz.prog d 49 cs):∃v:GV,cs=[.int .i64 v.k,.int .i64 v.n,.int .i64 v.d,.str v.s,.sl v.nn v.l]∧v.ok:=by
 obtain⟨d',rfl,g1,g2⟩:=DJ Tryz.underlying49 h
 rw[NI]at g1
 obtain⟨a,b,c,e,f,rfl⟩:=Af6 g1
 clear g1
 simp only[List.forall_mem_cons]at g2
 obtain⟨f1,f2,f3,f4,f5,_⟩:=g2
 simp only[QH,Je,VI,List.drop_zero,List.drop_succ_cons,List.take_succ_cons,List.take_zero]at f1 f2 f3 f4 f5
 obtain⟨k,e1,h1⟩:=DN f1
 obtain⟨n,e2,h2⟩:=DN f2
 obtain⟨m,e3,h3⟩:=DN f3
 obtain⟨s,e4,h4⟩:=JI f4
 obtain⟨d'',_,nl,xs,e5,h5,h6,h7⟩:=IG Tryz.underlying47 f5
 cases e1;cases e2;cases e3;cases e4;cases e5
 exact⟨⟨k,n,m,s,nl,xs⟩,rfl,h1,h2,h3,h4,SX h6,h5,fun x hx=>⟨_,h7 x hx⟩⟩
theorem XG {a:AV} (h:Like Tryz.prog 49 a):∃v:GV,a=v.av∧v.ok:=by
 obtain⟨d,h⟩:=h
 obtain⟨cs,rfl,h0⟩:=DK Tryz.underlying49 h
 obtain⟨v,rfl,h1⟩:=KI h0
 exact⟨v,rfl,h1⟩
theorem Ti {d:Nat} {a:AV} (h:like Tryz.prog d 104 a):∃v:GP,a=v.av∧v.ok:=by
 obtain⟨cs,rfl,h0⟩:=DK Tryz.underlying104 h
 obtain⟨d',rfl,g1,g2⟩:=DJ Tryz.underlying104 h0
 rw[Agt]at g1
 obtain⟨a,b,c,e,f,g,rfl⟩:=Aij g1
 clear g1
 simp only[List.forall_mem_cons]at g2
 obtain⟨f1,f2,_⟩:=g2
 simp only[Je,NI,List.drop_zero,List.drop_succ_cons,List.take_succ_cons,List.take_zero]at f1 f2
 obtain⟨s,e1,h1⟩:=JI f1
 obtain⟨v,e2,h2⟩:=KI f2
 cases e1;cases e2
 exact⟨⟨s,v⟩,rfl,h1,h2⟩
theorem Jj {α:Type} {f:α→AV} {Q:α→Prop} {d:Nat} {t e:TypeId} {cs:List AV} (hu:Tryz.prog.underlying t=some (.slice e)) (he:∀d x,like Tryz.prog d e x→∃y,x=f y∧Q y) (h:CZ Tryz.prog d t cs):
 ∃nn l,cs=[.sl nn (vs f l)]∧(nn=false→l=[])∧Ln l∧∀y∈l,Q y:=by
 obtain⟨d',rfl,nn,xs,rfl,h0,h1,h2⟩:=IG hu h
 obtain⟨l,rfl,h3⟩:=Me (f:=f) (Q:=Q) fun x hx=>he d' x (h2 x hx)
 exact⟨nn,l,rfl,fun h=>by have:=h0 h;simpa using this,SX (by simpa using h1),h3⟩
theorem AbZ {d:Nat} {a:AV} (h:like Tryz.prog d 9 a):∃s:List UInt8,a=.str s∧Ln s:=by
 obtain⟨k,e1,h1⟩:=Vh Tryz.underlying9 h
 exact⟨k,e1,SX h1⟩
theorem Aad {d:Nat} {a:AV} (h:like Tryz.prog d 63 a):∃v:GN,a=v.av∧v.ok:=by
 obtain⟨cs,rfl,h0⟩:=DK Tryz.underlying63 h
 obtain⟨d',rfl,g1,g2⟩:=DJ Tryz.underlying63 h0
 rw[Agu]at g1
 obtain⟨a,b,c,rfl⟩:=Akq g1
 clear g1
 simp only[List.forall_mem_cons]at g2
 obtain⟨f1,f2,f3,_⟩:=g2
 simp only[QH,Aac,Y0,List.drop_zero,List.drop_succ_cons,List.take_succ_cons,List.take_zero]at f1 f2 f3
 obtain⟨s,e1,h1⟩:=DN f1
 obtain⟨ln,L,e2,h2,h2a,h2b⟩:=Jj (f:=.str) (Q:=Ln) Tryz.underlying60 (fun d x h=>AbZ h) f2
 obtain⟨pn,P,e3,h3,h3a,h3b⟩:=Jj (f:=GP.av) (Q:=GP.ok) Tryz.underlying61 (fun d x h=>Ti h) f3
 cases e1;cases e2;cases e3
 exact⟨⟨s,ln,L,pn,P⟩,rfl,h1,h2a,h2,h2b,h3a,h3,h3b⟩
theorem Aae {d:Nat} {a:AV} (h:like Tryz.prog d 95 a):∃v:GE,a=v.av∧v.ok:=by
 obtain⟨cs,rfl,h0⟩:=DK Tryz.underlying95 h
 obtain⟨d',rfl,g1,g2⟩:=DJ Tryz.underlying95 h0
 rw[Agv]at g1
 obtain⟨a,b,c,e,f,rfl⟩:=Af6 g1
 clear g1
 simp only[List.forall_mem_cons]at g2
 obtain⟨f1,f2,f3,f4,f5,_⟩:=g2
 simp only[QH,Je,Y0,List.drop_zero,List.drop_succ_cons,List.take_succ_cons,List.take_zero]at f1 f2 f3 f4 f5
 obtain⟨k,e1,h1⟩:=DN f1
 obtain⟨n,e2,h2⟩:=DN f2
 obtain⟨m,e3,h3⟩:=DN f3
 obtain⟨s,e4,h4⟩:=JI f4
 obtain⟨pn,P,e5,h5,h5a,h5b⟩:=Jj (f:=GP.av) (Q:=GP.ok) Tryz.underlying61 (fun d x h=>Ti h) f5
 cases e1;cases e2;cases e3;cases e4;cases e5
 exact⟨⟨k,n,m,s,pn,P⟩,rfl,h1,h2,h3,h4,h5a,h5,h5b⟩
theorem Xz {a:AV} (h:Like Tryz.prog 25 a):∃v:GG,a=v.av∧v.ok:=by
 obtain⟨d,h⟩:=h
 obtain⟨cs,rfl,h0⟩:=DK Tryz.underlying25 h
 obtain⟨d',rfl,g1,g2⟩:=DJ Tryz.underlying25 h0
 rw[Ael]at g1
 obtain⟨a,b,c,e,rfl⟩:=Akr g1
 clear g1
 simp only[List.forall_mem_cons]at g2
 obtain⟨f1,f2,f3,f4,_⟩:=g2
 simp only[QH,Aej,Aek,List.drop_zero,List.drop_succ_cons,List.take_succ_cons,List.take_zero]at f1 f2 f3 f4
 obtain⟨nn,N,e1,h1,h1a,h1b⟩:=Jj (f:=GN.av) (Q:=GN.ok) Tryz.underlying22 (fun d x h=>Aad h) f1
 obtain⟨en,E,e2,h2,h2a,h2b⟩:=Jj (f:=GE.av) (Q:=GE.ok) Tryz.underlying23 (fun d x h=>Aae h) f2
 obtain⟨m,e3,h3⟩:=DN f3
 obtain⟨k,e4,h4⟩:=DN f4
 cases e1;cases e2;cases e3;cases e4
 exact⟨⟨nn,N,en,E,m,k⟩,rfl,h1a,h1,h1b,h2a,h2,h2b,h3,h4⟩
theorem Ls {l:List AV} (h:∀x∈l,Like Tryz.prog 49 x) (i:Nat):
 ∃g:GV,∀hi:i<l.length,nth l (Int.toNat (Nat.cast i))=some g.av∧l[i]=g.av∧g.ok:=by
 by_cases hi:i<l.length
 ·obtain⟨g,e,hg⟩:=XG (h _ (List.getElem_mem hi))
  exact⟨g,fun _=>⟨by rw[← e];exact nR hi,e,hg⟩⟩
 ·exact⟨⟨0,0,0,[],true,[]⟩,fun h=>absurd h hi⟩
theorem bare {g:GV} {n d s l:Bool}:Ae (Ad tab) 315 [g.av,.bool n,.bool d,.bool s,.bool l] (fun v=>∃b,v=.bool b):=by
 cases n<;>cases d<;>cases s<;>cases l<;>(
 refine Ac rfl rfl ?_
 (conv=>whnf);repeat' (first|(refine kA ?_;conv=>whnf)|(refine Br.mk (fun hc=>?_) fun hc=>?_<;>first|exact hc.elim|conv=>whnf)  |(refine kB ?_))
 all_goals exact⟨_,rfl⟩)
theorem Ak4 {n:Int}:Ae (Ad tab) 316 [.int .i64 n] (fun v=>∃b,v=.bool b):=by
 refine Ac rfl rfl ?_
 (conv=>whnf);repeat' (first|(refine kA ?_;conv=>whnf)|(refine Br.mk (fun hc=>?_) fun hc=>?_<;>first|exact hc.elim|conv=>whnf)  |(refine kB ?_))
 all_goals exact⟨_,rfl⟩
theorem size {n:Int} (h1:-2^62≤n) (h2:n≤2^62):Ae (Ad tab) 266 [.int .i64 n] (fun v=>∃z,v=.int .i64 z∧0≤z∧(z=n∨z=-n)):=by
 refine Ac rfl rfl ?_
 (conv=>whnf);repeat' (first|(refine kA ?_;conv=>whnf)|(refine Br.mk (fun hc=>?_) fun hc=>?_<;>first|exact hc.elim|conv=>whnf)  |(refine kB ?_))
 all_goals exact⟨_,rfl,by omega,by omega⟩
theorem gcd {a b:Int} (h1:0≤a) (h2:0≤b):Ae (Ad tab) 320 [.int .i64 a,.int .i64 b] (fun v=>∃z,v=.int .i64 z):=by
 refine Ac rfl rfl ?_
 (conv=>whnf);repeat' (first|(refine kA ?_;conv=>whnf)|(refine Br.mk (fun hc=>?_) fun hc=>?_<;>first|exact hc.elim|conv=>whnf)  |(refine kB ?_))
 refine Ag (fun m env s=>∃(a b:Int),m=b.toNat∧0≤a∧0≤b∧env=[(0,.int .i64 a),(1,.int .i64 b)]∧s=⟨[],0⟩) ?_ _ _ _ ⟨a,b,rfl,h1,h2,rfl,rfl⟩
 clear h1 h2 a b
 rintro _ _ _ ⟨a,b,rfl,h1,h2,rfl,rfl⟩
 refine⟨rfl,?_⟩
 (conv=>whnf);repeat' (first|(refine kA ?_;conv=>whnf)|(refine Br.mk (fun hc=>?_) fun hc=>?_<;>first|exact hc.elim|conv=>whnf)  |(refine kB ?_))
 ·have e:a.tmod b=a % b:=Int.tmod_eq_emod_of_nonneg h1
  have:=Int.emod_lt_of_pos a (by omega:0<b)
  have:=Int.emod_nonneg a (by omega:b≠0)
  exact again.mk ⟨_,by rw[e];omega,_,_,rfl,h2,by rw[e];omega,rfl,rfl⟩
 ·exact⟨_,rfl⟩
theorem Ag2 {n d:Int}:Ae (Ad tab) 262 [.agg [.int .i64 n,.int .i64 d]] (fun v=>∃b,v=.bool b∧(b=true→1≤d∧d≤1000000000000000∧-1000000000000000≤n∧n≤1000000000000000)):=by
 refine Ac rfl rfl ?_
 (conv=>whnf);repeat' (first|(refine kA ?_;conv=>whnf)|(refine Br.mk (fun hc=>?_) fun hc=>?_<;>first|exact hc.elim|conv=>whnf)|(refine Aa (size (n:=n) (by omega) (by omega)) ?_;rintro _ ⟨z,rfl,hz1,hz2⟩;conv=>whnf)|(refine Aa (gcd (by omega) (by omega)) ?_;rintro _ ⟨z2,rfl⟩;conv=>whnf)|(refine kB ?_))
 all_goals first|exact⟨_,rfl,fun _=>by omega⟩|exact⟨_,rfl,fun h=>absurd h Bool.false_ne_true⟩
theorem Ai1 {s:List UInt8} (hl:s.length<2^63):Ae (Ad tab) 317 [.str s] (fun v=>∃b,v=.bool b):=by
 refine Ac rfl rfl ?_
 (conv=>whnf);repeat' (first|(refine kA ?_;conv=>whnf)|(refine Br.mk (fun hc=>?_) fun hc=>?_<;>first|exact hc.elim|conv=>whnf)  |(refine kB ?_))
 refine Ag (fun m env s'=>∃i:Nat,m=s.length-i∧env=[(0,.str s),(3,.int .i64 i)]∧s'=⟨[],0⟩) ?_ _ _ _ ⟨0,rfl,rfl,rfl⟩
 rintro _ _ _ ⟨i,rfl,rfl,rfl⟩
 refine⟨rfl,?_⟩
 (conv=>whnf);repeat' (first|(refine kA ?_;conv=>whnf)|(refine Br.mk (fun hc=>?_) fun hc=>?_<;>first|exact hc.elim|conv=>whnf)  |(refine kB ?_))
 all_goals first|exact⟨_,rfl⟩|exact again.mk ⟨_,by omega,i+1,rfl,rfl,rfl⟩
theorem Aax {g:GV} {n:Int} (h:g.k=5∨g.k=6):Ae (Ad tab) 259 [g.av,.int .i64 n] (fun v=>∃b,v=.bool b):=by
 refine Ac rfl rfl ?_
 (conv=>whnf);repeat' (first|(refine kA ?_;conv=>whnf)|(refine Br.mk (fun hc=>?_) fun hc=>?_<;>first|exact hc.elim|conv=>whnf)|(refine Aa (bare (g:=g)) ?_;rintro _ ⟨b,rfl⟩;conv=>whnf)|(refine kB ?_))
 all_goals exact⟨_,rfl⟩
theorem Ag3 {l:List AV} {nn:Bool} (hl:l.length<2^63) (h:∀x∈l,Like Tryz.prog 49 x):Ae (Ad tab) 318 [.sl nn l] (fun v=>∃b,v=.bool b):=by
 refine Ac rfl rfl ?_
 (conv=>whnf);repeat' (first|(refine kA ?_;conv=>whnf)|(refine Br.mk (fun hc=>?_) fun hc=>?_<;>first|exact hc.elim|conv=>whnf)  |(refine kB ?_))
 all_goals first|exact⟨_,rfl⟩|skip
 refine Ag (fun m env s'=>∃i:Nat,m=l.length-i∧env=[(0,.sl nn l),(3,.int .i64 i)]∧s'=⟨[],0⟩) ?_ _ _ _ ⟨0,rfl,rfl,rfl⟩
 rintro _ _ _ ⟨i,rfl,rfl,rfl⟩
 refine⟨rfl,?_⟩
 obtain⟨gx,hgx⟩:=Ls h i
 (conv=>whnf);repeat' (first|(refine kA ?_;conv=>whnf)|(refine Br.mk (fun hc=>?_) fun hc=>?_<;>first|exact hc.elim|conv=>whnf)|(apply Ap;(· exact(hgx (by omega)).1);conv=>whnf)|(refine Aa (Aax (g:=gx) (by omega)) ?_;rintro _ ⟨b,rfl⟩;conv=>whnf)|(refine kB ?_))
 all_goals first|exact⟨_,rfl⟩|exact again.mk ⟨_,by omega,i+1,rfl,rfl,rfl⟩
theorem AiZ {l:List AV} {nn:Bool} (hl:l.length<2^63):Ae (Ad tab) 319 [.sl nn l,.int .i64 0] (fun v=>∃b,v=.bool b):=by
 refine Ac rfl rfl ?_
 (conv=>whnf);repeat' (first|(refine kA ?_;conv=>whnf)|(refine Br.mk (fun hc=>?_) fun hc=>?_<;>first|exact hc.elim|conv=>whnf)  |(refine kB ?_))
 all_goals exact⟨_,rfl⟩
theorem Ai0 {n:Nat} (ih:∀{g:GV},g.ok→Ae (Ad tab) 259 [g.av,.int .i64 n] (fun v=>∃b,v=.bool b)) (hn:n<2^60) {l:List AV} {nn:Bool} (hl:l.length<2^63) (h:∀x∈l,Like Tryz.prog 49 x):
 Ae (Ad tab) 319 [.sl nn l,.int .i64 (n+1:Nat)] (fun v=>∃b,v=.bool b):=by
 refine Ac rfl rfl ?_
 (conv=>whnf);repeat' (first|(refine kA ?_;conv=>whnf)|(refine Br.mk (fun hc=>?_) fun hc=>?_<;>first|exact hc.elim|conv=>whnf)  |(refine kB ?_))
 all_goals first|exact⟨_,rfl⟩|skip
 refine Ag (fun m env s'=>∃i:Nat,m=l.length-i∧env=[(0,.sl nn l),(1,.int .i64 (n+1:Nat)),(5,.int .i64 i)]∧s'=⟨[],0⟩) ?_ _ _ _ ⟨0,rfl,rfl,rfl⟩
 rintro _ _ _ ⟨i,rfl,rfl,rfl⟩
 refine⟨rfl,?_⟩
 obtain⟨gx,hgx⟩:=Ls h i
 have ih':∀{g:GV},g.ok→Ae (Ad tab) 259 [g.av,.int .i64 (((n+1:Nat):Int)-1)] (fun v=>∃b,v=.bool b):=by
  rw[show ((n+1:Nat):Int)-1=(n:Int) by omega];exact ih
 (conv=>whnf);repeat' (first|(refine kA ?_;conv=>whnf)|(refine Br.mk (fun hc=>?_) fun hc=>?_<;>first|exact hc.elim|conv=>whnf)|(apply Ap;(· exact(hgx (by omega)).1);conv=>whnf)|(refine Aa (ih' (g:=gx) (hgx (by omega)).2.2) ?_;rintro _ ⟨b,rfl⟩;conv=>whnf)|(refine kB ?_))
 all_goals first|exact⟨_,rfl⟩|exact again.mk ⟨_,by omega,i+1,rfl,rfl,rfl⟩
theorem AcS {n:Int} {g:GV} (hg:g.ok) (hlist:Ae (Ad tab) 319 [.sl g.nn g.l,.int .i64 n] (fun v=>∃b,v=.bool b)):
 Ae (Ad tab) 259 [g.av,.int .i64 n] (fun v=>∃b,v=.bool b):=by
 obtain⟨g1,g2,g3,g4,g5,g6,g7⟩:=hg
 unfold Ln at g4 g5
 refine Ac rfl rfl ?_
 (conv=>whnf);repeat' (first|(refine kA ?_;conv=>whnf)|(refine Br.mk (fun hc=>?_) fun hc=>?_<;>first|exact hc.elim|conv=>whnf)|(refine Aa (bare (g:=g)) ?_;rintro _ ⟨b,rfl⟩;conv=>whnf)|(refine Aa (Ak4 (n:=g.n)) ?_;rintro _ ⟨b,rfl⟩;conv=>whnf)|(refine Aa (Ag2 (n:=g.n) (d:=g.d)) ?_;rintro _ ⟨b,rfl,_⟩;conv=>whnf)|(refine Aa (Ai1 g4) ?_;rintro _ ⟨b,rfl⟩;conv=>whnf)|(refine Aa (Ag3 g5 g7) ?_;rintro _ ⟨b,rfl⟩;conv=>whnf)|(refine Aa hlist ?_;rintro _ ⟨b,rfl⟩;conv=>whnf)|(refine kB ?_))
 all_goals exact⟨_,rfl⟩
theorem valid {n:Nat} (hn:n<2^60):∀{g:GV},g.ok→Ae (Ad tab) 259 [g.av,.int .i64 n] (fun v=>∃b,v=.bool b):=by
 induction n with
 |zero=>intro g hg;exact AcS hg (AiZ hg.2.2.2.2.1)
 |succ n ih=>intro g hg;exact AcS hg (Ai0 (ih (by omega)) (by omega) hg.2.2.2.2.1 hg.2.2.2.2.2.2)
theorem Valid {g:GV} (hg:g.ok):Ae (Ad tab) 196 [g.av] (fun v=>∃b,v=.bool b):=by
 refine Ac rfl rfl ?_
 (conv=>whnf);repeat' (first|(refine kA ?_;conv=>whnf)|(refine Br.mk (fun hc=>?_) fun hc=>?_<;>first|exact hc.elim|conv=>whnf)|(refine Aa (valid (n:=8) (by omega) hg) ?_;rintro _ ⟨b,rfl⟩;conv=>whnf)|(refine kB ?_))
 all_goals exact⟨_,rfl⟩
theorem AfA {k:Int}:Ae (Ad tab) 199 [.int .i64 k,.int .i64 k] (· =.int .i64 0):=by
 refine Ac rfl rfl ?_
 (conv=>whnf);repeat' (first|(refine kA ?_;conv=>whnf)|(refine Br.mk (fun hc=>?_) fun hc=>?_<;>first|exact hc.elim|conv=>whnf)  |(refine kB ?_))
 all_goals rfl
theorem TG:∀s:List UInt8,Op.bytesLess s s=false
 |[]=>rfl
 |a::s=>by simp[Op.bytesLess,TG s]
theorem AiI {s:List UInt8}:Ae (Ad tab) 260 [.str s,.str s] (· =.int .i64 0):=by
 refine Ac rfl rfl ?_
 (conv=>whnf);repeat' (first|(refine kA ?_;conv=>whnf)|(refine Br.mk (fun hc=>?_) fun hc=>?_<;>first|exact hc.elim|conv=>whnf)  |(refine kB ?_))
 all_goals first|rfl|(exfalso;simp[TG]at hc)
def Dw (c:Int):Prop:=(97≤c∧c≤122)∨(65≤c∧c≤90)
instance (c:Int):Decidable (Dw c):=by unfold Dw;infer_instance
theorem YH {c:Int}:Ae (Ad tab) 179 [.int .u8 c] (· =.bool (decide (Dw c))):=by
 refine Ac rfl rfl ?_
 (conv=>whnf);repeat' (first|(refine kA ?_;conv=>whnf)|(refine Br.mk (fun hc=>?_) fun hc=>?_<;>first|exact hc.elim|conv=>whnf)  |(refine kB ?_))
 all_goals first|exact Bf (by unfold Dw;omega)|exact Aw (by unfold Dw;omega)
theorem YI {c:Int}:Ae (Ad tab) 222 [.int .u8 c] (· =.bool (decide (Dw c))):=by
 refine Ac rfl rfl ?_
 (conv=>whnf);repeat' (first|(refine kA ?_;conv=>whnf)|(refine Br.mk (fun hc=>?_) fun hc=>?_<;>first|exact hc.elim|conv=>whnf)  |(refine kB ?_))
 all_goals first|exact Bf (by unfold Dw;omega)|exact Aw (by unfold Dw;omega)
def Hg (c:Int):Prop:=Dw c∨(48≤c∧c≤57)∨c=95
instance (c:Int):Decidable (Hg c):=by unfold Hg;infer_instance
def isName (s:List UInt8):Prop:=0<s.length∧s.length≤20∧(∀ c,s[0]?=some c→Dw c.toNat)∧∀c∈s,Hg c.toNat
instance (s:List UInt8):Decidable (isName s):=by unfold isName;infer_instance
theorem LV {s:List UInt8} (hs:0<s.length) (h:isName s):Dw s[0].toNat:=h.2.2.1 _ (List.getElem?_eq_getElem hs)
theorem SS {s:List UInt8} {i:Nat} (hi:i<s.length) (h:isName s):Hg s[i].toNat:=h.2.2.2 _ (List.getElem_mem _)
theorem AfY {s:List UInt8} (hs:0<s.length) (h:Hg s[0].toNat):∀c∈s.take 1,Hg c.toNat:=by
 cases s with
 |nil=>simp at hs
 |cons a l=>simpa using h
theorem name1 {s:List UInt8} (hl:s.length<2^63):Ae (Ad tab) 105 [.str s] (· =.bool (decide (isName s))):=by
 by_cases h0:s.length=0
 ·obtain rfl:s=[]:=List.length_eq_zero_iff.1 h0
  refine Ac rfl rfl ?_
  (conv=>whnf);repeat' (first|(refine kA ?_;conv=>whnf)|(refine Br.mk (fun hc=>?_) fun hc=>?_<;>first|exact hc.elim|conv=>whnf)  |(refine kB ?_))
  all_goals exact Aw (by simp[isName])
 have hs:0<s.length:=by omega
 have hne:s≠[]:=by rintro rfl;simp at h0
 have hz:s[0]?=some s[0]:=List.getElem?_eq_getElem hs
 refine Ac rfl rfl ?_
 (conv=>whnf);repeat' (first|(refine kA ?_;conv=>whnf)|(refine Br.mk (fun hc=>?_) fun hc=>?_<;>first|exact hc.elim|conv=>whnf)|(refine Bj (YH) (fun hc=>?_) (fun hc=>?_)<;>conv=>whnf)|(refine kB ?_))
 all_goals first|exact absurd hc hne|exact Aw (by unfold isName;omega)|exact Aw fun h=>hc (LV hs h)|skip
 refine Ag (fun m env s'=>∃i:Nat,m=s.length-i∧env=[(0,.str s),(18,.int .i64 s.length),(19,.int .i64 i)]∧s'=⟨[],0⟩∧∀c∈s.take i,Hg c.toNat) ?_ _ _ _ ⟨0,rfl,by simp,rfl,by simp⟩
 rintro _ _ _ ⟨i,rfl,rfl,rfl,hx⟩
 refine⟨rfl,?_⟩
 (conv=>whnf);repeat' (first|(refine kA ?_;conv=>whnf)|(refine Br.mk (fun hc=>?_) fun hc=>?_<;>first|exact hc.elim|conv=>whnf)|(refine Bj (YH) (fun hc=>?_) (fun hc=>?_)<;>conv=>whnf)|(refine kB ?_))
 all_goals first
  |exact again.mk ⟨_,by omega,i+1,rfl,rfl,rfl,Dl (by omega) hx (by unfold Hg Dw at *;omega)⟩
  |(refine Aw fun h=>?_;have:=SS (i:=i) (by omega) h;unfold Hg Dw at *;omega)
  |(rename_i hc1;exact Bf ⟨hs,by omega,fun c h=>by rw[hz]at h;cases h;assumption,by rw[EK hc]at hx;exact hx⟩)
theorem name2 {s:List UInt8} (hl:s.length<2^63):Ae (Ad tab) 131 [.str s] (· =.bool (decide (isName s))):=by
 by_cases h0:s.length=0
 ·obtain rfl:s=[]:=List.length_eq_zero_iff.1 h0
  refine Ac rfl rfl ?_
  (conv=>whnf);repeat' (first|(refine kA ?_;conv=>whnf)|(refine Br.mk (fun hc=>?_) fun hc=>?_<;>first|exact hc.elim|conv=>whnf)  |(refine kB ?_))
  all_goals exact Aw (by simp[isName])
 have hs:0<s.length:=by omega
 have hne:s≠[]:=by rintro rfl;simp at h0
 have hz:s[0]?=some s[0]:=List.getElem?_eq_getElem hs
 refine Ac rfl rfl ?_
 (conv=>whnf);repeat' (first|(refine kA ?_;conv=>whnf)|(refine Br.mk (fun hc=>?_) fun hc=>?_<;>first|exact hc.elim|conv=>whnf)|(refine Bj (YI) (fun hc=>?_) (fun hc=>?_)<;>conv=>whnf)|(refine kB ?_))
 all_goals first|exact absurd hc hne|exact Aw (by unfold isName;omega)|exact Aw fun h=>hc (LV hs h)|skip
 refine Ag (fun m env s'=>∃i:Nat,m=s.length-i∧env=[(0,.str s),(3,.int .i64 i)]∧s'=⟨[],0⟩∧∀c∈s.take i,Hg c.toNat) ?_ _ _ _ ⟨1,rfl,rfl,rfl,AfY hs (Or.inl hc)⟩
 rintro _ _ _ ⟨i,rfl,rfl,rfl,hx⟩
 refine⟨rfl,?_⟩
 (conv=>whnf);repeat' (first|(refine kA ?_;conv=>whnf)|(refine Br.mk (fun hc=>?_) fun hc=>?_<;>first|exact hc.elim|conv=>whnf)|(refine Bj (YI) (fun hc=>?_) (fun hc=>?_)<;>conv=>whnf)|(refine kB ?_))
 all_goals first
  |exact again.mk ⟨_,by omega,i+1,rfl,rfl,rfl,Dl (by omega) hx (by unfold Hg Dw at *;omega)⟩
  |(refine Aw fun h=>?_;have:=SS (i:=i) (by omega) h;unfold Hg Dw at *;omega)
  |(rename_i hc1;exact Bf ⟨hs,by omega,fun c h=>by rw[hz]at h;cases h;assumption,by rw[EK hc]at hx;exact hx⟩)
theorem Ox {AP:Nat→Option G9} {f:Nat} {sp:List AV→Am→Option (AL×Am)} {args:List AV} {R:AV→Prop} {v v':AV} {s:Am} (hf:AP f=some (.ext sp)) (h:sp args ⟨[],0⟩=some (.ok v,s)) (hs:snap s.σ Eo v=some v') (hR:R v'):Ae AP f args R:=
 ⟨v',⟨1,by simp only[Dv,run,hf,h];exact hs⟩,hR⟩
theorem ixP {l:List UInt8}:Ae (Ad tab) 347 [.str l,.fn 348 []] (· =.int .i64 (Ji l)):=
 Ox rfl rfl rfl rfl
theorem H9 {l:List UInt8}:Ji l<0↔∀c∈l,NV c=false:=by
 unfold Ji
 cases h:List.findIdx? NV l with
 |none=>
  refine⟨fun _ c hc=>?_,fun _=>by decide⟩
  have:=List.findIdx?_eq_none_iff.1 h c hc
  simpa using this
 |some i=>
  refine⟨fun h=>?_,fun ha=>?_⟩
  ·simp at h;omega
  ·obtain⟨h1,h2,_⟩:=List.findIdx?_eq_some_iff_getElem.1 h
   rw[ha _ (List.getElem_mem h1)]at h2
   cases h2
def Jr (n:Int):Prop:=-1000000000000000≤n∧n≤1000000000000000
instance (n:Int):Decidable (Jr n):=by unfold Jr;infer_instance
theorem inP {n:Int}:Ae (Ad tab) 346 [.int .i64 n] (· =.bool (decide (Jr n))):=by
 refine Ac rfl rfl ?_
 (conv=>whnf);repeat' (first|(refine kA ?_;conv=>whnf)|(refine Br.mk (fun hc=>?_) fun hc=>?_<;>first|exact hc.elim|conv=>whnf)  |(refine kB ?_))
 all_goals first|exact Bf (by unfold Jr;omega)|exact Aw (by unfold Jr;omega)
theorem AiL {n:Int}:Ae (Ad tab) 316 [.int .i64 n] (· =.bool (decide (Jr n))):=by
 refine Ac rfl rfl ?_
 (conv=>whnf);repeat' (first|(refine kA ?_;conv=>whnf)|(refine Br.mk (fun hc=>?_) fun hc=>?_<;>first|exact hc.elim|conv=>whnf)  |(refine kB ?_))
 all_goals first|exact Bf (by unfold Jr;omega)|exact Aw (by unfold Jr;omega)
def okS (s:List UInt8):Prop:=s.length≤100∧∀c∈s,NV c=false
instance (s:List UInt8):Decidable (okS s):=by unfold okS;infer_instance
def D5 (v:GV):Prop:=v.d=0∧v.l.length=0∧(v.k=1∧v.s=[]∧(v.n=0∨v.n=1)∨v.k=2∧v.s=[]∧Jr v.n∨v.k=4∧v.n=0∧okS v.s)
instance (v:GV):Decidable (D5 v):=by unfold D5;infer_instance
def Iu (v:GV):Prop:=v.k=1∨v.k=2∨v.k=4
instance (v:GV):Decidable (Iu v):=by unfold Iu;infer_instance
theorem TS {v:GV} (h:D5 v):Iu v:=by unfold D5 at h;unfold Iu;omega
theorem Ag6 {v:GV} (h:v.k=1) (h1:v.d=0) (h2:v.l.length=0) (h3:v.s=[]) (h4:v.n=0∨v.n=1):D5 v:=⟨h1,h2,.inl ⟨h,h3,h4⟩⟩
theorem Ag7 {v:GV} (h:v.k=2) (h1:v.d=0) (h2:v.l.length=0) (h3:v.s=[]) (h4:Jr v.n):D5 v:=⟨h1,h2,.inr (.inl ⟨h,h3,h4⟩)⟩
theorem Ag8 {v:GV} (h:v.k=4) (h1:v.d=0) (h2:v.l.length=0) (h3:v.n=0) (h4:okS v.s):D5 v:=⟨h1,h2,.inr (.inr ⟨h,h3,h4⟩)⟩
theorem Ag9 {v:GV} (h:D5 v) (hk:v.k≠4):v.s=[]:=by
 obtain⟨_,_,h⟩:=h
 rcases h with h|h|h
 ·exact h.2.1
 ·exact h.2.1
 ·exact absurd h.1 hk
theorem Aha {v:GV} (h:D5 v) (hk:v.k=1):v.n=0∨v.n=1:=by
 obtain⟨_,_,h⟩:=h;omega
theorem Ahb {v:GV} (h:D5 v) (hk:v.k=2):Jr v.n:=by
 obtain⟨_,_,h⟩:=h
 rcases h with h|h|h<;>first|exact h.2.2|omega
theorem AcV {v:GV} (h:D5 v) (hk:v.k=4):v.n=0∧okS v.s:=by
 obtain⟨_,_,h⟩:=h
 rcases h with h|h|h<;>first|exact h.2|omega
theorem vld {v:GV} (hv:v.ok) (hk:Iu v) {n:Int}:Ae (Ad tab) 304 [v.av,.int .i64 n] (· =.bool (decide (D5 v))):=by
 obtain⟨g1,g2,g3,g4,g5,g6,g7⟩:=hv
 unfold Ln at g4 g5
 unfold Iu at hk
 refine Ac rfl rfl ?_
 (conv=>whnf);repeat' (first|(refine kA ?_;conv=>whnf)|(refine Br.mk (fun hc=>?_) fun hc=>?_<;>first|exact hc.elim|conv=>whnf)|(refine Bj (inP (n:=v.n)) (fun hr=>?_) (fun hr=>?_)<;>conv=>whnf)|(refine Aa (ixP (l:=v.s)) ?_;rintro _ rfl;conv=>whnf)|(refine kB ?_))
 all_goals first
  |exact Aw (fun h=>by have:=h.2.1;omega)
  |(refine Bf ?_;clear g7 g6;unfold D5 okS;rw[← H9];first|(simp_all;done)|(simp_all;omega))
  |(refine Aw ?_;clear g7 g6;unfold D5 okS;rw[← H9];first|(simp_all;done)|(simp_all;omega))
theorem Ak6 {v:GV} (hv:v.ok) (hk:Iu v):Ae (Ad tab) 232 [v.av] (· =.bool (decide (D5 v))):=by
 refine Ac rfl rfl ?_
 (conv=>whnf);repeat' (first|(refine kA ?_;conv=>whnf)|(refine Br.mk (fun hc=>?_) fun hc=>?_<;>first|exact hc.elim|conv=>whnf)|(refine Bj (vld (v:=v) hv hk) (fun hr=>?_) (fun hr=>?_)<;>conv=>whnf)|(refine kB ?_))
 all_goals first|exact Bf (by assumption)|exact Aw (by assumption)
theorem Acy {v:GV} (hv:v.ok):Ae (Ad tab) 176 [v.av] (· =.bool (decide (D5 v))):=by
 refine Ac rfl rfl ?_
 (conv=>whnf);repeat' (first|(refine kA ?_;conv=>whnf)|(refine Br.mk (fun hc=>?_) fun hc=>?_<;>first|exact hc.elim|conv=>whnf)|(refine Bj (Ak6 (v:=v) hv (by unfold Iu;omega)) (fun hr=>?_) (fun hr=>?_)<;>conv=>whnf)|(refine kB ?_))
 all_goals first|exact Bf (by assumption)|exact Aw (by assumption)|exact Aw fun h=>absurd (TS h) (by unfold Iu;omega)
def KL (v:GV) (n d s l:Bool):Prop:=(n=true∨v.n=0)∧(d=true∨v.d=0)∧(s=true∨v.s=[])∧(l=true∨v.l.length=0)
instance (v:GV) (n d s l:Bool):Decidable (KL v n d s l):=by unfold KL;infer_instance
theorem V9 {v:GV} {n d s l:Bool} (hl:v.l.length<2^63):Ae (Ad tab) 315 [v.av,.bool n,.bool d,.bool s,.bool l] (· =.bool (decide (KL v n d s l))):=by
 cases n<;>cases d<;>cases s<;>cases l
 all_goals
  refine Ac rfl rfl ?_
  (conv=>whnf);repeat' (first|(refine kA ?_;conv=>whnf)|(refine Br.mk (fun hc=>?_) fun hc=>?_<;>first|exact hc.elim|conv=>whnf)  |(refine kB ?_))
 all_goals first
  |(refine Bf ?_;unfold KL;refine⟨?_,?_,?_,?_⟩<;>first|(left;rfl)|(right;first|assumption|omega))
  |(refine Aw ?_;unfold KL;rintro⟨h1,h2,h3,h4⟩;simp only[Bool.false_eq_true,false_or,true_or]at h1 h2 h3 h4;first|contradiction|omega)
theorem Aio {s:List UInt8} (hl:s.length<2^63):Ae (Ad tab) 317 [.str s] (· =.bool (decide (okS s))):=by
 refine Ac rfl rfl ?_
 (conv=>whnf);repeat' (first|(refine kA ?_;conv=>whnf)|(refine Br.mk (fun hc=>?_) fun hc=>?_<;>first|exact hc.elim|conv=>whnf)  |(refine kB ?_))
 refine Ag (fun m env s'=>∃i:Nat,m=s.length-i∧env=[(0,.str s),(3,.int .i64 i)]∧s'=⟨[],0⟩∧∀c∈s.take i,NV c=false) ?_ _ _ _ ⟨0,rfl,rfl,rfl,by simp⟩
 rintro _ _ _ ⟨i,rfl,rfl,rfl,hx⟩
 refine⟨rfl,?_⟩
 (conv=>whnf);repeat' (first|(refine kA ?_;conv=>whnf)|(refine Br.mk (fun hc=>?_) fun hc=>?_<;>first|exact hc.elim|conv=>whnf)  |(refine kB ?_))
 all_goals first
  |exact again.mk ⟨_,by omega,i+1,rfl,rfl,rfl,Dl (by omega) hx (by unfold NV;simp;omega)⟩
  |(refine Aw fun h=>?_;have:=h.2 s[i] (List.getElem_mem (by omega));unfold NV at this;simp at this;omega)
  |(rw [List.take_of_length_le (by omega)]at hx;exact Bf ⟨by omega,hx⟩)
  |(refine Aw fun h=>?_;have:=h.1;omega)
def RU:GV:=⟨0,0,0,[],false,[]⟩
theorem UO:RU.ok:=⟨by unfold I64 RU;dsimp only;omega,by unfold I64 RU;dsimp only;omega,by unfold I64 RU;dsimp only;omega,by simp[Ln,RU],by simp[Ln,RU],fun _=>rfl,by simp[RU]⟩
def isNull (v:GV):Prop:=v.k=0∧v.n=0∧v.d=0∧v.s=[]∧v.l.length=0
instance (v:GV):Decidable (isNull v):=by unfold isNull;infer_instance
theorem WM:isNull RU:=⟨rfl,rfl,rfl,rfl,rfl⟩
def QV (k:Int):Int:=if k=0 then 0 else if k=1 then 1 else if k=2∨k=3 then 2 else if k=4 then 3 else if k=5 then 4 else if k=6 then 5 else if k=8 then 6 else 7
theorem Ai5 {k:Int}:QV k=0↔k=0:=by
 unfold QV
 constructor
 ·intro h
  repeat' split at h
  all_goals first|assumption|(exfalso;omega)
 ·intro h;rw[if_pos h]
theorem OM {k:Int}:Ae (Ad tab) 200 [.int .i64 k] (· =.int .i64 (QV k)):=by
 refine Ac rfl rfl ?_
 (conv=>whnf);repeat' (first  |(refine kA ?_;conv=>whnf)|(refine Br.mk (fun hc=>?_) fun hc=>?_<;>first|exact hc.elim|conv=>whnf)|(refine kB ?_))
 all_goals first
  |rfl
  |(unfold QV;repeat' split
    all_goals first|rfl|(exfalso;omega))
theorem AeU {v:GV} (hv:v.ok) (hk:v.k=0) {n:Int}:Ae (Ad tab) 259 [v.av,.int .i64 n] (· =.bool (decide (isNull v))):=by
 have hl:=hv.2.2.2.2.1
 unfold Ln at hl
 refine Ac rfl rfl ?_
 (conv=>whnf);repeat' (first|(refine Bj (V9 (v:=v) (n:=false) (d:=false) (s:=false) (l:=false) hl) (fun hb=>?_) (fun hb=>?_)<;>conv=>whnf)|(refine kA ?_;conv=>whnf)|(refine Br.mk (fun hc=>?_) fun hc=>?_<;>first|exact hc.elim|conv=>whnf)|(refine kB ?_))
 ·unfold KL at hb
  exact Bf ⟨hk,hb.1.resolve_left (by decide),hb.2.1.resolve_left (by decide),hb.2.2.1.resolve_left (by decide),hb.2.2.2.resolve_left (by decide)⟩
 ·unfold KL at hb
  exact Aw fun h=>hb ⟨.inr h.2.1,.inr h.2.2.1,.inr h.2.2.2.1,.inr h.2.2.2.2⟩
theorem Zo {v:GV} (hv:v.ok):Ae (Ad tab) 196 [v.av] (fun w=>∃b,w=.bool b∧(isNull v→b=true)∧(b=true→v.k=0→isNull v)):=by
 by_cases hk:v.k=0
 ·refine Ac rfl rfl ?_
  (conv=>whnf);repeat' (first|(refine Bj (AeU hv hk) (fun hb=>?_) (fun hb=>?_)<;>conv=>whnf)|(refine kA ?_;conv=>whnf)|(refine Br.mk (fun hc=>?_) fun hc=>?_<;>first|exact hc.elim|conv=>whnf)|(refine kB ?_))
  ·exact⟨_,rfl,fun _=>rfl,fun _ _=>hb⟩
  ·exact⟨_,rfl,fun h=>absurd h hb,fun h=>Bool.noConfusion h⟩
 ·obtain⟨_,⟨b,rfl⟩,h⟩:=(Valid hv).J4
  refine Ac rfl rfl ?_
  (conv=>whnf);repeat' (first|(refine Aa (valid (n:=8) (by omega) hv) ?_;rintro _ ⟨b,rfl⟩;conv=>whnf)|(refine kA ?_;conv=>whnf)|(refine Br.mk (fun hc=>?_) fun hc=>?_<;>first|exact hc.elim|conv=>whnf)|(refine kB ?_))
  all_goals exact⟨_,rfl,fun h=>absurd h.1 hk,fun _ h=>absurd h hk⟩
theorem Ai6 {a b:Int}:Ae (Ad tab) 199 [.int .i64 a,.int .i64 b] (fun v=>∃z,v=.int .i64 z∧(z=0↔a=b)):=by
 refine Ac rfl rfl ?_
 (conv=>whnf);repeat' (first  |(refine kA ?_;conv=>whnf)|(refine Br.mk (fun hc=>?_) fun hc=>?_<;>first|exact hc.elim|conv=>whnf)|(refine kB ?_))
 all_goals exact⟨_,rfl,by omega⟩
theorem AeV {v:GV} (h:isNull v):Ae (Ad tab) 198 [v.av,RU.av] (· =.int .i64 0):=by
 obtain⟨k,n,d,s,nn,l⟩:=v
 obtain⟨h1,h2,h3,h4,h5⟩:=h
 dsimp only at h1 h2 h3 h4 h5
 subst h1 h2 h3 h4
 obtain rfl:l=[]:=List.eq_nil_of_length_eq_zero h5
 have hl:Ae (Ad tab) 261 [.sl nn [],.sl false []] (· =.int .i64 0):=by
  refine Ac rfl rfl ?_
  (conv=>whnf);repeat' (first  |(refine kA ?_;conv=>whnf)|(refine Br.mk (fun hc=>?_) fun hc=>?_<;>first|exact hc.elim|conv=>whnf)|(refine kB ?_))
  refine Ag (fun m env s=>m=0∧env=[(0,.sl nn []),(1,.sl false []),(5,.int .i64 0)]∧s=⟨[],0⟩) ?_ _ _ _ ⟨rfl,rfl,rfl⟩
  rintro _ _ _ ⟨rfl,rfl,rfl⟩
  refine⟨rfl,?_⟩
  (conv=>whnf);repeat' (first|(refine Aa AfA ?_;rintro _ rfl;conv=>whnf)|(refine kA ?_;conv=>whnf)|(refine Br.mk (fun hc=>?_) fun hc=>?_<;>first|exact hc.elim|conv=>whnf)|(refine kB ?_))
  all_goals rfl
 refine Ac rfl rfl ?_
 (conv=>whnf);repeat' (first|((first|refine Aa AfA ?_|refine Aa AiI ?_|refine Aa hl ?_);rintro _ rfl;conv=>whnf)|(refine kA ?_;conv=>whnf)|(refine Br.mk (fun hc=>?_) fun hc=>?_<;>first|exact hc.elim|conv=>whnf)|(refine kB ?_))
 all_goals rfl
theorem Zp {g:GV} (hg:g.ok):Ae (Ad tab) 201 [g.av] (fun v=>∃n d b,v=.BL [.agg [.int .i64 n,.int .i64 d],.bool b]∧(b=true→g.k=2∨g.k=3)):=by
 refine Ac rfl rfl ?_
 (conv=>whnf);repeat' (first|(refine Aa (Valid hg) ?_;rintro _ ⟨b,rfl⟩;conv=>whnf)|(refine kA ?_;conv=>whnf)|(refine Br.mk (fun hc=>?_) fun hc=>?_<;>first|exact hc.elim|conv=>whnf)|(refine kB ?_))
 all_goals first|exact⟨_,_,_,rfl,fun h=>Bool.noConfusion h⟩|exact⟨_,_,_,rfl,fun _=>by omega⟩
theorem Ak5:Ae (Ad tab) 197 [.bool false] (· =.int .i64 0):=by
 refine Ac rfl rfl ?_
 (conv=>whnf);repeat' (first  |(refine kA ?_;conv=>whnf)|(refine Br.mk (fun hc=>?_) fun hc=>?_<;>first|exact hc.elim|conv=>whnf)|(refine kB ?_))
 rfl
theorem AeS {v:GV} (hv:v.ok):Ae (Ad tab) 115 [v.av,RU.av] (fun w=>∃z,w=.int .i64 z∧(z=0↔isNull v)):=by
 obtain⟨_,⟨b,rfl,v1,v2⟩,hV⟩:=(Zo hv).J4
 obtain⟨_,⟨b0,rfl,w1,_⟩,hV0⟩:=(Zo UO).J4
 obtain rfl:=w1 WM
 obtain⟨_,⟨n,d,b2,rfl,h2⟩,hN⟩:=(Zp hv).J4
 obtain⟨_,⟨n0,d0,b3,rfl,h3⟩,hN0⟩:=(Zp UO).J4
 obtain⟨_,⟨z,rfl,hz⟩,hI⟩:=(Ai6 (a:=QV v.k) (b:=QV RU.k)).J4
 have h0:QV RU.k=0:=rfl
 have hzk:z=0↔v.k=0:=by rw[hz,h0];exact Ai5
 cases b with
 |false=>
  have hnn:¬isNull v:=fun h=>by have:=v1 h;cases this
  refine Ac rfl rfl ?_
  (conv=>whnf);repeat' (first|((first|refine Aa hV ?_|refine Aa hV0 ?_|refine Aa Ak5 ?_);rintro _ rfl;conv=>whnf)|(refine kA ?_;conv=>whnf)|(refine Br.mk (fun hc=>?_) fun hc=>?_<;>first|exact hc.elim|conv=>whnf)|(refine kB ?_))
  all_goals exact⟨_,rfl,fun h=>absurd h (by decide),fun h=>absurd h hnn⟩
 |true=>
  by_cases hk:v.k=0
  ·have hnl:=v2 rfl hk
   have hz0:=hzk.2 hk
   have hb2:b2=false:=by cases b2 with
        |false=>rfl
        |true=>have:=h2 rfl;omega
   subst hb2
   refine Ac rfl rfl ?_
   (conv=>whnf);repeat' (first|((first|refine Aa hV ?_|refine Aa hV0 ?_|refine Aa (OM (k:=v.k)) ?_|refine Aa (OM (k:=RU.k)) ?_|refine Aa hI ?_|refine Aa hN ?_|refine Aa hN0 ?_|refine Aa (AeV hnl) ?_);rintro _ rfl;conv=>whnf)|(refine kA ?_;conv=>whnf)|(refine Br.mk (fun hc=>?_) fun hc=>?_<;>first|exact hc.elim|conv=>whnf)|(refine kB ?_))
   all_goals exact⟨_,rfl,fun _=>hnl,fun _=>rfl⟩
  ·have hz0:=mt hzk.1 hk
   refine Ac rfl rfl ?_
   (conv=>whnf);repeat' (first|((first|refine Aa hV ?_|refine Aa hV0 ?_|refine Aa (OM (k:=v.k)) ?_|refine Aa (OM (k:=RU.k)) ?_|refine Aa hI ?_);rintro _ rfl;conv=>whnf)|(refine kA ?_;conv=>whnf)|(refine Br.mk (fun hc=>?_) fun hc=>?_<;>first|exact hc.elim|conv=>whnf)|(refine kB ?_))
   all_goals exact⟨_,rfl,fun h=>absurd h hz0,fun h=>absurd h.1 hk⟩
theorem nan {x:Int}:Ae (Ad tab) 237 [.int .i64 x] (· =.bool (decide False)):=by
 refine Ac rfl rfl ?_
 (conv=>whnf);repeat' (first  |(refine kA ?_;conv=>whnf)|(refine Br.mk (fun hc=>?_) fun hc=>?_<;>first|exact hc.elim|conv=>whnf)|(refine kB ?_))
 all_goals first|exact absurd rfl hc|rfl
def CJ (x y:Int):Int:=if x<y then -1 else if y<x then 1 else 0
theorem compare {x y:Int}:Ae (Ad tab) 150 [.int .i64 x,.int .i64 y] (· =.int .i64 (CJ x y)):=by
 refine Ac rfl rfl ?_
 (conv=>whnf);repeat' (first|(refine Bj nan (fun hc=>absurd hc id) (fun _=>?_);conv=>whnf)|(refine kA ?_;conv=>whnf)|(refine Br.mk (fun hc=>?_) fun hc=>?_<;>first|exact hc.elim|conv=>whnf)|(refine kB ?_))
 all_goals unfold CJ;first|(rw [if_pos (by omega)];rfl)|(rw [if_neg (by omega),if_pos (by omega)];rfl)|(rw [if_neg (by omega),if_neg (by omega)];rfl)
theorem Ns {x y:Int}:CJ x y<0↔x<y:=by unfold CJ;split<;>(try split)<;>omega
theorem Dq {x y:Int}:CJ x y=0↔x=y:=by unfold CJ;split<;>(try split)<;>omega
section
open Go.Sort
section
variable {α:Type} [Inhabited α] {f:α→AV}
theorem nP {d:Array α} {z:Int} (i:Nat) (hz:z=i) (h:i<d.size):nth (vs f d.toList) (Int.toNat z)=some (f d[i]!):=by
 rw[nVz i hz (by simpa using h)]
 simp[h]
omit [Inhabited α]in
theorem tP {es:Nat} (hf:∀x,(f x).cells.length=es) {d:Array α} {z:Int} (i:Nat) (hz:z=i) {x y:α}:(vs f d.toList).set (Int.toNat z) (Bo (f y) 0 (f x))=vs f (d.setIfInBounds i x).toList:=by
 subst hz
 have e:Bo (f y) 0 (f x)=f x:=by
  unfold Bo
  rw[if_pos ⟨rfl,by rw[hf,hf]⟩]
 rw[e]
 show(vs f d.toList).set i (f x)=_
 simp[vs,List.map_set]
theorem He {d:Array α} {z:Int} {K:AV→Prop} (i:Nat) (k:K (f d[i]!)) (hz:z=i:=by omega) (h:i<d.size:=by first|omega|(simp;omega)):Ce (vs f d.toList) (Int.toNat z) K:=Ap (nP i hz h) k
omit [Inhabited α]in
theorem LH {es:Nat} (hf:∀x,(f x).cells.length=es) {d:Array α} {z:Int} {x y:α} {K:List AV→Prop} (i:Nat) (k:K (vs f (d.setIfInBounds i x).toList)) (hz:z=i:=by omega):eqK ((vs f d.toList).set (Int.toNat z) (Bo (f y) 0 (f x))) K:=BK (tP hf i hz) k
@[simp] theorem QY (d:Array α) (i j:Nat):(swp d i j).size=d.size:=by simp[swp]
variable {lt:α→α→Bool} {a b i j hi first root:Nat} {d:Array α}
theorem Vd (h1:a<j+1) (h2:lt d[j+1]! d[j]! =true):insInner lt a (j+1) d=insInner lt a j (swp d (j+1) j):=by
 rw[insInner,if_pos (by simp[h1,h2])]
theorem Qp (h:a<j+1→lt d[j+1]! d[j]! =false):insInner lt a (j+1) d=d:=by
 rw[insInner,if_neg]
 simp only[Bool.and_eq_true,decide_eq_true_eq,not_and]
 intro h1 h2
 rw[h h1]at h2;cases h2
theorem Adt (h:i<b):insOuter lt a b i d=insOuter lt a b (i+1) (insInner lt a i d):=by rw[insOuter,if_pos h]
theorem Adu (h:¬i<b):insOuter lt a b i d=d:=by rw[insOuter,if_neg h]
@[simp] theorem WT:∀{j:Nat} {d:Array α},(insInner lt a j d).size=d.size
 |0,d=>rfl
 |j+1,d=>by
  rw[insInner]
  split
  ·rw[WT,QY]
  ·rfl
theorem Ve (h:hi≤2*root+1):siftDown lt hi first root d=d:=by
 rw[siftDown,dif_pos h]
theorem AfK (h:2*root+1+1<hi) (h1:lt d[first+(2*root+1)]! d[first+(2*root+1)+1]! =true) (h2:lt d[first+root]! d[first+(2*root+2)]! =true):
 siftDown lt hi first root d=siftDown lt hi first (2*root+2) (swp d (first+root) (first+(2*root+2))):=by
 rw[siftDown,dif_neg (by omega),if_pos (by simp[h,h1]),if_neg (by simp[h2]),dif_pos (by omega)]
theorem Adv (h:2*root+1+1<hi) (h1:lt d[first+(2*root+1)]! d[first+(2*root+1)+1]! =true) (h2:lt d[first+root]! d[first+(2*root+2)]! =false):
 siftDown lt hi first root d=d:=by
 rw[siftDown,dif_neg (by omega),if_pos (by simp[h,h1]),if_pos (by simp[h2])]
theorem AaQ (h:¬hi≤2*root+1) (h1:2*root+1+1<hi→lt d[first+(2*root+1)]! d[first+(2*root+1)+1]! =false) (h2:lt d[first+root]! d[first+(2*root+1)]! =true):
 siftDown lt hi first root d=siftDown lt hi first (2*root+1) (swp d (first+root) (first+(2*root+1))):=by
 rw[siftDown,dif_neg h,if_neg,if_neg (by simp[h2])]
 simp only[Bool.and_eq_true,decide_eq_true_eq,not_and]
 intro h3 h4
 rw[h1 h3]at h4;cases h4
theorem Yq (h:¬hi≤2*root+1) (h1:2*root+1+1<hi→lt d[first+(2*root+1)]! d[first+(2*root+1)+1]! =false) (h2:lt d[first+root]! d[first+(2*root+1)]! =false):
 siftDown lt hi first root d=d:=by
 rw[siftDown,dif_neg h,if_neg,if_pos (by simp[h2])]
 simp only[Bool.and_eq_true,decide_eq_true_eq,not_and]
 intro h3 h4
 rw[h1 h3]at h4;cases h4
theorem WU {lt:α→α→Bool} {hi first:Nat}:∀(n root:Nat) (d:Array α),hi-root≤n→(siftDown lt hi first root d).size=d.size:=by
 intro n
 induction n with
 |zero=>intro root d h;rw[Ve (by omega)]
 |succ n ih=>
  intro root d h
  rw[siftDown]
  split
  ·rfl
  ·split
   ·split
    ·rfl
    ·split
     ·rw[ih _ _ (by omega),QY]
     ·rfl
   ·split
    ·rfl
    ·rw[ih _ _ (by omega),QY]
@[simp] theorem AeX:(siftDown lt hi first root d).size=d.size:=WU (hi-root) root d (Nat.le_refl _)
@[simp] theorem U2:∀{k:Nat} {d:Array α},(heapBuild lt hi first k d).size=d.size
 |0,d=>rfl
 |k+1,d=>by rw[heapBuild,U2,AeX]
end
theorem SB {z:Int} {K:AV→Prop} (n k:Nat) (hz:z=n) (h:n<2^63) (h2:K (.int .i64 ((n / k:Nat):Int))):Ig .i64 (z.tdiv k) K:=by
 subst hz
 have e:(n:Int).tdiv k=((n / k:Nat):Int):=by
  rw[Int.tdiv_eq_ediv_of_nonneg (by omega)];rfl
 rw[e]
 have h3:n / k≤n:=Nat.div_le_self ..
 revert h2 h3 e
 generalize n / k=m
 intro h2 e h3
 exact CQ (wrap_i64 (by omega) (by omega)) h2
end
end AI
end Go.Proofs.YtceiccjppfapjaaGreatDoor
