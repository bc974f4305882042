/- The arguments of the graph laws, taken apart: values, properties, nodes, edges, graphs. Names: the program's and the reference's. value.Plain and the reference's Plain: which values may be stored. Valid values, and values that are alike: plain. Valid fractions: the program's. The program's wide numbers: products, sums, signs; fractions compared. A value in a list of values. -/
import Derived.Test.YtnbibfalljlmfaaGreatDoorMab
import Derived.Test.YtnbibfalljlmfaaGreatDoorMaa
import Derived.Test.YtnbibfalljlmfaaGreatDoorGrCode
import Derived.Test.YtnbibfalljlmfaaGreatDoorMad
set_option linter.unusedVariables false
set_option maxRecDepth 4000
namespace Go.Proofs.YtnbibfalljlmfaaGreatDoor
namespace AI
structure GV where
  k:Int
  n:Int
  d:Int
  s:List UInt8
  nn:Bool
  l:List AV
def GV.av (v:GV):AV:=.agg [.int .i64 v.k,.int .i64 v.n,.int .i64 v.d,.str v.s,.sl v.nn v.l]
structure GP where
  key:List UInt8
  v:GV
def GP.av (p:GP):AV:=.agg [.str p.key,.int .i64 p.v.k,.int .i64 p.v.n,.int .i64 p.v.d,.str p.v.s,.sl p.v.nn p.v.l]
structure GN where
  id:Int
  ln:Bool
  labels:List (List UInt8)
  pn:Bool
  props:List GP
def GN.av (n:GN):AV:=.agg [.int .i64 n.id,.sl n.ln (vs .str n.labels),.sl n.pn (vs GP.av n.props)]
structure GE where
  id:Int
  fr:Int
  to:Int
  ty:List UInt8
  pn:Bool
  props:List GP
def GE.av (n:GE):AV:=.agg [.int .i64 n.id,.int .i64 n.fr,.int .i64 n.to,.str n.ty,.sl n.pn (vs GP.av n.props)]
structure GG where
  nn:Bool
  nodes:List GN
  en:Bool
  edges:List GE
  AeT:Int
  Afg:Int
def GG.av (g:GG):AV:=.agg [.sl g.nn (vs GN.av g.nodes),.sl g.en (vs GE.av g.edges),.int .i64 g.AeT,.int .i64 g.Afg]
def I64 (z:Int):Prop:=-2^63≤z∧z<2^63
def Ln {α:Type} (l:List α):Prop:=l.length<2^63
def GV.ok (v:GV):Prop:=I64 v.k∧I64 v.n∧I64 v.d∧Ln v.s∧Ln v.l∧(v.nn=false→v.l=[])∧∀x∈v.l,Like Tryz.prog 48 x
def GP.ok (p:GP):Prop:=Ln p.key∧p.v.ok
def GN.ok (n:GN):Prop:=I64 n.id∧Ln n.labels∧(n.ln=false→n.labels=[])∧(∀ s∈n.labels,Ln s)∧Ln n.props∧(n.pn=false→n.props=[])∧∀p∈n.props,p.ok
def GE.ok (e:GE):Prop:=I64 e.id∧I64 e.fr∧I64 e.to∧Ln e.ty∧Ln e.props∧(e.pn=false→e.props=[])∧∀p∈e.props,p.ok
def GG.ok (g:GG):Prop:=Ln g.nodes∧(g.nn=false→g.nodes=[])∧(∀ n∈g.nodes,n.ok)∧Ln g.edges∧(g.en=false→g.edges=[])∧(∀ e∈g.edges,e.ok)∧I64 g.AeT∧I64 g.Afg
theorem Az5:Tryz.prog.cellsOf 3=1:=by kernel_rfl
theorem Apz:Tryz.prog.cellsOf 9=1:=by kernel_rfl
theorem c_strings:Tryz.prog.cellsOf 61=1:=by kernel_rfl
theorem AQ0:Tryz.prog.cellsOf 46=1:=by kernel_rfl
theorem AuB:Tryz.prog.cellsOf 48=5:=by kernel_rfl
theorem c_prop:Tryz.prog.cellsOf 79=6:=by kernel_rfl
theorem c_props:Tryz.prog.cellsOf 62=1:=by kernel_rfl
theorem c_node:Tryz.prog.cellsOf 64=3:=by kernel_rfl
theorem AUa:Tryz.prog.cellsOf 22=1:=by kernel_rfl
theorem c_edge:Tryz.prog.cellsOf 81=5:=by kernel_rfl
theorem AUb:Tryz.prog.cellsOf 23=1:=by kernel_rfl
theorem ACb:Tryz.prog.cellsOf 25=4:=by kernel_rfl
theorem len3 {l:List AV} (h:l.length=3):∃a b c,l=[a,b,c]:=by
  rcases l with _|⟨a,_|⟨b,_|⟨c,_|⟨d,r⟩⟩⟩⟩<;>simp at h
  exact⟨a,b,c,rfl⟩
theorem AXZ {l:List AV} (h:l.length=4):∃a b c d,l=[a,b,c,d]:=by
  rcases l with _|⟨a,_|⟨b,_|⟨c,_|⟨d,_|⟨e,r⟩⟩⟩⟩⟩<;>simp at h
  exact⟨a,b,c,d,rfl⟩
theorem AXY {l:List AV} (h:l.length=5):∃a b c d e,l=[a,b,c,d,e]:=by
  rcases l with _|⟨a,_|⟨b,_|⟨c,_|⟨d,_|⟨e,_|⟨f,r⟩⟩⟩⟩⟩⟩<;>simp at h
  exact⟨a,b,c,d,e,rfl⟩
theorem len6 {l:List AV} (h:l.length=6):∃a b c d e f,l=[a,b,c,d,e,f]:=by
  rcases l with _|⟨a,_|⟨b,_|⟨c,_|⟨d,_|⟨e,_|⟨f,_|⟨g,r⟩⟩⟩⟩⟩⟩⟩<;>simp at h
  exact⟨a,b,c,d,e,f,rfl⟩
theorem i64_of {n:Int} (h:(Lit.int .i64 n).wf=true):I64 n:=by
  simp[Lit.wf]at h
  have h1:IntKind.i64.min=-2^63:=by rfl
  have h2:IntKind.i64.max=2^63-1:=by rfl
  unfold I64
  omega
theorem AQL {α:Type} {l:List α} (h:l.length≤maxLen):Ln l:=by unfold Ln;have:=maxLen_lt;omega
theorem Ai2 {d:Nat} {cs:List AV} (h:AG5 Tryz.prog d 3 cs):∃n,cs=[.int .i64 n]∧I64 n:=by
  obtain⟨k,e1,h1⟩:=likeC_int Tryz.underlying3 h
  exact⟨k,e1,i64_of h1⟩
theorem Ai1 {d:Nat} {cs:List AV} (h:AG5 Tryz.prog d 9 cs):∃n,cs=[.str n]∧Ln n:=by
  obtain⟨k,e1,h1⟩:=likeC_string Tryz.underlying9 h
  exact⟨k,e1,AQL h1⟩
theorem Aom {d:Nat} {cs:List AV} (h:AG5 Tryz.prog d 48 cs):∃v:GV,cs=[.int .i64 v.k,.int .i64 v.n,.int .i64 v.d,.str v.s,.sl v.nn v.l]∧v.ok:=by
  obtain⟨d',rfl,g1,g2⟩:=AdY Tryz.underlying48 h
  rw[AuB]at g1
  obtain⟨a,b,c,e,f,rfl⟩:=AXY g1
  clear g1
  simp only[List.forall_mem_cons]at g2
  obtain⟨f1,f2,f3,f4,f5,_⟩:=g2
  simp only[Az5,Apz,AQ0,List.drop_zero,List.drop_succ_cons,List.take_succ_cons,List.take_zero]at f1 f2 f3 f4 f5
  obtain⟨k,e1,h1⟩:=Ai2 f1
  obtain⟨n,e2,h2⟩:=Ai2 f2
  obtain⟨m,e3,h3⟩:=Ai2 f3
  obtain⟨s,e4,h4⟩:=Ai1 f4
  obtain⟨d'',_,nl,xs,e5,h5,h6,h7⟩:=AHf Tryz.underlying46 f5
  cases e1;cases e2;cases e3;cases e4;cases e5
  exact⟨⟨k,n,m,s,nl,xs⟩,rfl,h1,h2,h3,h4,AQL h6,h5,fun x hx=>⟨_,h7 x hx⟩⟩
theorem like_value {a:AV} (h:Like Tryz.prog 48 a):∃v:GV,a=v.av∧v.ok:=by
  obtain⟨d,h⟩:=h
  obtain⟨cs,rfl,h0⟩:=AeQ Tryz.underlying48 h
  obtain⟨v,rfl,h1⟩:=Aom h0
  exact⟨v,rfl,h1⟩
theorem like_prop {d:Nat} {a:AV} (h:like Tryz.prog d 79 a):∃v:GP,a=v.av∧v.ok:=by
  obtain⟨cs,rfl,h0⟩:=AeQ Tryz.underlying79 h
  obtain⟨d',rfl,g1,g2⟩:=AdY Tryz.underlying79 h0
  rw[c_prop]at g1
  obtain⟨a,b,c,e,f,g,rfl⟩:=len6 g1
  clear g1
  simp only[List.forall_mem_cons]at g2
  obtain⟨f1,f2,_⟩:=g2
  simp only[Apz,AuB,List.drop_zero,List.drop_succ_cons,List.take_succ_cons,List.take_zero]at f1 f2
  obtain⟨s,e1,h1⟩:=Ai1 f1
  obtain⟨v,e2,h2⟩:=Aom f2
  cases e1;cases e2
  exact⟨⟨s,v⟩,rfl,h1,h2⟩
theorem Aue {α:Type} {f:α→AV} {Q:α→Prop} {d:Nat} {t e:TypeId} {cs:List AV} (hu:Tryz.prog.underlying t=some (.slice e)) (he:∀d x,like Tryz.prog d e x→∃y,x=f y∧Q y) (h:AG5 Tryz.prog d t cs):
    ∃nn l,cs=[.sl nn (vs f l)]∧(nn=false→l=[])∧Ln l∧∀y∈l,Q y:=by
  obtain⟨d',rfl,nn,xs,rfl,h0,h1,h2⟩:=AHf hu h
  obtain⟨l,rfl,h3⟩:=exists_map (f:=f) (Q:=Q) fun x hx=>he d' x (h2 x hx)
  exact⟨nn,l,rfl,fun h=>by have:=h0 h;simpa using this,AQL (by simpa using h1),h3⟩
theorem AwM {d:Nat} {a:AV} (h:like Tryz.prog d 9 a):∃s:List UInt8,a=.str s∧Ln s:=by
  obtain⟨k,e1,h1⟩:=like_string Tryz.underlying9 h
  exact⟨k,e1,AQL h1⟩
theorem APd {d:Nat} {a:AV} (h:like Tryz.prog d 64 a):∃v:GN,a=v.av∧v.ok:=by
  obtain⟨cs,rfl,h0⟩:=AeQ Tryz.underlying64 h
  obtain⟨d',rfl,g1,g2⟩:=AdY Tryz.underlying64 h0
  rw[c_node]at g1
  obtain⟨a,b,c,rfl⟩:=len3 g1
  clear g1
  simp only[List.forall_mem_cons]at g2
  obtain⟨f1,f2,f3,_⟩:=g2
  simp only[Az5,c_strings,c_props,List.drop_zero,List.drop_succ_cons,List.take_succ_cons,List.take_zero]at f1 f2 f3
  obtain⟨s,e1,h1⟩:=Ai2 f1
  obtain⟨ln,L,e2,h2,h2a,h2b⟩:=Aue (f:=.str) (Q:=Ln) Tryz.underlying61 (fun d x h=>AwM h) f2
  obtain⟨pn,P,e3,h3,h3a,h3b⟩:=Aue (f:=GP.av) (Q:=GP.ok) Tryz.underlying62 (fun d x h=>like_prop h) f3
  cases e1;cases e2;cases e3
  exact⟨⟨s,ln,L,pn,P⟩,rfl,h1,h2a,h2,h2b,h3a,h3,h3b⟩
theorem APe {d:Nat} {a:AV} (h:like Tryz.prog d 81 a):∃v:GE,a=v.av∧v.ok:=by
  obtain⟨cs,rfl,h0⟩:=AeQ Tryz.underlying81 h
  obtain⟨d',rfl,g1,g2⟩:=AdY Tryz.underlying81 h0
  rw[c_edge]at g1
  obtain⟨a,b,c,e,f,rfl⟩:=AXY g1
  clear g1
  simp only[List.forall_mem_cons]at g2
  obtain⟨f1,f2,f3,f4,f5,_⟩:=g2
  simp only[Az5,Apz,c_props,List.drop_zero,List.drop_succ_cons,List.take_succ_cons,List.take_zero]at f1 f2 f3 f4 f5
  obtain⟨k,e1,h1⟩:=Ai2 f1
  obtain⟨n,e2,h2⟩:=Ai2 f2
  obtain⟨m,e3,h3⟩:=Ai2 f3
  obtain⟨s,e4,h4⟩:=Ai1 f4
  obtain⟨pn,P,e5,h5,h5a,h5b⟩:=Aue (f:=GP.av) (Q:=GP.ok) Tryz.underlying62 (fun d x h=>like_prop h) f5
  cases e1;cases e2;cases e3;cases e4;cases e5
  exact⟨⟨k,n,m,s,pn,P⟩,rfl,h1,h2,h3,h4,h5a,h5,h5b⟩
theorem AbE {a:AV} (h:Like Tryz.prog 25 a):∃v:GG,a=v.av∧v.ok:=by
  obtain⟨d,h⟩:=h
  obtain⟨cs,rfl,h0⟩:=AeQ Tryz.underlying25 h
  obtain⟨d',rfl,g1,g2⟩:=AdY Tryz.underlying25 h0
  rw[ACb]at g1
  obtain⟨a,b,c,e,rfl⟩:=AXZ g1
  clear g1
  simp only[List.forall_mem_cons]at g2
  obtain⟨f1,f2,f3,f4,_⟩:=g2
  simp only[Az5,AUa,AUb,List.drop_zero,List.drop_succ_cons,List.take_succ_cons,List.take_zero]at f1 f2 f3 f4
  obtain⟨nn,N,e1,h1,h1a,h1b⟩:=Aue (f:=GN.av) (Q:=GN.ok) Tryz.underlying22 (fun d x h=>APd h) f1
  obtain⟨en,E,e2,h2,h2a,h2b⟩:=Aue (f:=GE.av) (Q:=GE.ok) Tryz.underlying23 (fun d x h=>APe h) f2
  obtain⟨m,e3,h3⟩:=Ai2 f3
  obtain⟨k,e4,h4⟩:=Ai2 f4
  cases e1;cases e2;cases e3;cases e4
  exact⟨⟨nn,N,en,E,m,k⟩,rfl,h1a,h1,h1b,h2a,h2,h2b,h3,h4⟩
def isLetter (c:Int):Prop:=(97≤c∧c≤122)∨(65≤c∧c≤90)
instance (c:Int):Decidable (isLetter c):=by unfold isLetter;infer_instance
theorem letter1 {c:Int}:D8 (Dx tab) 135 [.int .u8 c] (· =.bool (decide (isLetter c))):=by
  refine Lu rfl rfl ?_
  (conv=>whnf);repeat' (first|((with_reducible first|apply kN|apply kW|apply kX|apply kG|apply kQ);(· exact sd);conv=>whnf)|(refine DW.mk ?_ ?_<;>intro hc<;>(try rw[List.length_nil]at hc)<;>first|(exfalso;omega)|(exact absurd rfl hc)|conv=>whnf)  |(refine CB ?_ ?_<;>intro hc<;>conv=>whnf))
  all_goals first|exact Lp (by unfold isLetter;omega)|exact Hf (by unfold isLetter;omega)
theorem letter2 {c:Int}:D8 (Dx tab) 122 [.int .u8 c] (· =.bool (decide (isLetter c))):=by
  refine Lu rfl rfl ?_
  (conv=>whnf);repeat' (first|((with_reducible first|apply kN|apply kW|apply kX|apply kG|apply kQ);(· exact sd);conv=>whnf)|(refine DW.mk ?_ ?_<;>intro hc<;>(try rw[List.length_nil]at hc)<;>first|(exfalso;omega)|(exact absurd rfl hc)|conv=>whnf)  |(refine CB ?_ ?_<;>intro hc<;>conv=>whnf))
  all_goals first|exact Lp (by unfold isLetter;omega)|exact Hf (by unfold isLetter;omega)
def inName (c:Int):Prop:=isLetter c∨(48≤c∧c≤57)∨c=95
instance (c:Int):Decidable (inName c):=by unfold inName;infer_instance
def isName (s:List UInt8):Prop:=0<s.length∧s.length≤20∧(∀ c,s[0]?=some c→isLetter c.toNat)∧∀c∈s,inName c.toNat
instance (s:List UInt8):Decidable (isName s):=by unfold isName;infer_instance
theorem isName_letter {s:List UInt8} (hs:0<s.length) (h:isName s):isLetter s[0].toNat:=h.2.2.1 _ (List.getElem?_eq_getElem hs)
theorem isName_at {s:List UInt8} {i:Nat} (hi:i<s.length) (h:isName s):inName s[i].toNat:=h.2.2.2 _ (List.getElem_mem _)
theorem one_in {s:List UInt8} (hs:0<s.length) (h:inName s[0].toNat):∀c∈s.take 1,inName c.toNat:=by
  cases s with
  |nil=>simp at hs
  |cons a l=>simpa using h
theorem name1 {s:List UInt8} (hl:s.length<2^63):D8 (Dx tab) 73 [.str s] (· =.bool (decide (isName s))):=by
  by_cases h0:s.length=0
  · obtain rfl:s=[]:=List.length_eq_zero_iff.1 h0
    refine Lu rfl rfl ?_
    (conv=>whnf);repeat' (first|((with_reducible first|apply kN|apply kW|apply kX|apply kG|apply kQ);(· exact sd);conv=>whnf)|(refine DW.mk ?_ ?_<;>intro hc<;>(try rw[List.length_nil]at hc)<;>first|(exfalso;omega)|(exact absurd rfl hc)|conv=>whnf)  |(refine CB ?_ ?_<;>intro hc<;>conv=>whnf))
    all_goals exact Hf (by simp[isName])
  have hs:0<s.length:=by omega
  have hne:s≠[]:=by rintro rfl;simp at h0
  have hz:s[0]?=some s[0]:=List.getElem?_eq_getElem hs
  refine Lu rfl rfl ?_
  (conv=>whnf);repeat' (first|((with_reducible first|apply kN|apply kW|apply kX|apply kG|apply kQ);(· exact sd);conv=>whnf)|(refine DW.mk ?_ ?_<;>intro hc<;>(try rw[List.length_nil]at hc)<;>first|(exfalso;omega)|(exact absurd rfl hc)|conv=>whnf)|(refine KH (letter1) (fun hc=>?_) (fun hc=>?_)<;>conv=>whnf)|(refine CB ?_ ?_<;>intro hc<;>conv=>whnf))
  all_goals first|exact absurd hc hne|exact Hf (by unfold isName;omega)|exact Hf fun h=>hc (isName_letter hs h)|skip
  refine DK (fun m env s'=>∃i:Nat,m=s.length-i∧env=[(0,.str s),(18,.int .i64 s.length),(19,.int .i64 i)]∧s'=⟨[],0⟩∧∀c∈s.take i,inName c.toNat) ?_ _ _ _ ⟨0,rfl,by simp,rfl,by simp⟩
  rintro _ _ _ ⟨i,rfl,rfl,rfl,hx⟩
  refine⟨rfl,?_⟩
  (conv=>whnf);repeat' (first|((with_reducible first|apply kN|apply kW|apply kX|apply kG|apply kQ);(· exact sd);conv=>whnf)|(refine DW.mk ?_ ?_<;>intro hc<;>(try rw[List.length_nil]at hc)<;>first|(exfalso;omega)|(exact absurd rfl hc)|conv=>whnf)|(refine KH (letter1) (fun hc=>?_) (fun hc=>?_)<;>conv=>whnf)|(refine CB ?_ ?_<;>intro hc<;>conv=>whnf))
  all_goals first
    |exact again.mk ⟨_,by omega,i+1,rfl,rfl,rfl,AfD (by omega) hx (by unfold inName isLetter at *;omega)⟩
    |(refine Hf fun h=>?_;have:=isName_at (i:=i) (by omega) h;unfold inName isLetter at *;omega)
    |(rename_i hc1;exact Lp ⟨hs,by omega,fun c h=>by rw[hz]at h;cases h;assumption,by rw[TP hc]at hx;exact hx⟩)
theorem name2 {s:List UInt8} (hl:s.length<2^63):D8 (Dx tab) 69 [.str s] (· =.bool (decide (isName s))):=by
  by_cases h0:s.length=0
  · obtain rfl:s=[]:=List.length_eq_zero_iff.1 h0
    refine Lu rfl rfl ?_
    (conv=>whnf);repeat' (first|((with_reducible first|apply kN|apply kW|apply kX|apply kG|apply kQ);(· exact sd);conv=>whnf)|(refine DW.mk ?_ ?_<;>intro hc<;>(try rw[List.length_nil]at hc)<;>first|(exfalso;omega)|(exact absurd rfl hc)|conv=>whnf)  |(refine CB ?_ ?_<;>intro hc<;>conv=>whnf))
    all_goals exact Hf (by simp[isName])
  have hs:0<s.length:=by omega
  have hne:s≠[]:=by rintro rfl;simp at h0
  have hz:s[0]?=some s[0]:=List.getElem?_eq_getElem hs
  refine Lu rfl rfl ?_
  (conv=>whnf);repeat' (first|((with_reducible first|apply kN|apply kW|apply kX|apply kG|apply kQ);(· exact sd);conv=>whnf)|(refine DW.mk ?_ ?_<;>intro hc<;>(try rw[List.length_nil]at hc)<;>first|(exfalso;omega)|(exact absurd rfl hc)|conv=>whnf)|(refine KH (letter2) (fun hc=>?_) (fun hc=>?_)<;>conv=>whnf)|(refine CB ?_ ?_<;>intro hc<;>conv=>whnf))
  all_goals first|exact absurd hc hne|exact Hf (by unfold isName;omega)|exact Hf fun h=>hc (isName_letter hs h)|skip
  refine DK (fun m env s'=>∃i:Nat,m=s.length-i∧env=[(0,.str s),(3,.int .i64 i)]∧s'=⟨[],0⟩∧∀c∈s.take i,inName c.toNat) ?_ _ _ _ ⟨1,rfl,rfl,rfl,one_in hs (Or.inl hc)⟩
  rintro _ _ _ ⟨i,rfl,rfl,rfl,hx⟩
  refine⟨rfl,?_⟩
  (conv=>whnf);repeat' (first|((with_reducible first|apply kN|apply kW|apply kX|apply kG|apply kQ);(· exact sd);conv=>whnf)|(refine DW.mk ?_ ?_<;>intro hc<;>(try rw[List.length_nil]at hc)<;>first|(exfalso;omega)|(exact absurd rfl hc)|conv=>whnf)|(refine KH (letter2) (fun hc=>?_) (fun hc=>?_)<;>conv=>whnf)|(refine CB ?_ ?_<;>intro hc<;>conv=>whnf))
  all_goals first
    |exact again.mk ⟨_,by omega,i+1,rfl,rfl,rfl,AfD (by omega) hx (by unfold inName isLetter at *;omega)⟩
    |(refine Hf fun h=>?_;have:=isName_at (i:=i) (by omega) h;unfold inName isLetter at *;omega)
    |(rename_i hc1;exact Lp ⟨hs,by omega,fun c h=>by rw[hz]at h;cases h;assumption,by rw[TP hc]at hx;exact hx⟩)
theorem Ay4 {AP:Nat→Option AFn} {f:Nat} {sp:List AV→Sto→Option (AX5×Sto)} {args:List AV} {R:AV→Prop} {v v':AV} {s:Sto} (hf:AP f=some (.ext sp)) (h:sp args ⟨[],0⟩=some (.ok v,s)) (hs:snap s.σ snapDepth v=some v') (hR:R v'):D8 AP f args R:=
  ⟨v',⟨1,by simp only[Awz,run,hf,h];exact hs⟩,hR⟩
theorem ixP {l:List UInt8}:D8 (Dx tab) 286 [.str l,.fn 287 []] (· =.int .i64 (Ap3 l)):=
  Ay4 rfl rfl rfl rfl
theorem AuI {l:List UInt8}:Ap3 l<0↔∀c∈l,AwT c=false:=by
  unfold Ap3
  cases h:List.findIdx? AwT l with
  | none=>
    refine⟨fun _ c hc=>?_,fun _=>by decide⟩
    have:=List.findIdx?_eq_none_iff.1 h c hc
    simpa using this
  | some i=>
    refine⟨fun h=>?_,fun ha=>?_⟩
    · simp at h;omega
    · obtain⟨h1,h2,_⟩:=List.findIdx?_eq_some_iff_getElem.1 h
      rw[ha _ (List.getElem_mem h1)]at h2
      cases h2
def inR (n:Int):Prop:=-1000000000000000≤n∧n≤1000000000000000
instance (n:Int):Decidable (inR n):=by unfold inR;infer_instance
theorem inP {n:Int}:D8 (Dx tab) 285 [.int .i64 n] (· =.bool (decide (inR n))):=by
  refine Lu rfl rfl ?_
  (conv=>whnf);repeat' (first|((with_reducible first|apply kN|apply kW|apply kX|apply kG|apply kQ);(· exact sd);conv=>whnf)|(refine DW.mk ?_ ?_<;>intro hc<;>(try rw[List.length_nil]at hc)<;>first|(exfalso;omega)|(exact absurd rfl hc)|conv=>whnf)  |(refine CB ?_ ?_<;>intro hc<;>conv=>whnf))
  all_goals first|exact Lp (by unfold inR;omega)|exact Hf (by unfold inR;omega)
theorem AXV {n:Int}:D8 (Dx tab) 264 [.int .i64 n] (· =.bool (decide (inR n))):=by
  refine Lu rfl rfl ?_
  (conv=>whnf);repeat' (first|((with_reducible first|apply kN|apply kW|apply kX|apply kG|apply kQ);(· exact sd);conv=>whnf)|(refine DW.mk ?_ ?_<;>intro hc<;>(try rw[List.length_nil]at hc)<;>first|(exfalso;omega)|(exact absurd rfl hc)|conv=>whnf)  |(refine CB ?_ ?_<;>intro hc<;>conv=>whnf))
  all_goals first|exact Lp (by unfold inR;omega)|exact Hf (by unfold inR;omega)
def okS (s:List UInt8):Prop:=s.length≤100∧∀c∈s,AwT c=false
instance (s:List UInt8):Decidable (okS s):=by unfold okS;infer_instance
def AjD (v:GV):Prop:=v.d=0∧v.l.length=0∧(v.k=1∧v.s=[]∧(v.n=0∨v.n=1)∨v.k=2∧v.s=[]∧inR v.n∨v.k=4∧v.n=0∧okS v.s)
instance (v:GV):Decidable (AjD v):=by unfold AjD;infer_instance
def AWR (v:GV):Prop:=v.k=1∨v.k=2∨v.k=4
instance (v:GV):Decidable (AWR v):=by unfold AWR;infer_instance
theorem AO9 {v:GV} (h:AjD v):AWR v:=by unfold AjD at h;unfold AWR;omega
theorem leaf_1 {v:GV} (h:v.k=1) (h1:v.d=0) (h2:v.l.length=0) (h3:v.s=[]) (h4:v.n=0∨v.n=1):AjD v:=⟨h1,h2,.inl ⟨h,h3,h4⟩⟩
theorem leaf_2 {v:GV} (h:v.k=2) (h1:v.d=0) (h2:v.l.length=0) (h3:v.s=[]) (h4:inR v.n):AjD v:=⟨h1,h2,.inr (.inl ⟨h,h3,h4⟩)⟩
theorem leaf_4 {v:GV} (h:v.k=4) (h1:v.d=0) (h2:v.l.length=0) (h3:v.n=0) (h4:okS v.s):AjD v:=⟨h1,h2,.inr (.inr ⟨h,h3,h4⟩)⟩
theorem leaf_s {v:GV} (h:AjD v) (hk:v.k≠4):v.s=[]:=by
  obtain⟨_,_,h⟩:=h
  rcases h with h|h|h
  · exact h.2.1
  · exact h.2.1
  · exact absurd h.1 hk
theorem leaf_n {v:GV} (h:AjD v) (hk:v.k=1):v.n=0∨v.n=1:=by
  obtain⟨_,_,h⟩:=h;omega
theorem leaf_r {v:GV} (h:AjD v) (hk:v.k=2):inR v.n:=by
  obtain⟨_,_,h⟩:=h
  rcases h with h|h|h<;>first|exact h.2.2|omega
theorem leaf_z {v:GV} (h:AjD v) (hk:v.k=4):v.n=0∧okS v.s:=by
  obtain⟨_,_,h⟩:=h
  rcases h with h|h|h<;>first|exact h.2|omega
theorem vld {v:GV} (hv:v.ok) (hk:AWR v) {n:Int}:D8 (Dx tab) 249 [v.av,.int .i64 n] (· =.bool (decide (AjD v))):=by
  obtain⟨g1,g2,g3,g4,g5,g6,g7⟩:=hv
  unfold Ln at g4 g5
  unfold AWR at hk
  refine Lu rfl rfl ?_
  (conv=>whnf);repeat' (first|((with_reducible first|apply kN|apply kW|apply kX|apply kG|apply kQ);(· exact sd);conv=>whnf)|(refine DW.mk ?_ ?_<;>intro hc<;>(try rw[List.length_nil]at hc)<;>first|(exfalso;omega)|(exact absurd rfl hc)|conv=>whnf)|(refine KH (inP (n:=v.n)) (fun hr=>?_) (fun hr=>?_)<;>conv=>whnf)|(refine BM (ixP (l:=v.s)) ?_;rintro _ rfl;conv=>whnf)|(refine CB ?_ ?_<;>intro hc<;>conv=>whnf))
  all_goals first
    |exact Hf (fun h=>by have:=h.2.1;omega)
    |(refine Lp ?_;clear g7 g6;unfold AjD okS;rw[← AuI];first|(simp_all;done)|(simp_all;omega))
    |(refine Hf ?_;clear g7 g6;unfold AjD okS;rw[← AuI];first|(simp_all;done)|(simp_all;omega))
theorem vldV {v:GV} (hv:v.ok) (hk:AWR v):D8 (Dx tab) 192 [v.av] (· =.bool (decide (AjD v))):=by
  refine Lu rfl rfl ?_
  (conv=>whnf);repeat' (first|((with_reducible first|apply kN|apply kW|apply kX|apply kG|apply kQ);(· exact sd);conv=>whnf)|(refine DW.mk ?_ ?_<;>intro hc<;>(try rw[List.length_nil]at hc)<;>first|(exfalso;omega)|(exact absurd rfl hc)|conv=>whnf)|(refine KH (vld (v:=v) hv hk) (fun hr=>?_) (fun hr=>?_)<;>conv=>whnf)|(refine CB ?_ ?_<;>intro hc<;>conv=>whnf))
  all_goals first|exact Lp (by assumption)|exact Hf (by assumption)
theorem plain1 {v:GV} (hv:v.ok):D8 (Dx tab) 132 [v.av] (· =.bool (decide (AjD v))):=by
  refine Lu rfl rfl ?_
  (conv=>whnf);repeat' (first|((with_reducible first|apply kN|apply kW|apply kX|apply kG|apply kQ);(· exact sd);conv=>whnf)|(refine DW.mk ?_ ?_<;>intro hc<;>(try rw[List.length_nil]at hc)<;>first|(exfalso;omega)|(exact absurd rfl hc)|conv=>whnf)|(refine KH (vldV (v:=v) hv (by unfold AWR;omega)) (fun hr=>?_) (fun hr=>?_)<;>conv=>whnf)|(refine CB ?_ ?_<;>intro hc<;>conv=>whnf))
  all_goals first|exact Lp (by assumption)|exact Hf (by assumption)|exact Hf fun h=>absurd (AO9 h) (by unfold AWR;omega)
theorem AB9 {a b c d:Nat} (hb:0<b) (hd:0<d) (h1:Nat.gcd a b=1) (h2:Nat.gcd c d=1) (h:a*d=c*b):a=c∧b=d:=by
  have e1:b ∣ d:=(Nat.Coprime.dvd_of_dvd_mul_left (k:=b) (m:=a) (n:=d) (by rw[Nat.Coprime,Nat.gcd_comm];exact h1) ⟨c,by rw[h,Nat.mul_comm]⟩)
  have e2:d ∣ b:=(Nat.Coprime.dvd_of_dvd_mul_left (k:=d) (m:=c) (n:=b) (by rw[Nat.Coprime,Nat.gcd_comm];exact h2) ⟨a,by rw[← h,Nat.mul_comm]⟩)
  have e3:=Nat.dvd_antisymm e1 e2
  subst e3
  exact⟨Nat.eq_of_mul_eq_mul_right hb h,rfl⟩
def VF (n d:Int):Prop:=1≤d∧d≤1000000000000000∧inR n∧Nat.gcd n.natAbs d.natAbs=1
instance (n d:Int):Decidable (VF n d):=by unfold VF;infer_instance
def VB (g:GV):Prop:=g.l.length=0∧(g.k=0∧g.n=0∧g.d=0∧g.s=[]∨g.k=1∧(g.n=0∨g.n=1)∧g.d=0∧g.s=[]∨g.k=2∧inR g.n∧g.d=0∧g.s=[]∨
  g.k=3∧2≤g.d∧VF g.n g.d∧g.s=[]∨g.k=4∧g.n=0∧g.d=0∧okS g.s∨(g.k=5∨g.k=6)∧1≤g.n∧g.n≤1000000∧g.d=0∧g.s=[])
instance (g:GV):Decidable (VB g):=by unfold VB;infer_instance
def VPa (l:List AV):Prop:=l.length % 2=1∧l.length≤25∧∀i (h:i<l.length),∃x:GV,l[i]=x.av∧x.k=5+i % 2∧VB x
def VV:Nat→GV→Prop
  |0,g=>VB g∨g.k=7∧g.n=0∧g.d=0∧g.s=[]∧VPa g.l
  |m+1,g=>VB g∨g.k=7∧g.n=0∧g.d=0∧g.s=[]∧VPa g.l∨g.k=8∧g.n=0∧g.d=0∧g.s=[]∧g.l.length≤64∧∀i (h:i<g.l.length),∃x:GV,g.l[i]=x.av∧VV m x
theorem ACa:∀{m:Nat} {g:GV},VV m g→VV (m+1) g
  | 0,g,h=>by
    rcases h with h|h
    · exact .inl h
    · exact .inr (.inl h)
  | m+1,g,h=>by
    rcases h with h|h|⟨h1,h2,h3,h4,h5,h6⟩
    · exact .inl h
    · exact .inr (.inl h)
    · exact .inr (.inr ⟨h1,h2,h3,h4,h5,fun i hi=>by obtain⟨x,e,hx⟩:=h6 i hi;exact⟨x,e,ACa hx⟩⟩)
theorem GV.AmG {g h:GV} (e:g.av=h.av):g=h:=by
  obtain⟨k,n,d,s,nn,l⟩:=g
  obtain⟨k',n',d',s',nn',l'⟩:=h
  simp only[GV.av,AV.agg.injEq,List.cons.injEq,AV.int.injEq,AV.str.injEq,AV.sl.injEq,true_and,and_true]at e
  obtain⟨rfl,rfl,rfl,rfl,rfl,rfl⟩:=e
  rfl
def Alk:Nat→GV→GV→Prop
  |0,_,_=>False
  |d+1,g,h=>g.k=h.k∧g.n=h.n∧g.d=h.d∧g.s=h.s∧g.l.length=h.l.length∧∀(i:Nat) (x y:GV),g.l[i]?=some x.av→h.l[i]?=some y.av→Alk d x y
theorem Aw8 (x y:Nat):Nat.gcd y (x % y)=Nat.gcd x y:=by
  rw[Nat.gcd_comm x y,Nat.gcd_rec y x,Nat.gcd_comm]
theorem absP {n:Int} (h:inR n):D8 (Dx tab) 307 [.int .i64 n] (· =.int .i64 n.natAbs):=by
  unfold inR at h
  have e:(if 0-n>n then 0-n else n)=(n.natAbs:Int):=by split<;>omega
  refine Lu rfl rfl ?_
  (conv=>whnf);repeat' (first  |((with_reducible first|apply kN|apply kW|apply kX|apply kG|apply kQ);(· exact sd);conv=>whnf)|(refine DW.mk ?_ ?_<;>intro hc<;>(try rw[List.length_nil]at hc)<;>first|(exfalso;omega)|(exact absurd rfl hc)|conv=>whnf)|(refine CB ?_ ?_<;>intro hc<;>conv=>whnf))
  rw[← e];rfl
theorem AWg {n d:Int} (hn:inR n) (hd:inR d):D8 (Dx tab) 298 [.int .i64 n,.int .i64 d] (· =.int .i64 (Nat.gcd n.natAbs d.natAbs)):=by
  have hn':=hn
  have hd':=hd
  unfold inR at hn' hd'
  refine Lu rfl rfl ?_
  (conv=>whnf);repeat' (first|(refine KH (inP (n:=n)) (fun hr=>?_) (fun hr=>absurd hn hr);conv=>whnf)|(refine KH (inP (n:=d)) (fun hr=>?_) (fun hr=>absurd hd hr);conv=>whnf)|(refine BM (absP hn) ?_;rintro _ rfl;conv=>whnf)|(refine BM (absP hd) ?_;rintro _ rfl;conv=>whnf)|((with_reducible first|apply kN|apply kW|apply kX|apply kG|apply kQ);(· exact sd);conv=>whnf)|(refine DW.mk ?_ ?_<;>intro hc<;>(try rw[List.length_nil]at hc)<;>first|(exfalso;omega)|(exact absurd rfl hc)|conv=>whnf)|(refine CB ?_ ?_<;>intro hc<;>conv=>whnf))
  refine DK (fun m env s=>∃(x y:Nat),m=1*y∧x<2^63∧y<2^63∧Nat.gcd x y=Nat.gcd n.natAbs d.natAbs∧env=[(0,.int .i64 x),(1,.int .i64 y)]∧s=⟨[],0⟩) ?_ _ _ _ ⟨n.natAbs,d.natAbs,(Nat.one_mul _).symm,by omega,by omega,rfl,rfl,rfl⟩
  clear hn hd hn' hd'
  rintro m _ _ ⟨x,y,hm,hx,hy,hg,rfl,rfl⟩
  have hm2:y=m:=by omega
  subst hm2
  refine⟨rfl,?_⟩
  (conv=>whnf);repeat' (first  |((with_reducible first|apply kN|apply kW|apply kX|apply kG|apply kQ);(· exact sd);conv=>whnf)|(refine DW.mk ?_ ?_<;>intro hc<;>(try rw[List.length_nil]at hc)<;>first|(exfalso;omega)|(exact absurd rfl hc)|conv=>whnf)|(refine CB ?_ ?_<;>intro hc<;>conv=>whnf))
  · have h0:y=0:=by omega
    subst h0
    rw[Nat.gcd_zero_right]at hg
    rw[← hg];rfl
  · have h0:0<y:=by omega
    have:=Nat.mod_lt x h0
    exact again.mk ⟨_,this,y,x % y,(Nat.one_mul _).symm,hy,by omega,by rw[Aw8];exact hg,by rw[Int.ofNat_tmod],rfl⟩
theorem AAT {n d:Int} (h:¬(1≤d∧d≤1000000000000000∧inR n)):¬VF n d:=fun hv=>h ⟨hv.1,hv.2.1,hv.2.2.1⟩
theorem fvP {n d:Int}:D8 (Dx tab) 281 [.agg [.int .i64 n,.int .i64 d]] (· =.bool (decide (VF n d))):=by
  by_cases h:1≤d∧d≤1000000000000000∧inR n
  · obtain⟨h1,h2,h3⟩:=h
    have hg:=AWg h3 (show inR d by unfold inR;omega)
    refine Lu rfl rfl ?_
    (conv=>whnf);repeat' (first|(refine KH (inP (n:=n)) (fun hr=>?_) (fun hr=>absurd h3 hr);conv=>whnf)|(refine BM hg ?_;rintro _ rfl;conv=>whnf)|((with_reducible first|apply kN|apply kW|apply kX|apply kG|apply kQ);(· exact sd);conv=>whnf)|(refine DW.mk ?_ ?_<;>intro hc<;>(try rw[List.length_nil]at hc)<;>first|(exfalso;omega)|(exact absurd rfl hc)|conv=>whnf)|(refine CB ?_ ?_<;>intro hc<;>conv=>whnf))
    all_goals first
      |exact Lp ⟨h1,h2,h3,by omega⟩
      |exact Hf fun hv=>by have:=hv.2.2.2;omega
      |trace_state
  · have hno:=AAT h
    have hnr:¬inR n∨¬(1≤d∧d≤1000000000000000):=by
      by_cases h3:inR n
      · exact .inr fun h12=>h ⟨h12.1,h12.2,h3⟩
      · exact .inl h3
    refine Lu rfl rfl ?_
    (conv=>whnf);repeat' (first|(refine KH (inP (n:=n)) (fun hr=>?_) (fun hr=>?_)<;>conv=>whnf)|((with_reducible first|apply kN|apply kW|apply kX|apply kG|apply kQ);(· exact sd);conv=>whnf)|(refine DW.mk ?_ ?_<;>intro hc<;>(try rw[List.length_nil]at hc)<;>first|(exfalso;omega)|(exact absurd rfl hc)|conv=>whnf)|(refine CB ?_ ?_<;>intro hc<;>conv=>whnf))
    all_goals first
      |exact Hf hno
      |(exfalso;rcases hnr with h|h;exact h hr;omega)
      |trace_state
def wd (b:Bool) (m:Nat):AV:=.agg [.bool b,.int .u64 ((m / 18446744073709551616:Nat):Int),.int .u64 ((m % 18446744073709551616:Nat):Int)]
theorem wU {z:Int} {K:AV→Prop} (y:Int) (h:z % 18446744073709551616=y) (hk:K (.int .u64 y)):ARy .u64 z K:=by
  subst h
  refine ZH ?_ hk
  simp[IntKind.wrap,IntKind.bits,IntKind.signed]
theorem ACi (n:Nat):(BitVec.ofInt 64 (n:Int)).toNat=n % 18446744073709551616:=by simp
theorem ALu (n:Nat):IntKind.u64.wrap (BitVec.ofInt IntKind.u64.bits (n:Int) &&& BitVec.ofInt IntKind.u64.bits 4294967295).toNat=((n % 4294967296:Nat):Int):=by
  show IntKind.u64.wrap (BitVec.ofInt 64 (n:Int) &&& BitVec.ofInt 64 ((4294967295:Nat):Int)).toNat=_
  rw[BitVec.toNat_and,ACi,ACi]
  have:(n % 18446744073709551616) &&& (4294967295 % 18446744073709551616)=n % 4294967296:=by
    rw[show (4294967295 % 18446744073709551616:Nat)=2 ^ 32-1 by rfl,Nat.and_two_pow_sub_one_eq_mod]
    omega
  rw[this]
  simp[IntKind.wrap,IntKind.bits,IntKind.signed]
  omega
theorem or0 {a b:Nat} (ha:a<18446744073709551616) (hb:b<18446744073709551616):IntKind.u64.wrap (BitVec.ofInt IntKind.u64.bits (a:Int) ||| BitVec.ofInt IntKind.u64.bits (b:Int)).toNat=0↔a=0∧b=0:=by
  show IntKind.u64.wrap (BitVec.ofInt 64 (a:Int) ||| BitVec.ofInt 64 (b:Int)).toNat=0↔_
  have h:=(BitVec.ofInt 64 (a:Int) ||| BitVec.ofInt 64 (b:Int)).isLt
  have e:IntKind.u64.wrap (BitVec.ofInt 64 (a:Int) ||| BitVec.ofInt 64 (b:Int)).toNat=((BitVec.ofInt 64 (a:Int) ||| BitVec.ofInt 64 (b:Int)).toNat:Int):=by
    simp only[IntKind.wrap,IntKind.bits,IntKind.signed,Bool.false_and,Bool.false_eq_true,if_false]
    omega
  rw[e,BitVec.toNat_or,ACi,ACi,Nat.mod_eq_of_lt ha,Nat.mod_eq_of_lt hb]
  constructor
  · intro h
    have h:a ||| b=0:=by omega
    exact Nat.or_eq_zero_iff.1 h
  · rintro⟨rfl,rfl⟩;rfl
theorem Aqh (n:Nat):((n:Int)).fdiv (2 ^ (min (Int.toNat 32) IntKind.u64.bits))=((n / 4294967296:Nat):Int):=by
  rw[show (2:Int) ^ (min (Int.toNat 32) IntKind.u64.bits)=4294967296 by rfl,Int.fdiv_eq_ediv_of_nonneg _ (by omega)]
  rfl
theorem mulN {a b:Nat} {A B:Nat} (ha:a≤A) (hb:b≤B) (h:A*B<18446744073709551616):((a:Int)*(b:Int)) % 18446744073709551616=((a*b:Nat):Int):=by
  have:a*b≤A*B:=Nat.mul_le_mul ha hb
  rw[Int.natCast_mul]
  have h2:((a*b:Nat):Int)<18446744073709551616:=by omega
  rw[← Int.natCast_mul]
  omega
theorem ACj (x0 x1 y0 y1:Nat):(x1*4294967296+x0)*(y1*4294967296+y0)=x1*y1*18446744073709551616+(x1*y0+x0*y1)*4294967296+x0*y0:=by
  rw[Nat.add_mul,Nat.mul_add,Nat.mul_add]
  have e1:x1*4294967296*(y1*4294967296)=x1*y1*18446744073709551616:=by
    rw[Nat.mul_mul_mul_comm]
  have e2:x1*4294967296*y0=x1*y0*4294967296:=by rw[Nat.mul_right_comm]
  have e3:x0*(y1*4294967296)=x0*y1*4294967296:=by rw[Nat.mul_assoc]
  rw[e1,e2,e3]
  omega
theorem ALv {x y:Nat} (hx:x<2^60) (hy:y<2^60):D8 (Dx tab) 299 [.int .u64 x,.int .u64 y] (· =.tup [.int .u64 ((x*y / 18446744073709551616:Nat):Int),.int .u64 ((x*y % 18446744073709551616:Nat):Int)]):=by
  obtain⟨x0,hx0⟩:∃x0,x % 4294967296=x0:=⟨_,rfl⟩
  obtain⟨x1,hx1⟩:∃x1,x / 4294967296=x1:=⟨_,rfl⟩
  obtain⟨y0,hy0⟩:∃y0,y % 4294967296=y0:=⟨_,rfl⟩
  obtain⟨y1,hy1⟩:∃y1,y / 4294967296=y1:=⟨_,rfl⟩
  have bx0:x0≤4294967295:=by omega
  have bx1:x1≤268435455:=by omega
  have by0:y0≤4294967295:=by omega
  have by1:y1≤268435455:=by omega
  have ex:=ACj x0 x1 y0 y1
  rw[show x1*4294967296+x0=x by omega,show y1*4294967296+y0=y by omega]at ex
  have p00:=Nat.mul_le_mul bx0 by0
  have p10:=Nat.mul_le_mul bx1 by0
  have p01:=Nat.mul_le_mul bx0 by1
  have p11:=Nat.mul_le_mul bx1 by1
  refine Lu rfl rfl ?_
  conv=>whnf
  repeat (first|(refine LM (by first|rfl|omega) ?_;conv=>whnf))
  refine KJ ((ALu x).trans (congrArg _ hx0)) ?_
  conv=>whnf
  repeat (first|(refine LM (by first|rfl|omega) ?_;conv=>whnf))
  refine KJ ((Aqh x).trans (congrArg _ hx1)) ?_
  conv=>whnf
  repeat (first|(refine LM (by first|rfl|omega) ?_;conv=>whnf))
  refine KJ ((ALu y).trans (congrArg _ hy0)) ?_
  conv=>whnf
  repeat (first|(refine LM (by first|rfl|omega) ?_;conv=>whnf))
  refine KJ ((Aqh y).trans (congrArg _ hy1)) ?_
  conv=>whnf
  repeat (first|(refine LM (by first|rfl|omega) ?_;conv=>whnf))
  refine wU _ (mulN bx0 by0 (by decide)) ?_
  conv=>whnf
  repeat (first|(refine LM (by first|rfl|omega) ?_;conv=>whnf))
  refine wU _ (mulN bx1 by0 (by decide)) ?_
  conv=>whnf
  repeat (first|(refine LM (by first|rfl|omega) ?_;conv=>whnf))
  refine KJ (Aqh _) ?_
  conv=>whnf
  repeat (first|(refine LM (by first|rfl|omega) ?_;conv=>whnf))
  refine wU ((x1*y0+x0*y0 / 4294967296:Nat):Int) (by omega) ?_
  conv=>whnf
  repeat (first|(refine LM (by first|rfl|omega) ?_;conv=>whnf))
  refine KJ (ALu _) ?_
  conv=>whnf
  repeat (first|(refine LM (by first|rfl|omega) ?_;conv=>whnf))
  refine KJ (Aqh _) ?_
  conv=>whnf
  repeat (first|(refine LM (by first|rfl|omega) ?_;conv=>whnf))
  refine wU _ (mulN bx0 by1 (by decide)) ?_
  conv=>whnf
  repeat (first|(refine LM (by first|rfl|omega) ?_;conv=>whnf))
  refine wU (((x1*y0+x0*y0 / 4294967296) % 4294967296+x0*y1:Nat):Int) (by omega) ?_
  conv=>whnf
  repeat (first|(refine LM (by first|rfl|omega) ?_;conv=>whnf))
  refine wU _ (mulN bx1 by1 (by decide)) ?_
  conv=>whnf
  repeat (first|(refine LM (by first|rfl|omega) ?_;conv=>whnf))
  refine wU ((x1*y1+(x1*y0+x0*y0 / 4294967296) / 4294967296:Nat):Int) (by omega) ?_
  conv=>whnf
  repeat (first|(refine LM (by first|rfl|omega) ?_;conv=>whnf))
  refine KJ (Aqh _) ?_
  conv=>whnf
  repeat (first|(refine LM (by first|rfl|omega) ?_;conv=>whnf))
  refine wU ((x1*y1+(x1*y0+x0*y0 / 4294967296) / 4294967296+((x1*y0+x0*y0 / 4294967296) % 4294967296+x0*y1) / 4294967296:Nat):Int) (by omega) ?_
  conv=>whnf
  repeat (first|(refine LM (by first|rfl|omega) ?_;conv=>whnf))
  refine wU ((x*y % 18446744073709551616:Nat):Int) (by rw[← Int.natCast_mul];omega) ?_
  conv=>whnf
  rw[ex]
  repeat (refine Ez rfl ?_;conv=>whnf)
  have e1:∀z z':Nat,z=z'→∀w:AV,AV.tup [.int .u64 ((z:Nat):Int),w]=.tup [.int .u64 ((z':Nat):Int),w]:=fun z z' h w=>by rw[h]
  exact e1 _ _ (by omega) _
theorem Afz {n:Int} (h:inR n):n.natAbs≤1000000000000000:=by unfold inR at h;omega
theorem AAO {n:Int} (h:inR n):D8 (Dx tab) 300 [.int .i64 n] (· =.int .u64 (n.natAbs:Int)):=by
  unfold inR at h
  refine Lu rfl rfl ?_
  (conv=>whnf);repeat' (first|(refine wU (n+18446744073709551616) (by omega) ?_;conv=>whnf)|(refine wU (n.natAbs:Int) (by omega) ?_;conv=>whnf)|((with_reducible first|apply kN|apply kW|apply kX|apply kG|apply kQ);(· exact sd);conv=>whnf)|(refine DW.mk ?_ ?_<;>intro hc<;>(try rw[List.length_nil]at hc)<;>first|(exfalso;omega)|(exact absurd rfl hc)|conv=>whnf)|(refine CB ?_ ?_<;>intro hc<;>conv=>whnf))
  all_goals first | rfl | (trace_state; fail "sizeP")
theorem Aqi {b:Bool} {m:Nat} {x y:Int} {c:Bool} (h1:b=c) (h2:((m / 18446744073709551616:Nat):Int)=x) (h3:((m % 18446744073709551616:Nat):Int)=y):AV.agg [.bool c,.int .u64 x,.int .u64 y]=wd b m:=by
  subst h1 h2 h3;rfl
theorem Aqf {a b:Int} (ha:inR a) (hb:inR b):D8 (Dx tab) 282 [.int .i64 a,.int .i64 b] (· =wd (decide (a<0) != decide (b<0)) (a.natAbs*b.natAbs)):=by
  have h1:=Afz ha
  have h2:=Afz hb
  have h3:=ALv (x:=a.natAbs) (y:=b.natAbs) (by omega) (by omega)
  refine Lu rfl rfl ?_
  (conv=>whnf);repeat' (first|(refine BM (AAO ha) ?_;rintro _ rfl;conv=>whnf)|(refine BM (AAO hb) ?_;rintro _ rfl;conv=>whnf)|(refine BM h3 ?_;rintro _ rfl;conv=>whnf)|((with_reducible first|apply kN|apply kW|apply kX|apply kG|apply kQ);(· exact sd);conv=>whnf)|(refine DW.mk ?_ ?_<;>intro hc<;>(try rw[List.length_nil]at hc)<;>first|(exfalso;omega)|(exact absurd rfl hc)|conv=>whnf)|(refine CB ?_ ?_<;>intro hc<;>conv=>whnf))
  all_goals first
    |exact Aqi (by rw[decide_eq_true (show a<0 by omega),decide_eq_true (show b<0 by omega)];rfl) rfl rfl
    |exact Aqi (by rw[decide_eq_true (show a<0 by omega),decide_eq_false (show ¬b<0 by omega)];rfl) rfl rfl
    |exact Aqi (by rw[decide_eq_false (show ¬a<0 by omega),decide_eq_true (show b<0 by omega)];rfl) rfl rfl
    |exact Aqi (by rw[decide_eq_false (show ¬a<0 by omega),decide_eq_false (show ¬b<0 by omega)];rfl) rfl rfl
    | (trace_state; fail "productP")
theorem ARz {x y c:Nat} (hc:c≤1):D8 (Dx tab) 301 [.int .u64 x,.int .u64 y,.int .u64 c] (· =.tup [.int .u64 (((x+y+c) % 18446744073709551616:Nat):Int),.int .u64 (((x+y+c) / 18446744073709551616:Nat):Int)]):=by
  refine Ay4 (sp:=addSpec) (v:=.tup [.int .u64 (((x+y+c) % 18446744073709551616:Nat):Int),.int .u64 (((x+y+c) / 18446744073709551616:Nat):Int)]) (s:=⟨[],0⟩) rfl ?_ rfl rfl
  show(if 0≤(x:Int)∧0≤(y:Int)∧0≤(c:Int)∧(c:Int)≤1 then _ else _)=_
  rw[if_pos ⟨by omega,by omega,by omega,by omega⟩]
  rfl
theorem ACk {x y c:Nat} (hc:c≤1) (h:y+c≤x+18446744073709551616):D8 (Dx tab) 303 [.int .u64 x,.int .u64 y,.int .u64 c] (· =.tup [.int .u64 (((x+18446744073709551616-y-c) % 18446744073709551616:Nat):Int),.int .u64 ((if x<y+c then 1 else 0:Nat):Int)]):=by
  refine Ay4 (sp:=AyA) (v:=.tup [.int .u64 (((x+18446744073709551616-y-c) % 18446744073709551616:Nat):Int),.int .u64 ((if x<y+c then 1 else 0:Nat):Int)]) (s:=⟨[],0⟩) rfl ?_ rfl rfl
  show(if 0≤(x:Int)∧0≤(y:Int)∧0≤(c:Int)∧(c:Int)≤1∧(y:Int)+c≤x+m64 then _ else _)=_
  rw[if_pos ⟨by omega,by omega,by omega,by omega,by unfold m64;omega⟩]
  have e1:((x:Int)+m64-y-c) % m64=(((x+18446744073709551616-y-c) % 18446744073709551616:Nat):Int):=by
    unfold m64;omega
  have e2:(if (x:Int)<y+c then(1:Int)else 0)=((if x<y+c then 1 else 0:Nat):Int):=by
    split<;>split<;>omega
  rw[e1,e2]
theorem AAP {a b:Bool} {m n:Nat}:D8 (Dx tab) 302 [wd a m,wd b n] (· =.bool (decide (m<n))):=by
  refine Lu rfl rfl ?_
  (conv=>whnf);repeat' (first  |((with_reducible first|apply kN|apply kW|apply kX|apply kG|apply kQ);(· exact sd);conv=>whnf)|(refine DW.mk ?_ ?_<;>intro hc<;>(try rw[List.length_nil]at hc)<;>first|(exfalso;omega)|(exact absurd rfl hc)|conv=>whnf)|(refine CB ?_ ?_<;>intro hc<;>conv=>whnf))
  all_goals first | exact Lp (by omega) | exact Hf (by omega) | (trace_state; fail "lessP")
def Aw5 (a:Bool) (m:Nat) (b:Bool) (n:Nat):AV:=if a=b then wd a (m+n)else if m<n then wd b (n-m)else wd a (m-n)
theorem ARr {a b:Bool} {m n:Nat} (hm:m<2^120) (hn:n<2^120):D8 (Dx tab) 283 [wd a m,wd b n] (· =Aw5 a m b n):=by
  have c1:=ARz (x:=m % 18446744073709551616) (y:=n % 18446744073709551616) (c:=0) (by omega)
  have c2:=ARz (x:=m / 18446744073709551616) (y:=n / 18446744073709551616) (c:=(m % 18446744073709551616+n % 18446744073709551616+0) / 18446744073709551616) (by omega)
  have d1:=ACk (x:=m % 18446744073709551616) (y:=n % 18446744073709551616) (c:=0) (by omega) (by omega)
  have d2:=ACk (x:=m / 18446744073709551616) (y:=n / 18446744073709551616) (c:=if m % 18446744073709551616<n % 18446744073709551616+0 then 1 else 0) (by split<;>omega) (by split<;>omega)
  have f1:=ACk (x:=n % 18446744073709551616) (y:=m % 18446744073709551616) (c:=0) (by omega) (by omega)
  have f2:=ACk (x:=n / 18446744073709551616) (y:=m / 18446744073709551616) (c:=if n % 18446744073709551616<m % 18446744073709551616+0 then 1 else 0) (by split<;>omega) (by split<;>omega)
  by_cases hab:a=b
  · have e:Aw5 a m b n=wd a (m+n):=if_pos hab
    rw[e]
    subst hab
    cases a
    all_goals
      refine Lu rfl rfl ?_
      (conv=>whnf);repeat' (first|(refine BM c1 ?_;rintro _ rfl;conv=>whnf)|(refine BM c2 ?_;rintro _ rfl;conv=>whnf)|((with_reducible first|apply kN|apply kW|apply kX|apply kG|apply kQ);(· exact sd);conv=>whnf)|(refine DW.mk ?_ ?_<;>intro hc<;>(try rw[List.length_nil]at hc)<;>first|(exfalso;omega)|(exact absurd rfl hc)|conv=>whnf)|(refine CB ?_ ?_<;>intro hc<;>conv=>whnf))
      all_goals first | (show AV.agg [.bool _, .int .u64 ((_ : Nat) : Int), .int .u64 ((_ : Nat) : Int)] = wd _ _; exact Aqi rfl (by omega) (by omega)) | (trace_state; fail "plusA")
  by_cases hlt:m<n
  · have e:Aw5 a m b n=wd b (n-m):=by unfold Aw5;rw[if_neg hab,if_pos hlt]
    have hl:D8 (Dx tab) 302 [wd a m,wd b n] (· =.bool true):=by
      have:=AAP (a:=a) (b:=b) (m:=m) (n:=n);rwa [decide_eq_true hlt]at this
    rw[e]
    cases a<;>cases b<;>(try exact absurd rfl hab)
    all_goals
      refine Lu rfl rfl ?_
      (conv=>whnf);repeat' (first|(refine BM hl ?_;rintro _ rfl;conv=>whnf)|(refine BM f1 ?_;rintro _ rfl;conv=>whnf)|(refine BM f2 ?_;rintro _ rfl;conv=>whnf)|((with_reducible first|apply kN|apply kW|apply kX|apply kG|apply kQ);(· exact sd);conv=>whnf)|(refine DW.mk ?_ ?_<;>intro hc<;>(try rw[List.length_nil]at hc)<;>first|(exfalso;omega)|(exact absurd rfl hc)|conv=>whnf)|(refine CB ?_ ?_<;>intro hc<;>conv=>whnf))
      all_goals first | (show AV.agg [.bool _, .int .u64 ((_ : Nat) : Int), .int .u64 ((_ : Nat) : Int)] = wd _ _; exact Aqi rfl (by split <;> omega) (by omega)) | (trace_state; fail "plusB")
  · have e:Aw5 a m b n=wd a (m-n):=by unfold Aw5;rw[if_neg hab,if_neg hlt]
    have hl:D8 (Dx tab) 302 [wd a m,wd b n] (· =.bool false):=by
      have:=AAP (a:=a) (b:=b) (m:=m) (n:=n);rwa [decide_eq_false hlt]at this
    rw[e]
    cases a<;>cases b<;>(try exact absurd rfl hab)
    all_goals
      refine Lu rfl rfl ?_
      (conv=>whnf);repeat' (first|(refine BM hl ?_;rintro _ rfl;conv=>whnf)|(refine BM d1 ?_;rintro _ rfl;conv=>whnf)|(refine BM d2 ?_;rintro _ rfl;conv=>whnf)|((with_reducible first|apply kN|apply kW|apply kX|apply kG|apply kQ);(· exact sd);conv=>whnf)|(refine DW.mk ?_ ?_<;>intro hc<;>(try rw[List.length_nil]at hc)<;>first|(exfalso;omega)|(exact absurd rfl hc)|conv=>whnf)|(refine CB ?_ ?_<;>intro hc<;>conv=>whnf))
      all_goals first | (show AV.agg [.bool _, .int .u64 ((_ : Nat) : Int), .int .u64 ((_ : Nat) : Int)] = wd _ _; exact Aqi rfl (by split <;> omega) (by omega)) | (trace_state; fail "plusC")
def sgW (a:Bool) (m:Nat):Int:=if m=0 then 0 else if a=true then -1 else 1
theorem AHk {a:Bool} {m:Nat} (hm:m<2^127):D8 (Dx tab) 284 [wd a m] (· =.int .i64 (sgW a m)):=by
  obtain⟨z,hz,hz0⟩:∃z,IntKind.u64.wrap (BitVec.ofInt IntKind.u64.bits ((m / 18446744073709551616:Nat):Int) ||| BitVec.ofInt IntKind.u64.bits ((m % 18446744073709551616:Nat):Int)).toNat=z∧(z=0↔m=0):=⟨_,rfl,by
    rw[or0 (by omega) (by omega)];omega⟩
  refine Lu rfl rfl ?_
  (conv=>whnf);repeat' (first|(refine KJ hz ?_;conv=>whnf)|((with_reducible first|apply kN|apply kW|apply kX|apply kG|apply kQ);(· exact sd);conv=>whnf)|(refine DW.mk ?_ ?_<;>intro hc<;>(try rw[List.length_nil]at hc)<;>first|(exfalso;omega)|(exact absurd rfl hc)|conv=>whnf)|(refine CB ?_ ?_<;>intro hc<;>conv=>whnf))
  all_goals first
    |exact congrArg (AV.int .i64) (by unfold sgW;rw[if_pos (by omega)])
    |exact congrArg (AV.int .i64) (by unfold sgW;rw[if_neg (by omega),if_pos (by assumption)])
    |exact congrArg (AV.int .i64) (by unfold sgW;rw[if_neg (by omega)];simp_all)
    | (trace_state; fail "signP")
theorem Amk {l:List AV} (h:∀x∈l,Like Tryz.prog 48 x) (i:Nat):
    ∃g:GV,∀hi:i<l.length,nth l (Int.toNat (Nat.cast i))=some g.av∧l[i]=g.av∧g.ok:=by
  by_cases hi:i<l.length
  · obtain⟨g,e,hg⟩:=like_value (h _ (List.getElem_mem hi))
    exact⟨g,fun _=>⟨by rw[← e];exact nR hi,e,hg⟩⟩
  · exact⟨⟨0,0,0,[],true,[]⟩,fun h=>absurd h hi⟩
end AI
end Go.Proofs.YtnbibfalljlmfaaGreatDoor
