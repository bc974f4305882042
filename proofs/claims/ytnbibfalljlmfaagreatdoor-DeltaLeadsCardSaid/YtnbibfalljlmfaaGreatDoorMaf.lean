/- The arguments of the graph laws, taken apart: values, properties, nodes, edges, graphs. A value in a list of values. What a change leaves alone: plain. Changes as arguments. Looking for the first. The reference looks up nodes and edges. The budget of a graph; names and types; entries. Looking for the first: good properties. Small values. A value cloned reads as the value. Clones: they read as what was cloned. The program looks up nodes and edges. Comparing two numbers. -/
import Derived.Test.YtnbibfalljlmfaaGreatDoorMab
import Derived.Test.YtnbibfalljlmfaaGreatDoorMaa
import Derived.Test.YtnbibfalljlmfaaGreatDoorGrCode
set_option linter.unusedVariables false
set_option maxRecDepth 4000
namespace Go.Proofs.YtnbibfalljlmfaaGreatDoor
namespace AI
structure GV where
  k:Int
  n:Int
  d:Int
  s:List UInt8
  nn:Bool
  l:List AV
def GV.av (v:GV):AV:=.agg [.int .i64 v.k,.int .i64 v.n,.int .i64 v.d,.str v.s,.sl v.nn v.l]
structure GP where
  key:List UInt8
  v:GV
def GP.av (p:GP):AV:=.agg [.str p.key,.int .i64 p.v.k,.int .i64 p.v.n,.int .i64 p.v.d,.str p.v.s,.sl p.v.nn p.v.l]
structure GN where
  id:Int
  ln:Bool
  labels:List (List UInt8)
  pn:Bool
  props:List GP
def GN.av (n:GN):AV:=.agg [.int .i64 n.id,.sl n.ln (vs .str n.labels),.sl n.pn (vs GP.av n.props)]
structure GE where
  id:Int
  fr:Int
  to:Int
  ty:List UInt8
  pn:Bool
  props:List GP
def GE.av (n:GE):AV:=.agg [.int .i64 n.id,.int .i64 n.fr,.int .i64 n.to,.str n.ty,.sl n.pn (vs GP.av n.props)]
structure GG where
  nn:Bool
  nodes:List GN
  en:Bool
  edges:List GE
  AeT:Int
  Afg:Int
def GG.av (g:GG):AV:=.agg [.sl g.nn (vs GN.av g.nodes),.sl g.en (vs GE.av g.edges),.int .i64 g.AeT,.int .i64 g.Afg]
def I64 (z:Int):Prop:=-2^63≤z∧z<2^63
def Ln {α:Type} (l:List α):Prop:=l.length<2^63
def GV.ok (v:GV):Prop:=I64 v.k∧I64 v.n∧I64 v.d∧Ln v.s∧Ln v.l∧(v.nn=false→v.l=[])∧∀x∈v.l,Like Tryz.prog 48 x
def GP.ok (p:GP):Prop:=Ln p.key∧p.v.ok
def GN.ok (n:GN):Prop:=I64 n.id∧Ln n.labels∧(n.ln=false→n.labels=[])∧(∀ s∈n.labels,Ln s)∧Ln n.props∧(n.pn=false→n.props=[])∧∀p∈n.props,p.ok
def GE.ok (e:GE):Prop:=I64 e.id∧I64 e.fr∧I64 e.to∧Ln e.ty∧Ln e.props∧(e.pn=false→e.props=[])∧∀p∈e.props,p.ok
def GG.ok (g:GG):Prop:=Ln g.nodes∧(g.nn=false→g.nodes=[])∧(∀ n∈g.nodes,n.ok)∧Ln g.edges∧(g.en=false→g.edges=[])∧(∀ e∈g.edges,e.ok)∧I64 g.AeT∧I64 g.Afg
theorem Az5:Tryz.prog.cellsOf 3=1:=by kernel_rfl
theorem Apz:Tryz.prog.cellsOf 9=1:=by kernel_rfl
theorem c_strings:Tryz.prog.cellsOf 61=1:=by kernel_rfl
theorem AQ0:Tryz.prog.cellsOf 46=1:=by kernel_rfl
theorem AuB:Tryz.prog.cellsOf 48=5:=by kernel_rfl
theorem c_prop:Tryz.prog.cellsOf 79=6:=by kernel_rfl
theorem c_props:Tryz.prog.cellsOf 62=1:=by kernel_rfl
theorem c_node:Tryz.prog.cellsOf 64=3:=by kernel_rfl
theorem AUa:Tryz.prog.cellsOf 22=1:=by kernel_rfl
theorem c_edge:Tryz.prog.cellsOf 81=5:=by kernel_rfl
theorem AUb:Tryz.prog.cellsOf 23=1:=by kernel_rfl
theorem ACb:Tryz.prog.cellsOf 25=4:=by kernel_rfl
theorem len3 {l:List AV} (h:l.length=3):∃a b c,l=[a,b,c]:=by
  rcases l with _|⟨a,_|⟨b,_|⟨c,_|⟨d,r⟩⟩⟩⟩<;>simp at h
  exact⟨a,b,c,rfl⟩
theorem AXZ {l:List AV} (h:l.length=4):∃a b c d,l=[a,b,c,d]:=by
  rcases l with _|⟨a,_|⟨b,_|⟨c,_|⟨d,_|⟨e,r⟩⟩⟩⟩⟩<;>simp at h
  exact⟨a,b,c,d,rfl⟩
theorem AXY {l:List AV} (h:l.length=5):∃a b c d e,l=[a,b,c,d,e]:=by
  rcases l with _|⟨a,_|⟨b,_|⟨c,_|⟨d,_|⟨e,_|⟨f,r⟩⟩⟩⟩⟩⟩<;>simp at h
  exact⟨a,b,c,d,e,rfl⟩
theorem len6 {l:List AV} (h:l.length=6):∃a b c d e f,l=[a,b,c,d,e,f]:=by
  rcases l with _|⟨a,_|⟨b,_|⟨c,_|⟨d,_|⟨e,_|⟨f,_|⟨g,r⟩⟩⟩⟩⟩⟩⟩<;>simp at h
  exact⟨a,b,c,d,e,f,rfl⟩
theorem i64_of {n:Int} (h:(Lit.int .i64 n).wf=true):I64 n:=by
  simp[Lit.wf]at h
  have h1:IntKind.i64.min=-2^63:=by rfl
  have h2:IntKind.i64.max=2^63-1:=by rfl
  unfold I64
  omega
theorem AQL {α:Type} {l:List α} (h:l.length≤maxLen):Ln l:=by unfold Ln;have:=maxLen_lt;omega
theorem Ai2 {d:Nat} {cs:List AV} (h:AG5 Tryz.prog d 3 cs):∃n,cs=[.int .i64 n]∧I64 n:=by
  obtain⟨k,e1,h1⟩:=likeC_int Tryz.underlying3 h
  exact⟨k,e1,i64_of h1⟩
theorem Ai1 {d:Nat} {cs:List AV} (h:AG5 Tryz.prog d 9 cs):∃n,cs=[.str n]∧Ln n:=by
  obtain⟨k,e1,h1⟩:=likeC_string Tryz.underlying9 h
  exact⟨k,e1,AQL h1⟩
theorem Aom {d:Nat} {cs:List AV} (h:AG5 Tryz.prog d 48 cs):∃v:GV,cs=[.int .i64 v.k,.int .i64 v.n,.int .i64 v.d,.str v.s,.sl v.nn v.l]∧v.ok:=by
  obtain⟨d',rfl,g1,g2⟩:=AdY Tryz.underlying48 h
  rw[AuB]at g1
  obtain⟨a,b,c,e,f,rfl⟩:=AXY g1
  clear g1
  simp only[List.forall_mem_cons]at g2
  obtain⟨f1,f2,f3,f4,f5,_⟩:=g2
  simp only[Az5,Apz,AQ0,List.drop_zero,List.drop_succ_cons,List.take_succ_cons,List.take_zero]at f1 f2 f3 f4 f5
  obtain⟨k,e1,h1⟩:=Ai2 f1
  obtain⟨n,e2,h2⟩:=Ai2 f2
  obtain⟨m,e3,h3⟩:=Ai2 f3
  obtain⟨s,e4,h4⟩:=Ai1 f4
  obtain⟨d'',_,nl,xs,e5,h5,h6,h7⟩:=AHf Tryz.underlying46 f5
  cases e1;cases e2;cases e3;cases e4;cases e5
  exact⟨⟨k,n,m,s,nl,xs⟩,rfl,h1,h2,h3,h4,AQL h6,h5,fun x hx=>⟨_,h7 x hx⟩⟩
theorem like_value {a:AV} (h:Like Tryz.prog 48 a):∃v:GV,a=v.av∧v.ok:=by
  obtain⟨d,h⟩:=h
  obtain⟨cs,rfl,h0⟩:=AeQ Tryz.underlying48 h
  obtain⟨v,rfl,h1⟩:=Aom h0
  exact⟨v,rfl,h1⟩
theorem like_prop {d:Nat} {a:AV} (h:like Tryz.prog d 79 a):∃v:GP,a=v.av∧v.ok:=by
  obtain⟨cs,rfl,h0⟩:=AeQ Tryz.underlying79 h
  obtain⟨d',rfl,g1,g2⟩:=AdY Tryz.underlying79 h0
  rw[c_prop]at g1
  obtain⟨a,b,c,e,f,g,rfl⟩:=len6 g1
  clear g1
  simp only[List.forall_mem_cons]at g2
  obtain⟨f1,f2,_⟩:=g2
  simp only[Apz,AuB,List.drop_zero,List.drop_succ_cons,List.take_succ_cons,List.take_zero]at f1 f2
  obtain⟨s,e1,h1⟩:=Ai1 f1
  obtain⟨v,e2,h2⟩:=Aom f2
  cases e1;cases e2
  exact⟨⟨s,v⟩,rfl,h1,h2⟩
theorem Aue {α:Type} {f:α→AV} {Q:α→Prop} {d:Nat} {t e:TypeId} {cs:List AV} (hu:Tryz.prog.underlying t=some (.slice e)) (he:∀d x,like Tryz.prog d e x→∃y,x=f y∧Q y) (h:AG5 Tryz.prog d t cs):
    ∃nn l,cs=[.sl nn (vs f l)]∧(nn=false→l=[])∧Ln l∧∀y∈l,Q y:=by
  obtain⟨d',rfl,nn,xs,rfl,h0,h1,h2⟩:=AHf hu h
  obtain⟨l,rfl,h3⟩:=exists_map (f:=f) (Q:=Q) fun x hx=>he d' x (h2 x hx)
  exact⟨nn,l,rfl,fun h=>by have:=h0 h;simpa using this,AQL (by simpa using h1),h3⟩
theorem AwM {d:Nat} {a:AV} (h:like Tryz.prog d 9 a):∃s:List UInt8,a=.str s∧Ln s:=by
  obtain⟨k,e1,h1⟩:=like_string Tryz.underlying9 h
  exact⟨k,e1,AQL h1⟩
theorem APd {d:Nat} {a:AV} (h:like Tryz.prog d 64 a):∃v:GN,a=v.av∧v.ok:=by
  obtain⟨cs,rfl,h0⟩:=AeQ Tryz.underlying64 h
  obtain⟨d',rfl,g1,g2⟩:=AdY Tryz.underlying64 h0
  rw[c_node]at g1
  obtain⟨a,b,c,rfl⟩:=len3 g1
  clear g1
  simp only[List.forall_mem_cons]at g2
  obtain⟨f1,f2,f3,_⟩:=g2
  simp only[Az5,c_strings,c_props,List.drop_zero,List.drop_succ_cons,List.take_succ_cons,List.take_zero]at f1 f2 f3
  obtain⟨s,e1,h1⟩:=Ai2 f1
  obtain⟨ln,L,e2,h2,h2a,h2b⟩:=Aue (f:=.str) (Q:=Ln) Tryz.underlying61 (fun d x h=>AwM h) f2
  obtain⟨pn,P,e3,h3,h3a,h3b⟩:=Aue (f:=GP.av) (Q:=GP.ok) Tryz.underlying62 (fun d x h=>like_prop h) f3
  cases e1;cases e2;cases e3
  exact⟨⟨s,ln,L,pn,P⟩,rfl,h1,h2a,h2,h2b,h3a,h3,h3b⟩
theorem APe {d:Nat} {a:AV} (h:like Tryz.prog d 81 a):∃v:GE,a=v.av∧v.ok:=by
  obtain⟨cs,rfl,h0⟩:=AeQ Tryz.underlying81 h
  obtain⟨d',rfl,g1,g2⟩:=AdY Tryz.underlying81 h0
  rw[c_edge]at g1
  obtain⟨a,b,c,e,f,rfl⟩:=AXY g1
  clear g1
  simp only[List.forall_mem_cons]at g2
  obtain⟨f1,f2,f3,f4,f5,_⟩:=g2
  simp only[Az5,Apz,c_props,List.drop_zero,List.drop_succ_cons,List.take_succ_cons,List.take_zero]at f1 f2 f3 f4 f5
  obtain⟨k,e1,h1⟩:=Ai2 f1
  obtain⟨n,e2,h2⟩:=Ai2 f2
  obtain⟨m,e3,h3⟩:=Ai2 f3
  obtain⟨s,e4,h4⟩:=Ai1 f4
  obtain⟨pn,P,e5,h5,h5a,h5b⟩:=Aue (f:=GP.av) (Q:=GP.ok) Tryz.underlying62 (fun d x h=>like_prop h) f5
  cases e1;cases e2;cases e3;cases e4;cases e5
  exact⟨⟨k,n,m,s,pn,P⟩,rfl,h1,h2,h3,h4,h5a,h5,h5b⟩
theorem AbE {a:AV} (h:Like Tryz.prog 25 a):∃v:GG,a=v.av∧v.ok:=by
  obtain⟨d,h⟩:=h
  obtain⟨cs,rfl,h0⟩:=AeQ Tryz.underlying25 h
  obtain⟨d',rfl,g1,g2⟩:=AdY Tryz.underlying25 h0
  rw[ACb]at g1
  obtain⟨a,b,c,e,rfl⟩:=AXZ g1
  clear g1
  simp only[List.forall_mem_cons]at g2
  obtain⟨f1,f2,f3,f4,_⟩:=g2
  simp only[Az5,AUa,AUb,List.drop_zero,List.drop_succ_cons,List.take_succ_cons,List.take_zero]at f1 f2 f3 f4
  obtain⟨nn,N,e1,h1,h1a,h1b⟩:=Aue (f:=GN.av) (Q:=GN.ok) Tryz.underlying22 (fun d x h=>APd h) f1
  obtain⟨en,E,e2,h2,h2a,h2b⟩:=Aue (f:=GE.av) (Q:=GE.ok) Tryz.underlying23 (fun d x h=>APe h) f2
  obtain⟨m,e3,h3⟩:=Ai2 f3
  obtain⟨k,e4,h4⟩:=Ai2 f4
  cases e1;cases e2;cases e3;cases e4
  exact⟨⟨nn,N,en,E,m,k⟩,rfl,h1a,h1,h1b,h2a,h2,h2b,h3,h4⟩
theorem Amk {l:List AV} (h:∀x∈l,Like Tryz.prog 48 x) (i:Nat):
    ∃g:GV,∀hi:i<l.length,nth l (Int.toNat (Nat.cast i))=some g.av∧l[i]=g.av∧g.ok:=by
  by_cases hi:i<l.length
  · obtain⟨g,e,hg⟩:=like_value (h _ (List.getElem_mem hi))
    exact⟨g,fun _=>⟨by rw[← e];exact nR hi,e,hg⟩⟩
  · exact⟨⟨0,0,0,[],true,[]⟩,fun h=>absurd h hi⟩
structure GC where
  op:Int
  id:Int
  fr:Int
  to:Int
  name:List UInt8
  v:GV
def GC.av (c:GC):AV:=.agg [.int .i64 c.op,.int .i64 c.id,.int .i64 c.fr,.int .i64 c.to,.str c.name,.int .i64 c.v.k,.int .i64 c.v.n,.int .i64 c.v.d,.str c.v.s,.sl c.v.nn c.v.l]
def GC.ok (c:GC):Prop:=I64 c.op∧I64 c.id∧I64 c.fr∧I64 c.to∧Ln c.name∧c.v.ok
def keepN (ns:List Int) (N:List GN):List GN:=N.filter fun n=>decide (n.id∉ns)
def keepE (es:List Int) (E:List GE):List GE:=E.filter fun e=>decide (e.id∉es)
theorem keepN_app {ns:List Int} {A B:List GN}:keepN ns (A++B)=keepN ns A++keepN ns B:=List.filter_append ..
theorem keepE_app {ns:List Int} {A B:List GE}:keepE ns (A++B)=keepE ns A++keepE ns B:=List.filter_append ..
theorem keepN_in {ns:List Int} {n:GN} (h:n.id∈ns):keepN ns [n]=[]:=by simp[keepN,h]
theorem keepE_in {ns:List Int} {n:GE} (h:n.id∈ns):keepE ns [n]=[]:=by simp[keepE,h]
theorem keepN_succ {ns:List Int} {N:List GN} {i:Nat} (h:i<N.length):keepN ns (N.take (i+1))=keepN ns (N.take i)++keepN ns [N[i]]:=by
  rw[List.take_succ_eq_append_getElem h,keepN_app]
theorem keepE_succ {ns:List Int} {N:List GE} {i:Nat} (h:i<N.length):keepE ns (N.take (i+1))=keepE ns (N.take i)++keepE ns [N[i]]:=by
  rw[List.take_succ_eq_append_getElem h,keepE_app]
theorem keepN_no {ns:List Int} {L N:List GN} {n:GN} (h:keepN ns L=keepN ns N) (hn:n.id∈ns):keepN ns (L++[n])=keepN ns N:=by
  rw[keepN_app,keepN_in hn,List.append_nil,h]
theorem keepE_no {ns:List Int} {L N:List GE} {n:GE} (h:keepE ns L=keepE ns N) (hn:n.id∈ns):keepE ns (L++[n])=keepE ns N:=by
  rw[keepE_app,keepE_in hn,List.append_nil,h]
theorem keepN_yes {ns:List Int} {L N:List GN} {i:Nat} (hi:i<N.length) (h:keepN ns L=keepN ns (N.take i)):keepN ns (L++[N[i]])=keepN ns (N.take (i+1)):=by
  rw[keepN_app,keepN_succ hi,h]
theorem keepE_yes {ns:List Int} {L N:List GE} {i:Nat} (hi:i<N.length) (h:keepE ns L=keepE ns (N.take i)):keepE ns (L++[N[i]])=keepE ns (N.take (i+1)):=by
  rw[keepE_app,keepE_succ hi,h]
theorem keepN_out {ns:List Int} {L N:List GN} {i:Nat} (hi:i<N.length) (h:keepN ns L=keepN ns (N.take i)) (hn:(N[i]).id∈ns):keepN ns L=keepN ns (N.take (i+1)):=by
  rw[keepN_succ hi,keepN_in hn,List.append_nil,h]
theorem keepE_out {ns:List Int} {L N:List GE} {i:Nat} (hi:i<N.length) (h:keepE ns L=keepE ns (N.take i)) (hn:(N[i]).id∈ns):keepE ns L=keepE ns (N.take (i+1)):=by
  rw[keepE_succ hi,keepE_in hn,List.append_nil,h]
theorem Az6:∀n:GN,n.av.cells.length=3:=fun _=>rfl
theorem cellsE:∀n:GE,n.av.cells.length=5:=fun _=>rfl
theorem cellsP:∀n:GP,n.av.cells.length=6:=fun _=>rfl
def FewN (n:GN):Prop:=n.ok∧n.labels.length≤2000∧n.props.length≤2000
def FewE (n:GE):Prop:=n.ok∧n.props.length≤2000
def FewG (a b:Nat) (g:GG):Prop:=g.ok∧g.nodes.length≤a∧g.edges.length≤b∧(∀ n∈g.nodes,FewN n)∧∀e∈g.edges,FewE e
def Spares (ns es:List Int) (g h:GG):Prop:=keepN ns h.nodes=keepN ns g.nodes∧keepE es h.edges=keepE es g.edges
theorem Spares.refl (ns es:List Int) (g:GG):Spares ns es g g:=⟨rfl,rfl⟩
theorem Spares.trans {ns es:List Int} {g h k:GG} (h1:Spares ns es g h) (h2:Spares ns es h k):Spares ns es g k:=⟨h2.1.trans h1.1,h2.2.trans h1.2⟩
def AVq {α:Type} (p:α→Bool) (z:α) (l:List α):α:=(l.find? p).getD z
theorem Aca {α:Type} {p:α→Bool} {l:List α} {i:Nat} (hi:i<l.length) (h:∀x∈l.take i,p x=false) (hp:p l[i]=true):l.find? p=some l[i]:=by
  have e:l=l.take i++l[i]::l.drop (i+1):=by rw[← List.drop_eq_getElem_cons hi,List.take_append_drop]
  have h1:(l.take i).find? p=none:=List.find?_eq_none.2 fun x hx=>by simp[h x hx]
  refine(congrArg (List.find? p) e).trans ?_
  rw[List.find?_append,h1,List.find?_cons_of_pos hp]
  rfl
theorem Acb {α:Type} {p:α→Bool} {l:List α} (h:∀x∈l,p x=false):l.find? p=none:=List.find?_eq_none.2 fun x hx=>by simp[h x hx]
theorem Acd {α:Type} {p:α→Bool} {l:List α} {i:Nat} (hi:i<l.length) (h:∀x∈l.take i,p x=false) (hp:p l[i]=false):∀x∈l.take (i+1),p x=false:=AfD hi h hp
def N0:GN:=⟨0,false,[],false,[]⟩
def E0:GE:=⟨0,0,0,[],false,[]⟩
def isN (id:Int) (n:GN):Bool:=decide (n.id=id)
def isE (id:Int) (n:GE):Bool:=decide (n.id=id)
def Yk (l:List GN) (id:Int):AV:=match l.find? (isN id)with
  |some n=>.tup [n.av,.bool true]
  |none=>.tup [N0.av,.bool false]
def Yn (l:List GE) (id:Int):AV:=match l.find? (isE id)with
  |some n=>.tup [n.av,.bool true]
  |none=>.tup [E0.av,.bool false]
theorem AzU {g:GG} (hl:g.nodes.length<2^63) {id:Int}:D8 (Dx tab) 68 [g.av,.int .i64 id] (· =Yk g.nodes id):=by
  refine Lu rfl rfl ?_
  (conv=>whnf);repeat' (first|((with_reducible first|apply kN|apply kW|apply kX|apply kG|apply kQ);(· exact sd);conv=>whnf)|(refine DW.mk ?_ ?_<;>intro hc<;>(try rw[List.length_nil]at hc)<;>first|(exfalso;omega)|(exact absurd rfl hc)|conv=>whnf)  |(refine CB ?_ ?_<;>intro hc<;>conv=>whnf))
  refine DK (fun m env s=>∃i:Nat,m=g.nodes.length-i∧(∀ x∈g.nodes.take i,isN id x=false)∧env=[(1,.int .i64 id),(2,.ref 0 0 0 0),(4,.ref 1 1 0 0),(6,.int .i64 i)]∧s=⟨[.arr 0 4 true true [g.av],.arr 1 3 true true [.agg [.int .i64 0,.sl false [],.sl false []]]],2⟩) ?_ _ _ _ ⟨0,rfl,by simp,rfl,rfl⟩
  rintro _ _ _ ⟨i,rfl,hx,rfl,rfl⟩
  refine⟨rfl,?_⟩
  (conv=>whnf);repeat' (first|((with_reducible first|apply kN|apply kW|apply kX|apply kG|apply kQ);(· exact sd);conv=>whnf)|(refine DW.mk ?_ ?_<;>intro hc<;>(try rw[List.length_nil]at hc)<;>first|(exfalso;omega)|(exact absurd rfl hc)|conv=>whnf)  |(refine CB ?_ ?_<;>intro hc<;>conv=>whnf))
  · rw[Yk,Aca (by omega) hx (decide_eq_true hc)];rfl
  · exact again.mk ⟨_,by omega,i+1,rfl,Acd (by omega) hx (decide_eq_false hc),rfl,rfl⟩
  · rw[TP hc]at hx
    rw[Yk,Acb hx];rfl
theorem AzW {g:GG} (hl:g.edges.length<2^63) {id:Int}:D8 (Dx tab) 91 [g.av,.int .i64 id] (· =Yn g.edges id):=by
  refine Lu rfl rfl ?_
  (conv=>whnf);repeat' (first|((with_reducible first|apply kN|apply kW|apply kX|apply kG|apply kQ);(· exact sd);conv=>whnf)|(refine DW.mk ?_ ?_<;>intro hc<;>(try rw[List.length_nil]at hc)<;>first|(exfalso;omega)|(exact absurd rfl hc)|conv=>whnf)  |(refine CB ?_ ?_<;>intro hc<;>conv=>whnf))
  refine DK (fun m env s=>∃i:Nat,m=g.edges.length-i∧(∀ x∈g.edges.take i,isE id x=false)∧env=[(1,.int .i64 id),(2,.ref 0 0 0 0),(4,.ref 1 1 0 0),(6,.int .i64 i)]∧s=⟨[.arr 0 4 true true [g.av],.arr 1 5 true true [.agg [.int .i64 0,.int .i64 0,.int .i64 0,.str [],.sl false []]]],2⟩) ?_ _ _ _ ⟨0,rfl,by simp,rfl,rfl⟩
  rintro _ _ _ ⟨i,rfl,hx,rfl,rfl⟩
  refine⟨rfl,?_⟩
  (conv=>whnf);repeat' (first|((with_reducible first|apply kN|apply kW|apply kX|apply kG|apply kQ);(· exact sd);conv=>whnf)|(refine DW.mk ?_ ?_<;>intro hc<;>(try rw[List.length_nil]at hc)<;>first|(exfalso;omega)|(exact absurd rfl hc)|conv=>whnf)  |(refine CB ?_ ?_<;>intro hc<;>conv=>whnf))
  · rw[Yn,Aca (by omega) hx (decide_eq_true hc)];rfl
  · exact again.mk ⟨_,by omega,i+1,rfl,Acd (by omega) hx (decide_eq_false hc),rfl,rfl⟩
  · rw[TP hc]at hx
    rw[Yn,Acb hx];rfl
def AcF:Nat→AV→Prop
  |0,_=>False
  |d+1,a=>∃g:GV,a=g.av∧g.ok∧g.s.length≤101000∧g.l.length≤2000∧∀x∈g.l,AcF d x
theorem wei:∀(d:Nat),d≤12→∀{g:GV} (hg:g.ok) {left:Int} (h1:-184467440737095530≤left) (h2:left≤2000),
    D8 (Dx tab) 43 [g.av,.int .i64 left,.int .i64 d] (fun v=>∃r,v=.int .i64 r∧-368934881474191048≤r∧r≤1999∧(0≤r→r+1≤left∧AcF d g.av)):=by
  intro d
  induction d with
  | zero=>
    intro _ g hg left h1 h2
    obtain⟨g1,g2,g3,g4,g5,g6,g7⟩:=hg
    unfold Ln at g4 g5
    refine Lu rfl rfl ?_
    (conv=>whnf);repeat' (first|((with_reducible first|apply kN|apply kW|apply kX|apply kG|apply kQ);(· exact sd);conv=>whnf)|(refine DW.mk ?_ ?_<;>intro hc<;>(try rw[List.length_nil]at hc)<;>first|(exfalso;omega)|(exact absurd rfl hc)|conv=>whnf)|(refine wrapQ (by omega) ?_;conv=>whnf)|(refine CB ?_ ?_<;>intro hc<;>conv=>whnf))
    all_goals exact⟨_,rfl,by omega,by omega,fun h=>absurd h (by omega)⟩
  | succ d ih=>
    intro hd g hg left h1 h2
    obtain⟨g1,g2,g3,g4,g5,g6,g7⟩:=hg
    unfold Ln at g4 g5
    refine Lu rfl rfl ?_
    (conv=>whnf);repeat' (first|((with_reducible first|apply kN|apply kW|apply kX|apply kG|apply kQ);(· exact sd);conv=>whnf)|(refine DW.mk ?_ ?_<;>intro hc<;>(try rw[List.length_nil]at hc)<;>first|(exfalso;omega)|(exact absurd rfl hc)|conv=>whnf)|(refine wrapQ (by omega) ?_;conv=>whnf)|(refine CB ?_ ?_<;>intro hc<;>conv=>whnf))
    have hw:∀{g:GV} (hg:g.ok) {left:Int} (h1:-184467440737095530≤left) (h2:left≤2000),
        D8 (Dx tab) 43 [g.av,.int .i64 left,.int .i64 (((d+1:Nat):Int)-1)] (fun v=>∃r,v=.int .i64 r∧-368934881474191048≤r∧r≤1999∧(0≤r→r+1≤left∧AcF d g.av)):=by
      rw[show ((d+1:Nat):Int)-1=(d:Int) by omega]
      exact ih (by omega)
    refine DK (fun m env s=>∃(i:Nat) (cur:Int),m=g.l.length-i∧env=[(1,.int .i64 cur),(2,.int .i64 (d+1:Nat)),(3,.ref 0 0 0 0),(7,.int .i64 i)]∧s=⟨[.arr 0 5 true true [g.av]],1⟩∧
      -368934881474191048≤cur∧cur≤1999∧(0≤cur→cur+i+g.s.length / 50+1≤left∧∀x∈g.l.take i,AcF d x)) ?_ _ _ _ ⟨0,_,rfl,rfl,rfl,by omega,by omega,fun h=>⟨by omega,by simp⟩⟩
    rintro _ _ _ ⟨i,cur,rfl,rfl,rfl,b1,b2,hx⟩
    refine⟨rfl,?_⟩
    obtain⟨gx,hgx⟩:=Amk g7 i
    (conv=>whnf);repeat' (first|((with_reducible first|apply kN|apply kW|apply kX|apply kG|apply kQ);(· exact sd);conv=>whnf)|(refine DW.mk ?_ ?_<;>intro hc<;>(try rw[List.length_nil]at hc)<;>first|(exfalso;omega)|(exact absurd rfl hc)|conv=>whnf)|(apply LX;(· exact(hgx (by omega)).1);conv=>whnf)|(refine CB ?_ ?_<;>intro hc<;>conv=>whnf))
    · obtain⟨_,ge,gl⟩:=hgx (by omega)
      refine BM (hw gl (by omega) (by omega)) ?_
      rintro _ ⟨r,rfl,r1,r2,r3⟩
      (conv=>whnf);repeat' (first|((with_reducible first|apply kN|apply kW|apply kX|apply kG|apply kQ);(· exact sd);conv=>whnf)|(refine DW.mk ?_ ?_<;>intro hc<;>(try rw[List.length_nil]at hc)<;>first|(exfalso;omega)|(exact absurd rfl hc)|conv=>whnf)  |(refine CB ?_ ?_<;>intro hc<;>conv=>whnf))
      exact again.mk ⟨_,by omega,i+1,r,rfl,rfl,rfl,by omega,by omega,fun h=>⟨by have:=hx (by omega);have:=r3 h;omega,AfD (by omega) (hx (by omega)).2 (ge▸(r3 h).2)⟩⟩
    · exact⟨_,rfl,by omega,by omega,fun h=>absurd h (by omega)⟩
    · refine⟨_,rfl,by omega,by omega,fun h=>?_⟩
      obtain⟨x1,x2⟩:=hx h
      rw[TP hc]at x2
      exact⟨by omega,g,rfl,⟨g1,g2,g3,g4,g5,g6,g7⟩,by omega,by omega,x2⟩
def Ud (ps:List GP):Prop:=ps.length≤2000∧∀p∈ps,p.ok∧AcF 12 p.v.av
theorem Ayn {d:Nat} {a:AV} (h:AcF d a):∃g:GV,a=g.av∧g.ok∧g.l.length≤2000∧∃d',d=d'+1∧∀x∈g.l,AcF d' x:=by
  cases d with
  |zero=>cases h
  | succ d=>
    obtain⟨g,e,h1,h2,h3,h4⟩:=h
    exact⟨g,e,h1,h3,d,rfl,h4⟩
theorem AB5 {d:Nat} {l:List AV} (h:∀x∈l,AcF d x) (i:Nat):∃g:GV,∀hi:i<l.length,nth l (Int.toNat (Nat.cast i))=some g.av∧l[i]=g.av∧g.ok∧AcF d g.av:=by
  by_cases hi:i<l.length
  · obtain⟨g,e,hg,_⟩:=Ayn (h _ (List.getElem_mem hi))
    exact⟨g,fun _=>⟨by rw[← e];exact nR hi,e,hg,e▸h _ (List.getElem_mem hi)⟩⟩
  · exact⟨⟨0,0,0,[],true,[]⟩,fun h=>absurd h hi⟩
theorem Afx {g es:Nat} {ys:List AV} {bytes:Nat} {K:Nat→Bool→Bool→List AV→Prop} (hs:AuA es ys) (hr:ys.length*bytes≤2 ^ 46) (h:K ys.length true true ys):
    Aya g g es es 0 true true true [] ys bytes K:=by
  refine⟨⟨rfl,rfl,by simp,hs,?_⟩,?_⟩
  · rw[Nat.zero_add];exact hr
  · rw[Nat.zero_add];exact h
theorem AB8:H6 (Dx tab) 255 [.sl false []] ⟨[],0⟩ fun out _=>out=.ok (.sl false []):=by
  refine FH rfl rfl ?_
  (conv=>whnf);repeat' (first|((with_reducible first|apply kN|apply kW|apply kX|apply kG|apply kQ);(· exact sd);conv=>whnf)|(refine DW.mk ?_ ?_<;>intro hc<;>(try rw[List.length_nil]at hc)<;>first|(exfalso;omega)|(exact absurd rfl hc)|conv=>whnf)  |(refine CB ?_ ?_<;>intro hc<;>conv=>whnf))
  rfl
theorem ALi {l:List AV} (hs:AuA 5 l) (hl:l.length≤2000):H6 (Dx tab) 255 [.sl true l] ⟨[],0⟩ fun out s'=>∃o g,out=.ok (.own o g 0 l.length)∧nth s'.σ o=some (.arr g 5 true true l):=by
  refine FH rfl rfl ?_
  (conv=>whnf);repeat' (first|((with_reducible first|apply kN|apply kW|apply kX|apply kG|apply kQ);(· exact sd);conv=>whnf)|(refine DW.mk ?_ ?_<;>intro hc<;>(try rw[List.length_nil]at hc)<;>first|(exfalso;omega)|(exact absurd rfl hc)|conv=>whnf)  |(refine CB ?_ ?_<;>intro hc<;>conv=>whnf))
  refine Afx hs (by omega) ?_
  (conv=>whnf);repeat' (first|((with_reducible first|apply kN|apply kW|apply kX|apply kG|apply kQ);(· exact sd);conv=>whnf)|(refine DW.mk ?_ ?_<;>intro hc<;>(try rw[List.length_nil]at hc)<;>first|(exfalso;omega)|(exact absurd rfl hc)|conv=>whnf)  |(refine CB ?_ ?_<;>intro hc<;>conv=>whnf))
  exact⟨_,_,rfl,rfl⟩
theorem AyZ {d:Nat} {l:List AV} (h:∀x∈l,AcF d x):AuA 5 l:=by
  intro x hx
  obtain⟨g,rfl,_⟩:=Ayn (h x hx)
  rfl
theorem Aud {l:List AV} {z:Nat} {x:AV} (h:nth l z=some x):l.set z x=l:=by
  rw[AVI]at h
  obtain⟨hz,rfl⟩:=List.getElem?_eq_some_iff.1 h
  exact List.set_getElem_self hz
theorem AAD (l:List AV):sub l 0 l.length=l:=by unfold sub;exact List.take_of_length_le (by simp)
theorem Ay0 {d:Nat} {g:GV} (hg:g.ok) (h2:g.l.length≤2000) (h3:∀x∈g.l,AcF d x) (ih:∀{g:GV},g.ok→AcF d g.av→D8 (Dx tab) 209 [g.av] (· =g.av)):
    D8 (Dx tab) 209 [g.av] (· =g.av):=by
  obtain⟨g1,g2,g3,g4,g5,g6,g7⟩:=hg
  obtain⟨k,n,dd,s,nn,l⟩:=g
  simp only at*
  cases nn with
  | false=>
    obtain rfl:=g6 rfl
    refine Lu rfl rfl ?_
    (conv=>whnf);repeat' (first|((with_reducible first|apply kN|apply kW|apply kX|apply kG|apply kQ);(· exact sd);conv=>whnf)|(refine DW.mk ?_ ?_<;>intro hc<;>(try rw[List.length_nil]at hc)<;>first|(exfalso;omega)|(exact absurd rfl hc)|conv=>whnf)  |(refine CB ?_ ?_<;>intro hc<;>conv=>whnf))
    refine AwO rfl AB8 ?_
    (conv=>whnf);repeat' (first|((with_reducible first|apply kN|apply kW|apply kX|apply kG|apply kQ);(· exact sd);conv=>whnf)|(refine DW.mk ?_ ?_<;>intro hc<;>(try rw[List.length_nil]at hc)<;>first|(exfalso;omega)|(exact absurd rfl hc)|conv=>whnf)  |(refine CB ?_ ?_<;>intro hc<;>conv=>whnf))
    refine AbF ?_ rfl
    (conv=>whnf);repeat' (first|((with_reducible first|apply kN|apply kW|apply kX|apply kG|apply kQ);(· exact sd);conv=>whnf)|(refine DW.mk ?_ ?_<;>intro hc<;>(try rw[List.length_nil]at hc)<;>first|(exfalso;omega)|(exact absurd rfl hc)|conv=>whnf)  |(refine CB ?_ ?_<;>intro hc<;>conv=>whnf))
    rfl
  | true=>
    refine Lu rfl rfl ?_
    (conv=>whnf);repeat' (first|((with_reducible first|apply kN|apply kW|apply kX|apply kG|apply kQ);(· exact sd);conv=>whnf)|(refine DW.mk ?_ ?_<;>intro hc<;>(try rw[List.length_nil]at hc)<;>first|(exfalso;omega)|(exact absurd rfl hc)|conv=>whnf)  |(refine CB ?_ ?_<;>intro hc<;>conv=>whnf))
    refine AQG rfl (ALi (AyZ h3) h2) ?_
    (conv=>whnf);repeat' (first|((with_reducible first|apply kN|apply kW|apply kX|apply kG|apply kQ);(· exact sd);conv=>whnf)|(refine DW.mk ?_ ?_<;>intro hc<;>(try rw[List.length_nil]at hc)<;>first|(exfalso;omega)|(exact absurd rfl hc)|conv=>whnf)  |(refine CB ?_ ?_<;>intro hc<;>conv=>whnf))
    refine DK (fun m env st=>∃i:Nat,m=l.length-i∧env=[(1,.ref 0 0 0 0),(2,.ref 1 1 0 0),(10,.int .i64 l.length),(11,.int .i64 i)]∧st=⟨[.arr 0 5 true false [.agg [.int .i64 k,.int .i64 n,.int .i64 dd,.str s,.own 2 2 0 l.length]],.arr 1 5 true true [.agg [.int .i64 0,.int .i64 0,.int .i64 0,.str [],.sl false []]],.arr 2 5 true true l],3⟩) ?_ _ _ _ ⟨0,rfl,rfl,rfl⟩
    rintro _ _ _ ⟨i,rfl,rfl,rfl⟩
    refine⟨rfl,?_⟩
    unfold Ln at g5
    obtain⟨gx,hgx⟩:=AB5 h3 i
    (conv=>whnf);repeat' (first|(apply LX;(· exact(hgx (by omega)).1);conv=>whnf)|(refine BM (ih (g:=gx) (hgx (by omega)).2.2.1 (hgx (by omega)).2.2.2) ?_;rintro _ rfl;conv=>whnf)|(apply KJ;(· exact Aud (x:=gx.av) (hgx (by omega)).1);conv=>whnf)|((with_reducible first|apply kN|apply kW|apply kX|apply kG|apply kQ);(· exact sd);conv=>whnf)|(refine DW.mk ?_ ?_<;>intro hc<;>(try rw[List.length_nil]at hc)<;>first|(exfalso;omega)|(exact absurd rfl hc)|conv=>whnf)|(refine CB ?_ ?_<;>intro hc<;>conv=>whnf))
    · exact again.mk ⟨_,by omega,i+1,rfl,rfl,rfl⟩
    · rw[AAD];rfl
theorem Aqe:∀(d:Nat) {g:GV},g.ok→AcF d g.av→D8 (Dx tab) 209 [g.av] (· =g.av)
  |0,_,_,h=>by cases h
  | d+1,g,hg,h=>by
    obtain⟨g',e,h1,h2,d',e2,h3⟩:=Ayn h
    obtain rfl:d=d':=by omega
    have:g.l=g'.l:=by injection e with e;simp only[List.cons.injEq,AV.sl.injEq]at e;exact e.2.2.2.2.1.2
    exact Ay0 hg (by rw[this];exact h2) (by rw[this];exact h3) (Aqe d)
theorem cloneS {l:List (List UInt8)} {nn:Bool} (hl:l.length≤2000) (hn:nn=false→l=[]):D8 (Dx tab) 82 [.sl nn (vs .str l)] (· =.sl nn (vs .str l)):=by
  cases nn with
  | false=>
    obtain rfl:=hn rfl
    refine Lu rfl rfl ?_
    (conv=>whnf);repeat' (first|((with_reducible first|apply kN|apply kW|apply kX|apply kG|apply kQ);(· exact sd);conv=>whnf)|(refine DW.mk ?_ ?_<;>intro hc<;>(try rw[List.length_nil]at hc)<;>first|(exfalso;omega)|(exact absurd rfl hc)|conv=>whnf)  |(refine CB ?_ ?_<;>intro hc<;>conv=>whnf))
    rfl
  | true=>
    refine Lu rfl rfl ?_
    (conv=>whnf);repeat' (first|((with_reducible first|apply kN|apply kW|apply kX|apply kG|apply kQ);(· exact sd);conv=>whnf)|(refine DW.mk ?_ ?_<;>intro hc<;>(try rw[List.length_nil]at hc)<;>first|(exfalso;omega)|(exact absurd rfl hc)|conv=>whnf)|(refine Afx (Aem (fun _=>rfl) _) (by rw[lV];omega) ?_;conv=>whnf)|(refine CB ?_ ?_<;>intro hc<;>conv=>whnf))
    refine Afx (Aem (f:=.str) (fun _=>rfl) l) (by rw[lV];omega) ?_
    (conv=>whnf);repeat' (first|((with_reducible first|apply kN|apply kW|apply kX|apply kG|apply kQ);(· exact sd);conv=>whnf)|(refine DW.mk ?_ ?_<;>intro hc<;>(try rw[List.length_nil]at hc)<;>first|(exfalso;omega)|(exact absurd rfl hc)|conv=>whnf)  |(refine CB ?_ ?_<;>intro hc<;>conv=>whnf))
    rw[lV,uV]
theorem ACg:H6 (Dx tab) 83 [.sl false []] ⟨[],0⟩ fun out _=>out=.ok (.sl false []):=by
  refine FH rfl rfl ?_
  (conv=>whnf);repeat' (first|((with_reducible first|apply kN|apply kW|apply kX|apply kG|apply kQ);(· exact sd);conv=>whnf)|(refine DW.mk ?_ ?_<;>intro hc<;>(try rw[List.length_nil]at hc)<;>first|(exfalso;omega)|(exact absurd rfl hc)|conv=>whnf)  |(refine CB ?_ ?_<;>intro hc<;>conv=>whnf))
  rfl
theorem ALq {l:List GP} (hl:l.length≤2000):H6 (Dx tab) 83 [.sl true (vs GP.av l)] ⟨[],0⟩ fun out s'=>∃o g,out=.ok (.own o g 0 (vs GP.av l).length)∧nth s'.σ o=some (.arr g 6 true true (vs GP.av l)):=by
  refine FH rfl rfl ?_
  (conv=>whnf);repeat' (first|((with_reducible first|apply kN|apply kW|apply kX|apply kG|apply kQ);(· exact sd);conv=>whnf)|(refine DW.mk ?_ ?_<;>intro hc<;>(try rw[List.length_nil]at hc)<;>first|(exfalso;omega)|(exact absurd rfl hc)|conv=>whnf)  |(refine CB ?_ ?_<;>intro hc<;>conv=>whnf))
  refine Afx (Aem (f:=GP.av) (fun _=>rfl) l) (by rw[lV];omega) ?_
  (conv=>whnf);repeat' (first|((with_reducible first|apply kN|apply kW|apply kX|apply kG|apply kQ);(· exact sd);conv=>whnf)|(refine DW.mk ?_ ?_<;>intro hc<;>(try rw[List.length_nil]at hc)<;>first|(exfalso;omega)|(exact absurd rfl hc)|conv=>whnf)  |(refine CB ?_ ?_<;>intro hc<;>conv=>whnf))
  exact⟨_,_,rfl,rfl⟩
theorem Ao9 {ps:List GP} {nn:Bool} (hl:ps.length≤2000) (hn:nn=false→ps=[]) (hok:∀p∈ps,p.ok) (hL:∀p∈ps,AcF 12 p.v.av):D8 (Dx tab) 136 [.sl nn (vs GP.av ps)] (· =.sl nn (vs GP.av ps)):=by
  cases nn with
  | false=>
    obtain rfl:=hn rfl
    refine Lu rfl rfl ?_
    (conv=>whnf);repeat' (first|((with_reducible first|apply kN|apply kW|apply kX|apply kG|apply kQ);(· exact sd);conv=>whnf)|(refine DW.mk ?_ ?_<;>intro hc<;>(try rw[List.length_nil]at hc)<;>first|(exfalso;omega)|(exact absurd rfl hc)|conv=>whnf)  |(refine CB ?_ ?_<;>intro hc<;>conv=>whnf))
    refine AwO rfl ACg ?_
    (conv=>whnf);repeat' (first|((with_reducible first|apply kN|apply kW|apply kX|apply kG|apply kQ);(· exact sd);conv=>whnf)|(refine DW.mk ?_ ?_<;>intro hc<;>(try rw[List.length_nil]at hc)<;>first|(exfalso;omega)|(exact absurd rfl hc)|conv=>whnf)  |(refine CB ?_ ?_<;>intro hc<;>conv=>whnf))
    refine AbF ?_ rfl
    (conv=>whnf);repeat' (first|((with_reducible first|apply kN|apply kW|apply kX|apply kG|apply kQ);(· exact sd);conv=>whnf)|(refine DW.mk ?_ ?_<;>intro hc<;>(try rw[List.length_nil]at hc)<;>first|(exfalso;omega)|(exact absurd rfl hc)|conv=>whnf)  |(refine CB ?_ ?_<;>intro hc<;>conv=>whnf))
    rfl
  | true=>
    refine Lu rfl rfl ?_
    (conv=>whnf);repeat' (first|((with_reducible first|apply kN|apply kW|apply kX|apply kG|apply kQ);(· exact sd);conv=>whnf)|(refine DW.mk ?_ ?_<;>intro hc<;>(try rw[List.length_nil]at hc)<;>first|(exfalso;omega)|(exact absurd rfl hc)|conv=>whnf)  |(refine CB ?_ ?_<;>intro hc<;>conv=>whnf))
    refine AQG rfl (ALq hl) ?_
    (conv=>whnf);repeat' (first|((with_reducible first|apply kN|apply kW|apply kX|apply kG|apply kQ);(· exact sd);conv=>whnf)|(refine DW.mk ?_ ?_<;>intro hc<;>(try rw[List.length_nil]at hc)<;>first|(exfalso;omega)|(exact absurd rfl hc)|conv=>whnf)  |(refine CB ?_ ?_<;>intro hc<;>conv=>whnf))
    refine DK (fun m env st=>∃i:Nat,m=ps.length-i∧env=[(3,.own 0 0 0 (vs GP.av ps).length),(8,.int .i64 (vs GP.av ps).length),(9,.int .i64 i)]∧st=⟨[.arr 0 6 true true (vs GP.av ps)],1⟩) ?_ _ _ _ ⟨0,rfl,rfl,rfl⟩
    rintro _ _ _ ⟨i,rfl,rfl,rfl⟩
    refine⟨rfl,?_⟩
    have hll:(vs GP.av ps).length=ps.length:=lV _
    have ho:∀h:i<ps.length,(ps[i]).v.ok∧AcF 12 (ps[i]).v.av:=fun h=>⟨(hok _ (List.getElem_mem h)).2,hL _ (List.getElem_mem h)⟩
    (conv=>whnf);repeat' (first|(refine BM (Aqe 12 (g:=ps[i].v) (ho (by omega)).1 (ho (by omega)).2) ?_;rintro _ rfl;conv=>whnf)|(apply KJ;(· exact Aud (x:=(ps[i]).av) (nVN (by omega)));conv=>whnf)|((with_reducible first|apply kN|apply kW|apply kX|apply kG|apply kQ);(· exact sd);conv=>whnf)|(refine DW.mk ?_ ?_<;>intro hc<;>(try rw[List.length_nil]at hc)<;>first|(exfalso;omega)|(exact absurd rfl hc)|conv=>whnf)|(refine CB ?_ ?_<;>intro hc<;>conv=>whnf))
    · exact again.mk ⟨_,by omega,i+1,rfl,rfl,rfl⟩
    · rw[AAD]
def AgE (n:GN):Prop:=n.labels.length≤2000∧(n.ln=false→n.labels=[])∧(n.pn=false→n.props=[])∧Ud n.props
def AgF (e:GE):Prop:=(e.pn=false→e.props=[])∧Ud e.props
theorem AzT {g:GG} (hl:g.nodes.length<2^63) (hg:∀n∈g.nodes,AgE n) {id:Int}:D8 (Dx tab) 77 [g.av,.int .i64 id] (· =Yk g.nodes id):=by
  refine Lu rfl rfl ?_
  (conv=>whnf);repeat' (first|((with_reducible first|apply kN|apply kW|apply kX|apply kG|apply kQ);(· exact sd);conv=>whnf)|(refine DW.mk ?_ ?_<;>intro hc<;>(try rw[List.length_nil]at hc)<;>first|(exfalso;omega)|(exact absurd rfl hc)|conv=>whnf)  |(refine CB ?_ ?_<;>intro hc<;>conv=>whnf))
  refine DK (fun m env s=>∃i c:Nat,m=g.nodes.length-i∧(∀ x∈g.nodes.take i,isN id x=false)∧env=[(1,.int .i64 id),(4,.ref 1 1 0 0),(9,.sl g.nn (vs GN.av g.nodes)),(10,.int .i64 g.nodes.length),(11,.int .i64 i)]∧s=⟨[.arr 0 4 true true [g.av],.arr 1 3 true true [.agg [.int .i64 0,.sl false [],.sl false []]]],c⟩) ?_ _ _ _ ⟨0,_,rfl,by simp,rfl,rfl⟩
  rintro _ _ _ ⟨i,c,rfl,hx,rfl,rfl⟩
  refine⟨rfl,?_⟩
  have ho:∀h:i<g.nodes.length,AgE g.nodes[i]:=fun h=>hg _ (List.getElem_mem h)
  (conv=>whnf);repeat' (first|((with_reducible first|apply kN|apply kW|apply kX|apply kG|apply kQ);(· exact sd);conv=>whnf)|(refine DW.mk ?_ ?_<;>intro hc<;>(try rw[List.length_nil]at hc)<;>first|(exfalso;omega)|(exact absurd rfl hc)|conv=>whnf)|(refine BM (cloneS (l:=g.nodes[i].labels) (ho (by omega)).1 (ho (by omega)).2.1) ?_;rintro _ rfl;conv=>whnf)|(refine BM (Ao9 (ps:=g.nodes[i].props) (ho (by omega)).2.2.2.1 (ho (by omega)).2.2.1 (fun p hp=>((ho (by omega)).2.2.2.2 p hp).1) (fun p hp=>((ho (by omega)).2.2.2.2 p hp).2)) ?_;rintro _ rfl;conv=>whnf)|(refine CB ?_ ?_<;>intro hc<;>conv=>whnf))
  · rw[Yk,Aca (by omega) hx (decide_eq_true hc)]
    simp only
    unfold GN.av
    rw[hc];rfl
  · exact again.mk ⟨_,by omega,i+1,_,rfl,Acd (by omega) hx (decide_eq_false hc),rfl,rfl⟩
  · rw[TP hc]at hx
    rw[Yk,Acb hx];rfl
theorem AzV {g:GG} (hl:g.edges.length<2^63) (hg:∀n∈g.edges,AgF n) {id:Int}:D8 (Dx tab) 74 [g.av,.int .i64 id] (· =Yn g.edges id):=by
  refine Lu rfl rfl ?_
  (conv=>whnf);repeat' (first|((with_reducible first|apply kN|apply kW|apply kX|apply kG|apply kQ);(· exact sd);conv=>whnf)|(refine DW.mk ?_ ?_<;>intro hc<;>(try rw[List.length_nil]at hc)<;>first|(exfalso;omega)|(exact absurd rfl hc)|conv=>whnf)  |(refine CB ?_ ?_<;>intro hc<;>conv=>whnf))
  refine DK (fun m env s=>∃i c:Nat,m=g.edges.length-i∧(∀ x∈g.edges.take i,isE id x=false)∧env=[(1,.int .i64 id),(4,.ref 1 1 0 0),(9,.sl g.en (vs GE.av g.edges)),(10,.int .i64 g.edges.length),(11,.int .i64 i)]∧s=⟨[.arr 0 4 true true [g.av],.arr 1 5 true true [.agg [.int .i64 0,.int .i64 0,.int .i64 0,.str [],.sl false []]]],c⟩) ?_ _ _ _ ⟨0,_,rfl,by simp,rfl,rfl⟩
  rintro _ _ _ ⟨i,c,rfl,hx,rfl,rfl⟩
  refine⟨rfl,?_⟩
  have ho:∀h:i<g.edges.length,AgF g.edges[i]:=fun h=>hg _ (List.getElem_mem h)
  (conv=>whnf);repeat' (first|((with_reducible first|apply kN|apply kW|apply kX|apply kG|apply kQ);(· exact sd);conv=>whnf)|(refine DW.mk ?_ ?_<;>intro hc<;>(try rw[List.length_nil]at hc)<;>first|(exfalso;omega)|(exact absurd rfl hc)|conv=>whnf)|(refine BM (Ao9 (ps:=g.edges[i].props) (ho (by omega)).2.1 (ho (by omega)).1 (fun p hp=>((ho (by omega)).2.2 p hp).1) (fun p hp=>((ho (by omega)).2.2 p hp).2)) ?_;rintro _ rfl;conv=>whnf)|(refine CB ?_ ?_<;>intro hc<;>conv=>whnf))
  · rw[Yn,Aca (by omega) hx (decide_eq_true hc)];rfl
  · exact again.mk ⟨_,by omega,i+1,_,rfl,Acd (by omega) hx (decide_eq_false hc),rfl,rfl⟩
  · rw[TP hc]at hx
    rw[Yn,Acb hx];rfl
theorem nan {x:Int}:D8 (Dx tab) 197 [.int .i64 x] (· =.bool (decide False)):=by
  refine Lu rfl rfl ?_
  (conv=>whnf);repeat' (first  |((with_reducible first|apply kN|apply kW|apply kX|apply kG|apply kQ);(· exact sd);conv=>whnf)|(refine DW.mk ?_ ?_<;>intro hc<;>(try rw[List.length_nil]at hc)<;>first|(exfalso;omega)|(exact absurd rfl hc)|conv=>whnf)|(refine CB ?_ ?_<;>intro hc<;>conv=>whnf))
  all_goals first|exact absurd rfl hc|rfl
def Qr (x y:Int):Int:=if x<y then -1 else if y<x then 1 else 0
theorem compare {x y:Int}:D8 (Dx tab) 115 [.int .i64 x,.int .i64 y] (· =.int .i64 (Qr x y)):=by
  refine Lu rfl rfl ?_
  (conv=>whnf);repeat' (first|(refine KH nan (fun hc=>absurd hc id) (fun _=>?_);conv=>whnf)|((with_reducible first|apply kN|apply kW|apply kX|apply kG|apply kQ);(· exact sd);conv=>whnf)|(refine DW.mk ?_ ?_<;>intro hc<;>(try rw[List.length_nil]at hc)<;>first|(exfalso;omega)|(exact absurd rfl hc)|conv=>whnf)|(refine CB ?_ ?_<;>intro hc<;>conv=>whnf))
  all_goals unfold Qr;first|(rw [if_pos (by omega)];rfl)|(rw [if_neg (by omega),if_pos (by omega)];rfl)|(rw [if_neg (by omega),if_neg (by omega)];rfl)
theorem AwJ {x y:Int}:Qr x y<0↔x<y:=by unfold Qr;split<;>(try split)<;>omega
theorem Ym {x y:Int}:Qr x y=0↔x=y:=by unfold Qr;split<;>(try split)<;>omega
end AI
end Go.Proofs.YtnbibfalljlmfaaGreatDoor
