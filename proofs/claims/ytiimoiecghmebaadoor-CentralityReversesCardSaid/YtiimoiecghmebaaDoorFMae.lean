/- The arguments of the graph laws, taken apart: values, properties, nodes, edges, graphs. reach: distances and numbers of shortest walks, the program's. Sorting numbers in place: the order. A call of an entry that the model answers. Sorting numbers in place: slices.Sort as an entry of the table. Maps of the call's own: entries struck out; maps to truth values. Tarjan's algorithm: what holds of its state, and its steps: plain. Tarjan's algorithm: a component leaves the stack: plain. -/
import Derived.Test.YtiimoiecghmebaaDoorFMad
import Derived.Test.YtiimoiecghmebaaDoorFGrCode
import Derived.Test.YtiimoiecghmebaaDoorFMac
import Derived.Test.YtiimoiecghmebaaDoorFVa
import Derived.Test.YtiimoiecghmebaaDoorFSqI
import Derived.Test.YtiimoiecghmebaaDoorFCore
set_option linter.unusedVariables false
namespace Go.Proofs.YtiimoiecghmebaaDoor
namespace AI
structure GV where
 k:Int
 n:Int
 d:Int
 s:List UInt8
 nn:Bool
 l:List AV
def GV.av (v:GV):AV:=.agg [.int .i64 v.k,.int .i64 v.n,.int .i64 v.d,.str v.s,.sl v.nn v.l]
structure GP where
 key:List UInt8
 v:GV
def GP.av (p:GP):AV:=.agg [.str p.key,.int .i64 p.v.k,.int .i64 p.v.n,.int .i64 p.v.d,.str p.v.s,.sl p.v.nn p.v.l]
structure GN where
 id:Int
 ln:Bool
 labels:List (List UInt8)
 pn:Bool
 props:List GP
def GN.av (n:GN):AV:=.agg [.int .i64 n.id,.sl n.ln (vs .str n.labels),.sl n.pn (vs GP.av n.props)]
structure GE where
 id:Int
 fr:Int
 to:Int
 ty:List UInt8
 pn:Bool
 props:List GP
def GE.av (n:GE):AV:=.agg [.int .i64 n.id,.int .i64 n.fr,.int .i64 n.to,.str n.ty,.sl n.pn (vs GP.av n.props)]
structure GG where
 nn:Bool
 nodes:List GN
 en:Bool
 edges:List GE
 BR:Int
 CJ:Int
def GG.av (g:GG):AV:=.agg [.sl g.nn (vs GN.av g.nodes),.sl g.en (vs GE.av g.edges),.int .i64 g.BR,.int .i64 g.CJ]
def I64 (z:Int):Prop:=-2^63≤z∧z<2^63
def Ln {α:Type} (l:List α):Prop:=l.length<2^63
def GV.ok (v:GV):Prop:=I64 v.k∧I64 v.n∧I64 v.d∧Ln v.s∧Ln v.l∧(v.nn=false→v.l=[])∧∀x∈v.l,Like Tryd.prog 93 x
def GP.ok (p:GP):Prop:=Ln p.key∧p.v.ok
def GN.ok (n:GN):Prop:=I64 n.id∧Ln n.labels∧(n.ln=false→n.labels=[])∧(∀ s∈n.labels,Ln s)∧Ln n.props∧(n.pn=false→n.props=[])∧∀p∈n.props,p.ok
def GE.ok (e:GE):Prop:=I64 e.id∧I64 e.fr∧I64 e.to∧Ln e.ty∧Ln e.props∧(e.pn=false→e.props=[])∧∀p∈e.props,p.ok
def GG.ok (g:GG):Prop:=Ln g.nodes∧(g.nn=false→g.nodes=[])∧(∀ n∈g.nodes,n.ok)∧Ln g.edges∧(g.en=false→g.edges=[])∧(∀ e∈g.edges,e.ok)∧I64 g.BR∧I64 g.CJ
theorem Aak:Tryd.prog.cellsOf 3=1:=by kernel_rfl
theorem TU:Tryd.prog.cellsOf 9=1:=by kernel_rfl
theorem Abn:Tryd.prog.cellsOf 26=1:=by kernel_rfl
theorem Adt:Tryd.prog.cellsOf 91=1:=by kernel_rfl
theorem VJ:Tryd.prog.cellsOf 93=5:=by kernel_rfl
theorem Ag5:Tryd.prog.cellsOf 95=6:=by kernel_rfl
theorem Aal:Tryd.prog.cellsOf 51=1:=by kernel_rfl
theorem Ag6:Tryd.prog.cellsOf 53=3:=by kernel_rfl
theorem Ae0:Tryd.prog.cellsOf 22=1:=by kernel_rfl
theorem Ag7:Tryd.prog.cellsOf 58=5:=by kernel_rfl
theorem Ae1:Tryd.prog.cellsOf 23=1:=by kernel_rfl
theorem Ae2:Tryd.prog.cellsOf 25=4:=by kernel_rfl
theorem Aln {l:List AV} (h:l.length=3):∃a b c,l=[a,b,c]:=by
 rcases l with _|⟨a,_|⟨b,_|⟨c,_|⟨d,r⟩⟩⟩⟩<;>simp at h
 exact⟨a,b,c,rfl⟩
theorem Alo {l:List AV} (h:l.length=4):∃a b c d,l=[a,b,c,d]:=by
 rcases l with _|⟨a,_|⟨b,_|⟨c,_|⟨d,_|⟨e,r⟩⟩⟩⟩⟩<;>simp at h
 exact⟨a,b,c,d,rfl⟩
theorem AiX {l:List AV} (h:l.length=5):∃a b c d e,l=[a,b,c,d,e]:=by
 rcases l with _|⟨a,_|⟨b,_|⟨c,_|⟨d,_|⟨e,_|⟨f,r⟩⟩⟩⟩⟩⟩<;>simp at h
 exact⟨a,b,c,d,e,rfl⟩
theorem Alp {l:List AV} (h:l.length=6):∃a b c d e f,l=[a,b,c,d,e,f]:=by
 rcases l with _|⟨a,_|⟨b,_|⟨c,_|⟨d,_|⟨e,_|⟨f,_|⟨g,r⟩⟩⟩⟩⟩⟩⟩<;>simp at h
 exact⟨a,b,c,d,e,f,rfl⟩
theorem Ag8 {n:Int} (h:(Lit.int .i64 n).wf=true):I64 n:=by
 simp[Lit.wf]at h
 have h1:IntKind.i64.min=-2^63:=by rfl
 have h2:IntKind.i64.max=2^63-1:=by rfl
 unfold I64
 omega
theorem UW {α:Type} {l:List α} (h:l.length≤maxLen):Ln l:=by unfold Ln;have:=Aax;omega
theorem H9 {d:Nat} {cs:List AV} (h:BF Tryd.prog d 3 cs):∃n,cs=[.int .i64 n]∧I64 n:=by
 obtain⟨k,e1,h1⟩:=Aaw Tryd.underlying3 h
 exact⟨k,e1,Ag8 h1⟩
theorem Wu {d:Nat} {cs:List AV} (h:BF Tryd.prog d 9 cs):∃n,cs=[.str n]∧Ln n:=by
 obtain⟨k,e1,h1⟩:=NU Tryd.underlying9 h
 exact⟨k,e1,UW h1⟩
theorem Qu {d:Nat} {cs:List AV} (h:BF Tryd.prog d 93 cs):∃v:GV,cs=[.int .i64 v.k,.int .i64 v.n,.int .i64 v.d,.str v.s,.sl v.nn v.l]∧v.ok:=by
 obtain⟨d',rfl,g1,g2⟩:=FY Tryd.underlying93 h
 rw[VJ]at g1
 obtain⟨a,b,c,e,f,rfl⟩:=AiX g1
 clear g1
 simp only[List.forall_mem_cons]at g2
 obtain⟨f1,f2,f3,f4,f5,_⟩:=g2
 simp only[Aak,TU,Adt,List.drop_zero,List.drop_succ_cons,List.take_succ_cons,List.take_zero]at f1 f2 f3 f4 f5
 obtain⟨k,e1,h1⟩:=H9 f1
 obtain⟨n,e2,h2⟩:=H9 f2
 obtain⟨m,e3,h3⟩:=H9 f3
 obtain⟨s,e4,h4⟩:=Wu f4
 obtain⟨d'',_,nl,xs,e5,h5,h6,h7⟩:=KF Tryd.underlying91 f5
 cases e1;cases e2;cases e3;cases e4;cases e5
 exact⟨⟨k,n,m,s,nl,xs⟩,rfl,h1,h2,h3,h4,UW h6,h5,fun x hx=>⟨_,h7 x hx⟩⟩
theorem Yu {a:AV} (h:Like Tryd.prog 93 a):∃v:GV,a=v.av∧v.ok:=by
 obtain⟨d,h⟩:=h
 obtain⟨cs,rfl,h0⟩:=GI Tryd.underlying93 h
 obtain⟨v,rfl,h1⟩:=Qu h0
 exact⟨v,rfl,h1⟩
theorem U8 {d:Nat} {a:AV} (h:like Tryd.prog d 95 a):∃v:GP,a=v.av∧v.ok:=by
 obtain⟨cs,rfl,h0⟩:=GI Tryd.underlying95 h
 obtain⟨d',rfl,g1,g2⟩:=FY Tryd.underlying95 h0
 rw[Ag5]at g1
 obtain⟨a,b,c,e,f,g,rfl⟩:=Alp g1
 clear g1
 simp only[List.forall_mem_cons]at g2
 obtain⟨f1,f2,_⟩:=g2
 simp only[TU,VJ,List.drop_zero,List.drop_succ_cons,List.take_succ_cons,List.take_zero]at f1 f2
 obtain⟨s,e1,h1⟩:=Wu f1
 obtain⟨v,e2,h2⟩:=Qu f2
 cases e1;cases e2
 exact⟨⟨s,v⟩,rfl,h1,h2⟩
theorem Jw {α:Type} {f:α→AV} {Q:α→Prop} {d:Nat} {t e:TypeId} {cs:List AV} (hu:Tryd.prog.underlying t=some (.slice e)) (he:∀d x,like Tryd.prog d e x→∃y,x=f y∧Q y) (h:BF Tryd.prog d t cs):
 ∃nn l,cs=[.sl nn (vs f l)]∧(nn=false→l=[])∧Ln l∧∀y∈l,Q y:=by
 obtain⟨d',rfl,nn,xs,rfl,h0,h1,h2⟩:=KF hu h
 obtain⟨l,rfl,h3⟩:=MZ (f:=f) (Q:=Q) fun x hx=>he d' x (h2 x hx)
 exact⟨nn,l,rfl,fun h=>by have:=h0 h;simpa using this,UW (by simpa using h1),h3⟩
theorem Adu {d:Nat} {a:AV} (h:like Tryd.prog d 9 a):∃s:List UInt8,a=.str s∧Ln s:=by
 obtain⟨k,e1,h1⟩:=P6 Tryd.underlying9 h
 exact⟨k,e1,UW h1⟩
theorem Abp {d:Nat} {a:AV} (h:like Tryd.prog d 53 a):∃v:GN,a=v.av∧v.ok:=by
 obtain⟨cs,rfl,h0⟩:=GI Tryd.underlying53 h
 obtain⟨d',rfl,g1,g2⟩:=FY Tryd.underlying53 h0
 rw[Ag6]at g1
 obtain⟨a,b,c,rfl⟩:=Aln g1
 clear g1
 simp only[List.forall_mem_cons]at g2
 obtain⟨f1,f2,f3,_⟩:=g2
 simp only[Aak,Abn,Aal,List.drop_zero,List.drop_succ_cons,List.take_succ_cons,List.take_zero]at f1 f2 f3
 obtain⟨s,e1,h1⟩:=H9 f1
 obtain⟨ln,L,e2,h2,h2a,h2b⟩:=Jw (f:=.str) (Q:=Ln) Tryd.underlying26 (fun d x h=>Adu h) f2
 obtain⟨pn,P,e3,h3,h3a,h3b⟩:=Jw (f:=GP.av) (Q:=GP.ok) Tryd.underlying51 (fun d x h=>U8 h) f3
 cases e1;cases e2;cases e3
 exact⟨⟨s,ln,L,pn,P⟩,rfl,h1,h2a,h2,h2b,h3a,h3,h3b⟩
theorem Abq {d:Nat} {a:AV} (h:like Tryd.prog d 58 a):∃v:GE,a=v.av∧v.ok:=by
 obtain⟨cs,rfl,h0⟩:=GI Tryd.underlying58 h
 obtain⟨d',rfl,g1,g2⟩:=FY Tryd.underlying58 h0
 rw[Ag7]at g1
 obtain⟨a,b,c,e,f,rfl⟩:=AiX g1
 clear g1
 simp only[List.forall_mem_cons]at g2
 obtain⟨f1,f2,f3,f4,f5,_⟩:=g2
 simp only[Aak,TU,Aal,List.drop_zero,List.drop_succ_cons,List.take_succ_cons,List.take_zero]at f1 f2 f3 f4 f5
 obtain⟨k,e1,h1⟩:=H9 f1
 obtain⟨n,e2,h2⟩:=H9 f2
 obtain⟨m,e3,h3⟩:=H9 f3
 obtain⟨s,e4,h4⟩:=Wu f4
 obtain⟨pn,P,e5,h5,h5a,h5b⟩:=Jw (f:=GP.av) (Q:=GP.ok) Tryd.underlying51 (fun d x h=>U8 h) f5
 cases e1;cases e2;cases e3;cases e4;cases e5
 exact⟨⟨k,n,m,s,pn,P⟩,rfl,h1,h2,h3,h4,h5a,h5,h5b⟩
theorem Zg {a:AV} (h:Like Tryd.prog 25 a):∃v:GG,a=v.av∧v.ok:=by
 obtain⟨d,h⟩:=h
 obtain⟨cs,rfl,h0⟩:=GI Tryd.underlying25 h
 obtain⟨d',rfl,g1,g2⟩:=FY Tryd.underlying25 h0
 rw[Ae2]at g1
 obtain⟨a,b,c,e,rfl⟩:=Alo g1
 clear g1
 simp only[List.forall_mem_cons]at g2
 obtain⟨f1,f2,f3,f4,_⟩:=g2
 simp only[Aak,Ae0,Ae1,List.drop_zero,List.drop_succ_cons,List.take_succ_cons,List.take_zero]at f1 f2 f3 f4
 obtain⟨nn,N,e1,h1,h1a,h1b⟩:=Jw (f:=GN.av) (Q:=GN.ok) Tryd.underlying22 (fun d x h=>Abp h) f1
 obtain⟨en,E,e2,h2,h2a,h2b⟩:=Jw (f:=GE.av) (Q:=GE.ok) Tryd.underlying23 (fun d x h=>Abq h) f2
 obtain⟨m,e3,h3⟩:=H9 f3
 obtain⟨k,e4,h4⟩:=H9 f4
 cases e1;cases e2;cases e3;cases e4
 exact⟨⟨nn,N,en,E,m,k⟩,rfl,h1a,h1,h1b,h2a,h2,h2b,h3,h4⟩
def Py (k:Nat):AV:=.int .i64 (k:Int)
theorem Acs (k:Nat):(Py k).cells.length=1:=rfl
def Uz (r:List Nat):AV:=.sl (decide (r≠[])) (vs Py r)
def Ad8 (ids:List Int) (A:Nat→Nat→Bool) (n:Nat):AV:=.agg [.sl (decide (0<n)) (ints ids),.sl true (vs Uz ((List.range n).map (Na A n)))]
def stR (nv:AV) (fD fC:Nat→Int) (n:Nat) (r:List Obj):List Obj:=.arr 0 2 true true [nv]::.arr 1 1 false true []::.arr 2 1 false true []::.arr 3 1 true true (ints (Gj n fD))::.arr 4 1 true true (ints (Gj n fC))::r
theorem VP {A:Nat→Nat→Bool} {n i d:Nat} {S T:List (Nat×Nat)} {fD fC:Nat→Int} {nx L:List Nat} (h:Uc A n i d S fD fC nx) (hL:Lvl A n i d L) (hS:S++T=EX A n L) {w:Nat} (hw:w<n):0≤fC w∧fC w≤((2 ^ n:Nat):Int):=by
 by_cases hf:QD A n i d w
 ·rw[(h.far w hw hf).1]
  have:=Aeq hL hw hf hS
  omega
 ·obtain⟨e,he⟩:=Classical.not_forall.1 hf
  have he1:e≤d:=by
   by_cases h1:e≤d
   ·exact h1
   ·exact absurd (fun h2=>absurd h2 h1) he
  have he2:Ds A n i w e:=Classical.byContradiction fun hn=>he fun _=>hn
  rw[(h.near w hw e he1 he2).2]
  have:=YP he2
  omega
theorem ZG {l:List Nat} {n:Nat} (h:l.Nodup) (hl:∀u∈l,u<n):l.length≤n:=by
 have h1:(l.map fun _=>1).sum≤n:=by
  rw[PG (n:=n) (w:=0) h hl]
  have h2:=LU (n:=n) (f:=fun u=>if u∈l then 1 else 0) (g:=fun _=>1) fun u _=>by split<;>omega
  rw[KX]at h2
  omega
 have h3:(l.map fun _=>1).sum=l.length:=by
  clear h1 h hl
  induction l with
  |nil=>rfl
  |cons a l ih=>rw[List.map_cons,List.sum_cons,ih,List.length_cons];omega
 omega
theorem Aid {A:Nat→Nat→Bool} {n i d w:Nat} (hf:¬QD A n i d w):∃e,e≤d∧Ds A n i w e:=by
 obtain⟨e,he⟩:=Classical.not_forall.1 hf
 have he1:e≤d:=by
  by_cases h1:e≤d
  ·exact h1
  ·exact absurd (fun h2=>absurd h2 h1) he
 exact⟨e,he1,Classical.byContradiction fun hn=>he fun _=>hn⟩
theorem UM {A:Nat→Nat→Bool} {n k:Nat} {L:List Nat} (h:k<L.length):EX A n (L.take (k+1))=EX A n (L.take k)++(Na A n L[k]).map fun v=>(L[k],v):=by
 unfold EX
 rw[List.take_succ_eq_append_getElem h,List.flatMap_append]
 simp
theorem RX {A:Nat→Nat→Bool} {n k j:Nat} {L:List Nat} (h:k<L.length):(EX A n (L.take k)++((Na A n L[k]).take j).map fun v=>(L[k],v))++(((Na A n L[k]).drop j).map (fun v=>(L[k],v))++EX A n (L.drop (k+1)))=EX A n L:=by
 rw[List.append_assoc,←List.append_assoc (List.map _ _),←List.map_append,List.take_append_drop,←List.append_assoc,←UM h]
 unfold EX
 rw[← List.flatMap_append,List.take_append_drop]
set_option maxHeartbeats 8000000 in
theorem Af6 {ids:List Int} {A:Nat→Nat→Bool} {n i:Nat} (RY:ids.length=n) (hn:n≤12) (hi:i<n):
 Aw (Ad tab) 19 [Ad8 ids A n,.int .i64 i] (· =.Dy [.sl true (ints (Gj n (Ho A n i))),.sl true (ints (Gj n fun v=>(GZ A n i v:Int))),.bool true]):=by
 have Am9:2 ^ n≤4096:=(Nat.pow_le_pow_right (by omega) hn:2 ^ n≤2 ^ 12)
 have lT:∀f:Nat→Int,(Gj n f).length=n:=fun f=>Vr
 have hRl:((List.range n).map (Na A n)).length=n:=by simp
 obtain⟨RR,hRR⟩:∃RR,RR=(List.range n).map (Na A n):=⟨_,rfl⟩
 have Aky:∀u (h:u<RR.length),RR[u]=Na A n u:=fun u h=>by subst hRR;simp
 rw[← hRR]at hRl
 obtain⟨nv,hnv⟩:∃nv,nv=Ad8 ids A n:=⟨_,rfl⟩
 have Aie:nv=.agg [.sl (decide (0<n)) (ints ids),.sl true (vs Uz RR)]:=by rw[hnv,hRR];rfl
 rw[← hnv,Aie]
 clear hnv Aie nv hRR
 subst RY
 refine Ah rfl rfl ?_
 (conv=>whnf);repeat' (first  |(refine kA ?_;conv=>whnf)|(refine Br.mk (fun hc=>?_) fun hc=>?_<;>first|exact hc.elim|conv=>whnf)|(refine kB ?_))
 all_goals first|(exfalso;omega)|skip
 refine Au (fun m env s=>∃(k c:Nat) (D:List Int),m=ids.length-k∧k≤ids.length∧D.length=ids.length∧(∀ q (h:q<D.length),q<k→D[q]=-1)∧env=[(1,.int .i64 i),(2,.ref 0 0 0 0),(4,.own 3 3 0 ids.length),(5,.own 4 4 0 ids.length),(25,.int .i64 ids.length),(26,.int .i64 k)]∧s=⟨[.arr 0 2 true true [.agg [.sl (decide (0<ids.length)) (ints ids),.sl true (vs Uz RR)]],.arr 1 1 false true [],.arr 2 1 false true [],.arr 3 1 true true (ints D),.arr 4 1 true true (ints (List.replicate ids.length 0))],c⟩) ?_ _ _ _ ⟨0,_,List.replicate ids.length 0,rfl,by omega,by simp,fun q h hq=>by omega,rfl,rfl⟩
 rintro _ _ _ ⟨k,c,D,rfl,hk,hDl,hD,rfl,rfl⟩
 refine⟨rfl,?_⟩
 by_cases hlt:k<ids.length
 ·(conv=>whnf);repeat' (first  |(refine kA ?_;conv=>whnf)|(refine Br.mk (fun hc=>?_) fun hc=>?_<;>first|exact hc.elim|conv=>whnf)|(refine kB ?_))
  all_goals first
   |(exfalso;omega)
   |exact again.mk ⟨_,by omega,k+1,_,D.set k (-1),rfl,by omega,by rw[List.length_set];exact hDl,fun q h hq=>by
       rw[List.getElem_set]
       by_cases e:k=q
       ·rw[if_pos e]
       ·rw[if_neg e];exact hD q (by simpa using h) (by omega),rfl,rfl⟩
 ·obtain rfl:D=Gj ids.length (fun _=>-1):=by
   apply List.ext_getElem
   ·rw[hDl,Vr]
   ·intro q h1 h2
    rw[DY,hD q h1 (by omega)]
  rw[Aeo]
  clear hD hDl
  have s1:(Gj ids.length (fun _=>-1)).set i 0=Gj ids.length (QM (fun _=>-1) i 0):=QU
  have s2:(Gj ids.length (fun _=>0)).set i 1=Gj ids.length (QM (fun _=>0) i 1):=QU
  have l1:=lT (fun _=>-1)
  have l2:=lT (fun _=>0)
  (conv=>whnf);repeat' (first|(rw [s1];conv=>whnf)|(rw [s2];conv=>whnf)|(refine kA ?_;conv=>whnf)|(refine Br.mk (fun hc=>?_) fun hc=>?_<;>first|exact hc.elim|conv=>whnf)|(refine kB ?_))
  all_goals first|(exfalso;omega)|skip
  have hB0:=Uc.start (A:=A) hi
  have hL0:=Lvl.start (A:=A) hi
  refine Au (fun m env s=>∃(d c:Nat) (L:List Nat) (nl:Bool) (fD fC:Nat→Int),m=ids.length+1-d∧Lvl A ids.length i d L∧Uc A ids.length i d [] fD fC []∧env=[(2,.ref 0 0 0 0),(4,.own 3 3 0 ids.length),(5,.own 4 4 0 ids.length),(6,.bool true),(8,.sl nl (vs Py L))]∧s=⟨stR (.agg [.sl (decide (0<ids.length)) (ints ids),.sl true (vs Uz RR)]) fD fC ids.length [],c⟩) ?_ _ _ _ ⟨0,_,[i],true,_,_,rfl,hL0,hB0,rfl,rfl⟩
  clear hB0 hL0 s1 s2 l1 l2 hlt hk
  rintro _ _ _ ⟨d,c,L,nl,fD,fC,rfl,hL,hB,rfl,rfl⟩
  refine⟨rfl,?_⟩
  have hsub:∀f:Nat→Int,sub (ints (Gj ids.length f)) 0 ids.length=ints (Gj ids.length f):=fun f=>by
   have:=@uI (Gj ids.length f)
   rwa [lT]at this
  by_cases hL0:L=[]
  ·subst hL0
   have e1:Gj ids.length fD=Gj ids.length (Ho A ids.length i):=UK fun w hw=>(hB.done hi hL hw).1
   have e2:Gj ids.length fC=Gj ids.length fun v=>(GZ A ids.length i v:Int):=UK fun w hw=>(hB.done hi hL hw).2
   unfold stR
   rw[e1,e2]
   (conv=>whnf);repeat' (first|(refine Am ⟨rfl,by rw[lI,lT];omega⟩ ?_;conv=>whnf)|(refine BI (hsub _) ?_;conv=>whnf)|(refine kA ?_;conv=>whnf)|(refine Br.mk (fun hc=>?_) fun hc=>?_<;>first|exact hc.elim|conv=>whnf)|(refine kB ?_))
   all_goals first|rfl|(exfalso;omega)
  have hLp:0<L.length:=List.length_pos_iff.2 hL0
  have hdn:=hL.lt hi hL0
  have hlL:L.length≤ids.length:=ZG hL.1 fun u hu=>((hL.2 u).1 hu).1
  (conv=>whnf);repeat' (first  |(refine kA ?_;conv=>whnf)|(refine Br.mk (fun hc=>?_) fun hc=>?_<;>first|exact hc.elim|conv=>whnf)|(refine kB ?_))
  all_goals first|(exfalso;omega)|skip
  refine Au (fun m env s=>∃(k c gN:Nat) (nn:Bool) (nx:List Nat) (fD fC:Nat→Int),m=L.length-k∧k≤L.length∧Uc A ids.length i d (EX A ids.length (L.take k)) fD fC nx∧env=[(2,.ref 0 0 0 0),(4,.own 3 3 0 ids.length),(5,.own 4 4 0 ids.length),(6,.bool true),(9,.own 5 gN 0 nx.length),(44,.sl nl (vs Py L)),(45,.int .i64 L.length),(46,.int .i64 k)]∧s=⟨stR (.agg [.sl (decide (0<ids.length)) (ints ids),.sl true (vs Uz RR)]) fD fC ids.length [.arr gN 1 nn true (vs Py nx)],c⟩) ?_ _ _ _ ⟨0,_,_,false,[],fD,fC,rfl,by omega,hB,rfl,rfl⟩
  clear hB fD fC
  rintro _ _ _ ⟨k,c,gN,nn,nx,fD,fC,rfl,hk,hB,rfl,rfl⟩
  refine⟨rfl,?_⟩
  have hnl:nx.length≤ids.length:=ZG hB.nd fun u hu=>((hB.mem u).1 hu).1
  by_cases Aer:k<L.length
  case neg=>
   obtain rfl:k=L.length:=by omega
   rw[List.take_of_length_le (Nat.le_refl _)]at hB
   obtain⟨hL',hB'⟩:=hB.next hL
   (conv=>whnf);repeat' (first  |(refine kA ?_;conv=>whnf)|(refine Br.mk (fun hc=>?_) fun hc=>?_<;>first|exact hc.elim|conv=>whnf)|(refine kB ?_))
   all_goals first|(exfalso;omega)|skip
   refine Au (fun m env s=>∃(j c:Nat),m=nx.length-j∧j≤nx.length∧env=[(2,.ref 0 0 0 0),(4,.own 3 3 0 ids.length),(5,.own 4 4 0 ids.length),(6,.bool true),(9,.own 5 gN 0 nx.length),(102,.own 5 gN 0 nx.length),(103,.int .i64 nx.length),(104,.int .i64 j)]∧s=⟨stR (.agg [.sl (decide (0<ids.length)) (ints ids),.sl true (vs Uz RR)]) fD fC ids.length [.arr gN 1 nn true (vs Py nx)],c⟩) ?_ _ _ _ ⟨0,_,rfl,by omega,rfl,rfl⟩
   rintro _ _ _ ⟨j,c,rfl,hj,rfl,rfl⟩
   refine⟨rfl,?_⟩
   have htS:sub (vs Py nx) 0 nx.length=vs Py nx:=uV
   by_cases hjlt:j<nx.length
   ·have hvn:nx[j]<ids.length:=((hB.mem _).1 (List.getElem_mem hjlt)).1
    have hb:=VP hB hL (T:=[]) (List.append_nil _) hvn
    have hlen:=lT fC
    have hat:(Gj ids.length fC)[nx[j]]'(by rw[lT];exact hvn)=fC nx[j]:=DY _
    (conv=>whnf);repeat' (first  |(refine kA ?_;conv=>whnf)|(refine Br.mk (fun hc=>?_) fun hc=>?_<;>first|exact hc.elim|conv=>whnf)|(refine kB ?_))
    all_goals first
     |(exfalso;omega)
     |exact again.mk ⟨_,by omega,j+1,_,rfl,by omega,rfl,rfl⟩
   ·(conv=>whnf);repeat' (first  |(refine kA ?_;conv=>whnf)|(refine Br.mk (fun hc=>?_) fun hc=>?_<;>first|exact hc.elim|conv=>whnf)|(refine kB ?_))
    all_goals first
     |(exfalso;omega)
     |exact again.mk ⟨_,by omega,d+1,_,nx,nn,fD,fC,rfl,hL',hB',rfl,rfl⟩
  ·have hu:=(hL.2 L[k]).1 (List.getElem_mem Aer)
   have hfu:=hB.near _ hu.1 d (Nat.le_refl d) hu.2
   have hrow:RR[L[k]]'(by rw[hRl];exact hu.1)=Na A ids.length L[k]:=Aky _ _
   have hRu:L[k]<RR.length:=by rw[hRl];exact hu.1
   obtain⟨row,hrw⟩:∃row,row=Na A ids.length L[k]:=⟨_,rfl⟩
   rw[← hrw]at hrow
   have hrl:row.length≤ids.length:=by rw[hrw];exact ZG Aco fun u hu=>(Hr.1 hu).1
   have hnr:nth (vs Uz RR) (Int.toNat (Nat.cast L[k]))=some (Uz row):=by rw[nVN hRu,hrow]
   unfold Uz at hnr
   (conv=>whnf);repeat' (first|(refine AA hnr ?_;conv=>whnf)|(refine kA ?_;conv=>whnf)|(refine Br.mk (fun hc=>?_) fun hc=>?_<;>first|exact hc.elim|conv=>whnf)|(refine kB ?_))
   all_goals first|(exfalso;omega)|skip
   have hBk:Uc A ids.length i d (EX A ids.length (L.take k)++(row.take 0).map fun v=>(L[k],v)) fD fC nx:=by simpa using hB
   refine Au (fun m env s=>∃(j c gN:Nat) (nn:Bool) (nx:List Nat) (fD fC:Nat→Int),m=row.length-j∧j≤row.length∧Uc A ids.length i d (EX A ids.length (L.take k)++(row.take j).map fun v=>(L[k],v)) fD fC nx∧env=[(2,.ref 0 0 0 0),(4,.own 3 3 0 ids.length),(5,.own 4 4 0 ids.length),(6,.bool true),(9,.own 5 gN 0 nx.length),(11,.int .i64 L[k]),(44,.sl nl (vs Py L)),(45,.int .i64 L.length),(46,.int .i64 k),(54,.sl (decide (row≠[])) (vs Py row)),(55,.int .i64 row.length),(56,.int .i64 j)]∧s=⟨stR (.agg [.sl (decide (0<ids.length)) (ints ids),.sl true (vs Uz RR)]) fD fC ids.length [.arr gN 1 nn true (vs Py nx)],c⟩) ?_ _ _ _ ⟨0,_,gN,nn,nx,fD,fC,rfl,by omega,hBk,rfl,rfl⟩
   clear hBk hB hfu hnl fD fC nx nn gN c
   rintro _ _ _ ⟨j,c,gN,nn,nx,fD,fC,rfl,hj,hB,rfl,rfl⟩
   refine⟨rfl,?_⟩
   have hnl:nx.length≤ids.length:=ZG hB.nd fun u hu=>((hB.mem u).1 hu).1
   by_cases hjlt:j<row.length
   case neg=>
        obtain rfl:j=row.length:=by omega
        rw[List.take_of_length_le (Nat.le_refl _),hrw,←UM Aer]at hB
        (conv=>whnf);repeat' (first  |(refine kA ?_;conv=>whnf)|(refine Br.mk (fun hc=>?_) fun hc=>?_<;>first|exact hc.elim|conv=>whnf)|(refine kB ?_))
        all_goals first
         |(exfalso;omega)
         |exact again.mk ⟨_,by omega,k+1,_,gN,nn,nx,fD,fC,rfl,by omega,hB,rfl,rfl⟩
   have hv:=Hr.1 (show row[j]∈Na A ids.length L[k] by rw[← hrw];exact List.getElem_mem hjlt)
   have hstep:((row.take (j+1)).map fun v=>(L[k],v))=((row.take j).map fun v=>(L[k],v))++[(L[k],row[j])]:=by
        rw[List.take_succ_eq_append_getElem hjlt,List.map_append];rfl
   have hfull:EX A ids.length (L.take k)++((row.take (j+1)).map fun v=>(L[k],v))=(EX A ids.length (L.take k)++((row.take j).map fun v=>(L[k],v)))++[(L[k],row[j])]:=by
        rw[hstep,List.append_assoc]
   obtain⟨Aif,hfu2⟩:=hB.near _ hu.1 d (Nat.le_refl d) hu.2
   have lD:=lT fD
   have lC:=lT fC
   have aDu:(Gj ids.length fD)[L[k]]'(by rw[lT];exact hu.1)=d:=by rw[DY];exact Aif
   have aCu:(Gj ids.length fC)[L[k]]'(by rw[lT];exact hu.1)=fC L[k]:=DY _
   have bCu:=VP hB hL (RX Aer (j:=j) |> fun h=>by rw[hrw];exact h) hu.1
   by_cases Acu:QD A ids.length i d row[j]
   case neg=>
        obtain⟨e,he,hde⟩:=Aid Acu
        have aDv:(Gj ids.length fD)[row[j]]'(by rw[lT];exact hv.1)=e:=by rw[DY];exact(hB.near _ hv.1 e he hde).1
        have hB':=hB.Acp (u:=L[k]) Acu
        rw[← hfull]at hB'
        (conv=>whnf);repeat' (first  |(refine kA ?_;conv=>whnf)|(refine Br.mk (fun hc=>?_) fun hc=>?_<;>first|exact hc.elim|conv=>whnf)|(refine kB ?_))
        all_goals first
         |(exfalso;omega)
         |exact again.mk ⟨_,by omega,j+1,_,gN,nn,nx,fD,fC,rfl,by omega,hB',rfl,rfl⟩
   have hcv:=hB.far _ hv.1 Acu
   have aCv:(Gj ids.length fC)[row[j]]'(by rw[lT];exact hv.1)=fC row[j]:=DY _
   have bCv:=VP hB hL (RX Aer (j:=j) |> fun h=>by rw[hrw];exact h) hv.1
   have sC:(Gj ids.length fC).set row[j] (if 1000000000000001<(Gj ids.length fC)[row[j]]'(by rw[lT];exact hv.1)+(Gj ids.length fC)[L[k]]'(by rw[lT];exact hu.1)then 1000000000000001 else(Gj ids.length fC)[row[j]]'(by rw[lT];exact hv.1)+(Gj ids.length fC)[L[k]]'(by rw[lT];exact hu.1))=Gj ids.length (QM fC row[j] (fC row[j]+wk A ids.length i d L[k])):=by
        rw[if_neg (by omega),QU,aCv,aCu,hfu2]
   by_cases hin:row[j]∈nx
   ·have aDv:(Gj ids.length fD)[row[j]]'(by rw[lT];exact hv.1)=d+1:=by rw[DY,hcv.2,if_pos hin]
    have hB':=hB.Aep (u:=L[k]) hin
    rw[← hfull]at hB'
    (conv=>whnf);repeat' (first|(rw [sC];conv=>whnf)|(refine kA ?_;conv=>whnf)|(refine Br.mk (fun hc=>?_) fun hc=>?_<;>first|exact hc.elim|conv=>whnf)|(refine kB ?_))
    all_goals first
     |(exfalso;omega)
     |exact again.mk ⟨_,by omega,j+1,_,gN,nn,nx,fD,_,rfl,by omega,hB',rfl,rfl⟩
   ·have aDv:(Gj ids.length fD)[row[j]]'(by rw[lT];exact hv.1)=-1:=by rw[DY,hcv.2,if_neg hin]
    have hB':=hB.newStep (u:=L[k]) hv.1 Acu hin
    rw[← hfull]at hB'
    have hne:L[k]≠row[j]:=fun e=>Acu d (Nat.le_refl d) (by rw[← e];exact hu.2)
    have sD:(Gj ids.length fD).set row[j] ((Gj ids.length fD)[L[k]]'(by rw[lT];exact hu.1)+1)=Gj ids.length (QM fD row[j] ((d:Int)+1)):=by
     rw[QU,aDu]
    have lD2:=lT (QM fD row[j] ((d:Int)+1))
    have Ane:(Gj ids.length (QM fD row[j] ((d:Int)+1)))[row[j]]'(by rw[lT];exact hv.1)=d+1:=by rw[DY,G5]
    have Anf:(Gj ids.length (QM fD row[j] ((d:Int)+1)))[L[k]]'(by rw[lT];exact hu.1)=d:=by rw[DY,DX hne];exact Aif
    (conv=>whnf);repeat' (first|(rw [sD];conv=>whnf)|(rw [sC];conv=>whnf)|(refine Vb (f:=Py) (l:=nx) (x:=row[j]) Acs rfl (by omega) ?_;conv=>whnf)|(refine kA ?_;conv=>whnf)|(refine Br.mk (fun hc=>?_) fun hc=>?_<;>first|exact hc.elim|conv=>whnf)|(refine kB ?_))
    all_goals first
     |(exfalso;omega)
     |exact again.mk ⟨_,by omega,j+1,_,_,true,nx++[row[j]],_,_,rfl,by omega,hB',by rw[List.length_append];rfl,rfl⟩
section
open Go.Sort
def ltJ (x y:Int):Bool:=decide (x<y)
theorem N7 {x y:Int}:ltJ x y=true↔x<y:=by unfold ltJ;rw[decide_eq_true_eq]
theorem JL {x y:Int}:ltJ x y=false↔¬x<y:=by rw[← N7];simp
theorem Zw:SWO ltJ where
 irrefl x:=JL.2 (by omega)
 trans x y z h1 h2:=N7.2 (by have:=N7.1 h1;have:=N7.1 h2;omega)
 ntrans x y z h1 h2:=JL.2 (by have:=JL.1 h1;have:=JL.1 h2;omega)
theorem AgW (x:Int):(AV.int .i64 x).cells.length=1:=rfl
attribute [irreducible] ltJ
end
theorem Pj {AP:Nat→Option Hf} {f:Nat} {sp:List AV→Ag→Option (AL×Ag)} {args:List AV} {s s':Ag} {out:AL} {K:AL→Ag→Prop} (hf:AP f=some (.ext sp)) (h:sp args s=some (out,s')) (hK:K out s'):DC AP f args s K:=
 ⟨1,out,s',by simp only[run,hf];exact h,hK⟩
section
open Go.Sort
theorem Ae6 (L:List Int):(FQ L).Pairwise fun x y=>ltJ y x=false:=(NP L).imp fun h=>JL.2 (by omega)
theorem Aao (L:List Int):WJ (vs (.int .i64) L)=some L:=WL L
theorem Ahc {ob0:Obj} {g len c:Nat} {nn cl:Bool} {L:List Int} (hl:L.length=len) (hs:len≤1099511627776):
 DC (Ad tab) 28 [.own 0 g 0 len] ⟨[.arr g 1 nn cl (vs (.int .i64) L),ob0],c⟩ fun out s'=>∃c' W,out=.ok (.Dy [])∧s'=⟨[.arr g 1 nn cl (vs (.int .i64) W),ob0],c'⟩∧W.Perm L∧W.Pairwise (fun x y=>ltJ y x=false):=by
 have hsp:Gn [.own 0 g 0 len] ⟨[.arr g 1 nn cl (vs (.int .i64) L),ob0],c⟩=some (.ok (.Dy []),⟨[.arr g 1 nn cl (vs (.int .i64) (FQ L)),ob0],c⟩):=by
  show(if g=g∧1=1∧len=(vs (AV.int .i64) L).length∧len≤1099511627776 then _ else none)=_
  rw[if_pos ⟨rfl,rfl,by rw[lV,hl],hs⟩,Aao]
  rfl
 exact Pj rfl hsp ⟨c,FQ L,rfl,rfl,Gm L,Ae6 L⟩
end
section
variable {α β:Type} [DecidableEq α]
def AbU (M:List (α×β)):Prop:=(M.map (·.1)).Nodup
theorem Ia {M:List (α×β)} {k:α}:Dq M k=none↔k∉M.map (·.1):=by
 induction M with
 |nil=>simp[Dq]
 |cons p M ih=>
  obtain⟨a,b⟩:=p
  by_cases h:k=a
  ·subst h;simp[Dq]
  ·rw[show Dq ((a,b)::M) k=Dq M k from if_neg h,ih,List.map_cons,List.mem_cons]
   simp[h]
theorem AaE {M:List (α×β)} {k x:α} {v:β}:x∈(D9 M k v).map (·.1)↔x=k∨x∈M.map (·.1):=by
 have h:=@Ia α β _ (D9 M k v) x
 have h2:=@Ia α β _ M x
 rw[Ib]at h
 by_cases e:x=k
 ·subst e
  rw[if_pos rfl]at h
  refine⟨fun _=>.inl rfl,fun _=>Classical.byContradiction fun hc=>by have:=h.2 hc;cases this⟩
 ·rw[if_neg e]at h
  constructor
  ·intro hx
   refine .inr (Classical.byContradiction fun hc=>(h.1 (h2.2 hc)) hx)
  ·rintro(hx|hx)
   ·exact absurd hx e
   ·exact Classical.byContradiction fun hc=>(h2.1 (h.2 hc)) hx
theorem Yx {M:List (α×β)} (hn:AbU M) (k:α) (v:β):AbU (D9 M k v):=by
 induction M with
 |nil=>simp[AbU,D9]
 |cons p M ih=>
  obtain⟨a,b⟩:=p
  have hn':=List.nodup_cons.1 hn
  by_cases e:k=a
  ·subst e
   rw[show D9 ((k,b)::M) k v=(k,v)::M from if_pos rfl]
   exact List.nodup_cons.2 hn'
  ·rw[show D9 ((a,b)::M) k v=(a,b)::D9 M k v from if_neg e]
   refine List.nodup_cons.2 ⟨fun h=>?_,ih hn'.2⟩
   rcases AaE.1 h with h|h
   ·exact e h.symm
   ·exact hn'.1 h
variable {fk:α→AV} {fv:β→AV} {t:IQ}
end
abbrev BQ (M:List (Int×Bool)):List (AV×AV):=Hq (.int .i64) .bool M
theorem msT {M:List (Int×Bool)} {k:Int} {v:Bool} {K:List (AV×AV)→Prop} (h:K (BQ (D9 M k v))):Xf .int (.int .i64 k) (.bool v) (BQ M) K:=Nc Es h
section
inductive Yj (nx:Int→List Int) (a:Int):Int→Prop
 |refl:Yj nx a a
 |step {b c:Int}:Yj nx a b→c∈nx b→Yj nx a c
theorem Yj.trans {nx:Int→List Int} {a b c:Int} (h:Yj nx a b) (k:Yj nx b c):Yj nx a c:=by
 induction k with
 |refl=>exact h
 |step _ hc ih=>exact .step ih hc
theorem Yj.one {nx:Int→List Int} {a b:Int} (h:b∈nx a):Yj nx a b:=.step .refl h
def Least (nx:Int→List Int) (v x:Int):Prop:=Yj nx v x∧Yj nx x v∧∀u,Yj nx v u→Yj nx u v→x≤u
def upd {α:Type} (f:Int→α) (a:Int) (b:α):Int→α:=fun x=>if x=a then b else f x
theorem LD {α:Type} {f:Int→α} {a:Int} {b:α}:upd f a b a=b:=if_pos rfl
theorem upd_ne {α:Type} {f:Int→α} {a x:Int} {b:α} (h:x≠a):upd f a b x=f x:=if_neg h
structure TJ where
 n:Nat
 vis:Int→Prop
 ix:Int→Nat
 low:Int→Nat
 S:List Int
 T:List (Int×Nat)
 sm:Int→Int
def Yf (T:List (Int×Nat)) (v:Int):Prop:=∀p∈T,p.1≠v
structure O4 (nx:Int→List Int) (s:TJ):Prop where
 vlt:∀v,s.vis v→s.ix v<s.n
 inj:∀v w,s.vis v→s.vis w→s.ix v=s.ix w→v=w
 sV:∀v∈s.S,s.vis v
 sI:s.S.Pairwise (fun a b=>s.ix a<s.ix b)
 tS:∀p∈s.T,p.1∈s.S
 tI:s.T.Pairwise (fun a b=>s.ix b.1<s.ix a.1)
 tR:∀p∈s.T,∀v∈s.S,s.ix p.1≤s.ix v→Yj nx p.1 v
 tA:∀p∈s.T,p.2≤(nx p.1).length∧∀j w,j<p.2→(nx p.1)[j]?=some w→s.vis w
 lf:∀v,s.vis v→Yf s.T v→∀w∈nx v,s.vis w
 pp:∀v,s.vis v→v∉s.S→∀w∈nx v,s.vis w∧w∉s.S
 lo:∀v∈s.S,s.low v≤s.ix v∧∃w∈s.S,s.ix w=s.low v∧Yj nx v w
 le:∀v∈s.S,∀w∈s.S,w∈nx v→(∀ p∈s.T,p.1=v→∃j,j<p.2∧(nx v)[j]?=some w)→s.low v≤s.ix w
 lc:∀v∈s.S,Yf s.T v→∀p∈s.T,s.ix p.1<s.ix v→(∀ q∈s.T,s.ix q.1<s.ix v→s.ix q.1≤s.ix p.1)→s.low p.1≤s.low v
 ll:∀v∈s.S,Yf s.T v→s.low v<s.ix v
 rt:∀v∈s.S,∃p∈s.T,s.ix p.1≤s.ix v
 ok:∀v,s.vis v→v∉s.S→Least nx v (s.sm v)
variable {nx:Int→List Int} {s:TJ}
theorem O4.none {ix low:Int→Nat} {sm:Int→Int}:O4 nx ⟨0,fun _=>False,ix,low,[],[],sm⟩ where
 vlt:=fun _ h=>h.elim
 inj:=fun _ _ h=>h.elim
 sV:=fun _ h=>by cases h
 sI:=List.Pairwise.nil
 tS:=fun _ h=>by cases h
 tI:=List.Pairwise.nil
 tR:=fun _ h=>by cases h
 tA:=fun _ h=>by cases h
 lf:=fun _ h=>h.elim
 pp:=fun _ h=>h.elim
 lo:=fun _ h=>by cases h
 le:=fun _ h=>by cases h
 lc:=fun _ h=>by cases h
 ll:=fun _ h=>by cases h
 rt:=fun _ h=>by cases h
 ok:=fun _ h=>h.elim
abbrev Ahm (s:TJ) (m:Int) (T1:List (Int×Nat)):TJ:=⟨s.n+1,fun v=>s.vis v∨v=m,upd s.ix m s.n,upd s.low m s.n,s.S++[m],(m,0)::T1,s.sm⟩
structure Goes (nx:Int→List Int) (s:TJ) (m:Int) (T1:List (Int×Nat)):Prop where
 nm:T1.map Prod.fst=s.T.map Prod.fst
 old:∀p∈T1,p∈s.T∨(∃ q,s.T.head?=some q∧q.1=p.1∧p.2=q.2+1∧(nx p.1)[q.2]?=some m)
 top:∀p,s.T.head?=some p→m∈nx p.1
theorem O5 {T1 T:List (Int×Nat)} (h:T1.map Prod.fst=T.map Prod.fst) {v:Int}:(∃ p∈T1,p.1=v)↔∃p∈T,p.1=v:=by
 have e:∀{L:List (Int×Nat)},(∃ p∈L,p.1=v)↔v∈L.map Prod.fst:=fun{L}=>by rw[List.mem_map]
 rw[e,e,h]
theorem Zl {T1 T:List (Int×Nat)} (h:T1.map Prod.fst=T.map Prod.fst) {p:Int×Nat} (hp:p∈T1):∃q∈T,q.1=p.1:=(O5 h).1 ⟨p,hp,rfl⟩
theorem Aff {T1 T:List (Int×Nat)} (h:T1.map Prod.fst=T.map Prod.fst) {v:Int}:Yf T1 v↔Yf T v:=by
 have:=O5 h (v:=v)
 unfold Yf
 constructor
 ·intro k p hp e;obtain⟨q,hq,eq⟩:=this.2 ⟨p,hp,e⟩;exact k q hq eq
 ·intro k p hp e;obtain⟨q,hq,eq⟩:=this.1 ⟨p,hp,e⟩;exact k q hq eq
theorem Ahn {R:Int→Int→Prop} {T1 T:List (Int×Nat)} (h:T1.map Prod.fst=T.map Prod.fst) (k:T.Pairwise fun a b=>R a.1 b.1):T1.Pairwise fun a b=>R a.1 b.1:=by
 have e:∀{L:List (Int×Nat)},(L.map Prod.fst).Pairwise R↔L.Pairwise fun a b=>R a.1 b.1:=fun{L}=>List.pairwise_map
 rw[← e]at k ⊢
 rw[h];exact k
theorem O4.enter (h:O4 nx s) {m:Int} {T1:List (Int×Nat)} (hm:¬s.vis m) (g:Goes nx s m T1):O4 nx (Ahm s m T1):=by
 have Afg:upd s.ix m s.n m=s.n:=LD
 have hix:∀v,s.vis v→upd s.ix m s.n v=s.ix v:=fun v hv=>upd_ne fun e=>hm (e▸hv)
 have hlow:∀v,s.vis v→upd s.low m s.n v=s.low v:=fun v hv=>upd_ne fun e=>hm (e▸hv)
 have hS:∀v∈s.S++[m],v∈s.S∨v=m:=fun v hv=>by simpa using hv
 have hTS:∀p∈T1,p.1∈s.S:=fun p hp=>by obtain⟨q,hq,e⟩:=Zl g.nm hp;rw[← e];exact h.tS q hq
 have hTv:∀p∈T1,s.vis p.1:=fun p hp=>h.sV _ (hTS p hp)
 have hmS:m∉s.S:=fun hx=>hm (h.sV _ hx)
 have hoff:∀v,Yf ((m,0)::T1) v→v≠m∧Yf s.T v:=fun v hv=>⟨fun e=>hv (m,0) (by simp) e.symm,(Aff g.nm).1 fun p hp=>hv p (by simp[hp])⟩
 have htop:∀v∈s.S,∃p,s.T.head?=some p∧True:=fun v hv=>by
  obtain⟨p,hp,_⟩:=h.rt v hv
  cases hT:s.T with
  |nil=>rw[hT]at hp;cases hp
  |cons a r=>exact⟨a,rfl,trivial⟩
 have hhead:∀p,s.T.head?=some p→∀q∈s.T,s.ix q.1≤s.ix p.1:=fun p hp q hq=>by
  have hI:=h.tI
  cases hT:s.T with
  |nil=>rw[hT]at hq;cases hq
  |cons a r=>
   rw[hT]at hp hq hI
   simp only[List.head?_cons,Option.some.injEq]at hp
   subst hp
   rcases List.mem_cons.1 hq with rfl|hq
   ·exact Nat.le_refl _
   ·exact Nat.le_of_lt ((List.pairwise_cons.1 hI).1 q hq)
 refine⟨?_,?_,?_,?_,?_,?_,?_,?_,?_,?_,?_,?_,?_,?_,?_,?_⟩
 ·rintro v (hv|rfl)
  ·show upd s.ix m s.n v<s.n+1
   rw[hix v hv];have:=h.vlt v hv;omega
  ·show upd s.ix v s.n v<s.n+1
   rw[LD];omega
 ·rintro v w (hv|rfl) (hw|rfl) e
  ·replace e:upd s.ix m s.n v=upd s.ix m s.n w:=e
   rw[hix v hv,hix w hw]at e;exact h.inj v w hv hw e
  ·replace e:upd s.ix w s.n v=upd s.ix w s.n w:=e
   rw[hix v hv,LD]at e;have:=h.vlt v hv;omega
  ·replace e:upd s.ix v s.n v=upd s.ix v s.n w:=e
   rw[hix w hw,LD]at e;have:=h.vlt w hw;omega
  ·rfl
 ·intro v hv
  rcases hS v hv with hv|rfl
  ·exact .inl (h.sV v hv)
  ·exact .inr rfl
 ·show(s.S++[m]).Pairwise fun a b=>upd s.ix m s.n a<upd s.ix m s.n b
  rw[List.pairwise_append]
  refine⟨h.sI.imp_of_mem fun ha hb hab=>by rw[hix _ (h.sV _ ha),hix _ (h.sV _ hb)];exact hab,List.pairwise_singleton _ _,fun a ha b hb=>?_⟩
  rw[List.mem_singleton]at hb
  subst hb
  rw[hix a (h.sV a ha),Afg];exact h.vlt a (h.sV a ha)
 ·intro p hp
  show p.1∈s.S++[m]
  rcases List.mem_cons.1 hp with rfl|hp
  ·simp
  ·simp[hTS p hp]
 ·show((m,0)::T1).Pairwise fun a b=>upd s.ix m s.n b.1<upd s.ix m s.n a.1
  refine List.pairwise_cons.2 ⟨fun p hp=>?_,?_⟩
  ·rw[hix _ (hTv p hp),Afg];exact h.vlt _ (hTv p hp)
  ·have hp:=Ahn (R:=fun a b=>s.ix b<s.ix a) g.nm h.tI
   exact hp.imp_of_mem fun ha hb hab=>by rw[hix _ (hTv _ ha),hix _ (hTv _ hb)];exact hab
 ·intro p hp v hv hle
  replace hle:upd s.ix m s.n p.1≤upd s.ix m s.n v:=hle
  rcases List.mem_cons.1 hp with rfl|hp
  ·rcases hS v hv with hv|rfl
   ·rw[hix v (h.sV v hv)]at hle
    replace hle:upd s.ix m s.n m≤s.ix v:=hle
    rw[Afg]at hle;have:=h.vlt v (h.sV v hv);omega
   ·exact .refl
  ·obtain⟨q,hq,e⟩:=Zl g.nm hp
   have hpS:=hTS p hp
   rcases hS v hv with hv|rfl
   ·rw[hix _ (hTv p hp),hix v (h.sV v hv)]at hle
    rw[← e]at hle ⊢;exact h.tR q hq v hv hle
   ·obtain⟨r,hr,_⟩:=htop p.1 hpS
    have h1:=hhead r hr q hq
    have hrm:r∈s.T:=List.mem_of_head? hr
    rw[← e]
    exact .step (h.tR q hq r.1 (h.tS r hrm) h1) (g.top r hr)
 ·intro p hp
  rcases List.mem_cons.1 hp with rfl|hp
  ·exact⟨Nat.zero_le _,fun j w hj=>absurd hj (Nat.not_lt_zero _)⟩
  ·rcases g.old p hp with hq|⟨q,hq,e1,e2,e3⟩
   ·exact⟨(h.tA p hq).1,fun j w hj hw=>.inl ((h.tA p hq).2 j w hj hw)⟩
   ·have hqm:q∈s.T:=List.mem_of_head? hq
    have hk:=h.tA q hqm
    rw[e1]at hk
    have hlt:q.2<(nx p.1).length:=(List.getElem?_eq_some_iff.1 e3).1
    refine⟨by omega,fun j w hj hw=>?_⟩
    by_cases hjq:j<q.2
    ·exact .inl (hk.2 j w hjq hw)
    ·obtain rfl:j=q.2:=by omega
     rw[e3]at hw
     exact .inr (Option.some.inj hw).symm
 ·rintro v hv ho w hw
  obtain⟨o1,o2⟩:=hoff v ho
  rcases hv with hv|hv
  ·exact .inl (h.lf v hv o2 w hw)
  ·exact absurd hv o1
 ·rintro v hv hns w hw
  have AdG:v∉s.S∧v≠m:=⟨fun h=>hns (by show v∈s.S++[m];simp[h]),fun h=>hns (by show v∈s.S++[m];simp[h])⟩
  rcases hv with hv|hv
  ·obtain⟨a,b⟩:=h.pp v hv AdG.1 w hw
   refine⟨.inl a,fun hx=>?_⟩
   rcases hS w hx with hx|rfl
   ·exact b hx
   ·exact hm a
  ·exact absurd hv AdG.2
 ·intro v hv
  show upd s.low m s.n v≤upd s.ix m s.n v∧∃w∈s.S++[m],upd s.ix m s.n w=upd s.low m s.n v∧Yj nx v w
  rcases hS v hv with hv|rfl
  ·rw[hlow v (h.sV v hv),hix v (h.sV v hv)]
   obtain⟨a,w,b,c,d⟩:=h.lo v hv
   exact⟨a,w,by simp[b],by rw[hix w (h.sV w b)];exact c,d⟩
  ·rw[LD,LD]
   exact⟨Nat.le_refl _,v,by simp,LD,.refl⟩
 ·intro v hv w hw he hd
  show upd s.low m s.n v≤upd s.ix m s.n w
  rcases hS v hv with hv|rfl
  ·rw[hlow v (h.sV v hv)]
   have hvS:v∈s.S:=hv
   rcases hS w hw with hw|rfl
   ·rw[hix w (h.sV w hw)]
    refine h.le v hv w hw he fun p hp e=>?_
    obtain⟨q,hq,eq⟩:=(O5 g.nm).2 ⟨p,hp,e⟩
    obtain⟨j,hj,hjw⟩:=hd q (by show q∈(m,0)::T1;simp[hq]) eq
    rcases g.old q hq with ho|⟨r,hr,a1,a2,a3⟩
    ·have:q=p:=by
       have hI:=h.tI
       refine Classical.byContradiction fun hne=>?_
       have hlt:s.ix q.1≠s.ix p.1:=by
        obtain⟨i1,hi1,rfl⟩:=List.getElem_of_mem ho
        obtain⟨i2,hi2,rfl⟩:=List.getElem_of_mem hp
        rcases Nat.lt_trichotomy i1 i2 with hh|hh|hh
        ·have:=List.pairwise_iff_getElem.1 hI i1 i2 hi1 hi2 hh;omega
        ·subst hh;exact absurd rfl hne
        ·have:=List.pairwise_iff_getElem.1 hI i2 i1 hi2 hi1 hh;omega
       exact hlt (by rw[eq,e])
     subst this
     exact⟨j,hj,hjw⟩
    ·have hrp:r=p:=by
       have hI:=h.tI
       have hrm:r∈s.T:=List.mem_of_head? hr
       refine Classical.byContradiction fun hne=>?_
       have hlt:s.ix r.1≠s.ix p.1:=by
        obtain⟨i1,hi1,rfl⟩:=List.getElem_of_mem hrm
        obtain⟨i2,hi2,rfl⟩:=List.getElem_of_mem hp
        rcases Nat.lt_trichotomy i1 i2 with hh|hh|hh
        ·have:=List.pairwise_iff_getElem.1 hI i1 i2 hi1 hi2 hh;omega
        ·subst hh;exact absurd rfl hne
        ·have:=List.pairwise_iff_getElem.1 hI i2 i1 hi2 hi1 hh;omega
       exact hlt (by rw[a1,eq,e])
     subst hrp
     by_cases hjr:j<r.2
     ·exact⟨j,hjr,hjw⟩
     ·exfalso
      have:j=r.2:=by omega
      subst this
      rw[← eq,a3]at hjw
      have:=Option.some.inj hjw
      subst this
      exact hmS hw
   ·rw[LD]
    have:=(h.lo v hvS).1
    have:=h.vlt v (h.sV v hvS)
    omega
  ·obtain⟨j,hj,_⟩:=hd (v,0) (by show(v,0)∈(v,0)::T1;simp) rfl
   exact absurd hj (Nat.not_lt_zero _)
 ·intro v hv ho p hp hlt hmax
  obtain⟨o1,o2⟩:=hoff v ho
  have hv':v∈s.S:=(hS v hv).resolve_right o1
  replace hlt:upd s.ix m s.n p.1<upd s.ix m s.n v:=hlt
  show upd s.low m s.n p.1≤upd s.low m s.n v
  rw[hix v (h.sV v hv')]at hlt
  rcases List.mem_cons.1 hp with rfl|hp
  ·replace hlt:upd s.ix m s.n m<s.ix v:=hlt
   rw[Afg]at hlt;have:=h.vlt v (h.sV v hv');omega
  ·rw[hix _ (hTv p hp)]at hlt
   rw[hlow _ (hTv p hp),hlow v (h.sV v hv')]
   obtain⟨q,hq,e⟩:=Zl g.nm hp
   rw[← e]at hlt ⊢
   refine h.lc v hv' o2 q hq hlt fun r hr hrl=>?_
   obtain⟨r',hr',e'⟩:=(O5 g.nm).2 ⟨r,hr,rfl⟩
   have:=hmax r' (by show r'∈(m,0)::T1;simp[hr']) (by show upd s.ix m s.n r'.1<upd s.ix m s.n v;rw[hix _ (hTv r' hr'),hix v (h.sV v hv'),e'];exact hrl)
   replace this:upd s.ix m s.n r'.1≤upd s.ix m s.n p.1:=this
   rw[hix _ (hTv r' hr'),hix _ (hTv p hp),e',←e]at this
   exact this
 ·intro v hv ho
  obtain⟨o1,o2⟩:=hoff v ho
  have hv':v∈s.S:=(hS v hv).resolve_right o1
  show upd s.low m s.n v<upd s.ix m s.n v
  rw[hlow v (h.sV v hv'),hix v (h.sV v hv')]
  exact h.ll v hv' o2
 ·intro v hv
  rcases hS v hv with hv|rfl
  ·obtain⟨p,hp,hle⟩:=h.rt v hv
   obtain⟨q,hq,e⟩:=(O5 g.nm).2 ⟨p,hp,rfl⟩
   refine⟨q,by show q∈(m,0)::T1;simp[hq],?_⟩
   show upd s.ix m s.n q.1≤upd s.ix m s.n v
   rw[hix _ (hTv q hq),hix v (h.sV v hv),e];exact hle
  ·exact⟨(v,0),by show(v,0)∈(v,0)::T1;simp,Nat.le_refl _⟩
 ·rintro v hv hns
  have AdG:v∉s.S∧v≠m:=⟨fun h=>hns (by show v∈s.S++[m];simp[h]),fun h=>hns (by show v∈s.S++[m];simp[h])⟩
  rcases hv with hv|hv
  ·exact h.ok v hv AdG.1
  ·exact absurd hv AdG.2
theorem O4.uniq (h:O4 nx s) {p q:Int×Nat} (hp:p∈s.T) (hq:q∈s.T) (e:p.1=q.1):p=q:=by
 have hI:=h.tI
 refine Classical.byContradiction fun hne=>?_
 have hlt:s.ix p.1≠s.ix q.1:=by
  obtain⟨i1,hi1,rfl⟩:=List.getElem_of_mem hp
  obtain⟨i2,hi2,rfl⟩:=List.getElem_of_mem hq
  rcases Nat.lt_trichotomy i1 i2 with hh|hh|hh
  ·have:=List.pairwise_iff_getElem.1 hI i1 i2 hi1 hi2 hh;omega
  ·subst hh;exact absurd rfl hne
  ·have:=List.pairwise_iff_getElem.1 hI i2 i1 hi2 hi1 hh;omega
 exact hlt (by rw[e])
theorem O4.below (h:O4 nx s) {t:Int} {k:Nat} {T0:List (Int×Nat)} (hT:s.T=(t,k)::T0) {p:Int×Nat} (hp:p∈T0):s.ix p.1<s.ix t:=by
 have hI:=h.tI
 rw[hT]at hI
 exact(List.pairwise_cons.1 hI).1 p hp
end
section
variable {nx:Int→List Int} {s:TJ}
end
end AI
end Go.Proofs.YtiimoiecghmebaaDoor
