/- The arguments of the graph laws, taken apart: values, properties, nodes, edges, graphs. reach: distances and numbers of shortest walks, the program's. Strings in a list. Strings in a list: the reference. HasType, both. A value in a list of values. The budget of a graph; names and types; entries. Small graphs, few strings. -/
import Derived.Test.YtchcadfjbkkgmaaGreatDoorDMaf
import Derived.Test.YtchcadfjbkkgmaaGreatDoorDGrCode
import Derived.Test.YtchcadfjbkkgmaaGreatDoorDMae
set_option linter.unusedVariables false
set_option maxRecDepth 4000
namespace Go.Proofs.YtchcadfjbkkgmaaGreatDoor
namespace AI
structure GV where
 k:Int
 n:Int
 d:Int
 s:List UInt8
 nn:Bool
 l:List AV
def GV.av (v:GV):AV:=.agg [.int .i64 v.k,.int .i64 v.n,.int .i64 v.d,.str v.s,.sl v.nn v.l]
structure GP where
 key:List UInt8
 v:GV
def GP.av (p:GP):AV:=.agg [.str p.key,.int .i64 p.v.k,.int .i64 p.v.n,.int .i64 p.v.d,.str p.v.s,.sl p.v.nn p.v.l]
structure GN where
 id:Int
 ln:Bool
 labels:List (List UInt8)
 pn:Bool
 props:List GP
def GN.av (n:GN):AV:=.agg [.int .i64 n.id,.sl n.ln (vs .str n.labels),.sl n.pn (vs GP.av n.props)]
structure GE where
 id:Int
 fr:Int
 to:Int
 ty:List UInt8
 pn:Bool
 props:List GP
def GE.av (n:GE):AV:=.agg [.int .i64 n.id,.int .i64 n.fr,.int .i64 n.to,.str n.ty,.sl n.pn (vs GP.av n.props)]
structure GG where
 nn:Bool
 nodes:List GN
 en:Bool
 edges:List GE
 Dn:Int
 DJ:Int
def GG.av (g:GG):AV:=.agg [.sl g.nn (vs GN.av g.nodes),.sl g.en (vs GE.av g.edges),.int .i64 g.Dn,.int .i64 g.DJ]
def I64 (z:Int):Prop:=-2^63≤z∧z<2^63
def Ln {α:Type} (l:List α):Prop:=l.length<2^63
def GV.ok (v:GV):Prop:=I64 v.k∧I64 v.n∧I64 v.d∧Ln v.s∧Ln v.l∧(v.nn=false→v.l=[])∧∀x∈v.l,Like Tryz.prog 50 x
def GP.ok (p:GP):Prop:=Ln p.key∧p.v.ok
def GN.ok (n:GN):Prop:=I64 n.id∧Ln n.labels∧(n.ln=false→n.labels=[])∧(∀ s∈n.labels,Ln s)∧Ln n.props∧(n.pn=false→n.props=[])∧∀p∈n.props,p.ok
def GE.ok (e:GE):Prop:=I64 e.id∧I64 e.fr∧I64 e.to∧Ln e.ty∧Ln e.props∧(e.pn=false→e.props=[])∧∀p∈e.props,p.ok
def GG.ok (g:GG):Prop:=Ln g.nodes∧(g.nn=false→g.nodes=[])∧(∀ n∈g.nodes,n.ok)∧Ln g.edges∧(g.en=false→g.edges=[])∧(∀ e∈g.edges,e.ok)∧I64 g.Dn∧I64 g.DJ
theorem Aau:Tryz.prog.cellsOf 3=1:=by kernel_rfl
theorem SX:Tryz.prog.cellsOf 9=1:=by kernel_rfl
theorem AbL:Tryz.prog.cellsOf 26=1:=by kernel_rfl
theorem Adp:Tryz.prog.cellsOf 48=1:=by kernel_rfl
theorem Aav:Tryz.prog.cellsOf 50=5:=by kernel_rfl
theorem Ahv:Tryz.prog.cellsOf 151=6:=by kernel_rfl
theorem Aaw:Tryz.prog.cellsOf 43=1:=by kernel_rfl
theorem Ahw:Tryz.prog.cellsOf 45=3:=by kernel_rfl
theorem Afw:Tryz.prog.cellsOf 22=1:=by kernel_rfl
theorem Ahx:Tryz.prog.cellsOf 117=5:=by kernel_rfl
theorem Afx:Tryz.prog.cellsOf 23=1:=by kernel_rfl
theorem Afy:Tryz.prog.cellsOf 25=4:=by kernel_rfl
theorem AlQ {l:List AV} (h:l.length=3):∃a b c,l=[a,b,c]:=by
 rcases l with _|⟨a,_|⟨b,_|⟨c,_|⟨d,r⟩⟩⟩⟩<;>simp at h
 exact⟨a,b,c,rfl⟩
theorem AlR {l:List AV} (h:l.length=4):∃a b c d,l=[a,b,c,d]:=by
 rcases l with _|⟨a,_|⟨b,_|⟨c,_|⟨d,_|⟨e,r⟩⟩⟩⟩⟩<;>simp at h
 exact⟨a,b,c,d,rfl⟩
theorem Ajo {l:List AV} (h:l.length=5):∃a b c d e,l=[a,b,c,d,e]:=by
 rcases l with _|⟨a,_|⟨b,_|⟨c,_|⟨d,_|⟨e,_|⟨f,r⟩⟩⟩⟩⟩⟩<;>simp at h
 exact⟨a,b,c,d,e,rfl⟩
theorem AlS {l:List AV} (h:l.length=6):∃a b c d e f,l=[a,b,c,d,e,f]:=by
 rcases l with _|⟨a,_|⟨b,_|⟨c,_|⟨d,_|⟨e,_|⟨f,_|⟨g,r⟩⟩⟩⟩⟩⟩⟩<;>simp at h
 exact⟨a,b,c,d,e,f,rfl⟩
theorem Ahy {n:Int} (h:(Lit.int .i64 n).wf=true):I64 n:=by
 simp[Lit.wf]at h
 have h1:IntKind.i64.min=-2^63:=by rfl
 have h2:IntKind.i64.max=2^63-1:=by rfl
 unfold I64
 omega
theorem U3 {α:Type} {l:List α} (h:l.length≤maxLen):Ln l:=by unfold Ln;have:=Aby;omega
theorem Ib {d:Nat} {cs:List AV} (h:C9 Tryz.prog d 3 cs):∃n,cs=[.int .i64 n]∧I64 n:=by
 obtain⟨k,e1,h1⟩:=UQ Tryz.underlying3 h
 exact⟨k,e1,Ahy h1⟩
theorem Wj {d:Nat} {cs:List AV} (h:C9 Tryz.prog d 9 cs):∃n,cs=[.str n]∧Ln n:=by
 obtain⟨k,e1,h1⟩:=Oq Tryz.underlying9 h
 exact⟨k,e1,U3 h1⟩
theorem Qv {d:Nat} {cs:List AV} (h:C9 Tryz.prog d 50 cs):∃v:GV,cs=[.int .i64 v.k,.int .i64 v.n,.int .i64 v.d,.str v.s,.sl v.nn v.l]∧v.ok:=by
 obtain⟨d',rfl,g1,g2⟩:=Gi Tryz.underlying50 h
 rw[Aav]at g1
 obtain⟨a,b,c,e,f,rfl⟩:=Ajo g1
 clear g1
 simp only[List.forall_mem_cons]at g2
 obtain⟨f1,f2,f3,f4,f5,_⟩:=g2
 simp only[Aau,SX,Adp,List.drop_zero,List.drop_succ_cons,List.take_succ_cons,List.take_zero]at f1 f2 f3 f4 f5
 obtain⟨k,e1,h1⟩:=Ib f1
 obtain⟨n,e2,h2⟩:=Ib f2
 obtain⟨m,e3,h3⟩:=Ib f3
 obtain⟨s,e4,h4⟩:=Wj f4
 obtain⟨d'',_,nl,xs,e5,h5,h6,h7⟩:=KZ Tryz.underlying48 f5
 cases e1;cases e2;cases e3;cases e4;cases e5
 exact⟨⟨k,n,m,s,nl,xs⟩,rfl,h1,h2,h3,h4,U3 h6,h5,fun x hx=>⟨_,h7 x hx⟩⟩
theorem Zj {a:AV} (h:Like Tryz.prog 50 a):∃v:GV,a=v.av∧v.ok:=by
 obtain⟨d,h⟩:=h
 obtain⟨cs,rfl,h0⟩:=G7 Tryz.underlying50 h
 obtain⟨v,rfl,h1⟩:=Qv h0
 exact⟨v,rfl,h1⟩
theorem U4 {d:Nat} {a:AV} (h:like Tryz.prog d 151 a):∃v:GP,a=v.av∧v.ok:=by
 obtain⟨cs,rfl,h0⟩:=G7 Tryz.underlying151 h
 obtain⟨d',rfl,g1,g2⟩:=Gi Tryz.underlying151 h0
 rw[Ahv]at g1
 obtain⟨a,b,c,e,f,g,rfl⟩:=AlS g1
 clear g1
 simp only[List.forall_mem_cons]at g2
 obtain⟨f1,f2,_⟩:=g2
 simp only[SX,Aav,List.drop_zero,List.drop_succ_cons,List.take_succ_cons,List.take_zero]at f1 f2
 obtain⟨s,e1,h1⟩:=Wj f1
 obtain⟨v,e2,h2⟩:=Qv f2
 cases e1;cases e2
 exact⟨⟨s,v⟩,rfl,h1,h2⟩
theorem JG {α:Type} {f:α→AV} {Q:α→Prop} {d:Nat} {t e:TypeId} {cs:List AV} (hu:Tryz.prog.underlying t=some (.slice e)) (he:∀d x,like Tryz.prog d e x→∃y,x=f y∧Q y) (h:C9 Tryz.prog d t cs):
 ∃nn l,cs=[.sl nn (vs f l)]∧(nn=false→l=[])∧Ln l∧∀y∈l,Q y:=by
 obtain⟨d',rfl,nn,xs,rfl,h0,h1,h2⟩:=KZ hu h
 obtain⟨l,rfl,h3⟩:=NG (f:=f) (Q:=Q) fun x hx=>he d' x (h2 x hx)
 exact⟨nn,l,rfl,fun h=>by have:=h0 h;simpa using this,U3 (by simpa using h1),h3⟩
theorem Adq {d:Nat} {a:AV} (h:like Tryz.prog d 9 a):∃s:List UInt8,a=.str s∧Ln s:=by
 obtain⟨k,e1,h1⟩:=Qp Tryz.underlying9 h
 exact⟨k,e1,U3 h1⟩
theorem AbM {d:Nat} {a:AV} (h:like Tryz.prog d 45 a):∃v:GN,a=v.av∧v.ok:=by
 obtain⟨cs,rfl,h0⟩:=G7 Tryz.underlying45 h
 obtain⟨d',rfl,g1,g2⟩:=Gi Tryz.underlying45 h0
 rw[Ahw]at g1
 obtain⟨a,b,c,rfl⟩:=AlQ g1
 clear g1
 simp only[List.forall_mem_cons]at g2
 obtain⟨f1,f2,f3,_⟩:=g2
 simp only[Aau,AbL,Aaw,List.drop_zero,List.drop_succ_cons,List.take_succ_cons,List.take_zero]at f1 f2 f3
 obtain⟨s,e1,h1⟩:=Ib f1
 obtain⟨ln,L,e2,h2,h2a,h2b⟩:=JG (f:=.str) (Q:=Ln) Tryz.underlying26 (fun d x h=>Adq h) f2
 obtain⟨pn,P,e3,h3,h3a,h3b⟩:=JG (f:=GP.av) (Q:=GP.ok) Tryz.underlying43 (fun d x h=>U4 h) f3
 cases e1;cases e2;cases e3
 exact⟨⟨s,ln,L,pn,P⟩,rfl,h1,h2a,h2,h2b,h3a,h3,h3b⟩
theorem AbN {d:Nat} {a:AV} (h:like Tryz.prog d 117 a):∃v:GE,a=v.av∧v.ok:=by
 obtain⟨cs,rfl,h0⟩:=G7 Tryz.underlying117 h
 obtain⟨d',rfl,g1,g2⟩:=Gi Tryz.underlying117 h0
 rw[Ahx]at g1
 obtain⟨a,b,c,e,f,rfl⟩:=Ajo g1
 clear g1
 simp only[List.forall_mem_cons]at g2
 obtain⟨f1,f2,f3,f4,f5,_⟩:=g2
 simp only[Aau,SX,Aaw,List.drop_zero,List.drop_succ_cons,List.take_succ_cons,List.take_zero]at f1 f2 f3 f4 f5
 obtain⟨k,e1,h1⟩:=Ib f1
 obtain⟨n,e2,h2⟩:=Ib f2
 obtain⟨m,e3,h3⟩:=Ib f3
 obtain⟨s,e4,h4⟩:=Wj f4
 obtain⟨pn,P,e5,h5,h5a,h5b⟩:=JG (f:=GP.av) (Q:=GP.ok) Tryz.underlying43 (fun d x h=>U4 h) f5
 cases e1;cases e2;cases e3;cases e4;cases e5
 exact⟨⟨k,n,m,s,pn,P⟩,rfl,h1,h2,h3,h4,h5a,h5,h5b⟩
theorem Zk {a:AV} (h:Like Tryz.prog 25 a):∃v:GG,a=v.av∧v.ok:=by
 obtain⟨d,h⟩:=h
 obtain⟨cs,rfl,h0⟩:=G7 Tryz.underlying25 h
 obtain⟨d',rfl,g1,g2⟩:=Gi Tryz.underlying25 h0
 rw[Afy]at g1
 obtain⟨a,b,c,e,rfl⟩:=AlR g1
 clear g1
 simp only[List.forall_mem_cons]at g2
 obtain⟨f1,f2,f3,f4,_⟩:=g2
 simp only[Aau,Afw,Afx,List.drop_zero,List.drop_succ_cons,List.take_succ_cons,List.take_zero]at f1 f2 f3 f4
 obtain⟨nn,N,e1,h1,h1a,h1b⟩:=JG (f:=GN.av) (Q:=GN.ok) Tryz.underlying22 (fun d x h=>AbM h) f1
 obtain⟨en,E,e2,h2,h2a,h2b⟩:=JG (f:=GE.av) (Q:=GE.ok) Tryz.underlying23 (fun d x h=>AbN h) f2
 obtain⟨m,e3,h3⟩:=Ib f3
 obtain⟨k,e4,h4⟩:=Ib f4
 cases e1;cases e2;cases e3;cases e4
 exact⟨⟨nn,N,en,E,m,k⟩,rfl,h1a,h1,h1b,h2a,h2,h2b,h3,h4⟩
def PX (k:Nat):AV:=.int .i64 (k:Int)
theorem AeK (k:Nat):(PX k).cells.length=1:=rfl
def Ut (r:List Nat):AV:=.sl (decide (r≠[])) (vs PX r)
def Abz (ids:List Int) (A:Nat→Nat→Bool) (n:Nat):AV:=.agg [.sl (decide (0<n)) (ints ids),.sl true (vs Ut ((List.range n).map (MS A n)))]
def stR (nv:AV) (fD fC:Nat→Int) (n:Nat) (r:List Obj):List Obj:=.arr 0 2 true true [nv]::.arr 1 1 false true []::.arr 2 1 false true []::.arr 3 1 true true (ints (Dj n fD))::.arr 4 1 true true (ints (Dj n fC))::r
theorem Xb {A:Nat→Nat→Bool} {n i d:Nat} {S T:List (Nat×Nat)} {fD fC:Nat→Int} {nx L:List Nat} (h:Uu A n i d S fD fC nx) (hL:Lvl A n i d L) (hS:S++T=Fq A n L) {w:Nat} (hw:w<n):0≤fC w∧fC w≤((2 ^ n:Nat):Int):=by
 by_cases hf:QS A n i d w
 ·rw[(h.far w hw hf).1]
  have:=Afs hL hw hf hS
  omega
 ·obtain⟨e,he⟩:=Classical.not_forall.1 hf
  have he1:e≤d:=by
   by_cases h1:e≤d
   ·exact h1
   ·exact absurd (fun h2=>absurd h2 h1) he
  have he2:Ds A n i w e:=Classical.byContradiction fun hn=>he fun _=>hn
  rw[(h.near w hw e he1 he2).2]
  have:=SL he2
  omega
theorem Abb {l:List Nat} {n:Nat} (h:l.Nodup) (hl:∀u∈l,u<n):l.length≤n:=by
 have h1:(l.map fun _=>1).sum≤n:=by
  rw[PY (n:=n) (w:=0) h hl]
  have h2:=O5 (n:=n) (f:=fun u=>if u∈l then 1 else 0) (g:=fun _=>1) fun u _=>by split<;>omega
  rw[O6]at h2
  omega
 have h3:(l.map fun _=>1).sum=l.length:=by
  clear h1 h hl
  induction l with
  |nil=>rfl
  |cons a l ih=>rw[List.map_cons,List.sum_cons,ih,List.length_cons];omega
 omega
theorem Akz {A:Nat→Nat→Bool} {n i d w:Nat} (hf:¬QS A n i d w):∃e,e≤d∧Ds A n i w e:=by
 obtain⟨e,he⟩:=Classical.not_forall.1 hf
 have he1:e≤d:=by
  by_cases h1:e≤d
  ·exact h1
  ·exact absurd (fun h2=>absurd h2 h1) he
 exact⟨e,he1,Classical.byContradiction fun hn=>he fun _=>hn⟩
theorem Vz {A:Nat→Nat→Bool} {n k:Nat} {L:List Nat} (h:k<L.length):Fq A n (L.take (k+1))=Fq A n (L.take k)++(MS A n L[k]).map fun v=>(L[k],v):=by
 unfold Fq
 rw[List.take_succ_eq_append_getElem h,List.flatMap_append]
 simp
theorem Ul {A:Nat→Nat→Bool} {n k j:Nat} {L:List Nat} (h:k<L.length):(Fq A n (L.take k)++((MS A n L[k]).take j).map fun v=>(L[k],v))++(((MS A n L[k]).drop j).map (fun v=>(L[k],v))++Fq A n (L.drop (k+1)))=Fq A n L:=by
 rw[List.append_assoc,←List.append_assoc (List.map _ _),←List.map_append,List.take_append_drop,←List.append_assoc,←Vz h]
 unfold Fq
 rw[← List.flatMap_append,List.take_append_drop]
set_option maxHeartbeats 8000000 in
theorem Adv {ids:List Int} {A:Nat→Nat→Bool} {n i:Nat} (Sl:ids.length=n) (hn:n≤12) (hi:i<n):
 Ah (Ac tab) 30 [Abz ids A n,.int .i64 i] (· =.Ce [.sl true (ints (Dj n (EG A n i))),.sl true (ints (Dj n fun v=>(Et A n i v:Int))),.bool true]):=by
 have AmA:2 ^ n≤4096:=(Nat.pow_le_pow_right (by omega) hn:2 ^ n≤2 ^ 12)
 have lT:∀f:Nat→Int,(Dj n f).length=n:=fun f=>Jb
 have hRl:((List.range n).map (MS A n)).length=n:=by simp
 obtain⟨RR,hRR⟩:∃RR,RR=(List.range n).map (MS A n):=⟨_,rfl⟩
 have AmU:∀u (h:u<RR.length),RR[u]=MS A n u:=fun u h=>by subst hRR;simp
 rw[← hRR]at hRl
 obtain⟨nv,hnv⟩:∃nv,nv=Abz ids A n:=⟨_,rfl⟩
 have AkA:nv=.agg [.sl (decide (0<n)) (ints ids),.sl true (vs Ut RR)]:=by rw[hnv,hRR];rfl
 rw[← hnv,AkA]
 clear hnv AkA nv hRR
 subst Sl
 refine Ad rfl rfl ?_
 (conv=>whnf);repeat' (first  |(refine kA ?_;conv=>whnf)|(refine Br.mk (fun hc=>?_) fun hc=>?_<;>first|exact hc.elim|conv=>whnf)|(refine kB ?_))
 all_goals first|(exfalso;omega)|skip
 refine Ai (fun m env s=>∃(k c:Nat) (D:List Int),m=ids.length-k∧k≤ids.length∧D.length=ids.length∧(∀ q (h:q<D.length),q<k→D[q]=-1)∧env=[(1,.int .i64 i),(2,.ref 0 0 0 0),(4,.own 3 3 0 ids.length),(5,.own 4 4 0 ids.length),(25,.int .i64 ids.length),(26,.int .i64 k)]∧s=⟨[.arr 0 2 true true [.agg [.sl (decide (0<ids.length)) (ints ids),.sl true (vs Ut RR)]],.arr 1 1 false true [],.arr 2 1 false true [],.arr 3 1 true true (ints D),.arr 4 1 true true (ints (List.replicate ids.length 0))],c⟩) ?_ _ _ _ ⟨0,_,List.replicate ids.length 0,rfl,by omega,by simp,fun q h hq=>by omega,rfl,rfl⟩
 rintro _ _ _ ⟨k,c,D,rfl,hk,hDl,hD,rfl,rfl⟩
 refine⟨rfl,?_⟩
 by_cases hlt:k<ids.length
 ·(conv=>whnf);repeat' (first  |(refine kA ?_;conv=>whnf)|(refine Br.mk (fun hc=>?_) fun hc=>?_<;>first|exact hc.elim|conv=>whnf)|(refine kB ?_))
  all_goals first
   |(exfalso;omega)
   |exact again.mk ⟨_,by omega,k+1,_,D.set k (-1),rfl,by omega,by rw[List.length_set];exact hDl,fun q h hq=>by
       rw[List.getElem_set]
       by_cases e:k=q
       ·rw[if_pos e]
       ·rw[if_neg e];exact hD q (by simpa using h) (by omega),rfl,rfl⟩
 ·obtain rfl:D=Dj ids.length (fun _=>-1):=by
   apply List.ext_getElem
   ·rw[hDl,Jb]
   ·intro q h1 h2
    rw[BM,hD q h1 (by omega)]
  rw[Aap]
  clear hD hDl
  have s1:(Dj ids.length (fun _=>-1)).set i 0=Dj ids.length (PG (fun _=>-1) i 0):=Jf
  have s2:(Dj ids.length (fun _=>0)).set i 1=Dj ids.length (PG (fun _=>0) i 1):=Jf
  have l1:=lT (fun _=>-1)
  have l2:=lT (fun _=>0)
  (conv=>whnf);repeat' (first|(rw [s1];conv=>whnf)|(rw [s2];conv=>whnf)|(refine kA ?_;conv=>whnf)|(refine Br.mk (fun hc=>?_) fun hc=>?_<;>first|exact hc.elim|conv=>whnf)|(refine kB ?_))
  all_goals first|(exfalso;omega)|skip
  have hB0:=Uu.start (A:=A) hi
  have hL0:=Lvl.start (A:=A) hi
  refine Ai (fun m env s=>∃(d c:Nat) (L:List Nat) (nl:Bool) (fD fC:Nat→Int),m=ids.length+1-d∧Lvl A ids.length i d L∧Uu A ids.length i d [] fD fC []∧env=[(2,.ref 0 0 0 0),(4,.own 3 3 0 ids.length),(5,.own 4 4 0 ids.length),(6,.bool true),(8,.sl nl (vs PX L))]∧s=⟨stR (.agg [.sl (decide (0<ids.length)) (ints ids),.sl true (vs Ut RR)]) fD fC ids.length [],c⟩) ?_ _ _ _ ⟨0,_,[i],true,_,_,rfl,hL0,hB0,rfl,rfl⟩
  clear hB0 hL0 s1 s2 l1 l2 hlt hk
  rintro _ _ _ ⟨d,c,L,nl,fD,fC,rfl,hL,hB,rfl,rfl⟩
  refine⟨rfl,?_⟩
  have hsub:∀f:Nat→Int,sub (ints (Dj ids.length f)) 0 ids.length=ints (Dj ids.length f):=fun f=>by
   have:=@uI (Dj ids.length f)
   rwa [lT]at this
  by_cases hL0:L=[]
  ·subst hL0
   have e1:Dj ids.length fD=Dj ids.length (EG A ids.length i):=MH fun w hw=>(hB.done hi hL hw).1
   have e2:Dj ids.length fC=Dj ids.length fun v=>(Et A ids.length i v:Int):=MH fun w hw=>(hB.done hi hL hw).2
   unfold stR
   rw[e1,e2]
   (conv=>whnf);repeat' (first|(refine Ak ⟨rfl,by rw[lI,lT];omega⟩ ?_;conv=>whnf)|(refine AU (hsub _) ?_;conv=>whnf)|(refine kA ?_;conv=>whnf)|(refine Br.mk (fun hc=>?_) fun hc=>?_<;>first|exact hc.elim|conv=>whnf)|(refine kB ?_))
   all_goals first|rfl|(exfalso;omega)
  have hLp:0<L.length:=List.length_pos_iff.2 hL0
  have hdn:=hL.lt hi hL0
  have hlL:L.length≤ids.length:=Abb hL.1 fun u hu=>((hL.2 u).1 hu).1
  (conv=>whnf);repeat' (first  |(refine kA ?_;conv=>whnf)|(refine Br.mk (fun hc=>?_) fun hc=>?_<;>first|exact hc.elim|conv=>whnf)|(refine kB ?_))
  all_goals first|(exfalso;omega)|skip
  refine Ai (fun m env s=>∃(k c gN:Nat) (nn:Bool) (nx:List Nat) (fD fC:Nat→Int),m=L.length-k∧k≤L.length∧Uu A ids.length i d (Fq A ids.length (L.take k)) fD fC nx∧env=[(2,.ref 0 0 0 0),(4,.own 3 3 0 ids.length),(5,.own 4 4 0 ids.length),(6,.bool true),(9,.own 5 gN 0 nx.length),(44,.sl nl (vs PX L)),(45,.int .i64 L.length),(46,.int .i64 k)]∧s=⟨stR (.agg [.sl (decide (0<ids.length)) (ints ids),.sl true (vs Ut RR)]) fD fC ids.length [.arr gN 1 nn true (vs PX nx)],c⟩) ?_ _ _ _ ⟨0,_,_,false,[],fD,fC,rfl,by omega,hB,rfl,rfl⟩
  clear hB fD fC
  rintro _ _ _ ⟨k,c,gN,nn,nx,fD,fC,rfl,hk,hB,rfl,rfl⟩
  refine⟨rfl,?_⟩
  have hnl:nx.length≤ids.length:=Abb hB.nd fun u hu=>((hB.mem u).1 hu).1
  by_cases Agl:k<L.length
  case neg=>
   obtain rfl:k=L.length:=by omega
   rw[List.take_of_length_le (Nat.le_refl _)]at hB
   obtain⟨hL',hB'⟩:=hB.next hL
   (conv=>whnf);repeat' (first  |(refine kA ?_;conv=>whnf)|(refine Br.mk (fun hc=>?_) fun hc=>?_<;>first|exact hc.elim|conv=>whnf)|(refine kB ?_))
   all_goals first|(exfalso;omega)|skip
   refine Ai (fun m env s=>∃(j c:Nat),m=nx.length-j∧j≤nx.length∧env=[(2,.ref 0 0 0 0),(4,.own 3 3 0 ids.length),(5,.own 4 4 0 ids.length),(6,.bool true),(9,.own 5 gN 0 nx.length),(102,.own 5 gN 0 nx.length),(103,.int .i64 nx.length),(104,.int .i64 j)]∧s=⟨stR (.agg [.sl (decide (0<ids.length)) (ints ids),.sl true (vs Ut RR)]) fD fC ids.length [.arr gN 1 nn true (vs PX nx)],c⟩) ?_ _ _ _ ⟨0,_,rfl,by omega,rfl,rfl⟩
   rintro _ _ _ ⟨j,c,rfl,hj,rfl,rfl⟩
   refine⟨rfl,?_⟩
   have htS:sub (vs PX nx) 0 nx.length=vs PX nx:=uV
   by_cases hjlt:j<nx.length
   ·have hvn:nx[j]<ids.length:=((hB.mem _).1 (List.getElem_mem hjlt)).1
    have hb:=Xb hB hL (T:=[]) (List.append_nil _) hvn
    have hlen:=lT fC
    have hat:(Dj ids.length fC)[nx[j]]'(by rw[lT];exact hvn)=fC nx[j]:=BM _
    (conv=>whnf);repeat' (first  |(refine kA ?_;conv=>whnf)|(refine Br.mk (fun hc=>?_) fun hc=>?_<;>first|exact hc.elim|conv=>whnf)|(refine kB ?_))
    all_goals first
     |(exfalso;omega)
     |exact again.mk ⟨_,by omega,j+1,_,rfl,by omega,rfl,rfl⟩
   ·(conv=>whnf);repeat' (first  |(refine kA ?_;conv=>whnf)|(refine Br.mk (fun hc=>?_) fun hc=>?_<;>first|exact hc.elim|conv=>whnf)|(refine kB ?_))
    all_goals first
     |(exfalso;omega)
     |exact again.mk ⟨_,by omega,d+1,_,nx,nn,fD,fC,rfl,hL',hB',rfl,rfl⟩
  ·have hu:=(hL.2 L[k]).1 (List.getElem_mem Agl)
   have hfu:=hB.near _ hu.1 d (Nat.le_refl d) hu.2
   have hrow:RR[L[k]]'(by rw[hRl];exact hu.1)=MS A ids.length L[k]:=AmU _ _
   have hRu:L[k]<RR.length:=by rw[hRl];exact hu.1
   obtain⟨row,hrw⟩:∃row,row=MS A ids.length L[k]:=⟨_,rfl⟩
   rw[← hrw]at hrow
   have hrl:row.length≤ids.length:=by rw[hrw];exact Abb Ade fun u hu=>(H8.1 hu).1
   have hnr:nth (vs Ut RR) (Int.toNat (Nat.cast L[k]))=some (Ut row):=by rw[nVN hRu,hrow]
   unfold Ut at hnr
   (conv=>whnf);repeat' (first|(refine Au hnr ?_;conv=>whnf)|(refine kA ?_;conv=>whnf)|(refine Br.mk (fun hc=>?_) fun hc=>?_<;>first|exact hc.elim|conv=>whnf)|(refine kB ?_))
   all_goals first|(exfalso;omega)|skip
   have hBk:Uu A ids.length i d (Fq A ids.length (L.take k)++(row.take 0).map fun v=>(L[k],v)) fD fC nx:=by simpa using hB
   refine Ai (fun m env s=>∃(j c gN:Nat) (nn:Bool) (nx:List Nat) (fD fC:Nat→Int),m=row.length-j∧j≤row.length∧Uu A ids.length i d (Fq A ids.length (L.take k)++(row.take j).map fun v=>(L[k],v)) fD fC nx∧env=[(2,.ref 0 0 0 0),(4,.own 3 3 0 ids.length),(5,.own 4 4 0 ids.length),(6,.bool true),(9,.own 5 gN 0 nx.length),(11,.int .i64 L[k]),(44,.sl nl (vs PX L)),(45,.int .i64 L.length),(46,.int .i64 k),(54,.sl (decide (row≠[])) (vs PX row)),(55,.int .i64 row.length),(56,.int .i64 j)]∧s=⟨stR (.agg [.sl (decide (0<ids.length)) (ints ids),.sl true (vs Ut RR)]) fD fC ids.length [.arr gN 1 nn true (vs PX nx)],c⟩) ?_ _ _ _ ⟨0,_,gN,nn,nx,fD,fC,rfl,by omega,hBk,rfl,rfl⟩
   clear hBk hB hfu hnl fD fC nx nn gN c
   rintro _ _ _ ⟨j,c,gN,nn,nx,fD,fC,rfl,hj,hB,rfl,rfl⟩
   refine⟨rfl,?_⟩
   have hnl:nx.length≤ids.length:=Abb hB.nd fun u hu=>((hB.mem u).1 hu).1
   by_cases hjlt:j<row.length
   case neg=>
        obtain rfl:j=row.length:=by omega
        rw[List.take_of_length_le (Nat.le_refl _),hrw,←Vz Agl]at hB
        (conv=>whnf);repeat' (first  |(refine kA ?_;conv=>whnf)|(refine Br.mk (fun hc=>?_) fun hc=>?_<;>first|exact hc.elim|conv=>whnf)|(refine kB ?_))
        all_goals first
         |(exfalso;omega)
         |exact again.mk ⟨_,by omega,k+1,_,gN,nn,nx,fD,fC,rfl,by omega,hB,rfl,rfl⟩
   have hv:=H8.1 (show row[j]∈MS A ids.length L[k] by rw[← hrw];exact List.getElem_mem hjlt)
   have hstep:((row.take (j+1)).map fun v=>(L[k],v))=((row.take j).map fun v=>(L[k],v))++[(L[k],row[j])]:=by
        rw[List.take_succ_eq_append_getElem hjlt,List.map_append];rfl
   have hfull:Fq A ids.length (L.take k)++((row.take (j+1)).map fun v=>(L[k],v))=(Fq A ids.length (L.take k)++((row.take j).map fun v=>(L[k],v)))++[(L[k],row[j])]:=by
        rw[hstep,List.append_assoc]
   obtain⟨AkB,hfu2⟩:=hB.near _ hu.1 d (Nat.le_refl d) hu.2
   have lD:=lT fD
   have lC:=lT fC
   have aDu:(Dj ids.length fD)[L[k]]'(by rw[lT];exact hu.1)=d:=by rw[BM];exact AkB
   have aCu:(Dj ids.length fC)[L[k]]'(by rw[lT];exact hu.1)=fC L[k]:=BM _
   have bCu:=Xb hB hL (Ul Agl (j:=j) |> fun h=>by rw[hrw];exact h) hu.1
   by_cases WR:QS A ids.length i d row[j]
   case neg=>
        obtain⟨e,he,hde⟩:=Akz WR
        have aDv:(Dj ids.length fD)[row[j]]'(by rw[lT];exact hv.1)=e:=by rw[BM];exact(hB.near _ hv.1 e he hde).1
        have hB':=hB.Adf (u:=L[k]) WR
        rw[← hfull]at hB'
        (conv=>whnf);repeat' (first  |(refine kA ?_;conv=>whnf)|(refine Br.mk (fun hc=>?_) fun hc=>?_<;>first|exact hc.elim|conv=>whnf)|(refine kB ?_))
        all_goals first
         |(exfalso;omega)
         |exact again.mk ⟨_,by omega,j+1,_,gN,nn,nx,fD,fC,rfl,by omega,hB',rfl,rfl⟩
   have hcv:=hB.far _ hv.1 WR
   have aCv:(Dj ids.length fC)[row[j]]'(by rw[lT];exact hv.1)=fC row[j]:=BM _
   have bCv:=Xb hB hL (Ul Agl (j:=j) |> fun h=>by rw[hrw];exact h) hv.1
   have sC:(Dj ids.length fC).set row[j] (if 1000000000000001<(Dj ids.length fC)[row[j]]'(by rw[lT];exact hv.1)+(Dj ids.length fC)[L[k]]'(by rw[lT];exact hu.1)then 1000000000000001 else(Dj ids.length fC)[row[j]]'(by rw[lT];exact hv.1)+(Dj ids.length fC)[L[k]]'(by rw[lT];exact hu.1))=Dj ids.length (PG fC row[j] (fC row[j]+wk A ids.length i d L[k])):=by
        rw[if_neg (by omega),Jf,aCv,aCu,hfu2]
   by_cases hin:row[j]∈nx
   ·have aDv:(Dj ids.length fD)[row[j]]'(by rw[lT];exact hv.1)=d+1:=by rw[BM,hcv.2,if_pos hin]
    have hB':=hB.Afr (u:=L[k]) hin
    rw[← hfull]at hB'
    (conv=>whnf);repeat' (first|(rw [sC];conv=>whnf)|(refine kA ?_;conv=>whnf)|(refine Br.mk (fun hc=>?_) fun hc=>?_<;>first|exact hc.elim|conv=>whnf)|(refine kB ?_))
    all_goals first
     |(exfalso;omega)
     |exact again.mk ⟨_,by omega,j+1,_,gN,nn,nx,fD,_,rfl,by omega,hB',rfl,rfl⟩
   ·have aDv:(Dj ids.length fD)[row[j]]'(by rw[lT];exact hv.1)=-1:=by rw[BM,hcv.2,if_neg hin]
    have hB':=hB.newStep (u:=L[k]) hv.1 WR hin
    rw[← hfull]at hB'
    have hne:L[k]≠row[j]:=fun e=>WR d (Nat.le_refl d) (by rw[← e];exact hu.2)
    have sD:(Dj ids.length fD).set row[j] ((Dj ids.length fD)[L[k]]'(by rw[lT];exact hu.1)+1)=Dj ids.length (PG fD row[j] ((d:Int)+1)):=by
     rw[Jf,aDu]
    have lD2:=lT (PG fD row[j] ((d:Int)+1))
    have Ao2:(Dj ids.length (PG fD row[j] ((d:Int)+1)))[row[j]]'(by rw[lT];exact hv.1)=d+1:=by rw[BM,Ht]
    have Ao3:(Dj ids.length (PG fD row[j] ((d:Int)+1)))[L[k]]'(by rw[lT];exact hu.1)=d:=by rw[BM,D8 hne];exact AkB
    (conv=>whnf);repeat' (first|(rw [sD];conv=>whnf)|(rw [sC];conv=>whnf)|(refine Sm (f:=PX) (l:=nx) (x:=row[j]) AeK rfl (by omega) ?_;conv=>whnf)|(refine kA ?_;conv=>whnf)|(refine Br.mk (fun hc=>?_) fun hc=>?_<;>first|exact hc.elim|conv=>whnf)|(refine kB ?_))
    all_goals first
     |(exfalso;omega)
     |exact again.mk ⟨_,by omega,j+1,_,_,true,nx++[row[j]],_,_,rfl,by omega,hB',by rw[List.length_append];rfl,rfl⟩
theorem AlU {l:List (List UInt8)} {x:List UInt8} {nn:Bool} (hl:l.length<2^63):Ah (Ac tab) 134 [.sl nn (vs .str l),.str x] (fun v=>∃z,v=.int .i64 z∧(0≤z↔x∈l)):=by
 refine Ad rfl rfl ?_
 (conv=>whnf);repeat' (first|(refine kA ?_;conv=>whnf)|(refine Br.mk (fun hc=>?_) fun hc=>?_<;>first|exact hc.elim|conv=>whnf)  |(refine kB ?_))
 refine Ai (fun m env s=>∃i:Nat,m=l.length-i∧env=[(0,.sl nn (vs .str l)),(1,.str x),(7,.int .i64 l.length),(8,.int .i64 i)]∧s=⟨[],0⟩∧x∉l.take i) ?_ _ _ _ ⟨0,rfl,by simp,rfl,by simp⟩
 rintro _ _ _ ⟨i,rfl,rfl,rfl,hx⟩
 refine⟨rfl,?_⟩
 (conv=>whnf);repeat' (first|(refine kA ?_;conv=>whnf)|(refine Br.mk (fun hc=>?_) fun hc=>?_<;>first|exact hc.elim|conv=>whnf)  |(refine kB ?_))
 ·subst hc;exact⟨_,rfl,by simp⟩
 ·exact again.mk ⟨_,by omega,i+1,rfl,rfl,rfl,nms (by omega) hx (fun h=>hc h.symm)⟩
 ·rw[Di hc]at hx;exact⟨_,rfl,by simp[hx]⟩
theorem Ajt {l:List (List UInt8)} {x:List UInt8} {nn:Bool} (hl:l.length<2^63):Ah (Ac tab) 103 [.sl nn (vs .str l),.str x] (· =.bool (decide (x∈l))):=by
 refine Ad rfl rfl ?_
 (conv=>whnf);repeat' (first|(refine kA ?_;conv=>whnf)|(refine Br.mk (fun hc=>?_) fun hc=>?_<;>first|exact hc.elim|conv=>whnf)  |(refine kB ?_))
 refine Aa (AlU hl) ?_
 rintro _ ⟨z,rfl,hz⟩
 (conv=>whnf);repeat' (first|(refine kA ?_;conv=>whnf)|(refine Br.mk (fun hc=>?_) fun hc=>?_<;>first|exact hc.elim|conv=>whnf)  |(refine kB ?_))
 ·exact BN (hz.1 hc)
 ·exact Bf (mt hz.2 hc)
theorem AmC {l:List (List UInt8)} {x:List UInt8} {nn:Bool} (hl:l.length<2^63):Ah (Ac tab) 119 [.sl nn (vs .str l),.str x] (· =.bool (decide (x∈l))):=by
 refine Ad rfl rfl ?_
 (conv=>whnf);repeat' (first|(refine kA ?_;conv=>whnf)|(refine Br.mk (fun hc=>?_) fun hc=>?_<;>first|exact hc.elim|conv=>whnf)  |(refine kB ?_))
 refine Ai (fun m env s=>∃i:Nat,m=l.length-i∧env=[(0,.sl nn (vs .str l)),(1,.str x),(5,.int .i64 i)]∧s=⟨[],0⟩∧x∉l.take i) ?_ _ _ _ ⟨0,rfl,rfl,rfl,by simp⟩
 rintro _ _ _ ⟨i,rfl,rfl,rfl,hx⟩
 refine⟨rfl,?_⟩
 (conv=>whnf);repeat' (first|(refine kA ?_;conv=>whnf)|(refine Br.mk (fun hc=>?_) fun hc=>?_<;>first|exact hc.elim|conv=>whnf)  |(refine kB ?_))
 ·subst hc;exact BN (by simp)
 ·exact again.mk ⟨_,by omega,i+1,rfl,rfl,rfl,nms (by omega) hx hc⟩
 ·rw[Di hc]at hx;exact Bf hx
def HT (l:List (List UInt8)) (e:GE):Prop:=l.length=0∨e.ty∈l
instance (l:List (List UInt8)) (e:GE):Decidable (HT l e):=by unfold HT;infer_instance
theorem Sr {l:List (List UInt8)} {e:GE} {nn:Bool} (hl:l.length<2^63):Ah (Ac tab) 63 [e.av,.sl nn (vs .str l)] (· =.bool (decide (HT l e))):=by
 refine Ad rfl rfl ?_
 (conv=>whnf);repeat' (first|(refine kA ?_;conv=>whnf)|(refine Br.mk (fun hc=>?_) fun hc=>?_<;>first|exact hc.elim|conv=>whnf)|(refine CP (Ajt hl) (fun hc=>?_) (fun hc=>?_)<;>conv=>whnf)|(refine kB ?_))
 all_goals first|exact BN (by unfold HT;first|(left;omega)|(right;assumption))|exact Bf (by unfold HT;rintro(h|h);omega;contradiction)
theorem AeR {l:List (List UInt8)} {e:GE} {nn:Bool} (hl:l.length<2^63):Ah (Ac tab) 86 [e.av,.sl nn (vs .str l)] (· =.bool (decide (HT l e))):=by
 refine Ad rfl rfl ?_
 (conv=>whnf);repeat' (first|(refine kA ?_;conv=>whnf)|(refine Br.mk (fun hc=>?_) fun hc=>?_<;>first|exact hc.elim|conv=>whnf)|(refine CP (AmC hl) (fun hc=>?_) (fun hc=>?_)<;>conv=>whnf)|(refine kB ?_))
 all_goals first|exact BN (by unfold HT;first|(left;omega)|(right;assumption))|exact Bf (by unfold HT;rintro(h|h);omega;contradiction)
theorem VJ {l:List AV} (h:∀x∈l,Like Tryz.prog 50 x) (i:Nat):
 ∃g:GV,∀hi:i<l.length,nth l (Int.toNat (Nat.cast i))=some g.av∧l[i]=g.av∧g.ok:=by
 by_cases hi:i<l.length
 ·obtain⟨g,e,hg⟩:=Zj (h _ (List.getElem_mem hi))
  exact⟨g,fun _=>⟨by rw[← e];exact nR hi,e,hg⟩⟩
 ·exact⟨⟨0,0,0,[],true,[]⟩,fun h=>absurd h hi⟩
def YN:Nat→AV→Prop
 |0,_=>False
 |d+1,a=>∃g:GV,a=g.av∧g.ok∧g.s.length≤101000∧g.l.length≤2000∧∀x∈g.l,YN d x
theorem wei:∀(d:Nat),d≤12→∀{g:GV} (hg:g.ok) {left:Int} (h1:-184467440737095530≤left) (h2:left≤2000),
 Ah (Ac tab) 50 [g.av,.int .i64 left,.int .i64 d] (fun v=>∃r,v=.int .i64 r∧-368934881474191048≤r∧r≤1999∧(0≤r→r+1≤left∧YN d g.av)):=by
 intro d
 induction d with
 |zero=>
  intro _ g hg left h1 h2
  obtain⟨g1,g2,g3,g4,g5,g6,g7⟩:=hg
  unfold Ln at g4 g5
  refine Ad rfl rfl ?_
  (conv=>whnf);repeat' (first|(refine kA ?_;conv=>whnf)|(refine Br.mk (fun hc=>?_) fun hc=>?_<;>first|exact hc.elim|conv=>whnf)|(refine UK (by omega) ?_;conv=>whnf)|(refine kB ?_))
  all_goals exact⟨_,rfl,by omega,by omega,fun h=>absurd h (by omega)⟩
 |succ d ih=>
  intro hd g hg left h1 h2
  obtain⟨g1,g2,g3,g4,g5,g6,g7⟩:=hg
  unfold Ln at g4 g5
  refine Ad rfl rfl ?_
  (conv=>whnf);repeat' (first|(refine kA ?_;conv=>whnf)|(refine Br.mk (fun hc=>?_) fun hc=>?_<;>first|exact hc.elim|conv=>whnf)|(refine UK (by omega) ?_;conv=>whnf)|(refine kB ?_))
  have hw:∀{g:GV} (hg:g.ok) {left:Int} (h1:-184467440737095530≤left) (h2:left≤2000),
        Ah (Ac tab) 50 [g.av,.int .i64 left,.int .i64 (((d+1:Nat):Int)-1)] (fun v=>∃r,v=.int .i64 r∧-368934881474191048≤r∧r≤1999∧(0≤r→r+1≤left∧YN d g.av)):=by
   rw[show ((d+1:Nat):Int)-1=(d:Int) by omega]
   exact ih (by omega)
  refine Ai (fun m env s=>∃(i:Nat) (cur:Int),m=g.l.length-i∧env=[(1,.int .i64 cur),(2,.int .i64 (d+1:Nat)),(3,.ref 0 0 0 0),(7,.int .i64 i)]∧s=⟨[.arr 0 5 true true [g.av]],1⟩∧
   -368934881474191048≤cur∧cur≤1999∧(0≤cur→cur+i+g.s.length / 50+1≤left∧∀x∈g.l.take i,YN d x)) ?_ _ _ _ ⟨0,_,rfl,rfl,rfl,by omega,by omega,fun h=>⟨by omega,by simp⟩⟩
  rintro _ _ _ ⟨i,cur,rfl,rfl,rfl,b1,b2,hx⟩
  refine⟨rfl,?_⟩
  obtain⟨gx,hgx⟩:=VJ g7 i
  (conv=>whnf);repeat' (first|(refine kA ?_;conv=>whnf)|(refine Br.mk (fun hc=>?_) fun hc=>?_<;>first|exact hc.elim|conv=>whnf)|(apply Au;(· exact(hgx (by omega)).1);conv=>whnf)|(refine kB ?_))
  ·obtain⟨_,ge,gl⟩:=hgx (by omega)
   refine Aa (hw gl (by omega) (by omega)) ?_
   rintro _ ⟨r,rfl,r1,r2,r3⟩
   (conv=>whnf);repeat' (first|(refine kA ?_;conv=>whnf)|(refine Br.mk (fun hc=>?_) fun hc=>?_<;>first|exact hc.elim|conv=>whnf)  |(refine kB ?_))
   exact again.mk ⟨_,by omega,i+1,r,rfl,rfl,rfl,by omega,by omega,fun h=>⟨by have:=hx (by omega);have:=r3 h;omega,BG (by omega) (hx (by omega)).2 (ge▸(r3 h).2)⟩⟩
  ·exact⟨_,rfl,by omega,by omega,fun h=>absurd h (by omega)⟩
  ·refine⟨_,rfl,by omega,by omega,fun h=>?_⟩
   obtain⟨x1,x2⟩:=hx h
   rw[Di hc]at x2
   exact⟨by omega,g,rfl,⟨g1,g2,g3,g4,g5,g6,g7⟩,by omega,by omega,x2⟩
theorem weigh {ps:List GP} {nn:Bool} (hl:Ln ps) (hp:∀p∈ps,p.ok) {left:Int} (h1:-9223372036854775808≤left) (h2:left≤2000):
 Ah (Ac tab) 58 [.sl nn (vs GP.av ps),.int .i64 left] (fun v=>∃r,v=.int .i64 r∧-9223372036854775808≤r∧r≤2000∧(0≤r→r+ps.length≤left∧∀p∈ps,p.key.length≤101000∧YN 12 p.v.av)):=by
 unfold Ln at hl
 refine Ad rfl rfl ?_
 (conv=>whnf);repeat' (first|(refine kA ?_;conv=>whnf)|(refine Br.mk (fun hc=>?_) fun hc=>?_<;>first|exact hc.elim|conv=>whnf)  |(refine kB ?_))
 refine Ai (fun m env s=>∃(i:Nat) (cur:Int),m=ps.length-i∧env=[(0,.sl nn (vs GP.av ps)),(1,.int .i64 cur),(5,.int .i64 i)]∧s=⟨[],0⟩∧
  -9223372036854775808≤cur∧cur≤2000∧(0≤cur→cur+i≤left∧∀p∈ps.take i,p.key.length≤101000∧YN 12 p.v.av)) ?_ _ _ _ ⟨0,_,rfl,rfl,rfl,by omega,by omega,fun h=>⟨by omega,by simp⟩⟩
 rintro _ _ _ ⟨i,cur,rfl,rfl,rfl,b1,b2,hx⟩
 refine⟨rfl,?_⟩
 have hat:∀(h:i<ps.length),(ps[i]).ok:=fun h=>hp _ (List.getElem_mem _)
 have hk:∀(h:i<ps.length),(ps[i]).key.length<2^63:=fun h=>(hat h).1
 (conv=>whnf);repeat' (first|(refine kA ?_;conv=>whnf)|(refine Br.mk (fun hc=>?_) fun hc=>?_<;>first|exact hc.elim|conv=>whnf)|(refine UK (hk (by omega)) ?_;conv=>whnf)|(have hwr:=hk (by omega);apply CW;(· exact wrap_i64 (by omega) (by omega));clear hwr;conv=>whnf)|(refine kB ?_))
 ·refine Aa (wei 12 (by omega) (hat (by omega)).2 (by have:=hk (by omega);omega) (by omega)) ?_
  rintro _ ⟨r,rfl,r1,r2,r3⟩
  (conv=>whnf);repeat' (first|(refine kA ?_;conv=>whnf)|(refine Br.mk (fun hc=>?_) fun hc=>?_<;>first|exact hc.elim|conv=>whnf)  |(refine kB ?_))
  exact again.mk ⟨_,by omega,i+1,r,rfl,rfl,rfl,by omega,by omega,fun h=>⟨by have:=hx (by omega);have:=r3 h;omega,BG (by omega) (hx (by omega)).2 ⟨by have:=r3 h;omega,(r3 h).2⟩⟩⟩
 ·exact⟨_,rfl,by omega,by omega,fun h=>absurd h (by omega)⟩
 ·refine⟨_,rfl,by omega,by omega,fun h=>?_⟩
  obtain⟨x1,x2⟩:=hx h
  rw[Di hc]at x2
  exact⟨by omega,x2⟩
def SmP (ps:List GP):Prop:=ps.length≤2000∧∀p∈ps,p.key.length≤101000∧YN 12 p.v.av
def SmN (n:GN):Prop:=n.labels.length≤2000∧(∀ s∈n.labels,s.length≤101000)∧SmP n.props
def SmE (e:GE):Prop:=e.ty.length≤101000∧SmP e.props
def SmG (g:GG) (n e:Int):Prop:=g.nodes.length≤n∧g.edges.length≤e∧(∀ n∈g.nodes,SmN n)∧∀e∈g.edges,SmE e
theorem small {g:GG} (hg:g.ok) {n e:Int}:Ah (Ac tab) 23 [g.av,.int .i64 n,.int .i64 e] (fun v=>∃b,v=.bool b∧(b=true→SmG g n e)):=by
 obtain⟨g1,g2,g3,g4,g5,g6,g7,g8⟩:=hg
 unfold Ln at g1 g4
 refine Ad rfl rfl ?_
 (conv=>whnf);repeat' (first|(refine kA ?_;conv=>whnf)|(refine Br.mk (fun hc=>?_) fun hc=>?_<;>first|exact hc.elim|conv=>whnf)  |(refine kB ?_))
 ·exact⟨_,rfl,fun h=>by cases h⟩
 ·exact⟨_,rfl,fun h=>by cases h⟩
 refine Ai (fun m env s=>∃(i c:Nat) (left:Int),m=g.nodes.length-i∧env=[(3,.ref 0 0 0 0),(7,.int .i64 left),(8,.int .i64 i)]∧s=⟨[.arr 0 4 true true [g.av]],c⟩∧-9223372036854775808≤left∧left≤2000∧(0≤left→∀n∈g.nodes.take i,SmN n)) ?_ _ _ _ ⟨0,1,2000,rfl,rfl,rfl,by omega,by omega,fun _=>by simp⟩
 rintro _ _ _ ⟨i,c,left,rfl,rfl,rfl,b1,b2,hx⟩
 refine⟨rfl,?_⟩
 have hat:∀h:i<g.nodes.length,(g.nodes[i]).ok:=fun h=>g3 _ (List.getElem_mem _)
 have hk:∀h:i<g.nodes.length,(g.nodes[i]).labels.length<2^63:=fun h=>(hat h).2.1
 (conv=>whnf);repeat' (first|(refine kA ?_;conv=>whnf)|(refine Br.mk (fun hc=>?_) fun hc=>?_<;>first|exact hc.elim|conv=>whnf)|(have hwr:=hk (by omega);apply CW;(· exact wrap_i64 (by omega) (by omega));clear hwr;conv=>whnf)|(refine kB ?_))
 rotate_left
 ·have hN:0≤left→∀n∈g.nodes,SmN n:=fun h=>absurd h (by omega)
  refine Ai (fun m env s=>∃(i c:Nat) (left:Int),m=g.edges.length-i∧env=[(3,.ref 0 0 0 0),(7,.int .i64 left),(11,.int .i64 i)]∧s=⟨[.arr 0 4 true true [g.av]],c⟩∧-9223372036854775808≤left∧left≤2000∧(0≤left→(∀ n∈g.nodes,SmN n)∧∀n∈g.edges.take i,SmE n)) ?_ _ _ _ ⟨0,_,left,rfl,rfl,rfl,by omega,by omega,fun h=>⟨hN h,by simp⟩⟩
  clear hN hx hat hk b1 b2 hc
  rintro _ _ _ ⟨i,c,left,rfl,rfl,rfl,b1,b2,hx⟩
  refine⟨rfl,?_⟩
  have hat:∀h:i<g.edges.length,(g.edges[i]).ok:=fun h=>g6 _ (List.getElem_mem _)
  have hk:∀h:i<g.edges.length,(g.edges[i]).ty.length<2^63:=fun h=>(hat h).2.2.2.1
  (conv=>whnf);repeat' (first|(refine kA ?_;conv=>whnf)|(refine Br.mk (fun hc=>?_) fun hc=>?_<;>first|exact hc.elim|conv=>whnf)|(refine UK (hk (by omega)) ?_;conv=>whnf)|(have hwr:=hk (by omega);apply CW;(· exact wrap_i64 (by omega) (by omega));clear hwr;conv=>whnf)|(refine kB ?_))
  ·refine Aa (weigh (hat (by omega)).2.2.2.2.1 (hat (by omega)).2.2.2.2.2.2 (by have:=hk (by omega);omega) (by omega)) ?_
   rintro _ ⟨r,rfl,r1,r2,r3⟩
   (conv=>whnf);repeat' (first|(refine kA ?_;conv=>whnf)|(refine Br.mk (fun hc=>?_) fun hc=>?_<;>first|exact hc.elim|conv=>whnf)  |(refine kB ?_))
   have hk1:=hk (by omega)
   exact again.mk ⟨_,by omega,i+1,_,r,rfl,rfl,rfl,by omega,by omega,fun h=>⟨(hx (by omega)).1,BG (by omega) (hx (by omega)).2 ⟨by have:=r3 h;omega,by have:=r3 h;omega,(r3 h).2⟩⟩⟩
  all_goals first
   |exact⟨_,rfl,fun h=>absurd h Bool.false_ne_true⟩
   |(refine ⟨_,rfl,fun h=>?_⟩
     rename_i hc1
     obtain⟨x1,x2⟩:=hx hc
     rw[Di hc1]at x2
     exact⟨by omega,by omega,x1,x2⟩)
 ·have hN:0≤left→∀n∈g.nodes,SmN n:=by rw[Di hc]at hx;exact hx
  refine Ai (fun m env s=>∃(i c:Nat) (left:Int),m=g.edges.length-i∧env=[(3,.ref 0 0 0 0),(7,.int .i64 left),(11,.int .i64 i)]∧s=⟨[.arr 0 4 true true [g.av]],c⟩∧-9223372036854775808≤left∧left≤2000∧(0≤left→(∀ n∈g.nodes,SmN n)∧∀n∈g.edges.take i,SmE n)) ?_ _ _ _ ⟨0,_,left,rfl,rfl,rfl,by omega,by omega,fun h=>⟨hN h,by simp⟩⟩
  clear hN hx hat hk b1 b2 hc
  rintro _ _ _ ⟨i,c,left,rfl,rfl,rfl,b1,b2,hx⟩
  refine⟨rfl,?_⟩
  have hat:∀h:i<g.edges.length,(g.edges[i]).ok:=fun h=>g6 _ (List.getElem_mem _)
  have hk:∀h:i<g.edges.length,(g.edges[i]).ty.length<2^63:=fun h=>(hat h).2.2.2.1
  (conv=>whnf);repeat' (first|(refine kA ?_;conv=>whnf)|(refine Br.mk (fun hc=>?_) fun hc=>?_<;>first|exact hc.elim|conv=>whnf)|(refine UK (hk (by omega)) ?_;conv=>whnf)|(have hwr:=hk (by omega);apply CW;(· exact wrap_i64 (by omega) (by omega));clear hwr;conv=>whnf)|(refine kB ?_))
  ·refine Aa (weigh (hat (by omega)).2.2.2.2.1 (hat (by omega)).2.2.2.2.2.2 (by have:=hk (by omega);omega) (by omega)) ?_
   rintro _ ⟨r,rfl,r1,r2,r3⟩
   (conv=>whnf);repeat' (first|(refine kA ?_;conv=>whnf)|(refine Br.mk (fun hc=>?_) fun hc=>?_<;>first|exact hc.elim|conv=>whnf)  |(refine kB ?_))
   have hk1:=hk (by omega)
   exact again.mk ⟨_,by omega,i+1,_,r,rfl,rfl,rfl,by omega,by omega,fun h=>⟨(hx (by omega)).1,BG (by omega) (hx (by omega)).2 ⟨by have:=r3 h;omega,by have:=r3 h;omega,(r3 h).2⟩⟩⟩
  all_goals first
   |exact⟨_,rfl,fun h=>absurd h Bool.false_ne_true⟩
   |(refine ⟨_,rfl,fun h=>?_⟩
     rename_i hc1
     obtain⟨x1,x2⟩:=hx hc
     rw[Di hc1]at x2
     exact⟨by omega,by omega,x1,x2⟩)
 refine Aa (weigh (hat (by omega)).2.2.2.2.1 (hat (by omega)).2.2.2.2.2.2 (by have:=hk (by omega);omega) (by omega)) ?_
 rintro _ ⟨r,rfl,r1,r2,r3⟩
 (conv=>whnf);repeat' (first|(refine kA ?_;conv=>whnf)|(refine Br.mk (fun hc=>?_) fun hc=>?_<;>first|exact hc.elim|conv=>whnf)  |(refine kB ?_))
 refine Ai (fun m env s=>∃(j:Nat) (l2:Int),m=(g.nodes[i]).labels.length-j∧env=[(3,.ref 0 0 0 0),(7,.int .i64 l2),(8,.int .i64 i),(9,.ref 1 c 0 0),(10,.int .i64 j)]∧s=⟨[.arr 0 4 true true [g.av],.arr c 3 true true [(g.nodes[i]).av]],c+1⟩∧-9223372036854775808≤l2∧l2≤2000∧(0≤l2→0≤r∧∀s∈(g.nodes[i]).labels.take j,s.length≤101000)) ?_ _ _ _ ⟨0,r,rfl,rfl,rfl,by omega,by omega,fun h=>⟨h,by simp⟩⟩
 rintro _ _ _ ⟨j,l2,rfl,rfl,rfl,d1,d2,hy⟩
 refine⟨rfl,?_⟩
 have hlb:∀h:j<(g.nodes[i]).labels.length,((g.nodes[i]).labels[j]).length<2^63:=fun h=>(hat (by omega)).2.2.2.1 _ (List.getElem_mem _)
 have hk1:=hk (by omega)
 (conv=>whnf);repeat' (first|(refine kA ?_;conv=>whnf)|(refine Br.mk (fun hc=>?_) fun hc=>?_<;>first|exact hc.elim|conv=>whnf)|(refine UK (hlb (by omega)) ?_;conv=>whnf)|(have hwr:=hlb (by omega);apply CW;(· exact wrap_i64 (by omega) (by omega));clear hwr;conv=>whnf)|(refine kB ?_))
 ·have:=hlb (by omega)
  exact again.mk ⟨_,by omega,j+1,_,rfl,rfl,rfl,by omega,by omega,fun h=>⟨(hy (by omega)).1,BG (by omega) (hy (by omega)).2 (by omega)⟩⟩
 ·exact again.mk ⟨_,by omega,i+1,_,l2,rfl,rfl,rfl,by omega,by omega,fun h=>absurd h (by omega)⟩
 ·refine again.mk ⟨_,by omega,i+1,_,l2,rfl,rfl,rfl,by omega,by omega,fun h=>?_⟩
  obtain⟨y1,y2⟩:=hy h
  rw[Di hc]at y2
  have:=r3 y1
  exact BG (by omega) (hx (by omega)) ⟨by omega,y2,by omega,this.2⟩
end AI
end Go.Proofs.YtchcadfjbkkgmaaGreatDoor
