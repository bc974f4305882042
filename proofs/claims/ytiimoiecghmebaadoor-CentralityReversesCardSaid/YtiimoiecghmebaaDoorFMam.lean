/- A reversed copy: what laws ask of it, plain. The reversed copy, walked. tree: distances and numbers of shortest walks, the reference's: what holds on its way. tree: the reference's distances and numbers of shortest walks. frac.Of, frac.Add of the reference. Closeness: the reference's. Betweenness: the reference's. The worked example. Changes as data; the ids that changes name: plain. The worked example; what the centrality laws ask. The law CentralityTells, about the evaluator. Lists of pairs compared: slices.Equal, the reference's Same. The law CentralityReverses, about the evaluator. -/
import Derived.Test.YtiimoiecghmebaaDoorFMal
import Derived.Test.YtiimoiecghmebaaDoorFGsB
import Derived.Test.YtiimoiecghmebaaDoorFMaj
import Derived.Test.YtiimoiecghmebaaDoorFMac
import Derived.Test.YtiimoiecghmebaaDoorFMae
import Derived.Test.YtiimoiecghmebaaDoorFMah
import Derived.Test.YtiimoiecghmebaaDoorFMak
import Derived.Test.YtiimoiecghmebaaDoorFMaf
import Derived.Test.YtiimoiecghmebaaDoorFMag
set_option linter.unusedVariables false
namespace Go.Proofs.YtiimoiecghmebaaDoor
namespace AI
def QP (p q:GP):Prop:=q.key=p.key∧(He q.v↔He p.v)
def QN (m n:GN):Prop:=n.id=m.id∧n.labels=m.labels∧FW QP m.props n.props
def QE (e f:GE):Prop:=f.id=e.id∧f.fr=e.fr∧f.to=e.to∧f.ty=e.ty∧FW QP e.props f.props
structure QG (a c:GG):Prop where
 n:FW QN a.nodes c.nodes
 e:FW QE a.edges c.edges
 nN:c.BR=a.BR
 nE:c.CJ=a.CJ
theorem Aew {d:Nat} {x y:GV} (h:CpV d x y):He y↔He x:=by
 obtain⟨h1,h2,h3,h4⟩:=h.sim.f
 have h5:=h.sim.len
 unfold He
 rw[h1,h2,h3,h4,h5]
theorem Afp {p q:GP} (h:CpP p q):QP p q:=⟨h.1,Aew h.2⟩
theorem Rz {α:Type} {R R':α→α→Prop} {l m:List α} (h:FW R l m) (k:∀x y,R x y→R' x y):FW R' l m:=⟨h.1,fun i a b=>k _ _ (h.2 i a b)⟩
theorem Ags {P Q:List GP} (h:FW QP P Q):keysOf Q=keysOf P:=by
 unfold keysOf
 apply List.ext_getElem
 ·simp[h.1]
 ·intro i h1 h2
  have k1:i<Q.length:=by simpa using h1
  have k2:i<P.length:=by simpa using h2
  simp only[List.getElem_map]
  exact(h.2 i k2 k1).1
theorem Aex {P Q:List GP} (h:FW QP P Q):allPlain Q↔allPlain P:=by
 constructor
 ·intro k p hp
  obtain⟨i,hi,rfl⟩:=List.getElem_of_mem hp
  have hi2:i<Q.length:=by rw[← h.1];exact hi
  exact(h.2 i hi hi2).2.1 (k _ (List.getElem_mem hi2))
 ·intro k p hp
  obtain⟨i,hi,rfl⟩:=List.getElem_of_mem hp
  have hi2:i<P.length:=by rw[h.1];exact hi
  exact(h.2 i hi2 hi).2.2 (k _ (List.getElem_mem hi2))
theorem ZQ {L:List (List UInt8)} {P Q:List GP} (h:FW QP P Q):Dk L Q=Dk L P:=by
 unfold Dk
 rw[Ags h,←h.1]
 simp only[Aex h]
theorem AcK {a c:List GN} (h:FW QN a c):GK c=GK a:=by
 unfold GK
 apply List.ext_getElem
 ·simp[h.1]
 ·intro i h1 h2
  have k1:i<c.length:=by simpa using h1
  have k2:i<a.length:=by simpa using h2
  simp only[List.getElem_map]
  exact(h.2 i k2 k1).1
theorem Aey {a c:List GN} (h:FW QN a c) {nx:Int} {i:Nat}:DR c nx i=DR a nx i:=by
 unfold DR
 by_cases hi:i<a.length
 ·have hc:i<c.length:=by rw[← h.1];exact hi
  have q:=h.2 i hi hc
  have hj:i-1<a.length:=by omega
  have hjc:i-1<c.length:=by rw[← h.1];exact hj
  have q2:=h.2 (i-1) hj hjc
  rw[List.getElem?_eq_getElem hi,List.getElem?_eq_getElem hc,List.getElem?_eq_getElem hj,List.getElem?_eq_getElem hjc]
  simp only[Option.some.injEq,exists_eq_left',q.1,q.2.1,q2.1,ZQ q.2.2]
 ·have hc:¬i<c.length:=by rw[← h.1];exact hi
  rw[List.getElem?_eq_none (l:=c) (i:=i) (by omega),List.getElem?_eq_none (l:=a) (i:=i) (by omega)]
theorem Aez {a c:List GN} {E F:List GE} (hn:FW QN a c) (h:FW QE E F) {nx:Int} {i:Nat}:Dw c F nx i=Dw a E nx i:=by
 unfold Dw
 by_cases hi:i<E.length
 ·have hc:i<F.length:=by rw[← h.1];exact hi
  have q:=h.2 i hi hc
  have hj:i-1<E.length:=by omega
  have hjc:i-1<F.length:=by rw[← h.1];exact hj
  have q2:=h.2 (i-1) hj hjc
  rw[List.getElem?_eq_getElem hi,List.getElem?_eq_getElem hc,List.getElem?_eq_getElem hj,List.getElem?_eq_getElem hjc]
  simp only[Option.some.injEq,exists_eq_left',AcK hn,q.1,q.2.1,q.2.2.1,q.2.2.2.1,q2.1,ZQ q.2.2.2.2]
 ·have hc:¬i<F.length:=by rw[← h.1];exact hi
  rw[List.getElem?_eq_none (l:=F) (i:=i) (by omega),List.getElem?_eq_none (l:=E) (i:=i) (by omega)]
theorem VX {a c:GG} (h:QG a c):AB c=AB a:=by
 have n1:DR c.nodes c.BR=DR a.nodes a.BR:=funext fun i=>by rw[h.nN];exact Aey h.n
 have n2:Dw c.nodes c.edges c.CJ=Dw a.nodes a.edges a.CJ:=funext fun i=>by rw[h.nE];exact Aez h.n h.e
 have f:EK c↔EK a:=by unfold EK;rw[h.n.1,h.e.1]
 have x:Gf c↔Gf a:=by unfold Gf;rw[h.nN,h.nE]
 unfold AB
 rw[n1,n2,←h.n.1,←h.e.1]
 simp only[f,x]
theorem AcL {a c:GG} (h:QG a c):Bf c=Bf a:=AcK h.n
theorem Agt {types:List (List UInt8)} {E F:List GE} (h:FW QE E F) {x y:Int}:JN types F x y↔JN types E x y:=by
 constructor
 ·rintro⟨i,hi,h1,h2,h3⟩
  have hi2:i<E.length:=by rw[h.1];exact hi
  obtain⟨q1,q2,q3,q4,_⟩:=h.2 i hi2 hi
  exact⟨i,hi2,by rw[← q2];exact h1,by rw[← q3];exact h2,by unfold HT at *;rw[← q4];exact h3⟩
 ·rintro⟨i,hi,h1,h2,h3⟩
  have hi2:i<F.length:=by rw[← h.1];exact hi
  obtain⟨q1,q2,q3,q4,_⟩:=h.2 i hi hi2
  exact⟨i,hi2,by rw[q2];exact h1,by rw[q3];exact h2,by unfold HT at *;rw[q4];exact h3⟩
theorem AkB {types:List (List UInt8)} {a c:GG} (h:QG a c):QX types c=QX types a:=by
 unfold QX
 rw[VX h]
 by_cases hc:AB a=0
 ·rw[if_pos hc,if_pos hc,VY hc,VY ((VX h).trans hc),AcL h]
  have:ZR types c.edges=ZR types a.edges:=by
   funext x y
   unfold ZR NR
   refine decide_eq_decide.2 ?_
   rw[Agt h.e,Agt h.e]
  rw[this]
 ·rw[if_neg hc,if_neg hc]
theorem Afr {a c:GG} (h:QG a c) (k:Nat):Ky c k=Ky a k:=by
 unfold Ky
 have:c.nodes.map GN.id=a.nodes.map GN.id:=AcL h
 rw[this]
theorem Aim {types:List (List UInt8)} {a c:GG} (h:QG a c):Dt types c=Dt types a:=by
 funext i k
 by_cases hk:i<a.nodes.length∧k<a.nodes.length
 ·have hk2:i<c.nodes.length∧k<c.nodes.length:=by rw[← h.n.1];exact hk
  rw[NZ hk.1 hk.2,NZ hk2.1 hk2.2]
  refine decide_eq_decide.2 ?_
  rw[Afr h,Afr h]
  exact Agt h.e
 ·rw[OD hk,OD (by rw[← h.n.1];exact hk)]
theorem AkC {types:List (List UInt8)} {a c:GG} (h:QG a c):btG types c=btG types a:=by
 unfold btG
 rw[VX h,AcL h,Aim h,←h.n.1]
theorem YV {types:List (List UInt8)} {g k:GG} (hN:g.nodes.length≤12) (h:QG (Ez g) k):(∃ b1 l1 e1 b2 l2 e2,btG types g=.Dy [.sl b1 (vs Vq l1),.int .i64 e1]∧btG types k=.Dy [.sl b2 (vs Vq l2),.int .i64 e2]∧l1.length≤12∧l2.length≤12∧(e1=0→e2=0→l2=l1)):=by
 rw[AkC h]
 have hr:(Ez g).nodes.length=g.nodes.length:=rfl
 have hi:Bf (Ez g)=Bf g:=rfl
 unfold btG
 rw[hr,hi]
 by_cases hc:AB g=0
 case neg=>
  have hc2:AB (Ez g)≠0:=fun k=>hc (QY.1 k)
  rw[if_neg hc,if_neg hc2]
  exact⟨_,[],_,_,[],_,rfl,rfl,by simp,by simp,fun _ _=>rfl⟩
 rw[if_pos hc,if_pos (QY.2 hc)]
 have hz:∀l:List (Nat×Nat),((Bf g).zip l).length≤12:=fun l=>by
  rw[List.length_zip,DF];omega
 cases h1:Uf (Ho (Dt types g) g.nodes.length) (GZ (Dt types g) g.nodes.length) g.nodes.length g.nodes.length with
 |none=>
  cases h2:Uf (Ho (Dt types (Ez g)) g.nodes.length) (GZ (Dt types (Ez g)) g.nodes.length) g.nodes.length g.nodes.length with
  |none=>exact⟨_,[],_,_,[],_,rfl,rfl,by simp,by simp,fun _ _=>rfl⟩
  |some m=>exact⟨_,[],_,_,_,_,rfl,rfl,by simp,hz m,fun e=>by cases e⟩
 |some l=>
  cases h2:Uf (Ho (Dt types (Ez g)) g.nodes.length) (GZ (Dt types (Ez g)) g.nodes.length) g.nodes.length g.nodes.length with
  |none=>exact⟨_,_,_,_,[],_,rfl,rfl,hz l,by simp,fun _ e=>by cases e⟩
  |some m=>
   obtain rfl:=Agu hN h1 h2
   exact⟨_,_,_,_,_,_,rfl,rfl,hz _,hz _,fun _ _=>rfl⟩
theorem Agv {types:List (List UInt8)} {g k:GG} (h:QG (Ez g) k):QX types k=QX types g:=(AkB h).trans Agw
noncomputable def trS (types:List (List UInt8)) (g:GG) (i:Nat):Nat:=sg i fun v=>cI (Ef types g) v (Ef types g).length
theorem Agx {types:List (List UInt8)} {g:GG} (hck:AB g=0) {i:Nat} (hi:i<(O7 types g).length):((O7 types g)[i]).2=((cI (Ef types g) i (Ef types g).length:Nat):Int):=by
 have e:=AeA (types:=types) hck
 have hi2:i<(rtL types g).length:=by rw[← e];exact hi
 have:(O7 types g)[i]=(rtL types g)[i]:=by simp only[e]
 rw[this]
 simp[rtL]
theorem Agy {types:List (List UInt8)} {g:GG} (hN:g.nodes.length≤12) {i:Nat} (hi:i≤g.nodes.length):trS types g i≤1728:=by
 have hTl:(Ef types g).length=g.nodes.length:=by unfold Ef;rw[List.length_map]
 have h1:trS types g i≤sg i fun _=>144:=LU fun v _=>by
  have:=Afs (T:=Ef types g) (v:=v) (m:=(Ef types g).length)
  rw[hTl]at this ⊢
  have h2:g.nodes.length*g.nodes.length≤12*12:=Nat.mul_le_mul hN hN
  omega
 rw[KX]at h1
 omega
theorem Aio {types:List (List UInt8)} {g:GG}:3 ∣ trS types g g.nodes.length:=AkE
theorem Agc {σ:List Obj} {b:Bool} {l:List AV}:Rd σ 1 (.sl b l) (.sl b l):=fun m hm=>by
 obtain⟨m,rfl⟩:∃m',m=m'+1:=⟨m-1,by omega⟩
 rfl
def cgR (KL:List KN) (EL:List GE) (x y:Int):GG:=⟨decide (KL≠[]),KL.map KN.n,decide (EL≠[]),EL,x,y⟩
theorem knR {lo:Nat} {σ:List Obj} {e:KN} (h:e.Ok lo σ):Rd σ 5 e.av e.n.av:=by
 obtain⟨h1,h2,h3,h4⟩:=h
 have hd:Hd AV.str 1 σ (.own e.o e.g 0 e.n.labels.length) true e.n.labels true:=.inr ⟨rfl,_,_,rfl,h1⟩
 have h5:=hd.sn
 rw[← h3]at h5
 exact Rd.agg (JM.cons (Rd.int.mono (by omega)) (JM.cons (h5.mono (by omega)) (JM.cons (Agc.mono (D':=1) (by omega)) (JM.nil.mono (D':=1) (by omega)))))
theorem Akb {lo lo':Nat} {σ:List Obj} {v:AV} {K:List KN} (h:QA lo σ v K) (hk:∀e∈K,e.Ok lo' σ):Rd σ (K.length+6) v (.sl (decide (K≠[])) (vs GN.av (K.map KN.n))):=by
 rcases h with⟨rfl,rfl⟩|⟨h1,o,g,rfl,h2,h3,h4⟩
 ·exact Agc.mono (by omega)
 ·have hd:Hd KN.av 3 σ (.own o g 0 K.length) true K false:=.inr ⟨rfl,_,_,rfl,h2⟩
  have:=(hd.snE (g:=fun e=>e.n.av) (D:=5) (fun e he=>knR (hk e he)) (by simp)).mono (D':=K.length+6) (by omega)
  rw[decide_eq_true h1]
  simpa[vs,Function.comp_def]using this
theorem Akd {lo:Nat} {σ:List Obj} {v:AV} {E:List GE} (h:Vu lo σ v E):Rd σ 1 v (.sl (decide (E≠[])) (vs GE.av E)):=by
 rcases h with⟨rfl,rfl⟩|⟨h1,o,g,rfl,h2,h3⟩
 ·exact Agc
 ·have hd:Hd GE.av 5 σ (.own o g 0 E.length) true E true:=.inr ⟨rfl,_,_,rfl,h2⟩
  rw[decide_eq_true h1]
  exact hd.sn
theorem grR {lo lo' le:Nat} {σ:List Obj} {v w:AV} {K:List KN} {E:List GE} {x y:Int} (h:QA lo σ v K) (hk:∀e∈K,e.Ok lo' σ) (h':Vu le σ w E):Rd σ (K.length+20) (.agg [v,w,.int .i64 x,.int .i64 y]) (cgR K E x y).av:=
 (Rd.agg (JM.cons ((Akb h hk).mono (D':=K.length+13) (by omega)) ((JM.cons ((Akd h').mono (D':=12) (by omega)) (JM.cons (Rd.int.mono (D':=11) (by omega)) (JM.cons (Rd.int.mono (D':=10) (by omega)) (JM.nil.mono (by omega))))).mono (D':=K.length+13) (by omega)))).mono (by omega)
theorem Ake {lo oE:Nat} {σ τ:List Obj} {v:AV} {K:List KN} (h:QA lo σ v K) (f:CB σ τ [oE]) (hv:∀o,v.obj=[o]→o≠oE):QA lo τ v K:=by
 rcases h with h|⟨h1,o,g,rfl,h2,h3,h4⟩
 ·exact .inl h
 ·exact .inr ⟨h1,o,g,rfl,f.get h2 (by have:=hv o rfl;simpa using this),h3,h4⟩
def rvX (E:List GE) (i:Nat):List GE:=(E.take i).map EU++E.drop i
theorem Aea {E:List GE} {i:Nat} (hi:i<E.length):nth (vs GE.av (rvX E i)) (Int.toNat (Nat.cast i))=some (E[i]).av:=by
 rw[Aj]
 simp[rvX,vs,List.getElem?_append_right,List.length_take,Nat.min_eq_left (Nat.le_of_lt hi),hi]
theorem Aeb {E:List GE} {i:Nat} (hi:i<E.length) {x:GE}:(rvX E i).set i x=(E.take i).map EU++x::E.drop (i+1):=by
 have hl:((E.take i).map EU).length=i:=by simp;omega
 unfold rvX
 rw[List.drop_eq_getElem_cons hi,List.set_append_right _ _ (by omega),hl,Nat.sub_self,List.set_cons_zero]
theorem AbZ {E:List GE} {i:Nat} (hi:i<E.length):(E.take i).map EU++EU E[i]::E.drop (i+1)=rvX E (i+1):=by
 unfold rvX
 rw[List.take_succ_eq_append_getElem hi,List.map_append,List.append_assoc]
 rfl
theorem Aec {E:List GE} {i:Nat} (hi:i<E.length) {x:GE}:nth (vs GE.av ((E.take i).map EU++x::E.drop (i+1))) (Int.toNat (Nat.cast i))=some x.av:=by
 have hl:((E.take i).map EU).length=i:=by simp;omega
 rw[Aj]
 show(((E.take i).map EU++x::E.drop (i+1)).map GE.av)[i]?=_
 rw[List.getElem?_map,List.getElem?_append_right (by omega),hl,Nat.sub_self]
 rfl
theorem Ab0 {E:List GE} {i:Nat} (hi:i<E.length) {x y:GE}:((E.take i).map EU++x::E.drop (i+1)).set i y=(E.take i).map EU++y::E.drop (i+1):=by
 have hl:((E.take i).map EU).length=i:=by simp;omega
 rw[List.set_append_right _ _ (by omega),hl,Nat.sub_self,List.set_cons_zero]
theorem Zx {l:List GE} {i:Nat} {a:GE}:(vs GE.av l).set i a.av=vs GE.av (l.set i a):=by simp[vs,List.map_set]
theorem Ab1 {g:GG} {KL:List KN} {EL:List GE} (hn:FW CpN g.nodes (KL.map KN.n)) (he:FW CpE g.edges EL):QG (Ez g) (cgR KL (EL.map EU) g.BR g.CJ):=by
 refine⟨Rz hn fun m n h=>⟨h.1,h.2.1,Rz h.2.2 fun p q=>Afp⟩,?_,rfl,rfl⟩
 refine⟨?_,fun i h1 h2=>?_⟩
 ·show(g.edges.map EU).length=(EL.map EU).length
  rw[List.length_map,List.length_map,he.1]
 ·have k1:i<g.edges.length:=by simpa[Ez]using h1
  have k2:i<EL.length:=by simpa[cgR]using h2
  have q:=he.2 i k1 k2
  show QE ((g.edges.map EU)[i]'(by simpa using k1)) ((EL.map EU)[i]'(by simpa using k2))
  rw[List.getElem_map,List.getElem_map]
  exact⟨q.1,q.2.2.1,q.2.1,q.2.2.2.1,Rz q.2.2.2.2.1 fun p q=>Afp⟩
theorem AhY {p q:GP} (hp:p.ok) (h:CpP p q):q.ok:=⟨by rw[h.1];exact hp.1,h.2.ok⟩
theorem Ab2 {P Q:List GP} (hP:Ln P∧∀p∈P,p.ok) (h:FW CpP P Q):Ln Q∧∀q∈Q,q.ok:=by
 refine⟨by have:=hP.1;unfold Ln at *;rw[← h.1];exact this,fun q hq=>?_⟩
 obtain⟨i,hi,rfl⟩:=List.getElem_of_mem hq
 have hi2:i<P.length:=by rw[h.1];exact hi
 exact AhY (hP.2 _ (List.getElem_mem hi2)) (h.2 i hi2 hi)
theorem Ab3 {g:GG} (hg:g.ok) {KL:List KN} {EL:List GE} {lo:Nat} {σ:List Obj} (hk:∀e∈KL,e.Ok lo σ) (hn:FW CpN g.nodes (KL.map KN.n)) (he:FW CpE g.edges EL):(cgR KL (EL.map EU) g.BR g.CJ).ok:=by
 obtain⟨g1,g2,g3,g4,g5,g6,g7,g8⟩:=hg
 refine⟨?_,fun h=>?_,fun n hm=>?_,?_,fun h=>?_,fun e hm=>?_,g7,g8⟩
 ·show Ln (KL.map KN.n)
  unfold Ln at *;rw[← hn.1];exact g1
 ·have:KL=[]:=Classical.byContradiction fun k=>absurd k (of_decide_eq_false h)
  show KL.map KN.n=[]
  rw[this];rfl
 ·have hm:n∈KL.map KN.n:=hm
  obtain⟨i,hi,rfl⟩:=List.getElem_of_mem hm
  have hi2:i<g.nodes.length:=by rw[hn.1];exact hi
  have hi3:i<KL.length:=by simpa using hi
  have q:=hn.2 i hi2 hi
  obtain⟨o1,o2,o3,o4,o5,o6,o7⟩:=g3 _ (List.getElem_mem hi2)
  obtain⟨_,_,a3,a4⟩:=hk _ (List.getElem_mem hi3)
  obtain⟨p1,p2⟩:=Ab2 ⟨o5,o7⟩ q.2.2
  have e:(KL.map KN.n)[i]=(KL[i]).n:=by rw[List.getElem_map]
  refine⟨by rw[q.1];exact o1,by rw[q.2.1];exact o2,fun h=>?_,by rw[q.2.1];exact o4,p1,fun h=>?_,p2⟩
  ·rw[e,a3]at h;cases h
  ·rw[e]at h ⊢;exact a4 h
 ·show Ln (EL.map EU)
  unfold Ln at *;rw[List.length_map,←he.1];exact g4
 ·have:EL.map EU=[]:=Classical.byContradiction fun k=>absurd k (of_decide_eq_false h)
  exact this
 ·have hm:e∈EL.map EU:=hm
  obtain⟨d,hd,rfl⟩:=List.mem_map.1 hm
  obtain⟨i,hi,rfl⟩:=List.getElem_of_mem hd
  have hi2:i<g.edges.length:=by rw[he.1];exact hi
  have q:=he.2 i hi2 hi
  obtain⟨o1,o2,o3,o4,o5,o6,o7⟩:=g6 _ (List.getElem_mem hi2)
  obtain⟨p1,p2⟩:=Ab2 ⟨o5,o7⟩ q.2.2.2.2.1
  exact⟨by show I64 (EL[i]).id;rw[q.1];exact o1,by show I64 (EL[i]).to;rw[q.2.2.1];exact o3,by show I64 (EL[i]).fr;rw[q.2.1];exact o2,by show Ln (EL[i]).ty;rw[q.2.2.2.1];exact o4,p1,q.2.2.2.2.2,p2⟩
set_option maxHeartbeats 8000000 in
theorem AaF {g:GG} (hg:g.ok) (hf:Zy g) (hN:g.nodes.length≤12):Aw (Ad tab) 7 [g.av] (fun v=>∃k:GG,v=k.av∧k.ok∧QG (Ez g) k):=by
 refine Xg rfl rfl ?_
 have hf2:=hf.2.1
 (conv=>whnf);repeat' (first  |(refine kA ?_;conv=>whnf)|(refine Br.mk (fun hc=>?_) fun hc=>?_<;>first|exact hc.elim|conv=>whnf)|(refine kB ?_))
 all_goals first|(exfalso;omega)|skip
 refine AhZ hg hf fun lo le σ1 c1 vN vE KL EL hC=>?_
 have hg1:nth σ1 0=some (.arr 0 4 true true [g.av]):=hC.frm.get rfl (by simp)
 obtain⟨clz,hz1⟩:∃cl,nth σ1 1=some (.arr 1 4 true cl [.agg [.sl false [],.sl false [],.int .i64 0,.int .i64 0]]):=⟨_,hC.frm.get rfl (by simp)⟩
 have hl1:2≤σ1.length:=hC.frm.len
 obtain⟨Ah0,Ah1,hCle,hCn,hCe,Agd,AmV,Ah3,Ah4,Ab4,AaG⟩:=hC
 have AmW:2≤lo:=Ah1
 have hNs:=hCn
 have hel:g.edges.length=EL.length:=AaG.1
 have hEs:=hCe
 rcases hCe with⟨rfl,rfl⟩|⟨hE0,oE,gE,rfl,hoE,Agf⟩
 all_goals (rcases hCn with⟨hK0,rfl⟩|⟨hK0,oN,gN,rfl,hoN,Agg,Agh⟩)
 all_goals (
  conv=>whnf
  (conv=>whnf);repeat' (first|(rw [h2];conv=>whnf)|(refine EW fun σ2 f2 h2 l2=>?_;have hg2:=f2.get hg1 (by simp);have hz2:=f2.get hz1 (by simp);conv=>whnf)|(refine BL h2 fun σ3 f3 h3 l3=>?_;have hg3:=f3.get hg2 (by simp;omega);have hz3:=f3.get hz2 (by simp;omega);conv=>whnf)|(refine kA ?_;conv=>whnf)|(refine Br.mk (fun hc=>?_) fun hc=>?_<;>first|exact hc.elim|conv=>whnf)|(refine kB ?_)))
 all_goals (
  replace f2:CB σ1 σ2 []:=f2
  replace f3:CB σ2 σ3 [σ1.length]:=f3
  replace l2:σ2.length=σ1.length+1:=l2
  replace l3:σ3.length=σ2.length:=l3
  have F3:CB σ1 σ3 [σ1.length]:=f2.trans f3
  have hF3:∀o∈[σ1.length],o<lo∨σ1.length≤o:=fun o ho=>.inr (by rw[List.mem_singleton.1 ho];exact Nat.le_refl _)
  have Akg:∀o∈[σ1.length],o<le∨σ1.length≤o:=fun o ho=>.inr (by rw[List.mem_singleton.1 ho];exact Nat.le_refl _)
  have hN3:=hNs.fr F3 hF3
  have hO3:∀e∈KL,e.Ok lo σ3:=fun e he=>(Agd e he).fr F3 hF3
  have hE3:=hEs.fr F3 Akg
  have hkl:=Ab4.1
  rw[List.length_map]at hkl
  clear h2 hg2 hz2 Ah0 Ah1)
 all_goals first
  |(have hE1:Vu le σ1 (.sl false []) []:=hEs
    change nth σ3 σ1.length=some (.arr c1 4 true _ [.agg [_,.sl false [],.int .i64 g.BR,.int .i64 g.CJ]])at h3
    (conv=>whnf);repeat' (first|(rw [h3];conv=>whnf)|(refine kA ?_;conv=>whnf)|(refine Br.mk (fun hc=>?_) fun hc=>?_<;>first|exact hc.elim|conv=>whnf)|(refine kB ?_))
    refine Au (fun m env s=>m=0∧env=[(1,.ref 0 0 0 0),(2,.ref 1 1 0 0),(3,.ref σ1.length c1 0 0),(9,.int .i64 0),(10,.int .i64 0)]∧∃c,s=⟨σ3,c⟩) ?_ _ _ _ ⟨rfl,rfl,_,rfl⟩
    rintro _ _ _ ⟨rfl,rfl,c,rfl⟩
    refine⟨rfl,?_⟩
    (conv=>whnf);repeat' (first|(rw [h3];conv=>whnf)|(rw [hz3];conv=>whnf)|(refine BL hz3 fun σ4 f4 h4 l4=>?_;conv=>whnf)|(rw [h4];conv=>whnf)|(refine kA ?_;conv=>whnf)|(refine Br.mk (fun hc=>?_) fun hc=>?_<;>first|exact hc.elim|conv=>whnf)|(refine kB ?_))
    refine Bv ((Ht (t:=2) (sz:=some 4) h4).trans rfl) ?_
    replace f4:CB σ3 σ4 [1]:=f4
    have hR:=grR (x:=g.BR) (y:=g.CJ) (hN3.fr f4 (by intro o ho;rw[List.mem_singleton.1 ho];exact .inl (by omega))) (fun e he=>(hO3 e he).fr f4 (by intro o ho;rw[List.mem_singleton.1 ho];exact .inl (by omega))) (hE3.fr f4 (by intro o ho;rw[List.mem_singleton.1 ho];exact .inl (by omega)))
    exact⟨_,_,rfl,hR Dc (by unfold Dc;omega),_,rfl,Ab3 hg Agd Ab4 AaG,Ab1 Ab4 AaG⟩)
  |skip
 all_goals (
  have Akh:=Bj hoE
  have Ah7:=F3.get hoE (by simp;omega)
  change nth σ3 σ1.length=some (.arr c1 4 true _ [.agg [_,.own oE gE 0 EL.length,.int .i64 g.BR,.int .i64 g.CJ]])at h3
  (conv=>whnf);repeat' (first|(rw [h3];conv=>whnf)|(rw [Ah7];conv=>whnf)|(refine kA ?_;conv=>whnf)|(refine Br.mk (fun hc=>?_) fun hc=>?_<;>first|exact hc.elim|conv=>whnf)|(refine kB ?_))
  refine Au (fun m env s=>∃(i c:Nat) (σ:List Obj),m=EL.length-i∧i≤EL.length∧CB σ3 σ [oE]∧nth σ oE=some (.arr gE 5 true true (vs GE.av (rvX EL i)))∧env=[(1,.ref 0 0 0 0),(2,.ref 1 1 0 0),(3,.ref σ1.length c1 0 0),(9,.int .i64 EL.length),(10,.int .i64 i)]∧s=⟨σ,c⟩) ?_ _ _ _ ⟨0,_,σ3,rfl,by omega,⟨Nat.le_refl _,fun _ _ _=>rfl⟩,Ah7,rfl,rfl⟩
  rintro _ _ _ ⟨i,c,σ,rfl,hi,F,hEi,rfl,rfl⟩
  refine⟨rfl,?_⟩
  have h3i:=F.get h3 (by simp;omega)
  have hgi:=F.get hg3 (by simp;omega)
  have hzi:=F.get hz3 (by simp;omega)
  by_cases hlt:i<EL.length
  ·have hlg:i<g.edges.length:=by omega
   have q:=AaG.2 i hlg hlt
   have rv1:=Aea hlt
   have hM1:∀{b:Bool},b=true→some (Obj.arr gE 5 true b ((vs GE.av (rvX EL i)).set i ({EL[i]with fr:=(g.edges[i]).to}:GE).av))=some (.arr gE 5 true true (vs GE.av ((EL.take i).map EU++({EL[i]with fr:=(g.edges[i]).to}:GE)::EL.drop (i+1)))):=fun hb=>by
        rw[hb,Zx,Aeb hlt]
   have rv2:=Aec hlt (x:=({EL[i]with fr:=(g.edges[i]).to}:GE))
   have hM2:∀{b:Bool},b=true→some (Obj.arr gE 5 true b ((vs GE.av ((EL.take i).map EU++({EL[i]with fr:=(g.edges[i]).to}:GE)::EL.drop (i+1))).set i ({EL[i]with fr:=(g.edges[i]).to,to:=(g.edges[i]).fr}:GE).av))=some (.arr gE 5 true true (vs GE.av (rvX EL (i+1)))):=fun hb=>by
        have e:({EL[i]with fr:=(g.edges[i]).to,to:=(g.edges[i]).fr}:GE)=EU EL[i]:=by
         unfold EU;rw[q.2.1,q.2.2.1]
        rw[hb,Zx,Ab0 hlt,e,AbZ hlt]
   (conv=>whnf);repeat' (first|(rw [h3i];conv=>whnf)|(rw [hgi];conv=>whnf)|(rw [hEi];conv=>whnf)|(refine AA rv1 ?_;conv=>whnf)|(refine BL hEi fun σ4 f4 h4 l4=>?_;have h4x:=h4.trans (hM1 rfl);have h34:=f4.get h3i (by simp;omega);have hg4:=f4.get hgi (by simp;omega);conv=>whnf)|(rw [h34];conv=>whnf)|(rw [hg4];conv=>whnf)|(rw [h4x];conv=>whnf)|(refine AA rv2 ?_;conv=>whnf)|(refine BL h4x fun σ5 f5 h5 l5=>?_;have h5x:=h5.trans (hM2 rfl);conv=>whnf)|(refine kA ?_;conv=>whnf)|(refine Br.mk (fun hc=>?_) fun hc=>?_<;>first|exact hc.elim|conv=>whnf)|(refine kB ?_))
   all_goals first
        |(exfalso;omega)
        |exact again.mk ⟨_,by omega,i+1,_,σ5,rfl,by omega,((F.trans f4).trans f5).mono (by intro o ho;simp only[List.cons_append,List.nil_append,List.mem_cons,List.mem_nil_iff,or_false]at ho ⊢;omega),h5x,rfl,rfl⟩
  ·obtain rfl:i=EL.length:=by omega
   have hX:rvX EL EL.length=EL.map EU:=by unfold rvX;rw[List.take_length,List.drop_length,List.append_nil]
   rw[hX]at hEi
   have hNi:=Ake hN3 F (fun o ho=>by have:=Ah4 o ho;omega)
   have hOi:∀e∈KL,e.Ok lo σ:=fun e he=>by
        obtain⟨a,b,c⟩:=hO3 e he
        exact⟨F.get a (by have:=Ah3 e he;simp;omega),b,c⟩
   have Akj:Vu le σ (.own oE gE 0 EL.length) (EL.map EU):=.inr ⟨by simpa using hE0,oE,gE,by rw[List.length_map],hEi,Agf⟩
   (conv=>whnf);repeat' (first|(rw [h3i];conv=>whnf)|(rw [hzi];conv=>whnf)|(refine BL hzi fun σ4 f4 h4 l4=>?_;conv=>whnf)|(rw [h4];conv=>whnf)|(refine kA ?_;conv=>whnf)|(refine Br.mk (fun hc=>?_) fun hc=>?_<;>first|exact hc.elim|conv=>whnf)|(refine kB ?_))
   refine Bv ((Ht (t:=2) (sz:=some 4) h4).trans rfl) ?_
   replace f4:CB σ σ4 [1]:=f4
   have hR:=grR (x:=g.BR) (y:=g.CJ) (hNi.fr f4 (by intro o ho;rw[List.mem_singleton.1 ho];exact .inl (by omega))) (fun e he=>(hOi e he).fr f4 (by intro o ho;rw[List.mem_singleton.1 ho];exact .inl (by omega))) (Akj.fr f4 (by intro o ho;rw[List.mem_singleton.1 ho];exact .inl (by omega)))
   exact⟨_,_,rfl,hR Dc (by unfold Dc;omega),_,rfl,Ab3 hg Agd Ab4 AaG,Ab1 Ab4 AaG⟩)
section
variable (A:Nat→Nat→Bool) (n:Nat)
def Past (d v0 w e:Nat):Prop:=e<d∨(e=d∧w<v0)
structure Va (i d v0:Nat) (fD fC:Nat→Int):Prop where
 at_:∀w,w<n→∀e,Ds A n i w e→Past d v0 w e→fD w=e∧fC w=wk A n i e w
 no:∀w,w<n→(∀ e,Ds A n i w e→¬Past d v0 w e)→fD w=-1∧fC w=0
variable {A:Nat→Nat→Bool} {n:Nat} {i d v0:Nat} {fD fC:Nat→Int}
theorem Va.start (hi:i<n):Va A n i 1 0 (QM (fun _=>-1) i 0) (QM (fun _=>0) i 1) where
 at_:=fun w hw e h hp=>by
  obtain rfl:e=0:=by unfold Past at hp;omega
  obtain rfl:=JI.1 h
  refine⟨G5,?_⟩
  rw[G5]
  show(1:Int)=((if w=w then 1 else 0:Nat):Int)
  rw[if_pos rfl];rfl
 no:=fun w hw h=>by
  have hne:w≠i:=fun e=>h 0 (JI.2 e) (.inl (by omega))
  rw[DX hne,DX hne]
  exact⟨rfl,rfl⟩
theorem Va.round (h:Va A n i d n fD fC):Va A n i (d+1) 0 fD fC where
 at_:=fun w hw e hd hp=>h.at_ w hw e hd (by unfold Past at *;omega)
 no:=fun w hw hd=>h.no w hw fun e he hp=>hd e he (by unfold Past at *;omega)
theorem Va.done (hi:i<n) (hdn:n≤d) (h:Va A n i d 0 fD fC) {w:Nat} (hw:w<n):fD w=Ho A n i w∧fC w=GZ A n i w:=by
 rcases Gp (A:=A) hi hw with e|⟨x,e,hx⟩
 ·rw[e,KG hi hw e]
  exact h.no w hw fun k hk=>absurd hk ((LK hi hw).1 e k)
 ·rw[e,JK hi hw hx]
  exact h.at_ w hw x hx (.inl (by have:=ZF hi hw hx;omega))
theorem Va.val (h:Va A n i (d+1) v0 fD fC) {u:Nat} (hu:u<n) (hd:Ds A n i u d):fC u=wk A n i d u:=(h.at_ u hu d hd (.inl (by omega))).2
theorem Va.skip (h:Va A n i (d+1) v0 fD fC) {e:Nat} (he:e≤d) (hd:Ds A n i v0 e):Va A n i (d+1) (v0+1) fD fC where
 at_:=fun w hw k hk hp=>by
  by_cases hw0:w=v0
  ·subst hw0
   obtain rfl:=hk.uniq hd
   exact h.at_ w hw k hk (.inl (by omega))
  ·exact h.at_ w hw k hk (by unfold Past at *;omega)
 no:=fun w hw hk=>h.no w hw fun k h1 h2=>hk k h1 (by unfold Past at *;omega)
theorem Va.far (h:Va A n i (d+1) v0 fD fC) (hv:v0<n) (hf:∀e,e≤d→¬Ds A n i v0 e):fD v0=-1∧fC v0=0:=h.no v0 hv fun k h1 h2=>by
 unfold Past at h2
 exact hf k (by omega) h1
theorem Va.none (h:Va A n i (d+1) v0 fD fC) (hd:¬Ds A n i v0 (d+1)):Va A n i (d+1) (v0+1) fD fC where
 at_:=fun w hw k hk hp=>by
  by_cases hw0:w=v0
  ·subst hw0
   refine h.at_ w hw k hk (.inl ?_)
   unfold Past at hp
   rcases hp with hp|⟨rfl,_⟩
   ·exact hp
   ·exact absurd hk hd
  ·exact h.at_ w hw k hk (by unfold Past at *;omega)
 no:=fun w hw hk=>h.no w hw fun k h1 h2=>hk k h1 (by unfold Past at *;omega)
theorem Va.found (h:Va A n i (d+1) v0 fD fC) (hd:Ds A n i v0 (d+1)):Va A n i (d+1) (v0+1) (QM fD v0 ((d+1:Nat):Int)) (QM fC v0 (wk A n i (d+1) v0)) where
 at_:=fun w hw k hk hp=>by
  by_cases hw0:w=v0
  ·subst hw0
   obtain rfl:=hk.uniq hd
   rw[G5,G5]
   exact⟨rfl,rfl⟩
  ·rw[DX hw0,DX hw0]
   exact h.at_ w hw k hk (by unfold Past at *;omega)
 no:=fun w hw hk=>by
  by_cases hw0:w=v0
  ·subst hw0
   exact absurd (.inr ⟨rfl,by omega⟩) (hk _ hd)
  ·rw[DX hw0,DX hw0]
   exact h.no w hw fun k h1 h2=>hk k h1 (by unfold Past at *;omega)
end
def Le:GG:=⟨true,[⟨1,false,[],false,[]⟩,⟨2,false,[],false,[]⟩,⟨3,false,[],false,[]⟩],true,[⟨1,1,2,[84],false,[]⟩,⟨2,2,3,[84],false,[]⟩],4,3⟩
theorem Aiu:Aw (Ad tab) 13 [] (· =Le.av):=⟨_,⟨60,by kernel_rfl⟩,rfl⟩
theorem Z7:Le.ok:=by
 unfold GG.ok Le Ln I64
 dsimp only
 refine⟨by simp,by simp,?_,by simp,by simp,?_,by omega,by omega⟩
 ·intro n hn
  simp only[List.mem_cons,List.not_mem_nil,or_false]at hn
  rcases hn with rfl|rfl|rfl<;>(unfold GN.ok Ln I64;dsimp only;refine⟨by omega,by simp,by simp,by simp,by simp,by simp,by simp⟩)
 ·intro n hn
  simp only[List.mem_cons,List.not_mem_nil,or_false]at hn
  rcases hn with rfl|rfl<;>(unfold GE.ok Ln I64;dsimp only;refine⟨by omega,by omega,by omega,by simp,by simp,by simp,by simp⟩)
set_option maxRecDepth 100000 in
theorem Ait:Ce (run (Ad tab) 200) 14 [Le.av]=some (.int .i64 0):=by kernel_rfl
theorem Aa9 {AP:Nat→Option Hf} {f:Nat} {args:List AV} {v w:AV} {n:Nat} (h:Aw AP f args (· =v)) (k:Ce (run AP n) f args=some w):v=w:=by
 obtain⟨u,⟨m,h1⟩,rfl⟩:=h
 have e1:=Jf (KZ (AP:=AP) (Nat.le_add_right m n)) h1
 have e2:=Jf (KZ (AP:=AP) (Nat.le_add_left n m)) k
 rw[e1]at e2
 exact Option.some.inj e2
theorem Ais:AB Le=0:=by
 have h:=Aa9 (Yv Z7) Ait
 simpa using h
set_option maxRecDepth 100000 in
theorem aC:Aw (Ad tab) 12 [Le.av,.sl false [],.int .i64 1] (· =.Dy [.agg [.int .i64 2,.int .i64 3],.bool true]):=⟨_,⟨200,by kernel_rfl⟩,rfl⟩
def AeD:AV:=.sl true [.agg [.int .i64 1,.int .i64 0,.int .i64 1],.agg [.int .i64 2,.int .i64 1,.int .i64 1],.agg [.int .i64 3,.int .i64 0,.int .i64 1]]
set_option maxRecDepth 100000 in
theorem aB:Aw (Ad tab) 8 [Le.av,.sl false []] (· =.Dy [AeD,.int .i64 0]):=⟨_,⟨200,by kernel_rfl⟩,rfl⟩
theorem aS:Aw (Ad tab) 9 [AeD,AeD] (· =.bool true):=⟨_,⟨200,by kernel_rfl⟩,rfl⟩
set_option maxHeartbeats 2000000 in
theorem SH:Aw (Ad SI) 5 [] (· =.bool true):=by
 have a0:=Aiu.up upC
 have a1:=aC.up upC
 have a2:=aB.up upC
 have a3:=aS.up upC
 obtain⟨b4,_,a4⟩:=AgE (tn:=false) Z7 (by decide) (by decide) (types:=[]) (by decide)
 have hl:(QX [] Le).length=3:=by
  unfold QX
  rw[if_pos Ais]
  unfold O7
  rw[List.length_map];rfl
 have a4:Aw (Ad SI) 6 [Le.av,.sl false []] (· =.sl b4 (vs pv (QX [] Le))):=a4
 generalize QX [] Le=W at a4 hl
 unfold AeD at a2 a3
 refine Ah rfl rfl ?_
 (conv=>whnf);repeat' (first|((first|refine Ac a0 ?_|refine Ac a1 ?_|refine Ac a2 ?_|refine Ac a3 ?_|refine Ac a4 ?_);rintro _ rfl;conv=>whnf)|(refine kA ?_;conv=>whnf)|(refine Br.mk (fun hc=>?_) fun hc=>?_<;>first|exact hc.elim|conv=>whnf)|(refine kB ?_))
 all_goals first
  |rfl
  |(exfalso;omega)
theorem AgF {g:GG} (hg:g.ok) {types:List (List UInt8)} {tn:Bool} (ht:types.length<2^63):Aw (Ad tab) 4 [g.av,.sl tn (vs .str types)] (fun v=>∃b,v=.bool b∧(b=true→SmG g 12 24∧types.length≤8)):=by
 obtain⟨_,⟨b,rfl,hb⟩,p⟩:=(small hg (n:=12) (e:=24)).det
 cases b with
 |false=>
  refine Ah rfl rfl ?_
  (conv=>whnf);repeat' (first|(refine Ac p ?_;rintro _ rfl;conv=>whnf)|(refine kA ?_;conv=>whnf)|(refine Br.mk (fun hc=>?_) fun hc=>?_<;>first|exact hc.elim|conv=>whnf)|(refine kB ?_))
  all_goals first
   |exact⟨false,rfl,fun h=>by cases h⟩
 |true=>
  have hs:=hb rfl
  refine Ah rfl rfl ?_
  (conv=>whnf);repeat' (first|(refine Ac p ?_;rintro _ rfl;conv=>whnf)|(refine kA ?_;conv=>whnf)|(refine Br.mk (fun hc=>?_) fun hc=>?_<;>first|exact hc.elim|conv=>whnf)|(refine kB ?_))
  all_goals first
   |exact⟨_,rfl,fun h=>⟨hs,by have:=of_decide_eq_true h;omega⟩⟩
   |exact⟨true,rfl,fun h=>⟨hs,by omega⟩⟩
   |exact⟨false,rfl,fun h=>by cases h⟩
theorem YX {a:AV} (h:Like Tryd.prog 26 a):∃nn l,a=.sl nn (vs .str l)∧l.length<2^63:=by
 obtain⟨d,h⟩:=h
 obtain⟨nn,l,e,_,h2,_⟩:=AbM (f:=AV.str) (Q:=Ln) Tryd.underlying26 (fun d x h=>by
  obtain⟨k,e1,h1⟩:=P6 Tryd.underlying9 h
  exact⟨k,e1,UW h1⟩) h
 exact⟨nn,l,e,UW h2⟩
theorem AgT (p:Int×(Nat×Nat)):bin .neq (.flat [.int,.int,.int]) (.agg (List.take 3 (Vq p).cells)) (.agg (List.take 3 (Vq p).cells))=some (.bool false):=by
 simp[bin,Vg,Df,Cb,Vq,AV.cells]
theorem AeQ {l:List (Int×(Nat×Nat))} {b1 b2:Bool} (hl:l.length<2^40):Aw (Ad tab) 9 [.sl b1 (vs Vq l),.sl b2 (vs Vq l)] (· =.bool true):=by
 refine Ah rfl rfl ?_
 (conv=>whnf);repeat' (first  |(refine kA ?_;conv=>whnf)|(refine Br.mk (fun hc=>?_) fun hc=>?_<;>first|exact hc.elim|conv=>whnf)|(refine kB ?_))
 all_goals first|(exfalso;omega)|skip
 refine Au (fun z env s=>∃(i:Nat),z=l.length-i∧env=[(0,.sl b1 (vs Vq l)),(1,.sl b2 (vs Vq l)),(5,.int .i64 i)]∧s=⟨[],0⟩) ?_ _ _ _ ⟨0,rfl,rfl,rfl⟩
 rintro _ _ _ ⟨i,rfl,rfl,rfl⟩
 refine⟨rfl,?_⟩
 by_cases hlt:i<l.length
 ·have hb:=AgT l[i]
  (conv=>whnf);repeat' (first|(apply Bv hb;conv=>whnf)|(refine kA ?_;conv=>whnf)|(refine Br.mk (fun hc=>?_) fun hc=>?_<;>first|exact hc.elim|conv=>whnf)|(refine kB ?_))
  all_goals first
   |(exfalso;omega)
   |exact again.mk ⟨_,by omega,i+1,rfl,rfl,rfl⟩
 ·(conv=>whnf);repeat' (first  |(refine kA ?_;conv=>whnf)|(refine Br.mk (fun hc=>?_) fun hc=>?_<;>first|exact hc.elim|conv=>whnf)|(refine kB ?_))
  all_goals first|rfl|(exfalso;omega)
theorem AiS {l m:List (Int×Int)} {b1 b2:Bool} (hl:l.length<2^40) (hm:m.length<2^40):Aw (Ad tab) 10 [.sl b1 (vs pv l),.sl b2 (vs pv m)] (· =.bool (decide (l=m))):=by
 by_cases hlen:l.length=m.length
 ·refine Ah rfl rfl ?_
  (conv=>whnf);repeat' (first  |(refine kA ?_;conv=>whnf)|(refine Br.mk (fun hc=>?_) fun hc=>?_<;>first|exact hc.elim|conv=>whnf)|(refine kB ?_))
  all_goals first|(exfalso;omega)|skip
  refine Au (fun z env s=>∃(i:Nat),z=l.length-i∧l.take i=m.take i∧env=[(0,.sl b1 (vs pv l)),(1,.sl b2 (vs pv m)),(5,.int .i64 i)]∧s=⟨[],0⟩) ?_ _ _ _ ⟨0,rfl,rfl,rfl,rfl⟩
  rintro _ _ _ ⟨i,rfl,hx,rfl,rfl⟩
  refine⟨rfl,?_⟩
  by_cases hlt:i<l.length
  ·have hb:bin .neq (.flat [.int,.int]) (.agg (List.take 2 (pv l[i]).cells)) (.agg (List.take 2 (pv (m[i]'(by omega))).cells))=some (.bool (!decide (l[i]=m[i]'(by omega)))):=by
        generalize l[i]=p
        generalize m[i]'_=q
        obtain⟨p1,p2⟩:=p
        obtain⟨q1,q2⟩:=q
        by_cases h1:p1=q1
        ·by_cases h2:p2=q2
         ·simp[bin,Vg,Df,Cb,pv,AV.cells,h1,h2]
         ·have e2:(p2==q2)=false:=by simpa using h2
          simp[bin,Vg,Df,Cb,pv,AV.cells,h1,h2,e2]
        ·have e1:(p1==q1)=false:=by simpa using h1
         simp[bin,Vg,Df,Cb,pv,AV.cells,h1,e1]
   by_cases he:l[i]=m[i]'(by omega)
   ·rw[decide_eq_true he]at hb
    (conv=>whnf);repeat' (first|(apply Bv hb;conv=>whnf)|(refine kA ?_;conv=>whnf)|(refine Br.mk (fun hc=>?_) fun hc=>?_<;>first|exact hc.elim|conv=>whnf)|(refine kB ?_))
    all_goals first
     |(exfalso;omega)
     |exact again.mk ⟨_,by omega,i+1,rfl,by rw[List.take_succ_eq_append_getElem hlt,List.take_succ_eq_append_getElem (by omega),hx,he],rfl,rfl⟩
   ·rw[decide_eq_false he]at hb
    have hno:¬l=m:=fun e=>he (by subst e;rfl)
    (conv=>whnf);repeat' (first|(apply Bv hb;conv=>whnf)|(refine kA ?_;conv=>whnf)|(refine Br.mk (fun hc=>?_) fun hc=>?_<;>first|exact hc.elim|conv=>whnf)|(refine kB ?_))
    all_goals first
     |(exfalso;omega)
     |exact Dn hno
  ·have hyes:l=m:=by rw[List.take_of_length_le (by omega),List.take_of_length_le (by omega)]at hx;exact hx
   (conv=>whnf);repeat' (first  |(refine kA ?_;conv=>whnf)|(refine Br.mk (fun hc=>?_) fun hc=>?_<;>first|exact hc.elim|conv=>whnf)|(refine kB ?_))
   all_goals first
        |(exfalso;omega)
        |exact Fg hyes
 ·have hno:¬l=m:=fun e=>hlen (by rw[e])
  refine Ah rfl rfl ?_
  (conv=>whnf);repeat' (first  |(refine kA ?_;conv=>whnf)|(refine Br.mk (fun hc=>?_) fun hc=>?_<;>first|exact hc.elim|conv=>whnf)|(refine kB ?_))
  all_goals first|(exfalso;omega)|exact Dn hno
theorem AeT {types:List (List UInt8)} {g:GG} (hN:g.nodes.length≤12):∃F:Nat→Nat,(∀ i,∀h:i<(QX types g).length,((QX types g)[i]).2=((F i:Nat):Int))∧(∀ i,i≤(QX types g).length→sg i F≤1728)∧∃q,sg (QX types g).length F=3*q:=by
 by_cases hck:AB g=0
 ·have e:QX types g=O7 types g:=if_pos hck
  have hl:(O7 types g).length=g.nodes.length:=L8
  rw[e]
  refine⟨fun v=>cI (Ef types g) v (Ef types g).length,fun i h=>Agx hck h,fun i h=>Agy hN (by omega),?_⟩
  rw[hl]
  exact Aio
 ·have e:QX types g=[]:=if_neg hck
  rw[e]
  exact⟨fun _=>0,fun i h=>by simp at h,fun i h=>by simp at h;subst h;simp[sg],0,rfl⟩
theorem Alk (q:Nat):Int.tmod ((3*q:Nat):Int) 3=0:=by
 rw[Int.natCast_mul]
 exact Int.mul_tmod_right _ _
theorem AiU {a c:GG} (h:QG a c):c.nodes.length=a.nodes.length∧c.edges.length=a.edges.length:=⟨h.n.1.symm,h.e.1.symm⟩
set_option maxRecDepth 10000 in
set_option maxHeartbeats 4000000 in
theorem Vd:∀xs,likes Tryd.prog [25,26] xs→DC (Ad SI) 3 xs ⟨[],0⟩ fun out _=>out=.ok (.bool true):=by
 intro xs h
 match xs,h with
 |[x,y],h=>
  obtain⟨h1,h2,_⟩:=h
  obtain⟨g,rfl,hg⟩:=Zg h1
  obtain⟨tn,types,rfl,ht⟩:=YX h2
  obtain⟨_,⟨bs,rfl,hs⟩,p0⟩:=((AgF hg (types:=types) (tn:=tn) ht).up upC).det
  refine LX rfl rfl ?_
  cases bs with
  |false=>
   (conv=>whnf);repeat' (first|((first|refine Ac SH ?_|refine Ac p0 ?_);rintro _ rfl;conv=>whnf)|(refine kA ?_;conv=>whnf)|(refine Br.mk (fun hc=>?_) fun hc=>?_<;>first|exact hc.elim|conv=>whnf)|(refine kB ?_))
   all_goals first|rfl
  |true=>
   obtain⟨hsm,ht8⟩:=hs rfl
   have hN:g.nodes.length≤12:=by have:=hsm.1;omega
   have hE:g.edges.length≤24:=by have:=hsm.2.1;omega
   have hf:Zy g:=AeU hg ⟨by have:=hsm.1;omega,by have:=hsm.2.1;omega,hsm.2.2⟩
   obtain⟨_,⟨k,rfl,hok,hQ⟩,pr⟩:=((AaF hg hf hN).up upC).det
   obtain⟨lk1,lk2⟩:=AiU hQ
   have lr1:(Ez g).nodes.length=g.nodes.length:=rfl
   have lr2:(Ez g).edges.length=g.edges.length:=List.length_map _
   obtain⟨b1,l1,e1,b2,l2,e2,q1,q2,q3,q4,q5⟩:=YV (types:=types) hN hQ
   have pb1:=(Xb (tn:=tn) (types:=types) hg hN (by omega) ht).up upC
   have pb2:=(Xb (tn:=tn) (types:=types) hok (by omega) (by omega) ht).up upC
   rw[q1]at pb1
   rw[q2]at pb2
   obtain⟨bt,hbt,pt⟩:=AgE (tn:=tn) hg (by omega) (by omega) (types:=types) (by omega)
   obtain⟨bt2,Alm,pt2⟩:=AgE (tn:=tn) hok (by omega) (by omega) (types:=types) (by omega)
   rw[Agv hQ]at pt2
   have htl:(QX types g).length<2^40:=by
     unfold QX
     split
     ·unfold O7;rw[List.length_map];omega
     ·simp
   have p5:=(AiS (b1:=bt) (b2:=bt2) htl htl).up upC
   rw[decide_eq_true rfl]at p5
   obtain⟨F,f1,f2,q,f3⟩:=AeT (types:=types) hN
   have hrm:=Alk q
   rw[← f3]at hrm
   clear hbt Alm hs hsm hf hQ q1 q2
   generalize QX types g=T at*
   (conv=>whnf);repeat' (first|((first|refine Ac SH ?_|refine Ac p0 ?_|refine Ac pt ?_);rintro _ rfl;conv=>whnf)|(refine kA ?_;conv=>whnf)|(refine Br.mk (fun hc=>?_) fun hc=>?_<;>first|exact hc.elim|conv=>whnf)|(refine kB ?_))
   all_goals first|(exfalso;omega)|skip
   refine Au (fun m env s=>∃(i c:Nat),m=T.length-i∧i≤T.length∧env=[(1,.sl tn (vs .str types)),(2,.ref 0 0 0 0),(5,.sl bt (vs pv T)),(6,.int .i64 ((sg i F:Nat):Int)),(22,.sl bt (vs pv T)),(23,.int .i64 T.length),(24,.int .i64 i)]∧s=⟨[.arr 0 4 true true [g.av]],c⟩) ?_ _ _ _ ⟨0,_,rfl,by omega,rfl,rfl⟩
   rintro _ _ _ ⟨i,c,rfl,hi,rfl,rfl⟩
   refine⟨rfl,?_⟩
   have hb1:=f2 i hi
   by_cases hlt:i<T.length
   ·have hb2:=f2 (i+1) (by omega)
    have hs2:sg (i+1) F=sg i F+F i:=rfl
    have hFi:=f1 i hlt
    have nx:nth (vs pv T) (Int.toNat (Nat.cast i))=some (pv T[i]):=nVN hlt
    unfold pv at nx
    rw[hFi]at nx
    (conv=>whnf);repeat' (first|(refine AA nx ?_;conv=>whnf)|(refine kA ?_;conv=>whnf)|(refine Br.mk (fun hc=>?_) fun hc=>?_<;>first|exact hc.elim|conv=>whnf)|(refine kB ?_))
    all_goals first
     |(exfalso;omega)
     |exact again.mk ⟨_,by omega,i+1,_,rfl,by omega,by rw[hs2,Int.natCast_add];rfl,rfl⟩
   ·obtain rfl:i=T.length:=by omega
    by_cases he1:e1=0
    ·by_cases he2:e2=0
     ·obtain rfl:=q5 he1 he2
      subst he1 he2
      have p6:=(AeQ (l:=l2) (b1:=b1) (b2:=b2) (by omega)).up upC
      (conv=>whnf);repeat' (first|((first|refine Ac SH ?_|refine Ac pr ?_|refine Ac pb1 ?_|refine Ac pb2 ?_|refine Ac pt2 ?_|refine Ac p5 ?_|refine Ac p6 ?_);rintro _ rfl;conv=>whnf)|(rw [hrm];conv=>whnf)|(refine kA ?_;conv=>whnf)|(refine Br.mk (fun hc=>?_) fun hc=>?_<;>first|exact hc.elim|conv=>whnf)|(refine kB ?_))
      all_goals first|rfl|(exfalso;omega)|exact absurd rfl (by assumption)|exact absurd hrm (by assumption)
     ·(conv=>whnf);repeat' (first|((first|refine Ac SH ?_|refine Ac pr ?_|refine Ac pb1 ?_|refine Ac pb2 ?_|refine Ac pt2 ?_|refine Ac p5 ?_);rintro _ rfl;conv=>whnf)|(rw [hrm];conv=>whnf)|(refine kA ?_;conv=>whnf)|(refine Br.mk (fun hc=>?_) fun hc=>?_<;>first|exact hc.elim|conv=>whnf)|(refine kB ?_))
      all_goals first|rfl|(exfalso;omega)|exact absurd rfl (by assumption)|exact absurd hrm (by assumption)
    ·(conv=>whnf);repeat' (first|((first|refine Ac SH ?_|refine Ac pr ?_|refine Ac pb1 ?_|refine Ac pb2 ?_|refine Ac pt2 ?_|refine Ac p5 ?_);rintro _ rfl;conv=>whnf)|(rw [hrm];conv=>whnf)|(refine kA ?_;conv=>whnf)|(refine Br.mk (fun hc=>?_) fun hc=>?_<;>first|exact hc.elim|conv=>whnf)|(refine kB ?_))
     all_goals first|rfl|(exfalso;omega)|exact absurd rfl (by assumption)|exact absurd hrm (by assumption)
end AI
end Go.Proofs.YtiimoiecghmebaaDoor
