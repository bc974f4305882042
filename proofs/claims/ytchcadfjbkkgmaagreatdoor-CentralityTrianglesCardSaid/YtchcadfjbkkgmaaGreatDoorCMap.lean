/- A graph copied, for an editor. A graph copied, for an editor: the whole. change.ApplyAll, its loop. A checked graph is one that an editor may edit; change.ApplyAll. Changes in a row; the changes of one node by a script: plain. -/
import Derived.Test.YtchcadfjbkkgmaaGreatDoorCMao
import Derived.Test.YtchcadfjbkkgmaaGreatDoorCMam
import Derived.Test.YtchcadfjbkkgmaaGreatDoorCMaf
import Derived.Test.YtchcadfjbkkgmaaGreatDoorCMaj
import Derived.Test.YtchcadfjbkkgmaaGreatDoorCMak
set_option linter.unusedVariables false
set_option maxRecDepth 4000
namespace Go.Proofs.YtchcadfjbkkgmaaGreatDoor
namespace AI
def enF (n:GN):EN:=⟨n,.sl n.ln (vs .str n.labels),.sl n.pn (vs GP.av n.props)⟩
def eeF (e:GE):EE:=⟨e,.sl e.pn (vs GP.av e.props)⟩
theorem set_mid {α β:Type} {L:List β} {l:List α} {f:α→β} {i:Nat} {x:β} (hL:L.length=i) (hi:i<l.length):(L++(l.drop i).map f).set i x=(L++[x])++(l.drop (i+1)).map f:=by
 subst hL
 rw[List.drop_eq_getElem_cons hi,List.map_cons,List.set_append_right _ _ (Nat.le_refl _),Nat.sub_self,List.set_cons_zero,List.append_assoc]
 rfl
theorem AbR {α β:Type} {L:List β} {l:List α} {f:α→β} {i:Nat} {fv:β→AV} (hL:L.length=i) (hi:i<l.length):nth (vs fv (L++(l.drop i).map f)) i=some (fv (f l[i])):=by
 subst hL
 rw[List.drop_eq_getElem_cons hi,AA,vs,List.getElem?_map,List.getElem?_append_right (Nat.le_refl _),Nat.sub_self]
 rfl
theorem Afl {α:Type} {f:α→AV} {l:List α} {i:Nat} {a:α}:(vs f l).set i (f a)=vs f (l.set i a):=by simp[vs,List.map_set]
theorem Afm {α:Type} {f:α→AV} {es es':Nat} {σ:List Obj} {p g:Nat} {nn:Bool} {l:List α} (h:nth σ p=some (.arr g es' nn true (vs f l))) (h1:nn=true→es'=es) (h2:nn=false→l=[]):Hd f es σ (.own p g 0 l.length) nn l true:=by
 cases nn with
 |false=>obtain rfl:=h2 rfl;exact .inl ⟨rfl,rfl,.inr ⟨_,_,_,rfl,h⟩⟩
 |true=>obtain rfl:=h1 rfl;exact .inr ⟨rfl,_,_,rfl,h⟩
theorem YU {o g i n:Nat}:BR (.own o g i n) (.own o g i n)=true:=by simp[BR]
section
variable {σ:List Obj} {ct:Nat}
set_option maxHeartbeats 4000000 in
theorem cpN {g:GG} {p1 p2 p3 u1 u2 u3 o u:Nat} {es:Nat} {Q:AZ→Env→Am→Prop} (hl:g.nodes.length≤2000) (hok:∀n∈g.nodes,n.ok∧n.labels.length≤8∧n.props.length≤16) (hnn:g.nn=false→g.nodes=[]) (hes:g.nn=true→es=3)
 (h3:nth σ p3=some (.arr u3 4 true false [.agg [.own o u 0 g.nodes.length,.sl g.en (vs GE.av g.edges),.int .i64 g.BA,.int .i64 g.BJ]]))
 (ho:nth σ o=some (.arr u es g.nn true (vs GN.av g.nodes))) (h3o:p3≠o)
 (hQ:∀σ' c' c1 L tl,Fr σ σ' [o]→nth σ' o=some (.arr u es g.nn c1 (vs EN.av L))→L.map EN.n=g.nodes→(∀ e∈L,e.Ok σ')→(∀ q∈L.flatMap EN.objs,σ.length≤q)→(L.flatMap EN.objs).Nodup→(c1=true↔L=[])→Q (.exit 0) ([(1,.ref p1 u1 0 0),(2,.ref p2 u2 0 0),(3,.ref p3 u3 0 0),(14,.own o u 0 g.nodes.length),(15,.int .i64 g.nodes.length),(16,.int .i64 g.nodes.length)]++tl) ⟨σ',c'⟩):
 Run (Ad tab) (.loop l120_0_h l120_0_b) [(1,.ref p1 u1 0 0),(2,.ref p2 u2 0 0),(3,.ref p3 u3 0 0),(14,.own o u 0 g.nodes.length),(15,.int .i64 g.nodes.length),(16,.int .i64 0)] ⟨σ,ct⟩ Q:=by
 refine Ap (fun m env s=>∃(i c':Nat) (σ':List Obj) (L:List EN) (c1:Bool),m=g.nodes.length-i∧i≤g.nodes.length∧env=[(1,.ref p1 u1 0 0),(2,.ref p2 u2 0 0),(3,.ref p3 u3 0 0),(14,.own o u 0 g.nodes.length),(15,.int .i64 g.nodes.length),(16,.int .i64 i)]∧s=⟨σ',c'⟩∧Fr σ σ' [o]∧nth σ' o=some (.arr u es g.nn c1 (vs EN.av (L++(g.nodes.drop i).map enF)))∧L.length=i∧L.map EN.n=g.nodes.take i∧(∀ e∈L,e.Ok σ')∧(∀ q∈L.flatMap EN.objs,σ.length≤q)∧(L.flatMap EN.objs).Nodup∧(c1=true↔L=[])) ?_ _ _ _ ⟨0,_,_,[],true,rfl,by omega,rfl,rfl,Fr.refl,?_,rfl,rfl,by simp,by simp,by simp,by simp⟩
 rotate_left
 ·rw[ho,List.nil_append,List.drop_zero,vs,vs,List.map_map];rfl
 rintro _ _ _ ⟨i,c',σ',L,c1,rfl,hi,rfl,rfl,f0,ho0,hL,hm,Xw,hLn,hLd,hc1⟩
 refine⟨rfl,?_⟩
 by_cases hlt:i<g.nodes.length
 ·have AaK:g.nn=true:=by
   cases hb:g.nn with
   |true=>rfl
   |false=>rw[hnn hb]at hlt;simp at hlt
  obtain rfl:=hes AaK
  rw[AaK]at ho0
  have hmem:g.nodes[i]∈g.nodes:=List.getElem_mem hlt
  obtain⟨hno,hlb,hpp⟩:=hok _ hmem
  have h30:=f0.get h3 (by simpa using h3o)
  have g0:=AbR (fv:=EN.av) (f:=enF) hL hlt
  have hol:=BH ho0
  have hos:=BH ho
  have hp3:=BH h30
  obtain⟨n,hn⟩:∃n,n=g.nodes[i]:=⟨_,rfl⟩
  rw[← hn]at g0 hno hlb hpp
  have hln:=hno.2.2.1
  have hpn:=hno.2.2.2.2.2.1
  (conv=>whnf);repeat' (first|(refine need.mk YU ?_;conv=>whnf)|(refine CJ fun σ1 f1 h1 l1=>?_;have ho1:=f1.get ho0 (by simp);have h31:=f1.get h30 (by simp);conv=>whnf)|(rw [ho0];conv=>whnf)|(rw [h1];conv=>whnf)|(refine Ah g0 ?_;conv=>whnf)|(refine Ah (Ho g0) ?_;conv=>whnf)|(refine E8 h1 fun σ2 f2 h2 l2=>?_;have ho2:=f2.get ho1 (by simp;omega);have h32:=f2.get h31 (by simp;omega);conv=>whnf)|(rw [h2];conv=>whnf)|(rw [h32];conv=>whnf)|(rw [ho2];conv=>whnf)|(refine AeS hln rfl Ahy (Ahz (by omega)) fun σ3 e3 f3 a3 b3 l3=>?_;have ho3:=f3.get ho2 (by simp);have h33:=f3.get h32 (by simp);have h23:=f3.get h2 (by simp);conv=>whnf)|(rw [h33];conv=>whnf)|(rw [ho3];conv=>whnf)|(refine (DN _ _).2 ?_;conv=>whnf)|(refine E8 ho3 fun σ4 f4 h4 l4=>?_;have h34:=f4.get h33 (by simpa using h3o);have h24:=f4.get h23 (by simp;omega);conv=>whnf)|(rw [h34];conv=>whnf)|(rw [h24];conv=>whnf)|(refine AeS hpn rfl AbS (AbT (by omega)) fun σ5 e5 f5 a5 b5 l5=>?_;have ho5:=f5.get h4 (by simp);have h35:=f5.get h34 (by simp);conv=>whnf)|(rw [h35];conv=>whnf)|(rw [ho5];conv=>whnf)|(refine E8 ho5 fun σ6 f6 h6 l6=>?_;have h36:=f6.get h35 (by simpa using h3o);conv=>whnf)|(rw [h36];conv=>whnf)|(refine kA ?_;conv=>whnf)|(refine Br.mk (fun hc=>?_) fun hc=>?_<;>first|exact hc.elim|conv=>whnf)|(refine kB ?_))
  all_goals first
   |(exfalso;omega)
   |skip
  all_goals
   dsimp only at l1 l2 l3 l4 l5 l6
   have f06:Fr σ' σ6 [o]:=((((((f1.mono (F':=[o,σ'.length]) (by simp)).trans (f2.mono (by simp))).trans (f3.mono (by simp))).trans (f4.mono (by simp))).trans (f5.mono (by simp))).trans (f6.mono (by simp))).mono (by simp)
   have k3:=f6.get (f5.get (f4.get a3 (by simp;omega)) (by simp)) (by simp;omega)
   have k5:=f6.get a5 (by simp;omega)
   have hlo:∀q∈L.flatMap EN.objs,q<σ'.length:=fun q hq=>by
        obtain⟨e,he,hq⟩:=List.mem_flatMap.1 hq
        exact(Xw e he).lt q hq
   refine again.mk ⟨_,by omega,i+1,_,σ6,L++[⟨n,.own σ2.length (c'+1) 0 n.labels.length,.own σ4.length (c'+1+1) 0 n.props.length⟩],false,rfl,by omega,rfl,rfl,f0.trans f06,?_,by simp[hL],?_,fun e he=>?_,fun q hq=>?_,?_,by simp⟩
   ·rw[AaK,←set_mid hL hlt,←Afl,h6,List.set_set];rfl
   ·rw[List.map_append,hm,List.take_succ_eq_append_getElem hlt,hn];rfl
   ·rcases List.mem_append.1 he with he|he
    ·exact(Xw e he).keep fun q hq=>f06.eq q ((Xw e he).lt q hq) (by have:=hLn q (List.mem_flatMap.2 ⟨e,he,hq⟩);simp;omega)
    ·obtain rfl:=List.mem_singleton.1 he
     exact⟨Afm k3 b3 hln,Afm k5 b5 hpn⟩
   ·rw[List.flatMap_append]at hq
    rcases List.mem_append.1 hq with hq|hq
    ·exact hLn q hq
    ·have:=f0.len
     simp only[List.flatMap_cons,List.flatMap_nil,EN.objs,AV.obj,List.append_nil,List.mem_append,List.mem_singleton]at hq
     omega
   ·rw[List.flatMap_append]
    refine List.nodup_append.2 ⟨hLd,?_,fun a ha b hb e=>?_⟩
    ·simp[EN.objs,AV.obj];omega
    ·have:=hlo a ha
     simp only[List.flatMap_cons,List.flatMap_nil,EN.objs,AV.obj,List.append_nil,List.mem_append,List.mem_singleton]at hb
     omega
 ·obtain rfl:i=g.nodes.length:=by omega
  (conv=>whnf);repeat' (first  |(refine kA ?_;conv=>whnf)|(refine Br.mk (fun hc=>?_) fun hc=>?_<;>first|exact hc.elim|conv=>whnf)|(refine kB ?_))
  all_goals first
   |exact hQ _ _ c1 L _ f0 (by rw[ho0];simp) (by rw[hm,List.take_length]) Xw hLn hLd hc1
   |(exfalso;omega)
set_option maxHeartbeats 4000000 in
theorem cpE {g:GG} {oN uN nN p2 p3 u2 u3 o u:Nat} {es:Nat} {Q:AZ→Env→Am→Prop} (hl:g.edges.length≤4000) (hok:∀n∈g.edges,n.ok∧n.props.length≤16) (hnn:g.en=false→g.edges=[]) (hes:g.en=true→es=5)
 (h3:nth σ p3=some (.arr u3 4 true false [.agg [.own oN uN 0 nN,.own o u 0 g.edges.length,.int .i64 g.BA,.int .i64 g.BJ]]))
 (ho:nth σ o=some (.arr u es g.en true (vs GE.av g.edges))) (h3o:p3≠o)
 (hQ:∀σ' c' c1 L tl,Fr σ σ' [o]→nth σ' o=some (.arr u es g.en c1 (vs EE.av L))→L.map EE.e=g.edges→(∀ e∈L,e.Ok σ')→(∀ q∈L.flatMap EE.objs,σ.length≤q)→(L.flatMap EE.objs).Nodup→(c1=true↔L=[])→Q (.exit 2) ([(2,.ref p2 u2 0 0),(3,.ref p3 u3 0 0),(43,.own o u 0 g.edges.length),(44,.int .i64 g.edges.length),(45,.int .i64 g.edges.length)]++tl) ⟨σ',c'⟩):
 Run (Ad tab) (.loop l120_1_h l120_1_b) [(2,.ref p2 u2 0 0),(3,.ref p3 u3 0 0),(43,.own o u 0 g.edges.length),(44,.int .i64 g.edges.length),(45,.int .i64 0)] ⟨σ,ct⟩ Q:=by
 refine Ap (fun m env s=>∃(i c':Nat) (σ':List Obj) (L:List EE) (c1:Bool),m=g.edges.length-i∧i≤g.edges.length∧env=[(2,.ref p2 u2 0 0),(3,.ref p3 u3 0 0),(43,.own o u 0 g.edges.length),(44,.int .i64 g.edges.length),(45,.int .i64 i)]∧s=⟨σ',c'⟩∧Fr σ σ' [o]∧nth σ' o=some (.arr u es g.en c1 (vs EE.av (L++(g.edges.drop i).map eeF)))∧L.length=i∧L.map EE.e=g.edges.take i∧(∀ e∈L,e.Ok σ')∧(∀ q∈L.flatMap EE.objs,σ.length≤q)∧(L.flatMap EE.objs).Nodup∧(c1=true↔L=[])) ?_ _ _ _ ⟨0,_,_,[],true,rfl,by omega,rfl,rfl,Fr.refl,?_,rfl,rfl,by simp,by simp,by simp,by simp⟩
 rotate_left
 ·rw[ho,List.nil_append,List.drop_zero,vs,vs,List.map_map];rfl
 rintro _ _ _ ⟨i,c',σ',L,c1,rfl,hi,rfl,rfl,f0,ho0,hL,hm,Xw,hLn,hLd,hc1⟩
 refine⟨rfl,?_⟩
 by_cases hlt:i<g.edges.length
 ·have AaK:g.en=true:=by
   cases hb:g.en with
   |true=>rfl
   |false=>rw[hnn hb]at hlt;simp at hlt
  obtain rfl:=hes AaK
  rw[AaK]at ho0
  have hmem:g.edges[i]∈g.edges:=List.getElem_mem hlt
  obtain⟨hno,hpp⟩:=hok _ hmem
  have h30:=f0.get h3 (by simpa using h3o)
  have g0:=AbR (fv:=EE.av) (f:=eeF) hL hlt
  have hol:=BH ho0
  have hos:=BH ho
  have hp3:=BH h30
  obtain⟨n,hn⟩:∃n,n=g.edges[i]:=⟨_,rfl⟩
  rw[← hn]at g0 hno hpp
  have hpn:=hno.2.2.2.2.2.1
  (conv=>whnf);repeat' (first|(refine need.mk YU ?_;conv=>whnf)|(refine CJ fun σ1 f1 h1 l1=>?_;have ho1:=f1.get ho0 (by simp);have h31:=f1.get h30 (by simp);conv=>whnf)|(rw [ho0];conv=>whnf)|(rw [h1];conv=>whnf)|(refine Ah g0 ?_;conv=>whnf)|(refine Ah (Ho g0) ?_;conv=>whnf)|(refine E8 h1 fun σ2 f2 h2 l2=>?_;have ho2:=f2.get ho1 (by simp;omega);have h32:=f2.get h31 (by simp;omega);conv=>whnf)|(rw [h2];conv=>whnf)|(rw [h32];conv=>whnf)|(rw [ho2];conv=>whnf)|(refine AeS hpn rfl AbS (AbT (by omega)) fun σ3 e3 f3 a3 b3 l3=>?_;have ho3:=f3.get ho2 (by simp);have h33:=f3.get h32 (by simp);have h23:=f3.get h2 (by simp);conv=>whnf)|(rw [h33];conv=>whnf)|(rw [ho3];conv=>whnf)|(refine (DN _ _).2 ?_;conv=>whnf)|(refine E8 ho3 fun σ4 f4 h4 l4=>?_;have h34:=f4.get h33 (by simpa using h3o);have h24:=f4.get h23 (by simp;omega);conv=>whnf)|(rw [h34];conv=>whnf)|(rw [h24];conv=>whnf)|(refine kA ?_;conv=>whnf)|(refine Br.mk (fun hc=>?_) fun hc=>?_<;>first|exact hc.elim|conv=>whnf)|(refine kB ?_))
  all_goals first
   |(exfalso;omega)
   |skip
  all_goals
   dsimp only at l1 l2 l3 l4
   have f06:Fr σ' σ4 [o]:=((((f1.mono (F':=[o,σ'.length]) (by simp)).trans (f2.mono (by simp))).trans (f3.mono (by simp))).trans (f4.mono (by simp))).mono (by simp)
   have k3:=f4.get a3 (by simp;omega)
   have hlo:∀q∈L.flatMap EE.objs,q<σ'.length:=fun q hq=>by
        obtain⟨e,he,hq⟩:=List.mem_flatMap.1 hq
        exact(Xw e he).lt q hq
   refine again.mk ⟨_,by omega,i+1,_,σ4,L++[⟨n,.own σ2.length (c'+1) 0 n.props.length⟩],false,rfl,by omega,rfl,rfl,f0.trans f06,?_,by simp[hL],?_,fun e he=>?_,fun q hq=>?_,?_,by simp⟩
   ·rw[AaK,←set_mid hL hlt,←Afl,h4];rfl
   ·rw[List.map_append,hm,List.take_succ_eq_append_getElem hlt,hn];rfl
   ·rcases List.mem_append.1 he with he|he
    ·exact(Xw e he).keep fun q hq=>f06.eq q ((Xw e he).lt q hq) (by have:=hLn q (List.mem_flatMap.2 ⟨e,he,hq⟩);simp;omega)
    ·obtain rfl:=List.mem_singleton.1 he
     exact Afm k3 b3 hpn
   ·rw[List.flatMap_append]at hq
    rcases List.mem_append.1 hq with hq|hq
    ·exact hLn q hq
    ·have:=f0.len
     simp only[List.flatMap_cons,List.flatMap_nil,EE.objs,AV.obj,List.append_nil,List.mem_singleton]at hq
     omega
   ·rw[List.flatMap_append]
    refine List.nodup_append.2 ⟨hLd,?_,fun a ha b hb e=>?_⟩
    ·simp[EE.objs,AV.obj]
    ·have:=hlo a ha
     simp only[List.flatMap_cons,List.flatMap_nil,EE.objs,AV.obj,List.append_nil,List.mem_singleton]at hb
     omega
 ·obtain rfl:i=g.edges.length:=by omega
  (conv=>whnf);repeat' (first  |(refine kA ?_;conv=>whnf)|(refine Br.mk (fun hc=>?_) fun hc=>?_<;>first|exact hc.elim|conv=>whnf)|(refine kB ?_))
  all_goals first
   |exact hQ _ _ c1 L _ f0 (by rw[ho0];simp) (by rw[hm,List.take_length]) Xw hLn hLd hc1
   |(exfalso;omega)
end
structure Cp (σ0 σ:List Obj) (vN vE:AV) (g:GG) (N:List EN) (E:List EE):Prop where
 hn:∃c,Hd EN.av 3 σ vN g.nn N c∧(c=true→∀e∈N,e.av.closed=true)
 he:∃c,Hd EE.av 5 σ vE g.en E c∧(c=true→∀e∈E,e.av.closed=true)
 hN:∀e∈N,e.Ok σ
 hE:∀e∈E,e.Ok σ
 nd:(vN.obj++(vE.obj++BO N E)).Nodup
 new:∀o∈vN.obj++(vE.obj++BO N E),σ0.length≤o
 mN:N.map EN.n=g.nodes
 mE:E.map EE.e=g.edges
 fr:Fr σ0 σ []
structure Few (g:GG):Prop where
 ok:g.ok
 lN:g.nodes.length≤2000
 lE:g.edges.length≤4000
 pN:∀n∈g.nodes,n.labels.length≤8∧n.props.length≤16
 pE:∀n∈g.edges,n.props.length≤16
theorem AiG {α:Type} {f:α→AV} {es es':Nat} {σ:List Obj} {p g:Nat} {nn c:Bool} {l:List α} (h:nth σ p=some (.arr g es' nn c (vs f l))) (h1:nn=true→es'=es) (h2:nn=false→l=[]) (h3:c=true↔l=[]):∃c,Hd f es σ (.own p g 0 l.length) nn l c∧(c=true→∀e∈l,(f e).closed=true):=by
 cases nn with
 |false=>
  obtain rfl:=h2 rfl
  obtain rfl:=h3.2 rfl
  exact⟨true,.inl ⟨rfl,rfl,.inr ⟨_,_,_,rfl,h⟩⟩,by simp⟩
 |true=>obtain rfl:=h1 rfl;exact⟨c,.inr ⟨rfl,_,_,rfl,h⟩,fun hc=>by rw[h3.1 hc];simp⟩
theorem An8 {σ:List Obj} {o g c' a1 a2 a3 b1 b2 b3:Nat} {nn cl:Bool} {x y:Int} (h:nth σ o=some (.arr g 4 nn cl [.agg [.own a1 a2 0 a3,.own b1 b2 0 b3,.int .i64 x,.int .i64 y]])):D7 [(2,.ref o g 0 0)] ⟨σ,c'⟩ [.cell 2 (some 4)]=some [.agg [.own a1 a2 0 a3,.own b1 b2 0 b3,.int .i64 x,.int .i64 y]]:=by
 show(match H7 [(2,.ref o g 0 0)] ⟨σ,c'⟩ (.cell 2 (some 4)),D7 [(2,.ref o g 0 0)] ⟨σ,c'⟩ []with
  |some v,some vs=>some (v::vs)
  |_,_=>none)=_
 have e:H7 [(2,.ref o g 0 0)] ⟨σ,c'⟩ (.cell 2 (some 4))=some (.agg [.own a1 a2 0 a3,.own b1 b2 0 b3,.int .i64 x,.int .i64 y]):=by
  simp[H7,Env.get,h,nth,AV.cells,loadCells]
 rw[e]
 rfl
section
variable {σ:List Obj} {ct:Nat} {K:AX→Am→Prop}
set_option maxHeartbeats 4000000 in
theorem Ahe {g:GG} (hg:Few g) (hK:∀σ' c' oN uN nN oE uE nE N E,Cp σ σ' (.own oN uN 0 nN) (.own oE uE 0 nE) g N E→K (.ok (.agg [.own oN uN 0 nN,.own oE uE 0 nE,.int .i64 g.BA,.int .i64 g.BJ])) ⟨σ',c'⟩):
 A8 (Ad tab) 120 [g.av] ⟨σ,ct⟩ K:=by
 obtain⟨g1,g2,g3,g4,g5,g6,g7,g8⟩:=hg.ok
 have hlN:=hg.lN
 have hlE:=hg.lE
 refine Ar rfl rfl ?_
 show vC _ _ [(0,.agg [.sl g.nn (vs GN.av g.nodes),.sl g.en (vs GE.av g.edges),.int .i64 g.BA,.int .i64 g.BJ])] _ _
 (conv=>whnf);repeat' (first|(refine CJ fun σ3 f3 h3 l3=>?_;have h13:=f3.get h12 (by simp);have h23:=f3.get h2 (by simp);conv=>whnf)|(refine CJ fun σ2 f2 h2 l2=>?_;have h12:=f2.get h1 (by simp);conv=>whnf)|(refine CJ fun σ1 f1 h1 l1=>?_;conv=>whnf)|(rw [h12];conv=>whnf)|(rw [h3];conv=>whnf)|(refine (DN _ _).2 ?_;conv=>whnf)|(refine E8 h3 fun σ4 f4 h4 l4=>?_;have h14:=f4.get h13 (by dsimp only at *;simp;omega);have h24:=f4.get h23 (by dsimp only at *;simp;omega);conv=>whnf)|(rw [h14];conv=>whnf)|(rw [h4];conv=>whnf)|(refine AeS g2 rfl Ahf (Ahg (by omega)) fun σ5 e5 f5 a5 b5 l5=>?_;have h15:=f5.get h14 (by simp);have h25:=f5.get h24 (by simp);have h35:=f5.get h4 (by simp);conv=>whnf)|(rw [h35];conv=>whnf)|(refine E8 h35 fun σ6 f6 h6 l6=>?_;have h16:=f6.get h15 (by dsimp only at *;simp;omega);have h26:=f6.get h25 (by dsimp only at *;simp;omega);have a6:=f6.get a5 (by dsimp only at *;simp;omega);conv=>whnf)|(rw [h6];conv=>whnf)|(refine kA ?_;conv=>whnf)|(refine Br.mk (fun hc=>?_) fun hc=>?_<;>first|exact hc.elim|conv=>whnf)|(refine kB ?_))
 dsimp only at l1 l2 l3 l4 l5 l6
 have hll:∀(M:List EN),M.map EN.n=g.nodes→M.length=g.nodes.length:=fun M h=>by rw[← h,List.length_map]
 have hle:∀(M:List EE),M.map EE.e=g.edges→M.length=g.edges.length:=fun M h=>by rw[← h,List.length_map]
 refine cpN (es:=e5) hlN (fun n hn=>⟨g3 n hn,hg.pN n hn⟩) g2 b5 h6 a6 (by dsimp only;omega) fun σ7 c7 d7 L tl f7 h7 m7 k7 n7 q7 r7=>?_
 have h17:=f7.get h16 (by simp;omega)
 have h27:=f7.get h26 (by simp;omega)
 have h37:=f7.get h6 (by simp;omega)
 (conv=>whnf);repeat' (first|(rw [h17];conv=>whnf)|(rw [h37];conv=>whnf)|(refine (DN _ _).2 ?_;conv=>whnf)|(refine AeS g5 rfl Ahh (Ahi (by omega)) fun σ8 e8 f8 a8 b8 l8=>?_;have h18:=f8.get h17 (by simp);have h28:=f8.get h27 (by simp);have h38:=f8.get h37 (by simp);conv=>whnf)|(rw [h38];conv=>whnf)|(refine E8 h38 fun σ9 f9 h9 l9=>?_;have h29:=f9.get h28 (by dsimp only at *;simp;omega);have a9:=f9.get a8 (by have:=f7.len;dsimp only at *;simp;omega);conv=>whnf)|(rw [h9];conv=>whnf)|(refine kA ?_;conv=>whnf)|(refine Br.mk (fun hc=>?_) fun hc=>?_<;>first|exact hc.elim|conv=>whnf)|(refine kB ?_))
 dsimp only at l8 l9
 have lf7:=f7.len
 refine cpE (es:=e8) hlE (fun n hn=>⟨g6 n hn,hg.pE n hn⟩) g5 b8 h9 a9 (by dsimp only;omega) fun σ10 c10 d10 M tl' f10 h10 m10 k10 n10 q10 r10=>?_
 have AlO:=f10.get h29 (by simp;omega)
 have An9:=f10.get h9 (by simp;omega)
 (conv=>whnf);repeat' (first|(rw [An9];conv=>whnf)|(refine (DN _ _).2 ?_;conv=>whnf)|(rw [AlO];conv=>whnf)|(refine E8 AlO fun σ11 f11 h11 l11=>?_;conv=>whnf)|(refine kA ?_;conv=>whnf)|(refine Br.mk (fun hc=>?_) fun hc=>?_<;>first|exact hc.elim|conv=>whnf)|(refine kB ?_))
 refine⟨_,An8 h11,?_⟩
 have lf10:=f10.len
 dsimp only at l11 lf10 lf7 n7 n10 k7 k10
 have k7':∀q∈L.flatMap EN.objs,q<σ7.length:=fun q hq=>by
  obtain⟨e,he,hm⟩:=List.mem_flatMap.1 hq
  exact(k7 e he).lt q hm
 have hN:=f11.get (f10.get (f9.get (f8.get h7 (by simp)) (by simp;omega)) (by simp;omega)) (by simp;omega)
 have hE:=f11.get h10 (by simp;omega)
 have eN:=hll _ m7
 have eE:=hle _ m10
 rw[← eN,←eE]
 refine hK σ11 _ _ _ _ _ _ _ L M ⟨AiG hN b5 (fun h=>?_) r7,AiG hE b8 (fun h=>?_) r10,fun e he=>(k7 e he).keep fun q hq=>?_,fun e he=>(k10 e he).keep fun q hq=>?_,?_,?_,m7,m10,?_⟩
 ·have:=g2 h;rw[this]at m7;simpa using m7
 ·have:=g5 h;rw[this]at m10;simpa using m10
 ·have hq1:=n7 q (List.mem_flatMap.2 ⟨e,he,hq⟩)
  have hq2:=(k7 e he).lt q hq
  exact(f11.eq q (show q<σ10.length by omega) (by simp;omega)).trans ((f10.eq q (show q<σ9.length by omega) (by simp;omega)).trans ((f9.eq q (show q<σ8.length by omega) (by simp;omega)).trans (f8.eq q hq2 (by simp))))
 ·have hq1:=n10 q (List.mem_flatMap.2 ⟨e,he,hq⟩)
  have hq2:=(k10 e he).lt q hq
  exact f11.eq q hq2 (by simp;omega)
 ·simp only[AV.obj,BO,List.singleton_append,List.nodup_cons,List.mem_cons,List.mem_append,not_or,List.nodup_append]
  refine⟨⟨by omega,fun h=>by have:=n7 _ h;omega,fun h=>by have:=n10 _ h;omega⟩,⟨fun h=>by have:=k7' _ h;omega,fun h=>by have:=n10 _ h;omega⟩,q7,q10,fun a ha b hb e=>?_⟩
  have:=k7' a ha
  have:=n10 b hb
  omega
 ·intro o ho
  simp only[AV.obj,BO,List.singleton_append,List.mem_cons,List.mem_append]at ho
  rcases ho with rfl|rfl|ho|ho
  ·omega
  ·omega
  ·have:=n7 o ho;omega
  ·have:=n10 o ho;omega
 ·have e4:Fr σ σ4 []:=(((f1.trans f2).trans f3).mono (F':=[σ2.length]) (by simp) |>.trans f4).mono (by simp;omega)
  have e6:Fr σ σ6 []:=((e4.trans f5).mono (F':=[σ2.length]) (by simp) |>.trans f6).mono (by simp;omega)
  have e7:Fr σ σ7 []:=(e6.mono (F':=[σ4.length]) (by simp) |>.trans f7).mono (by simp;omega)
  have e9:Fr σ σ9 []:=((e7.trans f8).mono (F':=[σ2.length]) (by simp) |>.trans f9).mono (by simp;omega)
  have e10:Fr σ σ10 []:=(e9.mono (F':=[σ7.length]) (by simp) |>.trans f10).mono (by simp;omega)
  exact(e10.mono (F':=[σ1.length]) (by simp) |>.trans f11).mono (by simp;omega)
end
def Gm:GG:=⟨false,[],false,[],0,0⟩
def YP:GG→List GC→Nat→GG×Nat×Int
 |g,[],i=>(g,i,0)
 |g,c::cs,i=>if(stepG g c).1≠0 then(Gm,i,(stepG g c).1)else YP (stepG g c).2 cs (i+1)
theorem Ed.AbK {σ:List Obj} {d gd:Nat} {vN vE:AV} {nb eb:Bool} {N:List EN} {E:List EE} {x y:Int} (h:Ed σ d gd vN vE nb eb N E x y) {o g:Nat} {c:Bool} {r:List AV} (ho:nth σ o=some (.arr g 4 true c [.agg (.sl false []::r)])):o∉d::(vN.obj++(vE.obj++BO N E)):=by
 intro hq
 obtain⟨cn,hn1,_⟩:=h.hn
 obtain⟨ce,he1,_⟩:=h.he
 rcases List.mem_cons.1 hq with rfl|hq
 ·have:=h.box;rw[ho]at this
  simp only[Option.some.injEq,Obj.arr.injEq,List.cons.injEq,AV.agg.injEq]at this
  exact h.oN this.2.2.2.2.1.1.symm
 rcases List.mem_append.1 hq with hq|hq
 ·exact hn1.diff ho (by decide) hq
 rcases List.mem_append.1 hq with hq|hq
 ·exact he1.diff ho (by decide) hq
 rcases List.mem_append.1 hq with hq|hq<;>obtain⟨e,he,hm⟩:=List.mem_flatMap.1 hq
 ·rcases List.mem_append.1 hm with hm|hm
  ·exact(h.hN e he).1.diff ho (by decide) hm
  ·exact(h.hN e he).2.diff ho (by decide) hm
 ·exact Hd.diff (h.hE e he) ho (by decide) hm
section
variable {σ:List Obj} {ct:Nat}
set_option maxHeartbeats 4000000 in
theorem Ahs {g:GG} {L:List GC} {nn:Bool} {d gd p4 u4:Nat} {Q:AZ→Env→Am→Prop} (hL:L.length<2 ^ 62) (hok:∀c∈L,c.ok) (hg:EdG σ d gd g) (ha:Gu g)
 (h4:nth σ p4=some (.arr u4 4 true true [.agg [.sl false [],.sl false [],.int .i64 0,.int .i64 0]]))
 (hE:∀σ' c' i e,YP g L 0=(Gm,i,e)→nth σ' p4=some (.arr u4 4 true true [.agg [.sl false [],.sl false [],.int .i64 0,.int .i64 0]])→Q .ret [(4,.ref p4 u4 0 0),(5,.int .i64 (i:Nat)),(6,.int .i64 e)] ⟨σ',c'⟩)
 (hQ:∀σ' c' h tl,YP g L 0=(h,L.length,0)→EdG σ' d gd h→Gu h→nth σ' p4=some (.arr u4 4 true true [.agg [.sl false [],.sl false [],.int .i64 0,.int .i64 0]])→Q (.exit 0) ([(1,.sl nn (vs GC.av L)),(4,.ref p4 u4 0 0),(8,.ref d gd 0 0),(21,.sl nn (vs GC.av L)),(22,.int .i64 L.length),(23,.int .i64 L.length)]++tl) ⟨σ',c'⟩):
 Run (Ad tab) (.loop l87_0_h l87_0_b) [(1,.sl nn (vs GC.av L)),(4,.ref p4 u4 0 0),(8,.ref d gd 0 0),(21,.sl nn (vs GC.av L)),(22,.int .i64 L.length),(23,.int .i64 0)] ⟨σ,ct⟩ Q:=by
 refine Ap (fun m env s=>∃(i c':Nat) (σ':List Obj) (h:GG),m=L.length-i∧i≤L.length∧env=[(1,.sl nn (vs GC.av L)),(4,.ref p4 u4 0 0),(8,.ref d gd 0 0),(21,.sl nn (vs GC.av L)),(22,.int .i64 L.length),(23,.int .i64 i)]∧s=⟨σ',c'⟩∧EdG σ' d gd h∧Gu h∧YP g L 0=YP h (L.drop i) i∧nth σ' p4=some (.arr u4 4 true true [.agg [.sl false [],.sl false [],.int .i64 0,.int .i64 0]])) ?_ _ _ _ ⟨0,_,_,g,rfl,by omega,rfl,rfl,hg,ha,by rw[List.drop_zero],h4⟩
 rintro _ _ _ ⟨i,c',σ',h,rfl,hi,rfl,rfl,he,hh,hr,hp⟩
 refine⟨rfl,?_⟩
 by_cases hlt:i<L.length
 ·have Ame:=hok _ (List.getElem_mem hlt)
  have hnt:nth (vs GC.av L) (Int.toNat (i:Int))=some (L[i]).av:=nV hlt
  have Lc:nth (vs GC.av L) i=some (L[i]).av:=nV hlt
  rw[List.drop_eq_getElem_cons hlt,YP]at hr
  obtain⟨c,hcc⟩:∃c,c=L[i]:=⟨_,rfl⟩
  rw[← hcc]at Ame hnt Lc hr
  obtain⟨vN,vE,nb,eb,N,E,x,y,hEd,hgo⟩:=he
  subst hgo
  have hq:=hh.ask
  have hpl:=BH hp
  obtain⟨op,z,fr,to,nm,v⟩:=c
  (conv=>whnf);repeat' (first|(refine CJ fun σ1 f1 h1 l1=>?_;have hp1:=f1.get hp (by simp);have hE1:=hEd.Ol f1;conv=>whnf)|(refine Ah hnt ?_;conv=>whnf)|(refine Ah Lc ?_;conv=>whnf)|(rw [h1];conv=>whnf)|(refine E8 h1 fun σ2 f2 h2 l2=>?_;have hp2:=f2.get hp1 (by simp;omega);conv=>whnf)|(rw [h2];conv=>whnf)|(refine kA ?_;conv=>whnf)|(refine Br.mk (fun hc=>?_) fun hc=>?_<;>first|exact hc.elim|conv=>whnf)|(refine kB ?_))
  all_goals first|(exfalso;omega)|skip
  have f02:Fr σ' σ2 []:=((f1.mono (F':=[σ'.length]) (by simp)).trans f2).mono (by simp)
  have hE2:=hEd.Ol f02
  refine stepW (c:=⟨op,z,fr,to,nm,v⟩) hE2 hq Ame fun σ3 c3 hE3 f3=>?_
  have hp3:=f3.get hp2 (hE2.AbK hp2)
  have hh':=hh.step (c:=⟨op,z,fr,to,nm,v⟩)
  generalize hsg:stepG (J3 nb eb N E x y) ⟨op,z,fr,to,nm,v⟩=sg at hr hE3 hh' ⊢
  obtain⟨e0,g0⟩:=sg
  dsimp only at hr hE3 hh' ⊢
  (conv=>whnf);repeat' (first|(rw [hp3];conv=>whnf)|(refine (DN _ _).2 ?_;conv=>whnf)|(refine E8 hp3 fun σ4 f4 h4' l4=>?_;conv=>whnf)|(refine kA ?_;conv=>whnf)|(refine Br.mk (fun hc=>?_) fun hc=>?_<;>first|exact hc.elim|conv=>whnf)|(refine kB ?_))
  all_goals first
   |exact hE σ4 _ i e0 (by rw[hr,if_pos (by omega)]) h4'
   |exact again.mk ⟨_,by omega,i+1,_,σ3,g0,rfl,by omega,rfl,rfl,hE3,hh',by rw[hr,if_neg (by omega)],hp3⟩
 ·obtain rfl:i=L.length:=by omega
  (conv=>whnf);repeat' (first  |(refine kA ?_;conv=>whnf)|(refine Br.mk (fun hc=>?_) fun hc=>?_<;>first|exact hc.elim|conv=>whnf)|(refine kB ?_))
  all_goals first
   |(exact hQ _ _ h _ (by rw[hr,List.drop_length];rfl) he hh hp)
   |(exfalso;omega)
end
theorem Xp {α κ:Type} {lt:κ→κ→Bool} {key:α→κ} (hs:OM lt) {l:List α} (h:∀j (hj:j+1<l.length),lt (key l[j]) (key l[j+1])=true):Inc lt key l:=by
 refine List.pairwise_iff_getElem.2 fun i j hi hj hij=>?_
 obtain⟨d,rfl⟩:∃d,j=i+1+d:=⟨j-(i+1),by omega⟩
 clear hij
 induction d with
 |zero=>exact h i hj
 |succ d ih=>exact hs.tr _ _ _ (ih (by omega)) (h (i+1+d) (by omega))
theorem V8 {l:List (List UInt8)} (h:rises l):Inc Op.bytesLess id l:=by
 refine Xp Aq fun j hj=>?_
 have:=h j hj
 simp only[Bool.or_eq_false_iff,beq_eq_false_iff_ne]at this
 cases hb:Op.bytesLess (id l[j]) (id l[j+1])with
 |true=>rfl
 |false=>exact absurd (Aq.tot _ _ this.1 hb) this.2
theorem Qb {L:List (List UInt8)} {P:List GP} (h:DU L P=0):L.length≤8∧P.length≤16∧rises L∧rises (keysOf P)∧allNames L∧allNames (keysOf P)∧allPlain P:=by
 by_cases h1:8<L.length∨16<P.length
 ·have:=Ph h1;rw[h]at this;simp at this
 by_cases h2:allNames L∧allNames (keysOf P)
 case neg=>have:=Pj h1 h2;rw[h]at this;simp at this
 by_cases h3:rises L∧rises (keysOf P)
 case neg=>have:=Mc h1 h2 h3;rw[h]at this;simp at this
 by_cases h4:allPlain P
 case neg=>have:=WL h1 h2 h3 h4;rw[h]at this;simp at this
 exact⟨by omega,by omega,h3.1,h3.2,h2.1,h2.2,h4⟩
theorem YO {P:List GP} (h:rises (keysOf P)):Inc Op.bytesLess GP.key P:=by
 have:=V8 h
 unfold Inc keysOf at this
 rw[List.pairwise_map]at this
 exact this
theorem TL {g:GG} (h:AB g=0):Gu g:=by
 obtain⟨hf,hn,hN,hE⟩:=Jg h
 refine⟨hf.1,hf.2,Xp Ag fun j hj=>?_,Xp Ag fun j hj=>?_,fun n hm=>?_,fun n hm=>?_,?_,?_⟩
 ·have:=(KO hj (hN _ hj)).1 (by omega)
  simpa[Cc]using this
 ·have:=(JG hj (hE _ hj)).1 (by omega)
  simpa[Cc]using this
 ·obtain⟨i,hi,rfl⟩:=List.getElem_of_mem hm
  obtain⟨a1,a2,a3,a4,_⟩:=Qb (KO hi (hN i hi)).2.2.2
  exact⟨V8 a3,a1,YO a4,a2⟩
 ·obtain⟨i,hi,rfl⟩:=List.getElem_of_mem hm
  obtain⟨a1,a2,a3,a4,_⟩:=Qb (JG hi (hE i hi)).2.2.2.2.2.2
  exact⟨YO a4,a2⟩
 ·have:=hn.1;have:=hn.2.1;omega
 ·have:=hn.2.2.1;have:=hn.2.2.2;omega
theorem Aj3 {g:GG} (hg:g.ok) (h:AB g=0):Few g:=by
 have ha:=TL h
 exact⟨hg,ha.lN,ha.lE,fun n hn=>⟨(ha.aN n hn).lL,(ha.aN n hn).lP⟩,fun n hn=>(ha.aE n hn).lP⟩
noncomputable def DV (g:GG) (L:List GC):GG×Nat×Int:=if AB g≠0 then(Gm,0,AB g)else YP g L 0
theorem Cp.ed {σ0 σ σ':List Obj} {oN uN nN oE uE nE gd:Nat} {g:GG} {N:List EN} {E:List EE} (h:Cp σ0 σ (.own oN uN 0 nN) (.own oE uE 0 nE) g N E) (hf:Fr σ σ' []) (hb:nth σ' σ.length=some (.arr gd 4 true false [.agg [.own oN uN 0 nN,.own oE uE 0 nE,.int .i64 g.BA,.int .i64 g.BJ]])):EdG σ' σ.length gd g:=by
 obtain⟨cn,hn1,hn2⟩:=h.hn
 obtain⟨ce,he1,he2⟩:=h.he
 refine⟨_,_,g.nn,g.en,N,E,g.BA,g.BJ,⟨hb,⟨cn,hn1.keep fun o ho=>hf.eq o (hn1.lt o ho) (by simp),hn2⟩,⟨ce,he1.keep fun o ho=>hf.eq o (he1.lt o ho) (by simp),he2⟩,
  fun e he=>(h.hN e he).keep fun o ho=>hf.eq o ((h.hN e he).lt o ho) (by simp),fun e he=>(h.hE e he).keep fun o ho=>hf.eq o ((h.hE e he).lt o ho) (by simp),
  List.nodup_cons.2 ⟨fun hm=>?_,h.nd⟩,by simp,by simp⟩,?_⟩
 ·have hlt:σ.length<σ.length:=by
   rcases List.mem_append.1 hm with hm|hm
   ·exact hn1.lt _ hm
   rcases List.mem_append.1 hm with hm|hm
   ·exact he1.lt _ hm
   rcases List.mem_append.1 hm with hm|hm<;>obtain⟨e,he,hm⟩:=List.mem_flatMap.1 hm
   ·exact(h.hN e he).lt _ hm
   ·exact(h.hE e he).lt _ hm
  omega
 ·obtain⟨a,b,c,d,e,f⟩:=g
  have h1:=h.mN
  have h2:=h.mE
  simp only[J3]at*
  rw[h1,h2]
theorem Aj4 {σ:List Obj} {o g c':Nat} {nn cl:Bool} {a b c d x y:AV} (ha:a.cells.length=1) (hb:b.cells.length=1) (h:nth σ o=some (.arr g 4 nn cl [.agg [a,b,c,d]])):D7 [(4,.ref o g 0 0),(5,x),(6,y)] ⟨σ,c'⟩ a87.results=some [.agg [a,b,c,d],x,y]:=by
 show(match H7 [(4,.ref o g 0 0),(5,x),(6,y)] ⟨σ,c'⟩ (.cell 4 (some 4)),D7 [(4,.ref o g 0 0),(5,x),(6,y)] ⟨σ,c'⟩ [.tmp 5,.tmp 6]with
  |some v,some vs=>some (v::vs)
  |_,_=>none)=_
 have e:H7 [(4,.ref o g 0 0),(5,x),(6,y)] ⟨σ,c'⟩ (.cell 4 (some 4))=some (.agg [a,b,c,d]):=by
  simp[H7,Env.get,h,nth,AV.cells,loadCells]
 rw[e]
 rfl
theorem Afa {AP:Nat→Option G9} {f:Nat} {fn:GU} {args:List AV} {R:AV→Prop} (hf:AP f=some (.code fn)) (hl:args.length=fn.np) (h:vC AP fn.body (params args 0) ⟨[],0⟩ (Ahr fn fun out s'=>∃r v,out=.ok r∧snap s'.σ EZ r=some v∧R v)):Af AP f args R:=by
 obtain⟨N,out,s',h1,r,v,rfl,h3,h4⟩:=Uu hf hl (FW h)
 exact⟨v,⟨N,by simp only[Dp,h1];exact h3⟩,h4⟩
theorem Rd.Cb {σ:List Obj} {D:Nat} {xs ys:List AV} (h:Kt σ D xs ys):Rd σ (D+1) (.Cb xs) (.Cb ys):=fun m hm=>by
 obtain⟨m,rfl⟩:∃m',m=m'+1:=⟨m-1,by omega⟩
 simp only[snap,h m (by omega),Option.map_some]
theorem Rd.sl {σ:List Obj} {b:Bool} {xs:List AV}:Rd σ 1 (.sl b xs) (.sl b xs):=fun m hm=>by
 obtain⟨m,rfl⟩:∃m',m=m'+1:=⟨m-1,by omega⟩
 rfl
theorem Xq {σ:List Obj}:Rd σ 10 (.agg [.sl false [],.sl false [],.int .i64 0,.int .i64 0]) Gm.av:=
 (Rd.agg (Kt.cons (Rd.sl.mono (D':=5) (by omega)) (Kt.cons (Rd.sl.mono (D':=4) (by omega)) (Kt.cons (Rd.int.mono (D':=3) (by omega)) (Kt.cons (Rd.int.mono (D':=2) (by omega)) (Kt.nil.mono (by omega))))))).mono (by omega)
theorem rd3 {σ:List Obj} {D:Nat} {a b:AV} {x y:Int} (h:Rd σ D a b) (hD:D≤999000):snap σ EZ (.Cb [a,.int .i64 x,.int .i64 y])=some (.Cb [b,.int .i64 x,.int .i64 y]):=
 (Rd.Cb (Kt.cons (h.mono (D':=D+3) (by omega)) (Kt.cons (Rd.int.mono (D':=D+2) (by omega)) (Kt.cons (Rd.int.mono (D':=D+1) (by omega)) (Kt.nil.mono (by omega)))))) EZ (by unfold EZ;omega)
theorem Hd.AiR {α:Type} {f:α→AV} {es:Nat} {σ:List Obj} {v:AV} {b c:Bool} {l:List α} (h:Hd f es σ v b l c) (h0:v≠.sl false []):∃o g n,v=.own o g 0 n:=by
 rcases h with⟨_,_,rfl|⟨o',g,es',rfl,h⟩⟩|⟨_,o',g,rfl,h⟩
 ·exact absurd rfl h0
 ·exact⟨_,_,_,rfl⟩
 ·exact⟨_,_,_,rfl⟩
set_option maxHeartbeats 4000000 in
theorem AcR {g:GG} {L:List GC} {nn:Bool} (hg:g.ok) (hL:L.length<2 ^ 62) (hok:∀c∈L,c.ok):
 Af (Ad tab) 87 [g.av,.sl nn (vs GC.av L)] (· =.Cb [(DV g L).1.av,.int .i64 (DV g L).2.1,.int .i64 (DV g L).2.2]):=by
 have hck:=Aad hg
 refine Afa rfl rfl ?_
 show vC _ _ [(0,.agg [.sl g.nn (vs GN.av g.nodes),.sl g.en (vs GE.av g.edges),.int .i64 g.BA,.int .i64 g.BJ]),(1,.sl nn (vs GC.av L))] _ _
 by_cases h0:AB g=0
 ·have ha:=TL h0
  have hfw:=Aj3 hg h0
  have hlL:(vs GC.av L).length=L.length:=lV _
  rw[h0]at hck
  (conv=>whnf);repeat' (first|(refine Aa hck ?_;rintro _ rfl;conv=>whnf)|(refine Ahe hfw fun σ' c' oN uN nN oE uE nE N E hcp=>?_;conv=>whnf)|(refine kA ?_;conv=>whnf)|(refine Br.mk (fun hc=>?_) fun hc=>?_<;>first|exact hc.elim|conv=>whnf)|(refine kB ?_))
  have hz:=hcp.fr.get (o:=1) rfl (by simp)
  refine CJ fun σ1 f1 h1 l1=>?_
  have hz1:=f1.get hz (by simp)
  have hzl:=BH hz
  (conv=>whnf);repeat' (first|(rw [h1];conv=>whnf)|(refine (DN _ _).2 ?_;conv=>whnf)|(refine E8 h1 fun σ2 f2 h2 l2=>?_;conv=>whnf)|(refine kA ?_;conv=>whnf)|(refine Br.mk (fun hc=>?_) fun hc=>?_<;>first|exact hc.elim|conv=>whnf)|(refine kB ?_))
  have f02:Fr σ' σ2 []:=((f1.mono (F':=[σ'.length]) (by simp)).trans f2).mono (by simp)
  have hz2:=f02.get hz (by simp)
  have hEd:=hcp.ed f02 h2
  refine Ahs hL hok hEd ha hz2 (fun σ3 c3 i e hr hz3=>?_) (fun σ3 c3 h tl hr hE3 ha3 hz3=>?_)
  ·have hR:DV g L=(Gm,i,e):=by unfold DV;rw[if_neg (fun h=>h h0),hr]
   rw[hR]
   conv=>whnf
   exact⟨_,Aj4 rfl rfl hz3,_,_,rfl,rd3 Xq (by omega),rfl⟩
  ·have hR:DV g L=(h,L.length,0):=by unfold DV;rw[if_neg (fun h=>h h0),hr]
   rw[hR]
   obtain⟨vN,vE,nb,eb,N3,E3,x,y,AaE,hgo⟩:=hE3
   obtain⟨cn,hn1,_⟩:=AaE.hn
   obtain⟨ce,he1,_⟩:=AaE.he
   obtain⟨o1,u1,k1,rfl⟩:=hn1.AiR AaE.oN
   obtain⟨o2,u2,k2,rfl⟩:=he1.AiR AaE.oE
   have hb3:=AaE.box
   have hnz:=AaE.AbK hz3
   subst hgo
   have hq:=ha3.ask
   have hlN:=hq.lN
   have hlE:=hq.lE
   (conv=>whnf);repeat' (first|(rw [hb3];conv=>whnf)|(rw [hz3];conv=>whnf)|(refine (DN _ _).2 ?_;conv=>whnf)|(refine E8 hz3 fun σ4 f4 h4 l4=>?_;conv=>whnf)|(refine kA ?_;conv=>whnf)|(refine Br.mk (fun hc=>?_) fun hc=>?_<;>first|exact hc.elim|conv=>whnf)|(refine kB ?_))
   have hE4:=AaE.fr f4 (fun o ho hm=>hnz (by simp only[List.mem_singleton]at hm;subst hm;exact ho))
   exact⟨_,Aj4 rfl rfl h4,_,_,rfl,rd3 hE4.snG (by omega),rfl⟩
 ·have hR:DV g L=(Gm,0,AB g):=by unfold DV;rw[if_pos h0]
  rw[hR]
  (conv=>whnf);repeat' (first|(refine Aa hck ?_;rintro _ rfl;conv=>whnf)|(refine kA ?_;conv=>whnf)|(refine Br.mk (fun hc=>?_) fun hc=>?_<;>first|exact hc.elim|conv=>whnf)|(refine kB ?_))
  all_goals first|(exfalso;omega)|exact⟨_,Aj4 rfl rfl rfl,_,_,rfl,rd3 Xq (by omega),rfl⟩|exact⟨_,_,rfl,rd3 Xq (by omega),rfl⟩
structure VN (n:GN):Prop where
 id:Md n.id
 nl:allNames n.labels
 nk:allNames (keysOf n.props)
 pl:allPlain n.props
 a:Ab5 n
structure VE (n:GE):Prop where
 id:Md n.id
 ty:isName n.ty
 nk:allNames (keysOf n.props)
 pl:allPlain n.props
 a:AfH n
structure VG (g:GG):Prop where
 ask:Gu g
 n:∀n∈g.nodes,VN n
 e:∀n∈g.edges,VE n
 ends:∀e∈g.edges,(∃ n∈g.nodes,n.id=e.fr)∧∃n∈g.nodes,n.id=e.to
theorem AlH {g:GG} (h:AB g=0):VG g:=by
 have ha:=TL h
 obtain⟨hf,hn,hN,hE⟩:=Jg h
 refine⟨ha,fun n hm=>?_,fun n hm=>?_,fun n hm=>?_⟩
 ·have hA:=ha.aN n hm
  obtain⟨i,hi,rfl⟩:=List.getElem_of_mem hm
  have h2:=KO hi (hN i hi)
  obtain⟨a1,a2,a3,a4,a5,a6,a7⟩:=Qb h2.2.2.2
  exact⟨⟨h2.2.1,by have:=hn.2.1;have:=h2.2.2.1;omega⟩,a5,a6,a7,hA⟩
 ·have hA:=ha.aE n hm
  obtain⟨i,hi,rfl⟩:=List.getElem_of_mem hm
  have h2:=JG hi (hE i hi)
  obtain⟨a1,a2,a3,a4,a5,a6,a7⟩:=Qb h2.2.2.2.2.2.2
  exact⟨⟨h2.2.1,by have:=hn.2.2.2;have:=h2.2.2.1;omega⟩,h2.2.2.2.2.2.1,a6,a7,hA⟩
 ·obtain⟨i,hi,rfl⟩:=List.getElem_of_mem hm
  have h2:=JG hi (hE i hi)
  exact⟨List.mem_map.1 h2.2.2.2.1,List.mem_map.1 h2.2.2.2.2.1⟩
section
variable {g:GG} {c:GC}
end
structure AtN (h:GG) (z:Int) (m:GN) (f:Int→Option GN) (E:List GE):Prop where
 ask:Gu h
 here:lk GN.id h.nodes z=some m
 rest:∀y,y≠z→lk GN.id h.nodes y=f y
 ed:h.edges=E
theorem AtN.put {h:GG} {z:Int} {m m':GN} {f:Int→Option GN} {E:List GE} (a:AtN h z m f E) (hid:m'.id=z) (hn:Ab5 m'):AtN {h with nodes:=Ba Cc GN.id m' h.nodes} z m' f E where
 ask:=a.ask.Oj hn ⟨m,(Acl a.here).1,by rw[hid];exact(Acl a.here).2⟩
 here:=by show lk GN.id (Ba Cc GN.id m' h.nodes) z=_;rw[Agi Ag a.ask.iN,if_pos hid.symm]
 rest:=fun y hy=>by show lk GN.id (Ba Cc GN.id m' h.nodes) y=_;rw[Agi Ag a.ask.iN,if_neg (by rw[hid];exact hy)];exact a.rest y hy
 ed:=a.ed
theorem AtN.id {h:GG} {z:Int} {m:GN} {f:Int→Option GN} {E:List GE} (a:AtN h z m f E):m.id=z:=(Acl a.here).2
section
variable {z:Int} {f:Int→Option GN} {E:List GE}
end
end AI
end Go.Proofs.YtchcadfjbkkgmaaGreatDoor
