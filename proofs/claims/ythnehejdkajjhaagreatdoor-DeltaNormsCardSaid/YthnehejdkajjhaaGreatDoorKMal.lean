/- A graph copied, for an editor. A graph copied, for an editor: the whole. change.ApplyAll, its loop. graph.Check, walked. A checked graph is one that an editor may edit; change.ApplyAll. -/
import Derived.Test.YthnehejdkajjhaaGreatDoorKMak
import Derived.Test.YthnehejdkajjhaaGreatDoorKMaj
import Derived.Test.YthnehejdkajjhaaGreatDoorKMah
set_option linter.unusedVariables false
set_option maxRecDepth 4000
namespace Go.Proofs.YthnehejdkajjhaaGreatDoor
namespace AI
def enF (n:GN):EN:=⟨n,.sl n.ln (vs .str n.labels),.sl n.pn (vs GP.av n.props)⟩
def eeF (e:GE):EE:=⟨e,.sl e.pn (vs GP.av e.props)⟩
theorem set_mid {α β:Type} {L:List β} {l:List α} {f:α→β} {i:Nat} {x:β} (hL:L.length=i) (hi:i<l.length):(L++(l.drop i).map f).set i x=(L++[x])++(l.drop (i+1)).map f:=by
 subst hL
 rw[List.drop_eq_getElem_cons hi,List.map_cons,List.set_append_right _ _ (Nat.le_refl _),Nat.sub_self,List.set_cons_zero,List.append_assoc]
 rfl
theorem Ad6 {α β:Type} {L:List β} {l:List α} {f:α→β} {i:Nat} {fv:β→AV} (hL:L.length=i) (hi:i<l.length):nth (vs fv (L++(l.drop i).map f)) i=some (fv (f l[i])):=by
 subst hL
 rw[List.drop_eq_getElem_cons hi,Bl,vs,List.getElem?_map,List.getElem?_append_right (Nat.le_refl _),Nat.sub_self]
 rfl
theorem Ahu {α:Type} {f:α→AV} {l:List α} {i:Nat} {a:α}:(vs f l).set i (f a)=vs f (l.set i a):=by simp[vs,List.map_set]
theorem Ahv {α:Type} {f:α→AV} {es es':Nat} {σ:List Obj} {p g:Nat} {nn:Bool} {l:List α} (h:nth σ p=some (.arr g es' nn true (vs f l))) (h1:nn=true→es'=es) (h2:nn=false→l=[]):Hd f es σ (.own p g 0 l.length) nn l true:=by
 cases nn with
 |false=>obtain rfl:=h2 rfl;exact .inl ⟨rfl,rfl,.inr ⟨_,_,_,rfl,h⟩⟩
 |true=>obtain rfl:=h1 rfl;exact .inr ⟨rfl,_,_,rfl,h⟩
theorem Abp {o g i n:Nat}:Je (.own o g i n) (.own o g i n)=true:=by simp[Je]
section
variable {σ:List Obj} {ct:Nat}
set_option maxHeartbeats 4000000 in
theorem cpN {g:GG} {p1 p2 p3 u1 u2 u3 o u:Nat} {es:Nat} {Q:Aw→Env→Aq→Prop} (hl:g.nodes.length≤2000) (hok:∀n∈g.nodes,n.ok∧n.labels.length≤8∧n.props.length≤16) (hnn:g.nn=false→g.nodes=[]) (hes:g.nn=true→es=3)
 (h3:nth σ p3=some (.arr u3 4 true false [.agg [.own o u 0 g.nodes.length,.sl g.en (vs GE.av g.edges),.int .i64 g.BF,.int .i64 g.BA]]))
 (ho:nth σ o=some (.arr u es g.nn true (vs GN.av g.nodes))) (h3o:p3≠o)
 (hQ:∀σ' c' c1 L tl,Fr σ σ' [o]→nth σ' o=some (.arr u es g.nn c1 (vs EN.av L))→L.map EN.n=g.nodes→(∀ e∈L,e.Ok σ')→(∀ q∈L.flatMap EN.objs,σ.length≤q)→(L.flatMap EN.objs).Nodup→(c1=true↔L=[])→Q (.exit 0) ([(1,.ref p1 u1 0 0),(2,.ref p2 u2 0 0),(3,.ref p3 u3 0 0),(14,.own o u 0 g.nodes.length),(15,.int .i64 g.nodes.length),(16,.int .i64 g.nodes.length)]++tl) ⟨σ',c'⟩):
 Run (Ac tab) (.loop l36_0_h l36_0_b) [(1,.ref p1 u1 0 0),(2,.ref p2 u2 0 0),(3,.ref p3 u3 0 0),(14,.own o u 0 g.nodes.length),(15,.int .i64 g.nodes.length),(16,.int .i64 0)] ⟨σ,ct⟩ Q:=by
 refine Af (fun m env s=>∃(i c':Nat) (σ':List Obj) (L:List EN) (c1:Bool),m=g.nodes.length-i∧i≤g.nodes.length∧env=[(1,.ref p1 u1 0 0),(2,.ref p2 u2 0 0),(3,.ref p3 u3 0 0),(14,.own o u 0 g.nodes.length),(15,.int .i64 g.nodes.length),(16,.int .i64 i)]∧s=⟨σ',c'⟩∧Fr σ σ' [o]∧nth σ' o=some (.arr u es g.nn c1 (vs EN.av (L++(g.nodes.drop i).map enF)))∧L.length=i∧L.map EN.n=g.nodes.take i∧(∀ e∈L,e.Ok σ')∧(∀ q∈L.flatMap EN.objs,σ.length≤q)∧(L.flatMap EN.objs).Nodup∧(c1=true↔L=[])) ?_ _ _ _ ⟨0,_,_,[],true,rfl,by omega,rfl,rfl,Fr.refl,?_,rfl,rfl,by simp,by simp,by simp,by simp⟩
 rotate_left
 ·rw[ho,List.nil_append,List.drop_zero,vs,vs,List.map_map];rfl
 rintro _ _ _ ⟨i,c',σ',L,c1,rfl,hi,rfl,rfl,f0,ho0,hL,hm,ZI,hLn,hLd,hc1⟩
 refine⟨rfl,?_⟩
 by_cases hlt:i<g.nodes.length
 ·have AcL:g.nn=true:=by
   cases hb:g.nn with
   |true=>rfl
   |false=>rw[hnn hb]at hlt;simp at hlt
  obtain rfl:=hes AcL
  rw[AcL]at ho0
  have hmem:g.nodes[i]∈g.nodes:=List.getElem_mem hlt
  obtain⟨hno,hlb,hpp⟩:=hok _ hmem
  have h30:=f0.get h3 (by simpa using h3o)
  have g0:=Ad6 (fv:=EN.av) (f:=enF) hL hlt
  have hol:=Dc ho0
  have hos:=Dc ho
  have hp3:=Dc h30
  obtain⟨n,hn⟩:∃n,n=g.nodes[i]:=⟨_,rfl⟩
  rw[← hn]at g0 hno hlb hpp
  have hln:=hno.2.2.1
  have hpn:=hno.2.2.2.2.2.1
  (conv=>whnf);repeat' (first|(refine need.mk Abp ?_;conv=>whnf)|(refine Dh fun σ1 f1 h1 l1=>?_;have ho1:=f1.get ho0 (by simp);have h31:=f1.get h30 (by simp);conv=>whnf)|(rw [ho0];conv=>whnf)|(rw [h1];conv=>whnf)|(refine Au g0 ?_;conv=>whnf)|(refine Au (Iw g0) ?_;conv=>whnf)|(refine F7 h1 fun σ2 f2 h2 l2=>?_;have ho2:=f2.get ho1 (by simp;omega);have h32:=f2.get h31 (by simp;omega);conv=>whnf)|(rw [h2];conv=>whnf)|(rw [h32];conv=>whnf)|(rw [ho2];conv=>whnf)|(refine AgW hln rfl AkO (AkP (by omega)) fun σ3 e3 f3 a3 b3 l3=>?_;have ho3:=f3.get ho2 (by simp);have h33:=f3.get h32 (by simp);have h23:=f3.get h2 (by simp);conv=>whnf)|(rw [h33];conv=>whnf)|(rw [ho3];conv=>whnf)|(refine (Eb _ _).2 ?_;conv=>whnf)|(refine F7 ho3 fun σ4 f4 h4 l4=>?_;have h34:=f4.get h33 (by simpa using h3o);have h24:=f4.get h23 (by simp;omega);conv=>whnf)|(rw [h34];conv=>whnf)|(rw [h24];conv=>whnf)|(refine AgW hpn rfl Ad7 (Ad8 (by omega)) fun σ5 e5 f5 a5 b5 l5=>?_;have ho5:=f5.get h4 (by simp);have h35:=f5.get h34 (by simp);conv=>whnf)|(rw [h35];conv=>whnf)|(rw [ho5];conv=>whnf)|(refine F7 ho5 fun σ6 f6 h6 l6=>?_;have h36:=f6.get h35 (by simpa using h3o);conv=>whnf)|(rw [h36];conv=>whnf)|refine kA ?_;conv=>whnf|(apply Br.mk<;>intro hc<;>first|exact hc.elim|conv=>whnf)|refine kB ?_)
  all_goals first
   |(exfalso;omega)
   |skip
  all_goals
   dsimp only at l1 l2 l3 l4 l5 l6
   have f06:Fr σ' σ6 [o]:=((((((f1.mono (F':=[o,σ'.length]) (by simp)).trans (f2.mono (by simp))).trans (f3.mono (by simp))).trans (f4.mono (by simp))).trans (f5.mono (by simp))).trans (f6.mono (by simp))).mono (by simp)
   have k3:=f6.get (f5.get (f4.get a3 (by simp;omega)) (by simp)) (by simp;omega)
   have k5:=f6.get a5 (by simp;omega)
   have hlo:∀q∈L.flatMap EN.objs,q<σ'.length:=fun q hq=>by
        obtain⟨e,he,hq⟩:=List.mem_flatMap.1 hq
        exact(ZI e he).lt q hq
   refine again.mk ⟨_,by omega,i+1,_,σ6,L++[⟨n,.own σ2.length (c'+1) 0 n.labels.length,.own σ4.length (c'+1+1) 0 n.props.length⟩],false,rfl,by omega,rfl,rfl,f0.trans f06,?_,by simp[hL],?_,fun e he=>?_,fun q hq=>?_,?_,by simp⟩
   ·rw[AcL,←set_mid hL hlt,←Ahu,h6,List.set_set];rfl
   ·rw[List.map_append,hm,List.take_succ_eq_append_getElem hlt,hn];rfl
   ·rcases List.mem_append.1 he with he|he
    ·exact(ZI e he).keep fun q hq=>f06.eq q ((ZI e he).lt q hq) (by have:=hLn q (List.mem_flatMap.2 ⟨e,he,hq⟩);simp;omega)
    ·obtain rfl:=List.mem_singleton.1 he
     exact⟨Ahv k3 b3 hln,Ahv k5 b5 hpn⟩
   ·rw[List.flatMap_append]at hq
    rcases List.mem_append.1 hq with hq|hq
    ·exact hLn q hq
    ·have:=f0.len
     simp only[List.flatMap_cons,List.flatMap_nil,EN.objs,AV.obj,List.append_nil,List.mem_append,List.mem_singleton]at hq
     omega
   ·rw[List.flatMap_append]
    refine List.nodup_append.2 ⟨hLd,?_,fun a ha b hb e=>?_⟩
    ·simp[EN.objs,AV.obj];omega
    ·have:=hlo a ha
     simp only[List.flatMap_cons,List.flatMap_nil,EN.objs,AV.obj,List.append_nil,List.mem_append,List.mem_singleton]at hb
     omega
 ·obtain rfl:i=g.nodes.length:=by omega
  (conv=>whnf);repeat' (first  |refine kA ?_;conv=>whnf|(apply Br.mk<;>intro hc<;>first|exact hc.elim|conv=>whnf)|refine kB ?_)
  all_goals first
   |exact hQ _ _ c1 L _ f0 (by rw[ho0];simp) (by rw[hm,List.take_length]) ZI hLn hLd hc1
   |(exfalso;omega)
set_option maxHeartbeats 4000000 in
theorem cpE {g:GG} {oN uN nN p2 p3 u2 u3 o u:Nat} {es:Nat} {Q:Aw→Env→Aq→Prop} (hl:g.edges.length≤4000) (hok:∀n∈g.edges,n.ok∧n.props.length≤16) (hnn:g.en=false→g.edges=[]) (hes:g.en=true→es=5)
 (h3:nth σ p3=some (.arr u3 4 true false [.agg [.own oN uN 0 nN,.own o u 0 g.edges.length,.int .i64 g.BF,.int .i64 g.BA]]))
 (ho:nth σ o=some (.arr u es g.en true (vs GE.av g.edges))) (h3o:p3≠o)
 (hQ:∀σ' c' c1 L tl,Fr σ σ' [o]→nth σ' o=some (.arr u es g.en c1 (vs EE.av L))→L.map EE.e=g.edges→(∀ e∈L,e.Ok σ')→(∀ q∈L.flatMap EE.objs,σ.length≤q)→(L.flatMap EE.objs).Nodup→(c1=true↔L=[])→Q (.exit 2) ([(2,.ref p2 u2 0 0),(3,.ref p3 u3 0 0),(43,.own o u 0 g.edges.length),(44,.int .i64 g.edges.length),(45,.int .i64 g.edges.length)]++tl) ⟨σ',c'⟩):
 Run (Ac tab) (.loop l36_1_h l36_1_b) [(2,.ref p2 u2 0 0),(3,.ref p3 u3 0 0),(43,.own o u 0 g.edges.length),(44,.int .i64 g.edges.length),(45,.int .i64 0)] ⟨σ,ct⟩ Q:=by
 refine Af (fun m env s=>∃(i c':Nat) (σ':List Obj) (L:List EE) (c1:Bool),m=g.edges.length-i∧i≤g.edges.length∧env=[(2,.ref p2 u2 0 0),(3,.ref p3 u3 0 0),(43,.own o u 0 g.edges.length),(44,.int .i64 g.edges.length),(45,.int .i64 i)]∧s=⟨σ',c'⟩∧Fr σ σ' [o]∧nth σ' o=some (.arr u es g.en c1 (vs EE.av (L++(g.edges.drop i).map eeF)))∧L.length=i∧L.map EE.e=g.edges.take i∧(∀ e∈L,e.Ok σ')∧(∀ q∈L.flatMap EE.objs,σ.length≤q)∧(L.flatMap EE.objs).Nodup∧(c1=true↔L=[])) ?_ _ _ _ ⟨0,_,_,[],true,rfl,by omega,rfl,rfl,Fr.refl,?_,rfl,rfl,by simp,by simp,by simp,by simp⟩
 rotate_left
 ·rw[ho,List.nil_append,List.drop_zero,vs,vs,List.map_map];rfl
 rintro _ _ _ ⟨i,c',σ',L,c1,rfl,hi,rfl,rfl,f0,ho0,hL,hm,ZI,hLn,hLd,hc1⟩
 refine⟨rfl,?_⟩
 by_cases hlt:i<g.edges.length
 ·have AcL:g.en=true:=by
   cases hb:g.en with
   |true=>rfl
   |false=>rw[hnn hb]at hlt;simp at hlt
  obtain rfl:=hes AcL
  rw[AcL]at ho0
  have hmem:g.edges[i]∈g.edges:=List.getElem_mem hlt
  obtain⟨hno,hpp⟩:=hok _ hmem
  have h30:=f0.get h3 (by simpa using h3o)
  have g0:=Ad6 (fv:=EE.av) (f:=eeF) hL hlt
  have hol:=Dc ho0
  have hos:=Dc ho
  have hp3:=Dc h30
  obtain⟨n,hn⟩:∃n,n=g.edges[i]:=⟨_,rfl⟩
  rw[← hn]at g0 hno hpp
  have hpn:=hno.2.2.2.2.2.1
  (conv=>whnf);repeat' (first|(refine need.mk Abp ?_;conv=>whnf)|(refine Dh fun σ1 f1 h1 l1=>?_;have ho1:=f1.get ho0 (by simp);have h31:=f1.get h30 (by simp);conv=>whnf)|(rw [ho0];conv=>whnf)|(rw [h1];conv=>whnf)|(refine Au g0 ?_;conv=>whnf)|(refine Au (Iw g0) ?_;conv=>whnf)|(refine F7 h1 fun σ2 f2 h2 l2=>?_;have ho2:=f2.get ho1 (by simp;omega);have h32:=f2.get h31 (by simp;omega);conv=>whnf)|(rw [h2];conv=>whnf)|(rw [h32];conv=>whnf)|(rw [ho2];conv=>whnf)|(refine AgW hpn rfl Ad7 (Ad8 (by omega)) fun σ3 e3 f3 a3 b3 l3=>?_;have ho3:=f3.get ho2 (by simp);have h33:=f3.get h32 (by simp);have h23:=f3.get h2 (by simp);conv=>whnf)|(rw [h33];conv=>whnf)|(rw [ho3];conv=>whnf)|(refine (Eb _ _).2 ?_;conv=>whnf)|(refine F7 ho3 fun σ4 f4 h4 l4=>?_;have h34:=f4.get h33 (by simpa using h3o);have h24:=f4.get h23 (by simp;omega);conv=>whnf)|(rw [h34];conv=>whnf)|(rw [h24];conv=>whnf)|refine kA ?_;conv=>whnf|(apply Br.mk<;>intro hc<;>first|exact hc.elim|conv=>whnf)|refine kB ?_)
  all_goals first
   |(exfalso;omega)
   |skip
  all_goals
   dsimp only at l1 l2 l3 l4
   have f06:Fr σ' σ4 [o]:=((((f1.mono (F':=[o,σ'.length]) (by simp)).trans (f2.mono (by simp))).trans (f3.mono (by simp))).trans (f4.mono (by simp))).mono (by simp)
   have k3:=f4.get a3 (by simp;omega)
   have hlo:∀q∈L.flatMap EE.objs,q<σ'.length:=fun q hq=>by
        obtain⟨e,he,hq⟩:=List.mem_flatMap.1 hq
        exact(ZI e he).lt q hq
   refine again.mk ⟨_,by omega,i+1,_,σ4,L++[⟨n,.own σ2.length (c'+1) 0 n.props.length⟩],false,rfl,by omega,rfl,rfl,f0.trans f06,?_,by simp[hL],?_,fun e he=>?_,fun q hq=>?_,?_,by simp⟩
   ·rw[AcL,←set_mid hL hlt,←Ahu,h4];rfl
   ·rw[List.map_append,hm,List.take_succ_eq_append_getElem hlt,hn];rfl
   ·rcases List.mem_append.1 he with he|he
    ·exact(ZI e he).keep fun q hq=>f06.eq q ((ZI e he).lt q hq) (by have:=hLn q (List.mem_flatMap.2 ⟨e,he,hq⟩);simp;omega)
    ·obtain rfl:=List.mem_singleton.1 he
     exact Ahv k3 b3 hpn
   ·rw[List.flatMap_append]at hq
    rcases List.mem_append.1 hq with hq|hq
    ·exact hLn q hq
    ·have:=f0.len
     simp only[List.flatMap_cons,List.flatMap_nil,EE.objs,AV.obj,List.append_nil,List.mem_singleton]at hq
     omega
   ·rw[List.flatMap_append]
    refine List.nodup_append.2 ⟨hLd,?_,fun a ha b hb e=>?_⟩
    ·simp[EE.objs,AV.obj]
    ·have:=hlo a ha
     simp only[List.flatMap_cons,List.flatMap_nil,EE.objs,AV.obj,List.append_nil,List.mem_singleton]at hb
     omega
 ·obtain rfl:i=g.edges.length:=by omega
  (conv=>whnf);repeat' (first  |refine kA ?_;conv=>whnf|(apply Br.mk<;>intro hc<;>first|exact hc.elim|conv=>whnf)|refine kB ?_)
  all_goals first
   |exact hQ _ _ c1 L _ f0 (by rw[ho0];simp) (by rw[hm,List.take_length]) ZI hLn hLd hc1
   |(exfalso;omega)
end
structure Cp (σ0 σ:List Obj) (vN vE:AV) (g:GG) (N:List EN) (E:List EE):Prop where
 hn:∃c,Hd EN.av 3 σ vN g.nn N c∧(c=true→∀e∈N,e.av.closed=true)
 he:∃c,Hd EE.av 5 σ vE g.en E c∧(c=true→∀e∈E,e.av.closed=true)
 hN:∀e∈N,e.Ok σ
 hE:∀e∈E,e.Ok σ
 nd:(vN.obj++(vE.obj++Cj N E)).Nodup
 new:∀o∈vN.obj++(vE.obj++Cj N E),σ0.length≤o
 mN:N.map EN.n=g.nodes
 mE:E.map EE.e=g.edges
 fr:Fr σ0 σ []
structure Few (g:GG):Prop where
 ok:g.ok
 lN:g.nodes.length≤2000
 lE:g.edges.length≤4000
 pN:∀n∈g.nodes,n.labels.length≤8∧n.props.length≤16
 pE:∀n∈g.edges,n.props.length≤16
theorem AmA {α:Type} {f:α→AV} {es es':Nat} {σ:List Obj} {p g:Nat} {nn c:Bool} {l:List α} (h:nth σ p=some (.arr g es' nn c (vs f l))) (h1:nn=true→es'=es) (h2:nn=false→l=[]) (h3:c=true↔l=[]):∃c,Hd f es σ (.own p g 0 l.length) nn l c∧(c=true→∀e∈l,(f e).closed=true):=by
 cases nn with
 |false=>
  obtain rfl:=h2 rfl
  obtain rfl:=h3.2 rfl
  exact⟨true,.inl ⟨rfl,rfl,.inr ⟨_,_,_,rfl,h⟩⟩,by simp⟩
 |true=>obtain rfl:=h1 rfl;exact⟨c,.inr ⟨rfl,_,_,rfl,h⟩,fun hc=>by rw[h3.1 hc];simp⟩
theorem AuF {σ:List Obj} {o g c' a1 a2 a3 b1 b2 b3:Nat} {nn cl:Bool} {x y:Int} (h:nth σ o=some (.arr g 4 nn cl [.agg [.own a1 a2 0 a3,.own b1 b2 0 b3,.int .i64 x,.int .i64 y]])):FP [(2,.ref o g 0 0)] ⟨σ,c'⟩ [.cell 2 (some 4)]=some [.agg [.own a1 a2 0 a3,.own b1 b2 0 b3,.int .i64 x,.int .i64 y]]:=by
 show(match I7 [(2,.ref o g 0 0)] ⟨σ,c'⟩ (.cell 2 (some 4)),FP [(2,.ref o g 0 0)] ⟨σ,c'⟩ []with
  |some v,some vs=>some (v::vs)
  |_,_=>none)=_
 have e:I7 [(2,.ref o g 0 0)] ⟨σ,c'⟩ (.cell 2 (some 4))=some (.agg [.own a1 a2 0 a3,.own b1 b2 0 b3,.int .i64 x,.int .i64 y]):=by
  simp[I7,Env.get,h,nth,AV.cells,loadCells]
 rw[e]
 rfl
section
variable {σ:List Obj} {ct:Nat} {K:Bf→Aq→Prop}
set_option maxHeartbeats 4000000 in
theorem Akm {g:GG} (hg:Few g) (hK:∀σ' c' oN uN nN oE uE nE N E,Cp σ σ' (.own oN uN 0 nN) (.own oE uE 0 nE) g N E→K (.ok (.agg [.own oN uN 0 nN,.own oE uE 0 nE,.int .i64 g.BF,.int .i64 g.BA])) ⟨σ',c'⟩):
 Am (Ac tab) 36 [g.av] ⟨σ,ct⟩ K:=by
 obtain⟨g1,g2,g3,g4,g5,g6,g7,g8⟩:=hg.ok
 have hlN:=hg.lN
 have hlE:=hg.lE
 refine Ah rfl rfl ?_
 show vC _ _ [(0,.agg [.sl g.nn (vs GN.av g.nodes),.sl g.en (vs GE.av g.edges),.int .i64 g.BF,.int .i64 g.BA])] _ _
 (conv=>whnf);repeat' (first|(refine Dh fun σ3 f3 h3 l3=>?_;have h13:=f3.get h12 (by simp);have h23:=f3.get h2 (by simp);conv=>whnf)|(refine Dh fun σ2 f2 h2 l2=>?_;have h12:=f2.get h1 (by simp);conv=>whnf)|(refine Dh fun σ1 f1 h1 l1=>?_;conv=>whnf)|(rw [h12];conv=>whnf)|(rw [h3];conv=>whnf)|(refine (Eb _ _).2 ?_;conv=>whnf)|(refine F7 h3 fun σ4 f4 h4 l4=>?_;have h14:=f4.get h13 (by dsimp only at *;simp;omega);have h24:=f4.get h23 (by dsimp only at *;simp;omega);conv=>whnf)|(rw [h14];conv=>whnf)|(rw [h4];conv=>whnf)|(refine AgW g2 rfl Akn (Ako (by omega)) fun σ5 e5 f5 a5 b5 l5=>?_;have h15:=f5.get h14 (by simp);have h25:=f5.get h24 (by simp);have h35:=f5.get h4 (by simp);conv=>whnf)|(rw [h35];conv=>whnf)|(refine F7 h35 fun σ6 f6 h6 l6=>?_;have h16:=f6.get h15 (by dsimp only at *;simp;omega);have h26:=f6.get h25 (by dsimp only at *;simp;omega);have a6:=f6.get a5 (by dsimp only at *;simp;omega);conv=>whnf)|(rw [h6];conv=>whnf)|refine kA ?_;conv=>whnf|(apply Br.mk<;>intro hc<;>first|exact hc.elim|conv=>whnf)|refine kB ?_)
 dsimp only at l1 l2 l3 l4 l5 l6
 have hll:∀(M:List EN),M.map EN.n=g.nodes→M.length=g.nodes.length:=fun M h=>by rw[← h,List.length_map]
 have hle:∀(M:List EE),M.map EE.e=g.edges→M.length=g.edges.length:=fun M h=>by rw[← h,List.length_map]
 refine cpN (es:=e5) hlN (fun n hn=>⟨g3 n hn,hg.pN n hn⟩) g2 b5 h6 a6 (by dsimp only;omega) fun σ7 c7 d7 L tl f7 h7 m7 k7 n7 q7 r7=>?_
 have h17:=f7.get h16 (by simp;omega)
 have h27:=f7.get h26 (by simp;omega)
 have h37:=f7.get h6 (by simp;omega)
 (conv=>whnf);repeat' (first|(rw [h17];conv=>whnf)|(rw [h37];conv=>whnf)|(refine (Eb _ _).2 ?_;conv=>whnf)|(refine AgW g5 rfl Akp (Akq (by omega)) fun σ8 e8 f8 a8 b8 l8=>?_;have h18:=f8.get h17 (by simp);have h28:=f8.get h27 (by simp);have h38:=f8.get h37 (by simp);conv=>whnf)|(rw [h38];conv=>whnf)|(refine F7 h38 fun σ9 f9 h9 l9=>?_;have h29:=f9.get h28 (by dsimp only at *;simp;omega);have a9:=f9.get a8 (by have:=f7.len;dsimp only at *;simp;omega);conv=>whnf)|(rw [h9];conv=>whnf)|refine kA ?_;conv=>whnf|(apply Br.mk<;>intro hc<;>first|exact hc.elim|conv=>whnf)|refine kB ?_)
 dsimp only at l8 l9
 have lf7:=f7.len
 refine cpE (es:=e8) hlE (fun n hn=>⟨g6 n hn,hg.pE n hn⟩) g5 b8 h9 a9 (by dsimp only;omega) fun σ10 c10 d10 M tl' f10 h10 m10 k10 n10 q10 r10=>?_
 have AqW:=f10.get h29 (by simp;omega)
 have AuG:=f10.get h9 (by simp;omega)
 (conv=>whnf);repeat' (first|(rw [AuG];conv=>whnf)|(refine (Eb _ _).2 ?_;conv=>whnf)|(rw [AqW];conv=>whnf)|(refine F7 AqW fun σ11 f11 h11 l11=>?_;conv=>whnf)|refine kA ?_;conv=>whnf|(apply Br.mk<;>intro hc<;>first|exact hc.elim|conv=>whnf)|refine kB ?_)
 refine⟨_,AuF h11,?_⟩
 have lf10:=f10.len
 dsimp only at l11 lf10 lf7 n7 n10 k7 k10
 have k7':∀q∈L.flatMap EN.objs,q<σ7.length:=fun q hq=>by
  obtain⟨e,he,hm⟩:=List.mem_flatMap.1 hq
  exact(k7 e he).lt q hm
 have hN:=f11.get (f10.get (f9.get (f8.get h7 (by simp)) (by simp;omega)) (by simp;omega)) (by simp;omega)
 have hE:=f11.get h10 (by simp;omega)
 have eN:=hll _ m7
 have eE:=hle _ m10
 rw[← eN,←eE]
 refine hK σ11 _ _ _ _ _ _ _ L M ⟨AmA hN b5 (fun h=>?_) r7,AmA hE b8 (fun h=>?_) r10,fun e he=>(k7 e he).keep fun q hq=>?_,fun e he=>(k10 e he).keep fun q hq=>?_,?_,?_,m7,m10,?_⟩
 ·have:=g2 h;rw[this]at m7;simpa using m7
 ·have:=g5 h;rw[this]at m10;simpa using m10
 ·have hq1:=n7 q (List.mem_flatMap.2 ⟨e,he,hq⟩)
  have hq2:=(k7 e he).lt q hq
  exact(f11.eq q (show q<σ10.length by omega) (by simp;omega)).trans ((f10.eq q (show q<σ9.length by omega) (by simp;omega)).trans ((f9.eq q (show q<σ8.length by omega) (by simp;omega)).trans (f8.eq q hq2 (by simp))))
 ·have hq1:=n10 q (List.mem_flatMap.2 ⟨e,he,hq⟩)
  have hq2:=(k10 e he).lt q hq
  exact f11.eq q hq2 (by simp;omega)
 ·simp only[AV.obj,Cj,List.singleton_append,List.nodup_cons,List.mem_cons,List.mem_append,not_or,List.nodup_append]
  refine⟨⟨by omega,fun h=>by have:=n7 _ h;omega,fun h=>by have:=n10 _ h;omega⟩,⟨fun h=>by have:=k7' _ h;omega,fun h=>by have:=n10 _ h;omega⟩,q7,q10,fun a ha b hb e=>?_⟩
  have:=k7' a ha
  have:=n10 b hb
  omega
 ·intro o ho
  simp only[AV.obj,Cj,List.singleton_append,List.mem_cons,List.mem_append]at ho
  rcases ho with rfl|rfl|ho|ho
  ·omega
  ·omega
  ·have:=n7 o ho;omega
  ·have:=n10 o ho;omega
 ·have e4:Fr σ σ4 []:=(((f1.trans f2).trans f3).mono (F':=[σ2.length]) (by simp) |>.trans f4).mono (by simp;omega)
  have e6:Fr σ σ6 []:=((e4.trans f5).mono (F':=[σ2.length]) (by simp) |>.trans f6).mono (by simp;omega)
  have e7:Fr σ σ7 []:=(e6.mono (F':=[σ4.length]) (by simp) |>.trans f7).mono (by simp;omega)
  have e9:Fr σ σ9 []:=((e7.trans f8).mono (F':=[σ2.length]) (by simp) |>.trans f9).mono (by simp;omega)
  have e10:Fr σ σ10 []:=(e9.mono (F':=[σ7.length]) (by simp) |>.trans f10).mono (by simp;omega)
  exact(e10.mono (F':=[σ1.length]) (by simp) |>.trans f11).mono (by simp;omega)
end
def EP:GG:=⟨false,[],false,[],0,0⟩
def Jl:GG→List GC→Nat→GG×Nat×Int
 |g,[],i=>(g,i,0)
 |g,c::cs,i=>if(stepG g c).1≠0 then(EP,i,(stepG g c).1)else Jl (stepG g c).2 cs (i+1)
theorem Ed.AeL {σ:List Obj} {d gd:Nat} {vN vE:AV} {nb eb:Bool} {N:List EN} {E:List EE} {x y:Int} (h:Ed σ d gd vN vE nb eb N E x y) {o g:Nat} {c:Bool} {r:List AV} (ho:nth σ o=some (.arr g 4 true c [.agg (.sl false []::r)])):o∉d::(vN.obj++(vE.obj++Cj N E)):=by
 intro hq
 obtain⟨cn,hn1,_⟩:=h.hn
 obtain⟨ce,he1,_⟩:=h.he
 rcases List.mem_cons.1 hq with rfl|hq
 ·have:=h.box;rw[ho]at this
  simp only[Option.some.injEq,Obj.arr.injEq,List.cons.injEq,AV.agg.injEq]at this
  exact h.oN this.2.2.2.2.1.1.symm
 rcases List.mem_append.1 hq with hq|hq
 ·exact hn1.diff ho (by decide) hq
 rcases List.mem_append.1 hq with hq|hq
 ·exact he1.diff ho (by decide) hq
 rcases List.mem_append.1 hq with hq|hq<;>obtain⟨e,he,hm⟩:=List.mem_flatMap.1 hq
 ·rcases List.mem_append.1 hm with hm|hm
  ·exact(h.hN e he).1.diff ho (by decide) hm
  ·exact(h.hN e he).2.diff ho (by decide) hm
 ·exact Hd.diff (h.hE e he) ho (by decide) hm
section
variable {σ:List Obj} {ct:Nat}
set_option maxHeartbeats 4000000 in
theorem AlT {g:GG} {L:List GC} {nn:Bool} {d gd p4 u4:Nat} {Q:Aw→Env→Aq→Prop} (hL:L.length<2 ^ 62) (hok:∀c∈L,c.ok) (hg:EdG σ d gd g) (ha:Ef g)
 (h4:nth σ p4=some (.arr u4 4 true true [.agg [.sl false [],.sl false [],.int .i64 0,.int .i64 0]]))
 (hE:∀σ' c' i e,Jl g L 0=(EP,i,e)→nth σ' p4=some (.arr u4 4 true true [.agg [.sl false [],.sl false [],.int .i64 0,.int .i64 0]])→Q .ret [(4,.ref p4 u4 0 0),(5,.int .i64 (i:Nat)),(6,.int .i64 e)] ⟨σ',c'⟩)
 (hQ:∀σ' c' h tl,Jl g L 0=(h,L.length,0)→EdG σ' d gd h→Ef h→nth σ' p4=some (.arr u4 4 true true [.agg [.sl false [],.sl false [],.int .i64 0,.int .i64 0]])→Q (.exit 0) ([(1,.sl nn (vs GC.av L)),(4,.ref p4 u4 0 0),(8,.ref d gd 0 0),(21,.sl nn (vs GC.av L)),(22,.int .i64 L.length),(23,.int .i64 L.length)]++tl) ⟨σ',c'⟩):
 Run (Ac tab) (.loop l12_0_h l12_0_b) [(1,.sl nn (vs GC.av L)),(4,.ref p4 u4 0 0),(8,.ref d gd 0 0),(21,.sl nn (vs GC.av L)),(22,.int .i64 L.length),(23,.int .i64 0)] ⟨σ,ct⟩ Q:=by
 refine Af (fun m env s=>∃(i c':Nat) (σ':List Obj) (h:GG),m=L.length-i∧i≤L.length∧env=[(1,.sl nn (vs GC.av L)),(4,.ref p4 u4 0 0),(8,.ref d gd 0 0),(21,.sl nn (vs GC.av L)),(22,.int .i64 L.length),(23,.int .i64 i)]∧s=⟨σ',c'⟩∧EdG σ' d gd h∧Ef h∧Jl g L 0=Jl h (L.drop i) i∧nth σ' p4=some (.arr u4 4 true true [.agg [.sl false [],.sl false [],.int .i64 0,.int .i64 0]])) ?_ _ _ _ ⟨0,_,_,g,rfl,by omega,rfl,rfl,hg,ha,by rw[List.drop_zero],h4⟩
 rintro _ _ _ ⟨i,c',σ',h,rfl,hi,rfl,rfl,he,hh,hr,hp⟩
 refine⟨rfl,?_⟩
 by_cases hlt:i<L.length
 ·have As7:=hok _ (List.getElem_mem hlt)
  have hnt:nth (vs GC.av L) (Int.toNat (i:Int))=some (L[i]).av:=nV hlt
  have NM:nth (vs GC.av L) i=some (L[i]).av:=nV hlt
  rw[List.drop_eq_getElem_cons hlt,Jl]at hr
  obtain⟨c,hcc⟩:∃c,c=L[i]:=⟨_,rfl⟩
  rw[← hcc]at As7 hnt NM hr
  obtain⟨vN,vE,nb,eb,N,E,x,y,hEd,hgo⟩:=he
  subst hgo
  have hq:=hh.ask
  have hpl:=Dc hp
  obtain⟨op,z,fr,to,nm,v⟩:=c
  (conv=>whnf);repeat' (first|(refine Dh fun σ1 f1 h1 l1=>?_;have hp1:=f1.get hp (by simp);have hE1:=hEd.P8 f1;conv=>whnf)|(refine Au hnt ?_;conv=>whnf)|(refine Au NM ?_;conv=>whnf)|(rw [h1];conv=>whnf)|(refine F7 h1 fun σ2 f2 h2 l2=>?_;have hp2:=f2.get hp1 (by simp;omega);conv=>whnf)|(rw [h2];conv=>whnf)|refine kA ?_;conv=>whnf|(apply Br.mk<;>intro hc<;>first|exact hc.elim|conv=>whnf)|refine kB ?_)
  all_goals first|(exfalso;omega)|skip
  have f02:Fr σ' σ2 []:=((f1.mono (F':=[σ'.length]) (by simp)).trans f2).mono (by simp)
  have hE2:=hEd.P8 f02
  refine stepW (c:=⟨op,z,fr,to,nm,v⟩) hE2 hq As7 fun σ3 c3 hE3 f3=>?_
  have hp3:=f3.get hp2 (hE2.AeL hp2)
  have hh':=hh.step (c:=⟨op,z,fr,to,nm,v⟩)
  generalize hsg:stepG (LP nb eb N E x y) ⟨op,z,fr,to,nm,v⟩=sg at hr hE3 hh' ⊢
  obtain⟨e0,g0⟩:=sg
  dsimp only at hr hE3 hh' ⊢
  (conv=>whnf);repeat' (first|(rw [hp3];conv=>whnf)|(refine (Eb _ _).2 ?_;conv=>whnf)|(refine F7 hp3 fun σ4 f4 h4' l4=>?_;conv=>whnf)|refine kA ?_;conv=>whnf|(apply Br.mk<;>intro hc<;>first|exact hc.elim|conv=>whnf)|refine kB ?_)
  all_goals first
   |exact hE σ4 _ i e0 (by rw[hr,if_pos (by omega)]) h4'
   |exact again.mk ⟨_,by omega,i+1,_,σ3,g0,rfl,by omega,rfl,rfl,hE3,hh',by rw[hr,if_neg (by omega)],hp3⟩
 ·obtain rfl:i=L.length:=by omega
  (conv=>whnf);repeat' (first  |refine kA ?_;conv=>whnf|(apply Br.mk<;>intro hc<;>first|exact hc.elim|conv=>whnf)|refine kB ?_)
  all_goals first
   |(exact hQ _ _ h _ (by rw[hr,List.drop_length];rfl) he hh hp)
   |(exfalso;omega)
end
theorem Ll {f:Nat→Int} {i:Nat} (h:∀k,k<i→f k=0) (hi:f i=0):∀k,k<i+1→f k=0:=by
 intro k hk
 rcases Nat.lt_or_ge k i with h1|h1
 ·exact h k h1
 ·obtain rfl:k=i:=by omega
  exact hi
theorem AoG {n:GN} (h:n.ok):Ag (Ac tab) 76 [.sl n.ln (vs .str n.labels),.sl n.pn (vs GP.av n.props)] (· =.int .i64 (DV n.labels n.props)):=
 AhR h.2.1 h.2.2.2.1 h.2.2.2.2.1 h.2.2.2.2.2.2
theorem Ak7 {n:GE} (h:n.ok):Ag (Ac tab) 76 [.sl false [],.sl n.pn (vs GP.av n.props)] (· =.int .i64 (DV [] n.props)):=
 AhR (L:=[]) (by decide) (by simp) h.2.2.2.2.1 h.2.2.2.2.2.2
theorem AoH {g:GG} (hg:g.ok) (hf:Gs g) (hnx:Hy g) {c:Nat} {Q:Aw→Env→Aq→Prop}
 (hret:∀r s,AV.int .i64 r=AV.int .i64 (AZ g)→Q .ret [(2,.int .i64 r)] s)
 (hend:(∀ k,k<g.nodes.length→ER g.nodes g.BF k=0)→∀c i,Q (.exit 0) [(1,.ref 0 0 0 0),(38,.sl g.nn (vs GN.av g.nodes)),(39,.int .i64 g.nodes.length),(40,.int .i64 i),(41,.bool false)] ⟨[.arr 0 4 true true [g.av]],c⟩):
 Run (Ac tab) (.loop l35_0_h l35_0_b) [(1,.ref 0 0 0 0),(38,.sl g.nn (vs GN.av g.nodes)),(39,.int .i64 g.nodes.length),(40,.int .i64 0)] ⟨[.arr 0 4 true true [g.av]],c⟩ Q:=by
 obtain⟨g1,g2,g3,g4,g5,g6,g7,g8⟩:=hg
 unfold Ln at g1 g4
 have hf':g.nodes.length≤2000:=hf.1
 refine Af (fun m env s=>∃i:Nat,m=g.nodes.length-i∧env=[(1,.ref 0 0 0 0),(38,.sl g.nn (vs GN.av g.nodes)),(39,.int .i64 g.nodes.length),(40,.int .i64 i)]∧(∃ c,s=⟨[.arr 0 4 true true [g.av]],c⟩)∧∀k,k<i→ER g.nodes g.BF k=0) ?_ _ _ _ ⟨0,rfl,by simp,⟨_,rfl⟩,fun k h=>absurd h (by omega)⟩
 rintro _ _ _ ⟨i,rfl,rfl,⟨c,rfl⟩,hx⟩
 refine⟨rfl,?_⟩
 have hat:∀h:i<g.nodes.length,(g.nodes[i]).ok:=fun h=>g3 _ (List.getElem_mem _)
 (conv=>whnf);repeat' (first|(apply Au;(· exact nVz (i-1) (by omega) (by omega));conv=>whnf)|(refine Aa (AoG (n:=g.nodes[i]) (hat (by omega))) ?_;rintro _ rfl;conv=>whnf)|(refine hret _ _ ?_)|(refine hend (fun k hk=>hx k (by omega)) _ _)|refine kA ?_;conv=>whnf|(apply Br.mk<;>intro hc<;>first|exact hc.elim|conv=>whnf)|refine kB ?_)
 all_goals first
  |exact again.mk ⟨_,by omega,i+1,rfl,rfl,⟨_,rfl⟩,Ll hx ((AaB (by omega) (fun h=>by first|assumption|omega) (by omega)).trans hc)⟩
  |exact checkN hf hnx (by omega) hx (AcT (by omega) (by omega) (by assumption)) (by decide)
  |exact checkN hf hnx (by omega) hx (node1 (by omega) (fun h=>by first|assumption|omega) (by omega)) (by decide)
  |exact checkN hf hnx (by omega) hx (AaB (by omega) (fun h=>by first|assumption|omega) (by omega)) hc
set_option maxHeartbeats 1000000 in
theorem AoI {g:GG} (hg:g.ok) (hf:Gs g) (hnx:Hy g) (hN:∀k,k<g.nodes.length→ER g.nodes g.BF k=0) {c:Nat} {Q:Aw→Env→Aq→Prop}
 (hret:∀r s,AV.int .i64 r=AV.int .i64 (AZ g)→Q .ret [(2,.int .i64 r)] s)
 (hend:(∀ k,k<g.edges.length→EX g.nodes g.edges g.BA k=0)→∀c i,Q (.exit 2) [(1,.ref 0 0 0 0),(79,.sl g.en (vs GE.av g.edges)),(80,.int .i64 g.edges.length),(81,.int .i64 i),(82,.bool false)] ⟨[.arr 0 4 true true [g.av]],c⟩):
 Run (Ac tab) (.loop l35_1_h l35_1_b) [(1,.ref 0 0 0 0),(79,.sl g.en (vs GE.av g.edges)),(80,.int .i64 g.edges.length),(81,.int .i64 0)] ⟨[.arr 0 4 true true [g.av]],c⟩ Q:=by
 obtain⟨g1,g2,g3,g4,g5,g6,g7,g8⟩:=hg
 unfold Ln at g1 g4
 have hf':g.edges.length≤4000:=hf.2
 have hI:=AcU hN
 have hl:g.nodes.length<2^62:=by have:=hf.1;omega
 refine Af (fun m env s=>∃i:Nat,m=g.edges.length-i∧env=[(1,.ref 0 0 0 0),(79,.sl g.en (vs GE.av g.edges)),(80,.int .i64 g.edges.length),(81,.int .i64 i)]∧(∃ c,s=⟨[.arr 0 4 true true [g.av]],c⟩)∧∀k,k<i→EX g.nodes g.edges g.BA k=0) ?_ _ _ _ ⟨0,rfl,by simp,⟨_,rfl⟩,fun k h=>absurd h (by omega)⟩
 rintro _ _ _ ⟨i,rfl,rfl,⟨c,rfl⟩,hx⟩
 refine⟨rfl,?_⟩
 have hat:∀h:i<g.edges.length,(g.edges[i]).ok:=fun h=>g6 _ (List.getElem_mem _)
 (conv=>whnf);repeat' (first|(apply Au;(· exact nVz (i-1) (by omega) (by omega));conv=>whnf)|(refine Bo (Au8 hl hI) (fun hc=>?_) (fun hc=>?_)<;>conv=>whnf)|(refine Bo (name1 (s:=(g.edges[i]).ty) (hat (by omega)).2.2.2.1) (fun hnm=>?_) (fun hnm=>?_)<;>conv=>whnf)|(refine Aa (Ak7 (n:=g.edges[i]) (hat (by omega))) ?_;rintro _ rfl;conv=>whnf)|(refine hret _ _ ?_)|(refine hend (fun k hk=>hx k (by omega)) _ _)|refine kA ?_;conv=>whnf|(apply Br.mk<;>intro hc<;>first|exact hc.elim|conv=>whnf)|refine kB ?_)
 all_goals first
  |exact again.mk ⟨_,by omega,i+1,rfl,rfl,⟨_,rfl⟩,Ll hx ((AaC (by omega) (fun h=>by first|assumption|omega) (by omega) ⟨by assumption,by assumption⟩ hnm).trans hc)⟩
  |exact PV hf hnx hN (by omega) hx (AcV (by omega) (by omega) (by assumption)) (by decide)
  |exact PV hf hnx hN (by omega) hx (AhS (by omega) (fun h=>by first|assumption|omega) (by omega)) (by decide)
  |exact PV hf hnx hN (by omega) hx (AcW (by omega) (fun h=>by first|assumption|omega) (by omega) (fun h=>by first|exact absurd h.1 (by assumption)|exact absurd h.2 (by assumption))) (by decide)
  |exact PV hf hnx hN (by omega) hx (AhT (by omega) (fun h=>by first|assumption|omega) (by omega) ⟨by assumption,by assumption⟩ hnm) (by decide)
  |exact PV hf hnx hN (by omega) hx (AaC (by omega) (fun h=>by first|assumption|omega) (by omega) ⟨by assumption,by assumption⟩ hnm) hc
theorem VI {g:GG} (hg:g.ok):Ag (Ac tab) 35 [g.av] (· =.int .i64 (AZ g)):=by
 have hg0:=hg
 obtain⟨g1,g2,g3,g4,g5,g6,g7,g8⟩:=hg
 unfold Ln at g1 g4
 refine Ad rfl rfl ?_
 (conv=>whnf);repeat' (first|refine kA ?_;conv=>whnf|(apply Br.mk<;>intro hc<;>first|exact hc.elim|conv=>whnf)  |refine kB ?_)
 all_goals first|exact AhU (by unfold Gs;omega)|exact AhV (by unfold Gs;omega) (by unfold Hy;omega)|skip
 have hf:Gs g:=by unfold Gs;omega
 have hnx:Hy g:=by unfold Hy;omega
 refine AoH hg0 hf hnx (fun r s h=>by(conv=>whnf);(apply Ae;(· rfl);conv=>whnf);(apply Ae;(· rfl);conv=>whnf);exact h) (fun hN c i=>?_)
 (conv=>whnf);repeat' (first|refine kA ?_;conv=>whnf|(apply Br.mk<;>intro hc<;>first|exact hc.elim|conv=>whnf)  |refine kB ?_)
 refine AoI hg0 hf hnx hN (fun r s h=>by(conv=>whnf);(apply Ae;(· rfl);conv=>whnf);(apply Ae;(· rfl);conv=>whnf);exact h) (fun hE c i=>?_)
 (conv=>whnf);repeat' (first|refine kA ?_;conv=>whnf|(apply Br.mk<;>intro hc<;>first|exact hc.elim|conv=>whnf)  |refine kB ?_)
 exact Ack hf hnx hN hE
theorem Aam {α κ:Type} {lt:κ→κ→Bool} {key:α→κ} (hs:Ov lt) {l:List α} (h:∀j (hj:j+1<l.length),lt (key l[j]) (key l[j+1])=true):Inc lt key l:=by
 refine List.pairwise_iff_getElem.2 fun i j hi hj hij=>?_
 obtain⟨d,rfl⟩:∃d,j=i+1+d:=⟨j-(i+1),by omega⟩
 clear hij
 induction d with
 |zero=>exact h i hj
 |succ d ih=>exact hs.tr _ _ _ (ih (by omega)) (h (i+1+d) (by omega))
theorem Y3 {l:List (List UInt8)} (h:rises l):Inc Op.bytesLess id l:=by
 refine Aam Ai fun j hj=>?_
 have:=h j hj
 simp only[Bool.or_eq_false_iff,beq_eq_false_iff_ne]at this
 cases hb:Op.bytesLess (id l[j]) (id l[j+1])with
 |true=>rfl
 |false=>exact absurd (Ai.tot _ _ this.1 hb) this.2
theorem Sv {L:List (List UInt8)} {P:List GP} (h:DV L P=0):L.length≤8∧P.length≤16∧rises L∧rises (keysOf P)∧allNames L∧allNames (keysOf P)∧allPlain P:=by
 by_cases h1:8<L.length∨16<P.length
 ·have:=PD h1;rw[h]at this;simp at this
 by_cases h2:allNames L∧allNames (keysOf P)
 case neg=>have:=PE h1 h2;rw[h]at this;simp at this
 by_cases h3:rises L∧rises (keysOf P)
 case neg=>have:=Md h1 h2 h3;rw[h]at this;simp at this
 by_cases h4:allPlain P
 case neg=>have:=Vh h1 h2 h3 h4;rw[h]at this;simp at this
 exact⟨by omega,by omega,h3.1,h3.2,h2.1,h2.2,h4⟩
theorem Ab0 {P:List GP} (h:rises (keysOf P)):Inc Op.bytesLess GP.key P:=by
 have:=Y3 h
 unfold Inc keysOf at this
 rw[List.pairwise_map]at this
 exact this
theorem Td {g:GG} (h:AZ g=0):Ef g:=by
 obtain⟨hf,hn,hN,hE⟩:=LU h
 refine⟨hf.1,hf.2,Aam Ak fun j hj=>?_,Aam Ak fun j hj=>?_,fun n hm=>?_,fun n hm=>?_,?_,?_⟩
 ·have:=(KP hj (hN _ hj)).1 (by omega)
  simpa[BX]using this
 ·have:=(MZ hj (hE _ hj)).1 (by omega)
  simpa[BX]using this
 ·obtain⟨i,hi,rfl⟩:=List.getElem_of_mem hm
  obtain⟨a1,a2,a3,a4,_⟩:=Sv (KP hi (hN i hi)).2.2.2
  exact⟨Y3 a3,a1,Ab0 a4,a2⟩
 ·obtain⟨i,hi,rfl⟩:=List.getElem_of_mem hm
  obtain⟨a1,a2,a3,a4,_⟩:=Sv (MZ hi (hE i hi)).2.2.2.2.2.2
  exact⟨Ab0 a4,a2⟩
 ·have:=hn.1;have:=hn.2.1;omega
 ·have:=hn.2.2.1;have:=hn.2.2.2;omega
theorem ApE {g:GG} (hg:g.ok) (h:AZ g=0):Few g:=by
 have ha:=Td h
 exact⟨hg,ha.lN,ha.lE,fun n hn=>⟨(ha.aN n hn).lL,(ha.aN n hn).lP⟩,fun n hn=>(ha.aE n hn).lP⟩
noncomputable def AX (g:GG) (L:List GC):GG×Nat×Int:=if AZ g≠0 then(EP,0,AZ g)else Jl g L 0
theorem Cp.ed {σ0 σ σ':List Obj} {oN uN nN oE uE nE gd:Nat} {g:GG} {N:List EN} {E:List EE} (h:Cp σ0 σ (.own oN uN 0 nN) (.own oE uE 0 nE) g N E) (hf:Fr σ σ' []) (hb:nth σ' σ.length=some (.arr gd 4 true false [.agg [.own oN uN 0 nN,.own oE uE 0 nE,.int .i64 g.BF,.int .i64 g.BA]])):EdG σ' σ.length gd g:=by
 obtain⟨cn,hn1,hn2⟩:=h.hn
 obtain⟨ce,he1,he2⟩:=h.he
 refine⟨_,_,g.nn,g.en,N,E,g.BF,g.BA,⟨hb,⟨cn,hn1.keep fun o ho=>hf.eq o (hn1.lt o ho) (by simp),hn2⟩,⟨ce,he1.keep fun o ho=>hf.eq o (he1.lt o ho) (by simp),he2⟩,
  fun e he=>(h.hN e he).keep fun o ho=>hf.eq o ((h.hN e he).lt o ho) (by simp),fun e he=>(h.hE e he).keep fun o ho=>hf.eq o ((h.hE e he).lt o ho) (by simp),
  List.nodup_cons.2 ⟨fun hm=>?_,h.nd⟩,by simp,by simp⟩,?_⟩
 ·have hlt:σ.length<σ.length:=by
   rcases List.mem_append.1 hm with hm|hm
   ·exact hn1.lt _ hm
   rcases List.mem_append.1 hm with hm|hm
   ·exact he1.lt _ hm
   rcases List.mem_append.1 hm with hm|hm<;>obtain⟨e,he,hm⟩:=List.mem_flatMap.1 hm
   ·exact(h.hN e he).lt _ hm
   ·exact(h.hE e he).lt _ hm
  omega
 ·obtain⟨a,b,c,d,e,f⟩:=g
  have h1:=h.mN
  have h2:=h.mE
  simp only[LP]at*
  rw[h1,h2]
theorem ApF {σ:List Obj} {o g c':Nat} {nn cl:Bool} {a b c d x y:AV} (ha:a.cells.length=1) (hb:b.cells.length=1) (h:nth σ o=some (.arr g 4 nn cl [.agg [a,b,c,d]])):FP [(4,.ref o g 0 0),(5,x),(6,y)] ⟨σ,c'⟩ a12.results=some [.agg [a,b,c,d],x,y]:=by
 show(match I7 [(4,.ref o g 0 0),(5,x),(6,y)] ⟨σ,c'⟩ (.cell 4 (some 4)),FP [(4,.ref o g 0 0),(5,x),(6,y)] ⟨σ,c'⟩ [.tmp 5,.tmp 6]with
  |some v,some vs=>some (v::vs)
  |_,_=>none)=_
 have e:I7 [(4,.ref o g 0 0),(5,x),(6,y)] ⟨σ,c'⟩ (.cell 4 (some 4))=some (.agg [a,b,c,d]):=by
  simp[I7,Env.get,h,nth,AV.cells,loadCells]
 rw[e]
 rfl
theorem Ajg {AP:Nat→Option Jc} {f:Nat} {fn:Jr} {args:List AV} {R:AV→Prop} (hf:AP f=some (.code fn)) (hl:args.length=fn.np) (h:vC AP fn.body (params args 0) ⟨[],0⟩ (Aa0 fn fun out s'=>∃r v,out=.ok r∧snap s'.σ F5 r=some v∧R v)):Ag AP f args R:=by
 obtain⟨N,out,s',h1,r,v,rfl,h3,h4⟩:=Xp hf hl (KH h)
 exact⟨v,⟨N,by simp only[Fb,h1];exact h3⟩,h4⟩
theorem Rd.BG {σ:List Obj} {D:Nat} {xs ys:List AV} (h:MJ σ D xs ys):Rd σ (D+1) (.BG xs) (.BG ys):=fun m hm=>by
 obtain⟨m,rfl⟩:∃m',m=m'+1:=⟨m-1,by omega⟩
 simp only[snap,h m (by omega),Option.map_some]
theorem Rd.sl {σ:List Obj} {b:Bool} {xs:List AV}:Rd σ 1 (.sl b xs) (.sl b xs):=fun m hm=>by
 obtain⟨m,rfl⟩:∃m',m=m'+1:=⟨m-1,by omega⟩
 rfl
theorem Aan {σ:List Obj}:Rd σ 10 (.agg [.sl false [],.sl false [],.int .i64 0,.int .i64 0]) EP.av:=
 (Rd.agg (MJ.cons (Rd.sl.mono (D':=5) (by omega)) (MJ.cons (Rd.sl.mono (D':=4) (by omega)) (MJ.cons (Rd.int.mono (D':=3) (by omega)) (MJ.cons (Rd.int.mono (D':=2) (by omega)) (MJ.nil.mono (by omega))))))).mono (by omega)
theorem rd3 {σ:List Obj} {D:Nat} {a b:AV} {x y:Int} (h:Rd σ D a b) (hD:D≤999000):snap σ F5 (.BG [a,.int .i64 x,.int .i64 y])=some (.BG [b,.int .i64 x,.int .i64 y]):=
 (Rd.BG (MJ.cons (h.mono (D':=D+3) (by omega)) (MJ.cons (Rd.int.mono (D':=D+2) (by omega)) (MJ.cons (Rd.int.mono (D':=D+1) (by omega)) (MJ.nil.mono (by omega)))))) F5 (by unfold F5;omega)
theorem Hd.Anb {α:Type} {f:α→AV} {es:Nat} {σ:List Obj} {v:AV} {b c:Bool} {l:List α} (h:Hd f es σ v b l c) (h0:v≠.sl false []):∃o g n,v=.own o g 0 n:=by
 rcases h with⟨_,_,rfl|⟨o',g,es',rfl,h⟩⟩|⟨_,o',g,rfl,h⟩
 ·exact absurd rfl h0
 ·exact⟨_,_,_,rfl⟩
 ·exact⟨_,_,_,rfl⟩
set_option maxHeartbeats 4000000 in
theorem J5 {g:GG} {L:List GC} {nn:Bool} (hg:g.ok) (hL:L.length<2 ^ 62) (hok:∀c∈L,c.ok):
 Ag (Ac tab) 12 [g.av,.sl nn (vs GC.av L)] (· =.BG [(AX g L).1.av,.int .i64 (AX g L).2.1,.int .i64 (AX g L).2.2]):=by
 have hck:=VI hg
 refine Ajg rfl rfl ?_
 show vC _ _ [(0,.agg [.sl g.nn (vs GN.av g.nodes),.sl g.en (vs GE.av g.edges),.int .i64 g.BF,.int .i64 g.BA]),(1,.sl nn (vs GC.av L))] _ _
 by_cases h0:AZ g=0
 ·have ha:=Td h0
  have hfw:=ApE hg h0
  have hlL:(vs GC.av L).length=L.length:=lV _
  rw[h0]at hck
  (conv=>whnf);repeat' (first|(refine Aa hck ?_;rintro _ rfl;conv=>whnf)|(refine Akm hfw fun σ' c' oN uN nN oE uE nE N E hcp=>?_;conv=>whnf)|refine kA ?_;conv=>whnf|(apply Br.mk<;>intro hc<;>first|exact hc.elim|conv=>whnf)|refine kB ?_)
  have hz:=hcp.fr.get (o:=1) rfl (by simp)
  refine Dh fun σ1 f1 h1 l1=>?_
  have hz1:=f1.get hz (by simp)
  have hzl:=Dc hz
  (conv=>whnf);repeat' (first|(rw [h1];conv=>whnf)|(refine (Eb _ _).2 ?_;conv=>whnf)|(refine F7 h1 fun σ2 f2 h2 l2=>?_;conv=>whnf)|refine kA ?_;conv=>whnf|(apply Br.mk<;>intro hc<;>first|exact hc.elim|conv=>whnf)|refine kB ?_)
  have f02:Fr σ' σ2 []:=((f1.mono (F':=[σ'.length]) (by simp)).trans f2).mono (by simp)
  have hz2:=f02.get hz (by simp)
  have hEd:=hcp.ed f02 h2
  refine AlT hL hok hEd ha hz2 (fun σ3 c3 i e hr hz3=>?_) (fun σ3 c3 h tl hr hE3 ha3 hz3=>?_)
  ·have hR:AX g L=(EP,i,e):=by unfold AX;rw[if_neg (fun h=>h h0),hr]
   rw[hR]
   conv=>whnf
   exact⟨_,ApF rfl rfl hz3,_,_,rfl,rd3 Aan (by omega),rfl⟩
  ·have hR:AX g L=(h,L.length,0):=by unfold AX;rw[if_neg (fun h=>h h0),hr]
   rw[hR]
   obtain⟨vN,vE,nb,eb,N3,E3,x,y,Adj,hgo⟩:=hE3
   obtain⟨cn,hn1,_⟩:=Adj.hn
   obtain⟨ce,he1,_⟩:=Adj.he
   obtain⟨o1,u1,k1,rfl⟩:=hn1.Anb Adj.oN
   obtain⟨o2,u2,k2,rfl⟩:=he1.Anb Adj.oE
   have hb3:=Adj.box
   have hnz:=Adj.AeL hz3
   subst hgo
   have hq:=ha3.ask
   have hlN:=hq.lN
   have hlE:=hq.lE
   (conv=>whnf);repeat' (first|(rw [hb3];conv=>whnf)|(rw [hz3];conv=>whnf)|(refine (Eb _ _).2 ?_;conv=>whnf)|(refine F7 hz3 fun σ4 f4 h4 l4=>?_;conv=>whnf)|refine kA ?_;conv=>whnf|(apply Br.mk<;>intro hc<;>first|exact hc.elim|conv=>whnf)|refine kB ?_)
   have hE4:=Adj.fr f4 (fun o ho hm=>hnz (by simp only[List.mem_singleton]at hm;subst hm;exact ho))
   exact⟨_,ApF rfl rfl h4,_,_,rfl,rd3 hE4.snG (by omega),rfl⟩
 ·have hR:AX g L=(EP,0,AZ g):=by unfold AX;rw[if_pos h0]
  rw[hR]
  (conv=>whnf);repeat' (first|(refine Aa hck ?_;rintro _ rfl;conv=>whnf)|refine kA ?_;conv=>whnf|(apply Br.mk<;>intro hc<;>first|exact hc.elim|conv=>whnf)|refine kB ?_)
  all_goals first|(exfalso;omega)|exact⟨_,ApF rfl rfl rfl,_,_,rfl,rd3 Aan (by omega),rfl⟩|exact⟨_,_,rfl,rd3 Aan (by omega),rfl⟩
end AI
end Go.Proofs.YthnehejdkajjhaaGreatDoor
