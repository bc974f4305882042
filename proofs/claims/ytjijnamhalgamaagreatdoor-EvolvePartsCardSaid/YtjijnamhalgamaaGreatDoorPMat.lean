/- A graph copied, for an editor. A graph copied, for an editor: the whole. change.ApplyAll, its loop. A checked graph is one that an editor may edit; change.ApplyAll. Lists in the order of a key, looked up by key: plain. The order of values: plain. Scripts between graphs: what they are, in plain lists. The order of values: the program's walks. -/
import Derived.Test.YtjijnamhalgamaaGreatDoorPMas
import Derived.Test.YtjijnamhalgamaaGreatDoorPMaq
import Derived.Test.YtjijnamhalgamaaGreatDoorPMaj
import Derived.Test.YtjijnamhalgamaaGreatDoorBMaa
import Derived.Test.YtjijnamhalgamaaGreatDoorPMae
import Derived.Test.YtjijnamhalgamaaGreatDoorPMah
import Derived.Test.YtjijnamhalgamaaGreatDoorPMaf
import Derived.Test.YtjijnamhalgamaaGreatDoorPMam
set_option linter.unusedVariables false
set_option maxRecDepth 4000
namespace Go.Proofs.YtjijnamhalgamaaGreatDoor
namespace AI
def enF (n:GN):EN:=⟨n,.sl n.ln (vs .str n.labels),.sl n.pn (vs GP.av n.props)⟩
def eeF (e:GE):EE:=⟨e,.sl e.pn (vs GP.av e.props)⟩
theorem set_mid {α β:Type} {L:List β} {l:List α} {f:α→β} {i:Nat} {x:β} (hL:L.length=i) (hi:i<l.length):(L++(l.drop i).map f).set i x=(L++[x])++(l.drop (i+1)).map f:=by
 subst hL
 rw[List.drop_eq_getElem_cons hi,List.map_cons,List.set_append_right _ _ (Nat.le_refl _),Nat.sub_self,List.set_cons_zero,List.append_assoc]
 rfl
theorem Abt {α β:Type} {L:List β} {l:List α} {f:α→β} {i:Nat} {fv:β→AV} (hL:L.length=i) (hi:i<l.length):nth (vs fv (L++(l.drop i).map f)) i=some (fv (f l[i])):=by
 subst hL
 rw[List.drop_eq_getElem_cons hi,AU,vs,List.getElem?_map,List.getElem?_append_right (Nat.le_refl _),Nat.sub_self]
 rfl
theorem AfA {α:Type} {f:α→AV} {l:List α} {i:Nat} {a:α}:(vs f l).set i (f a)=vs f (l.set i a):=by simp[vs,List.map_set]
theorem AfB {α:Type} {f:α→AV} {es es':Nat} {σ:List Obj} {p g:Nat} {nn:Bool} {l:List α} (h:nth σ p=some (.arr g es' nn true (vs f l))) (h1:nn=true→es'=es) (h2:nn=false→l=[]):Hd f es σ (.own p g 0 l.length) nn l true:=by
 cases nn with
 |false=>obtain rfl:=h2 rfl;exact .inl ⟨rfl,rfl,.inr ⟨_,_,_,rfl,h⟩⟩
 |true=>obtain rfl:=h1 rfl;exact .inr ⟨rfl,_,_,rfl,h⟩
theorem Yw {o g i n:Nat}:Hw (.own o g i n) (.own o g i n)=true:=by simp[Hw]
section
variable {σ:List Obj} {ct:Nat}
set_option maxHeartbeats 4000000 in
theorem cpN {g:GG} {p1 p2 p3 u1 u2 u3 o u:Nat} {es:Nat} {Q:AQ→Env→Am→Prop} (hl:g.nodes.length≤2000) (hok:∀n∈g.nodes,n.ok∧n.labels.length≤8∧n.props.length≤16) (hnn:g.nn=false→g.nodes=[]) (hes:g.nn=true→es=3)
 (h3:nth σ p3=some (.arr u3 4 true false [.agg [.own o u 0 g.nodes.length,.sl g.en (vs GE.av g.edges),.int .i64 g.Dc,.int .i64 g.Dw]]))
 (ho:nth σ o=some (.arr u es g.nn true (vs GN.av g.nodes))) (h3o:p3≠o)
 (hQ:∀σ' c' c1 L tl,Fr σ σ' [o]→nth σ' o=some (.arr u es g.nn c1 (vs EN.av L))→L.map EN.n=g.nodes→(∀ e∈L,e.Ok σ')→(∀ q∈L.flatMap EN.objs,σ.length≤q)→(L.flatMap EN.objs).Nodup→(c1=true↔L=[])→Q (.exit 0) ([(1,.ref p1 u1 0 0),(2,.ref p2 u2 0 0),(3,.ref p3 u3 0 0),(14,.own o u 0 g.nodes.length),(15,.int .i64 g.nodes.length),(16,.int .i64 g.nodes.length)]++tl) ⟨σ',c'⟩):
 Run (Ad tab) (.loop l59_0_h l59_0_b) [(1,.ref p1 u1 0 0),(2,.ref p2 u2 0 0),(3,.ref p3 u3 0 0),(14,.own o u 0 g.nodes.length),(15,.int .i64 g.nodes.length),(16,.int .i64 0)] ⟨σ,ct⟩ Q:=by
 refine Ag (fun m env s=>∃(i c':Nat) (σ':List Obj) (L:List EN) (c1:Bool),m=g.nodes.length-i∧i≤g.nodes.length∧env=[(1,.ref p1 u1 0 0),(2,.ref p2 u2 0 0),(3,.ref p3 u3 0 0),(14,.own o u 0 g.nodes.length),(15,.int .i64 g.nodes.length),(16,.int .i64 i)]∧s=⟨σ',c'⟩∧Fr σ σ' [o]∧nth σ' o=some (.arr u es g.nn c1 (vs EN.av (L++(g.nodes.drop i).map enF)))∧L.length=i∧L.map EN.n=g.nodes.take i∧(∀ e∈L,e.Ok σ')∧(∀ q∈L.flatMap EN.objs,σ.length≤q)∧(L.flatMap EN.objs).Nodup∧(c1=true↔L=[])) ?_ _ _ _ ⟨0,_,_,[],true,rfl,by omega,rfl,rfl,Fr.refl,?_,rfl,rfl,by simp,by simp,by simp,by simp⟩
 rotate_left
 ·rw[ho,List.nil_append,List.drop_zero,vs,vs,List.map_map];rfl
 rintro _ _ _ ⟨i,c',σ',L,c1,rfl,hi,rfl,rfl,f0,ho0,hL,hm,Xf,hLn,hLd,hc1⟩
 refine⟨rfl,?_⟩
 by_cases hlt:i<g.nodes.length
 ·have Aaa:g.nn=true:=by
   cases hb:g.nn with
   |true=>rfl
   |false=>rw[hnn hb]at hlt;simp at hlt
  obtain rfl:=hes Aaa
  rw[Aaa]at ho0
  have hmem:g.nodes[i]∈g.nodes:=List.getElem_mem hlt
  obtain⟨hno,hlb,hpp⟩:=hok _ hmem
  have h30:=f0.get h3 (by simpa using h3o)
  have g0:=Abt (fv:=EN.av) (f:=enF) hL hlt
  have hol:=BU ho0
  have hos:=BU ho
  have hp3:=BU h30
  obtain⟨n,hn⟩:∃n,n=g.nodes[i]:=⟨_,rfl⟩
  rw[← hn]at g0 hno hlb hpp
  have hln:=hno.2.2.1
  have hpn:=hno.2.2.2.2.2.1
  (conv=>whnf);repeat' (first|(refine need.mk Yw ?_;conv=>whnf)|(refine BX fun σ1 f1 h1 l1=>?_;have ho1:=f1.get ho0 (by simp);have h31:=f1.get h30 (by simp);conv=>whnf)|(rw [ho0];conv=>whnf)|(rw [h1];conv=>whnf)|(refine Aj g0 ?_;conv=>whnf)|(refine Aj (GK g0) ?_;conv=>whnf)|(refine EF h1 fun σ2 f2 h2 l2=>?_;have ho2:=f2.get ho1 (by simp;omega);have h32:=f2.get h31 (by simp;omega);conv=>whnf)|(rw [h2];conv=>whnf)|(rw [h32];conv=>whnf)|(rw [ho2];conv=>whnf)|(refine Aew hln rfl Ahn (Aho (by omega)) fun σ3 e3 f3 a3 b3 l3=>?_;have ho3:=f3.get ho2 (by simp);have h33:=f3.get h32 (by simp);have h23:=f3.get h2 (by simp);conv=>whnf)|(rw [h33];conv=>whnf)|(rw [ho3];conv=>whnf)|(refine (Dl _ _).2 ?_;conv=>whnf)|(refine EF ho3 fun σ4 f4 h4 l4=>?_;have h34:=f4.get h33 (by simpa using h3o);have h24:=f4.get h23 (by simp;omega);conv=>whnf)|(rw [h34];conv=>whnf)|(rw [h24];conv=>whnf)|(refine Aew hpn rfl Aa2 (Aa3 (by omega)) fun σ5 e5 f5 a5 b5 l5=>?_;have ho5:=f5.get h4 (by simp);have h35:=f5.get h34 (by simp);conv=>whnf)|(rw [h35];conv=>whnf)|(rw [ho5];conv=>whnf)|(refine EF ho5 fun σ6 f6 h6 l6=>?_;have h36:=f6.get h35 (by simpa using h3o);conv=>whnf)|(rw [h36];conv=>whnf)|(refine kA ?_;conv=>whnf)|(refine Br.mk (fun hc=>?_) fun hc=>?_<;>first|exact hc.elim|conv=>whnf)|(refine kB ?_))
  all_goals first
   |(exfalso;omega)
   |skip
  all_goals
   dsimp only at l1 l2 l3 l4 l5 l6
   have f06:Fr σ' σ6 [o]:=((((((f1.mono (F':=[o,σ'.length]) (by simp)).trans (f2.mono (by simp))).trans (f3.mono (by simp))).trans (f4.mono (by simp))).trans (f5.mono (by simp))).trans (f6.mono (by simp))).mono (by simp)
   have k3:=f6.get (f5.get (f4.get a3 (by simp;omega)) (by simp)) (by simp;omega)
   have k5:=f6.get a5 (by simp;omega)
   have hlo:∀q∈L.flatMap EN.objs,q<σ'.length:=fun q hq=>by
        obtain⟨e,he,hq⟩:=List.mem_flatMap.1 hq
        exact(Xf e he).lt q hq
   refine again.mk ⟨_,by omega,i+1,_,σ6,L++[⟨n,.own σ2.length (c'+1) 0 n.labels.length,.own σ4.length (c'+1+1) 0 n.props.length⟩],false,rfl,by omega,rfl,rfl,f0.trans f06,?_,by simp[hL],?_,fun e he=>?_,fun q hq=>?_,?_,by simp⟩
   ·rw[Aaa,←set_mid hL hlt,←AfA,h6,List.set_set];rfl
   ·rw[List.map_append,hm,List.take_succ_eq_append_getElem hlt,hn];rfl
   ·rcases List.mem_append.1 he with he|he
    ·exact(Xf e he).keep fun q hq=>f06.eq q ((Xf e he).lt q hq) (by have:=hLn q (List.mem_flatMap.2 ⟨e,he,hq⟩);simp;omega)
    ·obtain rfl:=List.mem_singleton.1 he
     exact⟨AfB k3 b3 hln,AfB k5 b5 hpn⟩
   ·rw[List.flatMap_append]at hq
    rcases List.mem_append.1 hq with hq|hq
    ·exact hLn q hq
    ·have:=f0.len
     simp only[List.flatMap_cons,List.flatMap_nil,EN.objs,AV.obj,List.append_nil,List.mem_append,List.mem_singleton]at hq
     omega
   ·rw[List.flatMap_append]
    refine List.nodup_append.2 ⟨hLd,?_,fun a ha b hb e=>?_⟩
    ·simp[EN.objs,AV.obj];omega
    ·have:=hlo a ha
     simp only[List.flatMap_cons,List.flatMap_nil,EN.objs,AV.obj,List.append_nil,List.mem_append,List.mem_singleton]at hb
     omega
 ·obtain rfl:i=g.nodes.length:=by omega
  (conv=>whnf);repeat' (first  |(refine kA ?_;conv=>whnf)|(refine Br.mk (fun hc=>?_) fun hc=>?_<;>first|exact hc.elim|conv=>whnf)|(refine kB ?_))
  all_goals first
   |exact hQ _ _ c1 L _ f0 (by rw[ho0];simp) (by rw[hm,List.take_length]) Xf hLn hLd hc1
   |(exfalso;omega)
set_option maxHeartbeats 4000000 in
theorem cpE {g:GG} {oN uN nN p2 p3 u2 u3 o u:Nat} {es:Nat} {Q:AQ→Env→Am→Prop} (hl:g.edges.length≤4000) (hok:∀n∈g.edges,n.ok∧n.props.length≤16) (hnn:g.en=false→g.edges=[]) (hes:g.en=true→es=5)
 (h3:nth σ p3=some (.arr u3 4 true false [.agg [.own oN uN 0 nN,.own o u 0 g.edges.length,.int .i64 g.Dc,.int .i64 g.Dw]]))
 (ho:nth σ o=some (.arr u es g.en true (vs GE.av g.edges))) (h3o:p3≠o)
 (hQ:∀σ' c' c1 L tl,Fr σ σ' [o]→nth σ' o=some (.arr u es g.en c1 (vs EE.av L))→L.map EE.e=g.edges→(∀ e∈L,e.Ok σ')→(∀ q∈L.flatMap EE.objs,σ.length≤q)→(L.flatMap EE.objs).Nodup→(c1=true↔L=[])→Q (.exit 2) ([(2,.ref p2 u2 0 0),(3,.ref p3 u3 0 0),(43,.own o u 0 g.edges.length),(44,.int .i64 g.edges.length),(45,.int .i64 g.edges.length)]++tl) ⟨σ',c'⟩):
 Run (Ad tab) (.loop l59_1_h l59_1_b) [(2,.ref p2 u2 0 0),(3,.ref p3 u3 0 0),(43,.own o u 0 g.edges.length),(44,.int .i64 g.edges.length),(45,.int .i64 0)] ⟨σ,ct⟩ Q:=by
 refine Ag (fun m env s=>∃(i c':Nat) (σ':List Obj) (L:List EE) (c1:Bool),m=g.edges.length-i∧i≤g.edges.length∧env=[(2,.ref p2 u2 0 0),(3,.ref p3 u3 0 0),(43,.own o u 0 g.edges.length),(44,.int .i64 g.edges.length),(45,.int .i64 i)]∧s=⟨σ',c'⟩∧Fr σ σ' [o]∧nth σ' o=some (.arr u es g.en c1 (vs EE.av (L++(g.edges.drop i).map eeF)))∧L.length=i∧L.map EE.e=g.edges.take i∧(∀ e∈L,e.Ok σ')∧(∀ q∈L.flatMap EE.objs,σ.length≤q)∧(L.flatMap EE.objs).Nodup∧(c1=true↔L=[])) ?_ _ _ _ ⟨0,_,_,[],true,rfl,by omega,rfl,rfl,Fr.refl,?_,rfl,rfl,by simp,by simp,by simp,by simp⟩
 rotate_left
 ·rw[ho,List.nil_append,List.drop_zero,vs,vs,List.map_map];rfl
 rintro _ _ _ ⟨i,c',σ',L,c1,rfl,hi,rfl,rfl,f0,ho0,hL,hm,Xf,hLn,hLd,hc1⟩
 refine⟨rfl,?_⟩
 by_cases hlt:i<g.edges.length
 ·have Aaa:g.en=true:=by
   cases hb:g.en with
   |true=>rfl
   |false=>rw[hnn hb]at hlt;simp at hlt
  obtain rfl:=hes Aaa
  rw[Aaa]at ho0
  have hmem:g.edges[i]∈g.edges:=List.getElem_mem hlt
  obtain⟨hno,hpp⟩:=hok _ hmem
  have h30:=f0.get h3 (by simpa using h3o)
  have g0:=Abt (fv:=EE.av) (f:=eeF) hL hlt
  have hol:=BU ho0
  have hos:=BU ho
  have hp3:=BU h30
  obtain⟨n,hn⟩:∃n,n=g.edges[i]:=⟨_,rfl⟩
  rw[← hn]at g0 hno hpp
  have hpn:=hno.2.2.2.2.2.1
  (conv=>whnf);repeat' (first|(refine need.mk Yw ?_;conv=>whnf)|(refine BX fun σ1 f1 h1 l1=>?_;have ho1:=f1.get ho0 (by simp);have h31:=f1.get h30 (by simp);conv=>whnf)|(rw [ho0];conv=>whnf)|(rw [h1];conv=>whnf)|(refine Aj g0 ?_;conv=>whnf)|(refine Aj (GK g0) ?_;conv=>whnf)|(refine EF h1 fun σ2 f2 h2 l2=>?_;have ho2:=f2.get ho1 (by simp;omega);have h32:=f2.get h31 (by simp;omega);conv=>whnf)|(rw [h2];conv=>whnf)|(rw [h32];conv=>whnf)|(rw [ho2];conv=>whnf)|(refine Aew hpn rfl Aa2 (Aa3 (by omega)) fun σ3 e3 f3 a3 b3 l3=>?_;have ho3:=f3.get ho2 (by simp);have h33:=f3.get h32 (by simp);have h23:=f3.get h2 (by simp);conv=>whnf)|(rw [h33];conv=>whnf)|(rw [ho3];conv=>whnf)|(refine (Dl _ _).2 ?_;conv=>whnf)|(refine EF ho3 fun σ4 f4 h4 l4=>?_;have h34:=f4.get h33 (by simpa using h3o);have h24:=f4.get h23 (by simp;omega);conv=>whnf)|(rw [h34];conv=>whnf)|(rw [h24];conv=>whnf)|(refine kA ?_;conv=>whnf)|(refine Br.mk (fun hc=>?_) fun hc=>?_<;>first|exact hc.elim|conv=>whnf)|(refine kB ?_))
  all_goals first
   |(exfalso;omega)
   |skip
  all_goals
   dsimp only at l1 l2 l3 l4
   have f06:Fr σ' σ4 [o]:=((((f1.mono (F':=[o,σ'.length]) (by simp)).trans (f2.mono (by simp))).trans (f3.mono (by simp))).trans (f4.mono (by simp))).mono (by simp)
   have k3:=f4.get a3 (by simp;omega)
   have hlo:∀q∈L.flatMap EE.objs,q<σ'.length:=fun q hq=>by
        obtain⟨e,he,hq⟩:=List.mem_flatMap.1 hq
        exact(Xf e he).lt q hq
   refine again.mk ⟨_,by omega,i+1,_,σ4,L++[⟨n,.own σ2.length (c'+1) 0 n.props.length⟩],false,rfl,by omega,rfl,rfl,f0.trans f06,?_,by simp[hL],?_,fun e he=>?_,fun q hq=>?_,?_,by simp⟩
   ·rw[Aaa,←set_mid hL hlt,←AfA,h4];rfl
   ·rw[List.map_append,hm,List.take_succ_eq_append_getElem hlt,hn];rfl
   ·rcases List.mem_append.1 he with he|he
    ·exact(Xf e he).keep fun q hq=>f06.eq q ((Xf e he).lt q hq) (by have:=hLn q (List.mem_flatMap.2 ⟨e,he,hq⟩);simp;omega)
    ·obtain rfl:=List.mem_singleton.1 he
     exact AfB k3 b3 hpn
   ·rw[List.flatMap_append]at hq
    rcases List.mem_append.1 hq with hq|hq
    ·exact hLn q hq
    ·have:=f0.len
     simp only[List.flatMap_cons,List.flatMap_nil,EE.objs,AV.obj,List.append_nil,List.mem_singleton]at hq
     omega
   ·rw[List.flatMap_append]
    refine List.nodup_append.2 ⟨hLd,?_,fun a ha b hb e=>?_⟩
    ·simp[EE.objs,AV.obj]
    ·have:=hlo a ha
     simp only[List.flatMap_cons,List.flatMap_nil,EE.objs,AV.obj,List.append_nil,List.mem_singleton]at hb
     omega
 ·obtain rfl:i=g.edges.length:=by omega
  (conv=>whnf);repeat' (first  |(refine kA ?_;conv=>whnf)|(refine Br.mk (fun hc=>?_) fun hc=>?_<;>first|exact hc.elim|conv=>whnf)|(refine kB ?_))
  all_goals first
   |exact hQ _ _ c1 L _ f0 (by rw[ho0];simp) (by rw[hm,List.take_length]) Xf hLn hLd hc1
   |(exfalso;omega)
end
structure Cp (σ0 σ:List Obj) (vN vE:AV) (g:GG) (N:List EN) (E:List EE):Prop where
 hn:∃c,Hd EN.av 3 σ vN g.nn N c∧(c=true→∀e∈N,e.av.closed=true)
 he:∃c,Hd EE.av 5 σ vE g.en E c∧(c=true→∀e∈E,e.av.closed=true)
 hN:∀e∈N,e.Ok σ
 hE:∀e∈E,e.Ok σ
 nd:(vN.obj++(vE.obj++Bz N E)).Nodup
 new:∀o∈vN.obj++(vE.obj++Bz N E),σ0.length≤o
 mN:N.map EN.n=g.nodes
 mE:E.map EE.e=g.edges
 fr:Fr σ0 σ []
structure Few (g:GG):Prop where
 ok:g.ok
 lN:g.nodes.length≤2000
 lE:g.edges.length≤4000
 pN:∀n∈g.nodes,n.labels.length≤8∧n.props.length≤16
 pE:∀n∈g.edges,n.props.length≤16
theorem AiE {α:Type} {f:α→AV} {es es':Nat} {σ:List Obj} {p g:Nat} {nn c:Bool} {l:List α} (h:nth σ p=some (.arr g es' nn c (vs f l))) (h1:nn=true→es'=es) (h2:nn=false→l=[]) (h3:c=true↔l=[]):∃c,Hd f es σ (.own p g 0 l.length) nn l c∧(c=true→∀e∈l,(f e).closed=true):=by
 cases nn with
 |false=>
  obtain rfl:=h2 rfl
  obtain rfl:=h3.2 rfl
  exact⟨true,.inl ⟨rfl,rfl,.inr ⟨_,_,_,rfl,h⟩⟩,by simp⟩
 |true=>obtain rfl:=h1 rfl;exact⟨c,.inr ⟨rfl,_,_,rfl,h⟩,fun hc=>by rw[h3.1 hc];simp⟩
theorem Aot {σ:List Obj} {o g c' a1 a2 a3 b1 b2 b3:Nat} {nn cl:Bool} {x y:Int} (h:nth σ o=some (.arr g 4 nn cl [.agg [.own a1 a2 0 a3,.own b1 b2 0 b3,.int .i64 x,.int .i64 y]])):Eo [(2,.ref o g 0 0)] ⟨σ,c'⟩ [.cell 2 (some 4)]=some [.agg [.own a1 a2 0 a3,.own b1 b2 0 b3,.int .i64 x,.int .i64 y]]:=by
 show(match Hl [(2,.ref o g 0 0)] ⟨σ,c'⟩ (.cell 2 (some 4)),Eo [(2,.ref o g 0 0)] ⟨σ,c'⟩ []with
  |some v,some vs=>some (v::vs)
  |_,_=>none)=_
 have e:Hl [(2,.ref o g 0 0)] ⟨σ,c'⟩ (.cell 2 (some 4))=some (.agg [.own a1 a2 0 a3,.own b1 b2 0 b3,.int .i64 x,.int .i64 y]):=by
  simp[Hl,Env.get,h,nth,AV.cells,loadCells]
 rw[e]
 rfl
section
variable {σ:List Obj} {ct:Nat} {K:AB→Am→Prop}
set_option maxHeartbeats 4000000 in
theorem AgY {g:GG} (hg:Few g) (hK:∀σ' c' oN uN nN oE uE nE N E,Cp σ σ' (.own oN uN 0 nN) (.own oE uE 0 nE) g N E→K (.ok (.agg [.own oN uN 0 nN,.own oE uE 0 nE,.int .i64 g.Dc,.int .i64 g.Dw])) ⟨σ',c'⟩):
 Aq (Ad tab) 59 [g.av] ⟨σ,ct⟩ K:=by
 obtain⟨g1,g2,g3,g4,g5,g6,g7,g8⟩:=hg.ok
 have hlN:=hg.lN
 have hlE:=hg.lE
 refine Ai rfl rfl ?_
 show vC _ _ [(0,.agg [.sl g.nn (vs GN.av g.nodes),.sl g.en (vs GE.av g.edges),.int .i64 g.Dc,.int .i64 g.Dw])] _ _
 (conv=>whnf);repeat' (first|(refine BX fun σ3 f3 h3 l3=>?_;have h13:=f3.get h12 (by simp);have h23:=f3.get h2 (by simp);conv=>whnf)|(refine BX fun σ2 f2 h2 l2=>?_;have h12:=f2.get h1 (by simp);conv=>whnf)|(refine BX fun σ1 f1 h1 l1=>?_;conv=>whnf)|(rw [h12];conv=>whnf)|(rw [h3];conv=>whnf)|(refine (Dl _ _).2 ?_;conv=>whnf)|(refine EF h3 fun σ4 f4 h4 l4=>?_;have h14:=f4.get h13 (by dsimp only at *;simp;omega);have h24:=f4.get h23 (by dsimp only at *;simp;omega);conv=>whnf)|(rw [h14];conv=>whnf)|(rw [h4];conv=>whnf)|(refine Aew g2 rfl Ag0 (Ag1 (by omega)) fun σ5 e5 f5 a5 b5 l5=>?_;have h15:=f5.get h14 (by simp);have h25:=f5.get h24 (by simp);have h35:=f5.get h4 (by simp);conv=>whnf)|(rw [h35];conv=>whnf)|(refine EF h35 fun σ6 f6 h6 l6=>?_;have h16:=f6.get h15 (by dsimp only at *;simp;omega);have h26:=f6.get h25 (by dsimp only at *;simp;omega);have a6:=f6.get a5 (by dsimp only at *;simp;omega);conv=>whnf)|(rw [h6];conv=>whnf)|(refine kA ?_;conv=>whnf)|(refine Br.mk (fun hc=>?_) fun hc=>?_<;>first|exact hc.elim|conv=>whnf)|(refine kB ?_))
 dsimp only at l1 l2 l3 l4 l5 l6
 have hll:∀(M:List EN),M.map EN.n=g.nodes→M.length=g.nodes.length:=fun M h=>by rw[← h,List.length_map]
 have hle:∀(M:List EE),M.map EE.e=g.edges→M.length=g.edges.length:=fun M h=>by rw[← h,List.length_map]
 refine cpN (es:=e5) hlN (fun n hn=>⟨g3 n hn,hg.pN n hn⟩) g2 b5 h6 a6 (by dsimp only;omega) fun σ7 c7 d7 L tl f7 h7 m7 k7 n7 q7 r7=>?_
 have h17:=f7.get h16 (by simp;omega)
 have h27:=f7.get h26 (by simp;omega)
 have h37:=f7.get h6 (by simp;omega)
 (conv=>whnf);repeat' (first|(rw [h17];conv=>whnf)|(rw [h37];conv=>whnf)|(refine (Dl _ _).2 ?_;conv=>whnf)|(refine Aew g5 rfl Ag2 (Ag3 (by omega)) fun σ8 e8 f8 a8 b8 l8=>?_;have h18:=f8.get h17 (by simp);have h28:=f8.get h27 (by simp);have h38:=f8.get h37 (by simp);conv=>whnf)|(rw [h38];conv=>whnf)|(refine EF h38 fun σ9 f9 h9 l9=>?_;have h29:=f9.get h28 (by dsimp only at *;simp;omega);have a9:=f9.get a8 (by have:=f7.len;dsimp only at *;simp;omega);conv=>whnf)|(rw [h9];conv=>whnf)|(refine kA ?_;conv=>whnf)|(refine Br.mk (fun hc=>?_) fun hc=>?_<;>first|exact hc.elim|conv=>whnf)|(refine kB ?_))
 dsimp only at l8 l9
 have lf7:=f7.len
 refine cpE (es:=e8) hlE (fun n hn=>⟨g6 n hn,hg.pE n hn⟩) g5 b8 h9 a9 (by dsimp only;omega) fun σ10 c10 d10 M tl' f10 h10 m10 k10 n10 q10 r10=>?_
 have Amy:=f10.get h29 (by simp;omega)
 have Aou:=f10.get h9 (by simp;omega)
 (conv=>whnf);repeat' (first|(rw [Aou];conv=>whnf)|(refine (Dl _ _).2 ?_;conv=>whnf)|(rw [Amy];conv=>whnf)|(refine EF Amy fun σ11 f11 h11 l11=>?_;conv=>whnf)|(refine kA ?_;conv=>whnf)|(refine Br.mk (fun hc=>?_) fun hc=>?_<;>first|exact hc.elim|conv=>whnf)|(refine kB ?_))
 refine⟨_,Aot h11,?_⟩
 have lf10:=f10.len
 dsimp only at l11 lf10 lf7 n7 n10 k7 k10
 have k7':∀q∈L.flatMap EN.objs,q<σ7.length:=fun q hq=>by
  obtain⟨e,he,hm⟩:=List.mem_flatMap.1 hq
  exact(k7 e he).lt q hm
 have hN:=f11.get (f10.get (f9.get (f8.get h7 (by simp)) (by simp;omega)) (by simp;omega)) (by simp;omega)
 have hE:=f11.get h10 (by simp;omega)
 have eN:=hll _ m7
 have eE:=hle _ m10
 rw[← eN,←eE]
 refine hK σ11 _ _ _ _ _ _ _ L M ⟨AiE hN b5 (fun h=>?_) r7,AiE hE b8 (fun h=>?_) r10,fun e he=>(k7 e he).keep fun q hq=>?_,fun e he=>(k10 e he).keep fun q hq=>?_,?_,?_,m7,m10,?_⟩
 ·have:=g2 h;rw[this]at m7;simpa using m7
 ·have:=g5 h;rw[this]at m10;simpa using m10
 ·have hq1:=n7 q (List.mem_flatMap.2 ⟨e,he,hq⟩)
  have hq2:=(k7 e he).lt q hq
  exact(f11.eq q (show q<σ10.length by omega) (by simp;omega)).trans ((f10.eq q (show q<σ9.length by omega) (by simp;omega)).trans ((f9.eq q (show q<σ8.length by omega) (by simp;omega)).trans (f8.eq q hq2 (by simp))))
 ·have hq1:=n10 q (List.mem_flatMap.2 ⟨e,he,hq⟩)
  have hq2:=(k10 e he).lt q hq
  exact f11.eq q hq2 (by simp;omega)
 ·simp only[AV.obj,Bz,List.singleton_append,List.nodup_cons,List.mem_cons,List.mem_append,not_or,List.nodup_append]
  refine⟨⟨by omega,fun h=>by have:=n7 _ h;omega,fun h=>by have:=n10 _ h;omega⟩,⟨fun h=>by have:=k7' _ h;omega,fun h=>by have:=n10 _ h;omega⟩,q7,q10,fun a ha b hb e=>?_⟩
  have:=k7' a ha
  have:=n10 b hb
  omega
 ·intro o ho
  simp only[AV.obj,Bz,List.singleton_append,List.mem_cons,List.mem_append]at ho
  rcases ho with rfl|rfl|ho|ho
  ·omega
  ·omega
  ·have:=n7 o ho;omega
  ·have:=n10 o ho;omega
 ·have e4:Fr σ σ4 []:=(((f1.trans f2).trans f3).mono (F':=[σ2.length]) (by simp) |>.trans f4).mono (by simp;omega)
  have e6:Fr σ σ6 []:=((e4.trans f5).mono (F':=[σ2.length]) (by simp) |>.trans f6).mono (by simp;omega)
  have e7:Fr σ σ7 []:=(e6.mono (F':=[σ4.length]) (by simp) |>.trans f7).mono (by simp;omega)
  have e9:Fr σ σ9 []:=((e7.trans f8).mono (F':=[σ2.length]) (by simp) |>.trans f9).mono (by simp;omega)
  have e10:Fr σ σ10 []:=(e9.mono (F':=[σ7.length]) (by simp) |>.trans f10).mono (by simp;omega)
  exact(e10.mono (F':=[σ1.length]) (by simp) |>.trans f11).mono (by simp;omega)
end
def EJ:GG:=⟨false,[],false,[],0,0⟩
def RN:GG→List GC→Nat→GG×Nat×Int
 |g,[],i=>(g,i,0)
 |g,c::cs,i=>if(stepG g c).1≠0 then(EJ,i,(stepG g c).1)else RN (stepG g c).2 cs (i+1)
theorem Ed.AaX {σ:List Obj} {d gd:Nat} {vN vE:AV} {nb eb:Bool} {N:List EN} {E:List EE} {x y:Int} (h:Ed σ d gd vN vE nb eb N E x y) {o g:Nat} {c:Bool} {r:List AV} (ho:nth σ o=some (.arr g 4 true c [.agg (.sl false []::r)])):o∉d::(vN.obj++(vE.obj++Bz N E)):=by
 intro hq
 obtain⟨cn,hn1,_⟩:=h.hn
 obtain⟨ce,he1,_⟩:=h.he
 rcases List.mem_cons.1 hq with rfl|hq
 ·have:=h.box;rw[ho]at this
  simp only[Option.some.injEq,Obj.arr.injEq,List.cons.injEq,AV.agg.injEq]at this
  exact h.oN this.2.2.2.2.1.1.symm
 rcases List.mem_append.1 hq with hq|hq
 ·exact hn1.diff ho (by decide) hq
 rcases List.mem_append.1 hq with hq|hq
 ·exact he1.diff ho (by decide) hq
 rcases List.mem_append.1 hq with hq|hq<;>obtain⟨e,he,hm⟩:=List.mem_flatMap.1 hq
 ·rcases List.mem_append.1 hm with hm|hm
  ·exact(h.hN e he).1.diff ho (by decide) hm
  ·exact(h.hN e he).2.diff ho (by decide) hm
 ·exact Hd.diff (h.hE e he) ho (by decide) hm
section
variable {σ:List Obj} {ct:Nat}
set_option maxHeartbeats 4000000 in
theorem Ahf {g:GG} {L:List GC} {nn:Bool} {d gd p4 u4:Nat} {Q:AQ→Env→Am→Prop} (hL:L.length<2 ^ 62) (hok:∀c∈L,c.ok) (hg:EdG σ d gd g) (ha:IV g)
 (h4:nth σ p4=some (.arr u4 4 true true [.agg [.sl false [],.sl false [],.int .i64 0,.int .i64 0]]))
 (hE:∀σ' c' i e,RN g L 0=(EJ,i,e)→nth σ' p4=some (.arr u4 4 true true [.agg [.sl false [],.sl false [],.int .i64 0,.int .i64 0]])→Q .ret [(4,.ref p4 u4 0 0),(5,.int .i64 (i:Nat)),(6,.int .i64 e)] ⟨σ',c'⟩)
 (hQ:∀σ' c' h tl,RN g L 0=(h,L.length,0)→EdG σ' d gd h→IV h→nth σ' p4=some (.arr u4 4 true true [.agg [.sl false [],.sl false [],.int .i64 0,.int .i64 0]])→Q (.exit 0) ([(1,.sl nn (vs GC.av L)),(4,.ref p4 u4 0 0),(8,.ref d gd 0 0),(21,.sl nn (vs GC.av L)),(22,.int .i64 L.length),(23,.int .i64 L.length)]++tl) ⟨σ',c'⟩):
 Run (Ad tab) (.loop l27_0_h l27_0_b) [(1,.sl nn (vs GC.av L)),(4,.ref p4 u4 0 0),(8,.ref d gd 0 0),(21,.sl nn (vs GC.av L)),(22,.int .i64 L.length),(23,.int .i64 0)] ⟨σ,ct⟩ Q:=by
 refine Ag (fun m env s=>∃(i c':Nat) (σ':List Obj) (h:GG),m=L.length-i∧i≤L.length∧env=[(1,.sl nn (vs GC.av L)),(4,.ref p4 u4 0 0),(8,.ref d gd 0 0),(21,.sl nn (vs GC.av L)),(22,.int .i64 L.length),(23,.int .i64 i)]∧s=⟨σ',c'⟩∧EdG σ' d gd h∧IV h∧RN g L 0=RN h (L.drop i) i∧nth σ' p4=some (.arr u4 4 true true [.agg [.sl false [],.sl false [],.int .i64 0,.int .i64 0]])) ?_ _ _ _ ⟨0,_,_,g,rfl,by omega,rfl,rfl,hg,ha,by rw[List.drop_zero],h4⟩
 rintro _ _ _ ⟨i,c',σ',h,rfl,hi,rfl,rfl,he,hh,hr,hp⟩
 refine⟨rfl,?_⟩
 by_cases hlt:i<L.length
 ·have Ano:=hok _ (List.getElem_mem hlt)
  have hnt:nth (vs GC.av L) (Int.toNat (i:Int))=some (L[i]).av:=nV hlt
  have KY:nth (vs GC.av L) i=some (L[i]).av:=nV hlt
  rw[List.drop_eq_getElem_cons hlt,RN]at hr
  obtain⟨c,hcc⟩:∃c,c=L[i]:=⟨_,rfl⟩
  rw[← hcc]at Ano hnt KY hr
  obtain⟨vN,vE,nb,eb,N,E,x,y,hEd,hgo⟩:=he
  subst hgo
  have hq:=hh.ask
  have hpl:=BU hp
  obtain⟨op,z,fr,to,nm,v⟩:=c
  (conv=>whnf);repeat' (first|(refine BX fun σ1 f1 h1 l1=>?_;have hp1:=f1.get hp (by simp);have hE1:=hEd.Ns f1;conv=>whnf)|(refine Aj hnt ?_;conv=>whnf)|(refine Aj KY ?_;conv=>whnf)|(rw [h1];conv=>whnf)|(refine EF h1 fun σ2 f2 h2 l2=>?_;have hp2:=f2.get hp1 (by simp;omega);conv=>whnf)|(rw [h2];conv=>whnf)|(refine kA ?_;conv=>whnf)|(refine Br.mk (fun hc=>?_) fun hc=>?_<;>first|exact hc.elim|conv=>whnf)|(refine kB ?_))
  all_goals first|(exfalso;omega)|skip
  have f02:Fr σ' σ2 []:=((f1.mono (F':=[σ'.length]) (by simp)).trans f2).mono (by simp)
  have hE2:=hEd.Ns f02
  refine stepW (c:=⟨op,z,fr,to,nm,v⟩) hE2 hq Ano fun σ3 c3 hE3 f3=>?_
  have hp3:=f3.get hp2 (hE2.AaX hp2)
  have hh':=hh.step (c:=⟨op,z,fr,to,nm,v⟩)
  generalize hsg:stepG (JQ nb eb N E x y) ⟨op,z,fr,to,nm,v⟩=sg at hr hE3 hh' ⊢
  obtain⟨e0,g0⟩:=sg
  dsimp only at hr hE3 hh' ⊢
  (conv=>whnf);repeat' (first|(rw [hp3];conv=>whnf)|(refine (Dl _ _).2 ?_;conv=>whnf)|(refine EF hp3 fun σ4 f4 h4' l4=>?_;conv=>whnf)|(refine kA ?_;conv=>whnf)|(refine Br.mk (fun hc=>?_) fun hc=>?_<;>first|exact hc.elim|conv=>whnf)|(refine kB ?_))
  all_goals first
   |exact hE σ4 _ i e0 (by rw[hr,if_pos (by omega)]) h4'
   |exact again.mk ⟨_,by omega,i+1,_,σ3,g0,rfl,by omega,rfl,rfl,hE3,hh',by rw[hr,if_neg (by omega)],hp3⟩
 ·obtain rfl:i=L.length:=by omega
  (conv=>whnf);repeat' (first  |(refine kA ?_;conv=>whnf)|(refine Br.mk (fun hc=>?_) fun hc=>?_<;>first|exact hc.elim|conv=>whnf)|(refine kB ?_))
  all_goals first
   |(exact hQ _ _ h _ (by rw[hr,List.drop_length];rfl) he hh hp)
   |(exfalso;omega)
end
theorem WJ {α κ:Type} {lt:κ→κ→Bool} {key:α→κ} (hs:S9 lt) {l:List α} (h:∀j (hj:j+1<l.length),lt (key l[j]) (key l[j+1])=true):Inc lt key l:=by
 refine List.pairwise_iff_getElem.2 fun i j hi hj hij=>?_
 obtain⟨d,rfl⟩:∃d,j=i+1+d:=⟨j-(i+1),by omega⟩
 clear hij
 induction d with
 |zero=>exact h i hj
 |succ d ih=>exact hs.tr _ _ _ (ih (by omega)) (h (i+1+d) (by omega))
theorem Vo {l:List (List UInt8)} (h:rises l):Inc Op.bytesLess id l:=by
 refine WJ AA fun j hj=>?_
 have:=h j hj
 simp only[Bool.or_eq_false_iff,beq_eq_false_iff_ne]at this
 cases hb:Op.bytesLess (id l[j]) (id l[j+1])with
 |true=>rfl
 |false=>exact absurd (AA.tot _ _ this.1 hb) this.2
theorem PL {L:List (List UInt8)} {P:List GP} (h:DC L P=0):L.length≤8∧P.length≤16∧rises L∧rises (keysOf P)∧allNames L∧allNames (keysOf P)∧allPlain P:=by
 by_cases h1:8<L.length∨16<P.length
 ·have:=WL h1;rw[h]at this;simp at this
 by_cases h2:allNames L∧allNames (keysOf P)
 case neg=>have:=WM h1 h2;rw[h]at this;simp at this
 by_cases h3:rises L∧rises (keysOf P)
 case neg=>have:=TM h1 h2 h3;rw[h]at this;simp at this
 by_cases h4:allPlain P
 case neg=>have:=AaW h1 h2 h3 h4;rw[h]at this;simp at this
 exact⟨by omega,by omega,h3.1,h3.2,h2.1,h2.2,h4⟩
theorem Yc {P:List GP} (h:rises (keysOf P)):Inc Op.bytesLess GP.key P:=by
 have:=Vo h
 unfold Inc keysOf at this
 rw[List.pairwise_map]at this
 exact this
theorem ZN {g:GG} (h:Bj g=0):IV g:=by
 obtain⟨hf,hn,hN,hE⟩:=Tt h
 refine⟨hf.1,hf.2,WJ Aw fun j hj=>?_,WJ Aw fun j hj=>?_,fun n hm=>?_,fun n hm=>?_,?_,?_⟩
 ·have:=(Pn hj (hN _ hj)).1 (by omega)
  simpa[DW]using this
 ·have:=(Po hj (hE _ hj)).1 (by omega)
  simpa[DW]using this
 ·obtain⟨i,hi,rfl⟩:=List.getElem_of_mem hm
  obtain⟨a1,a2,a3,a4,_⟩:=PL (Pn hi (hN i hi)).2.2.2
  exact⟨Vo a3,a1,Yc a4,a2⟩
 ·obtain⟨i,hi,rfl⟩:=List.getElem_of_mem hm
  obtain⟨a1,a2,a3,a4,_⟩:=PL (Po hi (hE i hi)).2.2.2.2.2.2
  exact⟨Yc a4,a2⟩
 ·have:=hn.1;have:=hn.2.1;omega
 ·have:=hn.2.2.1;have:=hn.2.2.2;omega
theorem Ako {g:GG} (hg:g.ok) (h:Bj g=0):Few g:=by
 have ha:=ZN h
 exact⟨hg,ha.lN,ha.lE,fun n hn=>⟨(ha.aN n hn).lL,(ha.aN n hn).lP⟩,fun n hn=>(ha.aE n hn).lP⟩
noncomputable def Bq (g:GG) (L:List GC):GG×Nat×Int:=if Bj g≠0 then(EJ,0,Bj g)else RN g L 0
theorem Cp.ed {σ0 σ σ':List Obj} {oN uN nN oE uE nE gd:Nat} {g:GG} {N:List EN} {E:List EE} (h:Cp σ0 σ (.own oN uN 0 nN) (.own oE uE 0 nE) g N E) (hf:Fr σ σ' []) (hb:nth σ' σ.length=some (.arr gd 4 true false [.agg [.own oN uN 0 nN,.own oE uE 0 nE,.int .i64 g.Dc,.int .i64 g.Dw]])):EdG σ' σ.length gd g:=by
 obtain⟨cn,hn1,hn2⟩:=h.hn
 obtain⟨ce,he1,he2⟩:=h.he
 refine⟨_,_,g.nn,g.en,N,E,g.Dc,g.Dw,⟨hb,⟨cn,hn1.keep fun o ho=>hf.eq o (hn1.lt o ho) (by simp),hn2⟩,⟨ce,he1.keep fun o ho=>hf.eq o (he1.lt o ho) (by simp),he2⟩,
  fun e he=>(h.hN e he).keep fun o ho=>hf.eq o ((h.hN e he).lt o ho) (by simp),fun e he=>(h.hE e he).keep fun o ho=>hf.eq o ((h.hE e he).lt o ho) (by simp),
  List.nodup_cons.2 ⟨fun hm=>?_,h.nd⟩,by simp,by simp⟩,?_⟩
 ·have hlt:σ.length<σ.length:=by
   rcases List.mem_append.1 hm with hm|hm
   ·exact hn1.lt _ hm
   rcases List.mem_append.1 hm with hm|hm
   ·exact he1.lt _ hm
   rcases List.mem_append.1 hm with hm|hm<;>obtain⟨e,he,hm⟩:=List.mem_flatMap.1 hm
   ·exact(h.hN e he).lt _ hm
   ·exact(h.hE e he).lt _ hm
  omega
 ·obtain⟨a,b,c,d,e,f⟩:=g
  have h1:=h.mN
  have h2:=h.mE
  simp only[JQ]at*
  rw[h1,h2]
theorem Akp {σ:List Obj} {o g c':Nat} {nn cl:Bool} {a b c d x y:AV} (ha:a.cells.length=1) (hb:b.cells.length=1) (h:nth σ o=some (.arr g 4 nn cl [.agg [a,b,c,d]])):Eo [(4,.ref o g 0 0),(5,x),(6,y)] ⟨σ,c'⟩ a27.results=some [.agg [a,b,c,d],x,y]:=by
 show(match Hl [(4,.ref o g 0 0),(5,x),(6,y)] ⟨σ,c'⟩ (.cell 4 (some 4)),Eo [(4,.ref o g 0 0),(5,x),(6,y)] ⟨σ,c'⟩ [.tmp 5,.tmp 6]with
  |some v,some vs=>some (v::vs)
  |_,_=>none)=_
 have e:Hl [(4,.ref o g 0 0),(5,x),(6,y)] ⟨σ,c'⟩ (.cell 4 (some 4))=some (.agg [a,b,c,d]):=by
  simp[Hl,Env.get,h,nth,AV.cells,loadCells]
 rw[e]
 rfl
theorem AeL {AP:Nat→Option Ip} {f:Nat} {fn:Ig} {args:List AV} {R:AV→Prop} (hf:AP f=some (.code fn)) (hl:args.length=fn.np) (h:vC AP fn.body (params args 0) ⟨[],0⟩ (AdE fn fun out s'=>∃r v,out=.ok r∧snap s'.σ ED r=some v∧R v)):Ae AP f args R:=by
 obtain⟨N,out,s',h1,r,v,rfl,h3,h4⟩:=SS hf hl (Jj h)
 exact⟨v,⟨N,by simp only[Ez,h1];exact h3⟩,h4⟩
theorem Rd.BF {σ:List Obj} {D:Nat} {xs ys:List AV} (h:J8 σ D xs ys):Rd σ (D+1) (.BF xs) (.BF ys):=fun m hm=>by
 obtain⟨m,rfl⟩:∃m',m=m'+1:=⟨m-1,by omega⟩
 simp only[snap,h m (by omega),Option.map_some]
theorem Rd.sl {σ:List Obj} {b:Bool} {xs:List AV}:Rd σ 1 (.sl b xs) (.sl b xs):=fun m hm=>by
 obtain⟨m,rfl⟩:∃m',m=m'+1:=⟨m-1,by omega⟩
 rfl
theorem WO {σ:List Obj}:Rd σ 10 (.agg [.sl false [],.sl false [],.int .i64 0,.int .i64 0]) EJ.av:=
 (Rd.agg (J8.cons (Rd.sl.mono (D':=5) (by omega)) (J8.cons (Rd.sl.mono (D':=4) (by omega)) (J8.cons (Rd.int.mono (D':=3) (by omega)) (J8.cons (Rd.int.mono (D':=2) (by omega)) (J8.nil.mono (by omega))))))).mono (by omega)
theorem rd3 {σ:List Obj} {D:Nat} {a b:AV} {x y:Int} (h:Rd σ D a b) (hD:D≤999000):snap σ ED (.BF [a,.int .i64 x,.int .i64 y])=some (.BF [b,.int .i64 x,.int .i64 y]):=
 (Rd.BF (J8.cons (h.mono (D':=D+3) (by omega)) (J8.cons (Rd.int.mono (D':=D+2) (by omega)) (J8.cons (Rd.int.mono (D':=D+1) (by omega)) (J8.nil.mono (by omega)))))) ED (by unfold ED;omega)
theorem Hd.AiK {α:Type} {f:α→AV} {es:Nat} {σ:List Obj} {v:AV} {b c:Bool} {l:List α} (h:Hd f es σ v b l c) (h0:v≠.sl false []):∃o g n,v=.own o g 0 n:=by
 rcases h with⟨_,_,rfl|⟨o',g,es',rfl,h⟩⟩|⟨_,o',g,rfl,h⟩
 ·exact absurd rfl h0
 ·exact⟨_,_,_,rfl⟩
 ·exact⟨_,_,_,rfl⟩
set_option maxHeartbeats 4000000 in
theorem Acn {g:GG} {L:List GC} {nn:Bool} (hg:g.ok) (hL:L.length<2 ^ 62) (hok:∀c∈L,c.ok):
 Ae (Ad tab) 27 [g.av,.sl nn (vs GC.av L)] (· =.BF [(Bq g L).1.av,.int .i64 (Bq g L).2.1,.int .i64 (Bq g L).2.2]):=by
 have hck:=V3 hg
 refine AeL rfl rfl ?_
 show vC _ _ [(0,.agg [.sl g.nn (vs GN.av g.nodes),.sl g.en (vs GE.av g.edges),.int .i64 g.Dc,.int .i64 g.Dw]),(1,.sl nn (vs GC.av L))] _ _
 by_cases h0:Bj g=0
 ·have ha:=ZN h0
  have hfw:=Ako hg h0
  have hlL:(vs GC.av L).length=L.length:=lV _
  rw[h0]at hck
  (conv=>whnf);repeat' (first|(refine Aa hck ?_;rintro _ rfl;conv=>whnf)|(refine AgY hfw fun σ' c' oN uN nN oE uE nE N E hcp=>?_;conv=>whnf)|(refine kA ?_;conv=>whnf)|(refine Br.mk (fun hc=>?_) fun hc=>?_<;>first|exact hc.elim|conv=>whnf)|(refine kB ?_))
  have hz:=hcp.fr.get (o:=1) rfl (by simp)
  refine BX fun σ1 f1 h1 l1=>?_
  have hz1:=f1.get hz (by simp)
  have hzl:=BU hz
  (conv=>whnf);repeat' (first|(rw [h1];conv=>whnf)|(refine (Dl _ _).2 ?_;conv=>whnf)|(refine EF h1 fun σ2 f2 h2 l2=>?_;conv=>whnf)|(refine kA ?_;conv=>whnf)|(refine Br.mk (fun hc=>?_) fun hc=>?_<;>first|exact hc.elim|conv=>whnf)|(refine kB ?_))
  have f02:Fr σ' σ2 []:=((f1.mono (F':=[σ'.length]) (by simp)).trans f2).mono (by simp)
  have hz2:=f02.get hz (by simp)
  have hEd:=hcp.ed f02 h2
  refine Ahf hL hok hEd ha hz2 (fun σ3 c3 i e hr hz3=>?_) (fun σ3 c3 h tl hr hE3 ha3 hz3=>?_)
  ·have hR:Bq g L=(EJ,i,e):=by unfold Bq;rw[if_neg (fun h=>h h0),hr]
   rw[hR]
   conv=>whnf
   exact⟨_,Akp rfl rfl hz3,_,_,rfl,rd3 WO (by omega),rfl⟩
  ·have hR:Bq g L=(h,L.length,0):=by unfold Bq;rw[if_neg (fun h=>h h0),hr]
   rw[hR]
   obtain⟨vN,vE,nb,eb,N3,E3,x,y,ZO,hgo⟩:=hE3
   obtain⟨cn,hn1,_⟩:=ZO.hn
   obtain⟨ce,he1,_⟩:=ZO.he
   obtain⟨o1,u1,k1,rfl⟩:=hn1.AiK ZO.oN
   obtain⟨o2,u2,k2,rfl⟩:=he1.AiK ZO.oE
   have hb3:=ZO.box
   have hnz:=ZO.AaX hz3
   subst hgo
   have hq:=ha3.ask
   have hlN:=hq.lN
   have hlE:=hq.lE
   (conv=>whnf);repeat' (first|(rw [hb3];conv=>whnf)|(rw [hz3];conv=>whnf)|(refine (Dl _ _).2 ?_;conv=>whnf)|(refine EF hz3 fun σ4 f4 h4 l4=>?_;conv=>whnf)|(refine kA ?_;conv=>whnf)|(refine Br.mk (fun hc=>?_) fun hc=>?_<;>first|exact hc.elim|conv=>whnf)|(refine kB ?_))
   have hE4:=ZO.fr f4 (fun o ho hm=>hnz (by simp only[List.mem_singleton]at hm;subst hm;exact ho))
   exact⟨_,Akp rfl rfl h4,_,_,rfl,rd3 hE4.snG (by omega),rfl⟩
 ·have hR:Bq g L=(EJ,0,Bj g):=by unfold Bq;rw[if_pos h0]
  rw[hR]
  (conv=>whnf);repeat' (first|(refine Aa hck ?_;rintro _ rfl;conv=>whnf)|(refine kA ?_;conv=>whnf)|(refine Br.mk (fun hc=>?_) fun hc=>?_<;>first|exact hc.elim|conv=>whnf)|(refine kB ?_))
  all_goals first|(exfalso;omega)|exact⟨_,Akp rfl rfl rfl,_,_,rfl,rd3 WO (by omega),rfl⟩|exact⟨_,_,rfl,rd3 WO (by omega),rfl⟩
section
variable {α κ:Type} {lt:κ→κ→Bool} {key:α→κ}
def lk [DecidableEq κ] (key:α→κ) (l:List α) (k:κ):Option α:=l.find? fun a=>decide (key a=k)
theorem XI [DecidableEq κ] {l:List α} {k:κ} {a:α} (h:lk key l k=some a):a∈l∧key a=k:=⟨List.mem_of_find?_eq_some h,of_decide_eq_true (List.find?_some (p:=fun a=>decide (key a=k)) h)⟩
theorem Wj [DecidableEq κ] (hs:S9 lt):∀{l:List α},Inc lt key l→∀{a:α} {k:κ},a∈l→key a=k→lk key l k=some a
 |[],_,_,_,h,_=>by simp at h
 |b::l,hl,a,k,h,e=>by
  have hl':=List.pairwise_cons.1 hl
  unfold lk
  rcases List.mem_cons.1 h with rfl|hm
  ·rw[List.find?_cons,decide_eq_true e]
  ·have hb:key b≠k:=fun e2=>by
        have:=hl'.1 a hm
        rw[e,e2,hs.irr]at this;cases this
   rw[List.find?_cons,decide_eq_false hb]
   exact Wj hs hl'.2 hm e
theorem AdG [DecidableEq κ] (hs:S9 lt) {l:List α} (hl:Inc lt key l) {k:κ} {a:α}:lk key l k=some a↔a∈l∧key a=k:=⟨XI,fun h=>Wj hs hl h.1 h.2⟩
theorem ne_iff (hs:S9 lt) {x y:κ}:(lt x y=true∨lt y x=true)↔x≠y:=by
 constructor
 ·rintro(h|h) rfl<;>(rw [hs.irr]at h;cases h)
 ·intro h
  cases h1:lt x y
  ·cases h2:lt y x
   ·exact absurd (hs.tot _ _ h1 h2) h
   ·exact .inr rfl
  ·exact .inl rfl
theorem Pg (hs:S9 lt) {x y:α} {l:List α}:y∈Cb lt key x l↔y=x∨y∈l∧key y≠key x:=by
 rw[← ne_iff hs]
 simp only[Cb,below,above,List.mem_append,List.mem_filter,List.mem_singleton]
 constructor
 ·rintro((h|h)|h)
  ·exact .inr ⟨h.1,.inl h.2⟩
  ·exact .inl h
  ·exact .inr ⟨h.1,.inr h.2⟩
 ·rintro(h|⟨h,h2|h2⟩)
  ·exact .inl (.inr h)
  ·exact .inl (.inl ⟨h,h2⟩)
  ·exact .inr ⟨h,h2⟩
theorem Agz (hs:S9 lt) {k:κ} {y:α} {l:List α}:y∈F8 lt key k l↔y∈l∧key y≠k:=by
 rw[← ne_iff hs]
 simp only[F8,below,above,List.mem_append,List.mem_filter]
 constructor
 ·rintro(h|h)
  ·exact⟨h.1,.inl h.2⟩
  ·exact⟨h.1,.inr h.2⟩
 ·rintro⟨h,h2|h2⟩
  ·exact .inl ⟨h,h2⟩
  ·exact .inr ⟨h,h2⟩
theorem AdH [DecidableEq κ] (hs:S9 lt) {x:α} {l:List α} (hl:Inc lt key l) {k:κ}:lk key (Cb lt key x l) k=if k=key x then some x else lk key l k:=by
 have hp:=EY (x:=x) hs hl
 by_cases e:k=key x
 ·rw[if_pos e]
  exact Wj hs hp ((Pg hs).2 (.inl rfl)) e.symm
 ·rw[if_neg e]
  apply Option.ext
  intro a
  rw[AdG hs hp,AdG hs hl,Pg hs]
  constructor
  ·rintro⟨rfl|h,h2⟩
   ·exact absurd h2.symm e
   ·exact⟨h.1,h2⟩
  ·rintro⟨h,h2⟩
   exact⟨.inr ⟨h,by rw[h2];exact e⟩,h2⟩
theorem AdI {l:List α} (h:Inc lt key l):(l.map key).Pairwise fun x y=>lt x y=true:=by
 rw[List.pairwise_map];exact h
end
section
open Go.Sort
def Nu:AV→GV
 | .agg [.int _ k,.int _ n,.int _ d,.str s,.sl nn l]=>⟨k,n,d,s,nn,l⟩
 |_=>⟨0,0,0,[],false,[]⟩
theorem Aa4 (g:GV):Nu g.av=g:=rfl
def dep:Nat→GV→Prop
 |0,_=>False
 |m+1,v=>∀x∈v.l,∃g:GV,x=g.av∧g.ok∧dep m g
def Fb (c:AV→AV→Int):List AV→List AV→Int
 |[],[]=>0
 |[],_::_=>-1
 |_::_,[]=>1
 |a::x,b::y=>DX (c a b) (Fb c x y)
theorem TQ {c:AV→AV→Int} (hc:PC c):∀x y,Fb c y x=-Fb c x y
 |[],[]=>rfl
 |[],_::_=>rfl
 |_::_,[]=>rfl
 |a::x,b::y=>by
  have h1:=hc.anti a b
  have h2:=TQ hc x y
  simp only[Fb,DX]
  split<;>split<;>omega
theorem QV {c:AV→AV→Int} (hc:PC c):∀x y z,Fb c x y≤0→Fb c y z≤0→Fb c x z≤0
 |[],_,[],_,_=>Int.le_refl 0
 |[],_,_::_,_,_=>by show(-1:Int)≤0;omega
 |_::_,[],_,h,_=>absurd h (by show¬(1:Int)≤0;omega)
 |_::_,_::_,[],_,h=>absurd h (by show¬(1:Int)≤0;omega)
 |a::x,b::y,d::z,h1,h2=>by
  have ih:=QV hc x y z
  have a1:=hc.trans a b d
  have a2:=hc.trans b d a
  have a3:=hc.trans d a b
  have b1:=hc.anti a b
  have b2:=hc.anti b d
  have b3:=hc.anti a d
  simp only[Fb,DX]at*
  split at h1<;>split at h2<;>split<;>omega
theorem PC.lists {c:AV→AV→Int} (hc:PC c):PC (Fb c):=⟨TQ hc,QV hc⟩
theorem ZQ {c:AV→AV→Int} {x y:List AV} {i:Nat} (hx:i<x.length) (hy:i<y.length):Fb c (x.drop i) (y.drop i)=DX (c x[i] y[i]) (Fb c (x.drop (i+1)) (y.drop (i+1))):=by
 rw[List.drop_eq_getElem_cons hx,List.drop_eq_getElem_cons hy,Fb]
theorem PC.AmJ {α:Type} {c d e:α→α→Int} {p:α→Prop} [DecidablePred p] (hc:PC c) (hd:PC d) (he:PC e) (hp:∀x y,c x y=0→(p x↔p y)):PC fun x y=>DX (c x y) (if p x then d x y else e x y) where
 anti x y:=by
  have h1:=hc.anti x y
  have h2:=hd.anti x y
  have h3:=he.anti x y
  have h4:=hp x y
  unfold DX
  by_cases h0:c x y=0
  ·rw[if_pos (by omega),if_pos h0]
   by_cases hx:p x
   ·rw[if_pos hx,if_pos ((h4 h0).1 hx)];exact h2
   ·rw[if_neg hx,if_neg (fun h=>hx ((h4 h0).2 h))];exact h3
  ·rw[if_neg (by omega),if_neg h0];exact h1
 trans x y z h1 h2:=by
  have a0:=hc.trans z y x
  have a1:=hc.trans x y z
  have a2:=hc.trans y z x
  have a3:=hc.trans z x y
  have b1:=hc.anti x y
  have b2:=hc.anti y z
  have b3:=hc.anti x z
  have d1:=hd.trans x y z
  have e1:=he.trans x y z
  have p1:=hp x y
  have p2:=hp y z
  unfold DX at*
  by_cases h0:c x y=0
  ·rw[if_pos h0]at h1
   by_cases h00:c y z=0
   ·rw[if_pos h00]at h2
    rw[if_pos (by omega)]
    by_cases hx:p x
    ·rw[if_pos hx]at h1 ⊢
     rw[if_pos ((p1 h0).1 hx)]at h2
     exact d1 h1 h2
    ·rw[if_neg hx]at h1 ⊢
     rw[if_neg (fun h=>hx ((p1 h0).2 h))]at h2
     exact e1 h1 h2
   ·rw[if_neg h00]at h2
    rw[if_neg (by omega)]
    omega
  ·rw[if_neg h0]at h1
   by_cases h00:c y z=0
   ·rw[if_neg (by omega)]
    omega
   ·rw[if_neg h00]at h2
    rw[if_neg (by omega)]
    omega
def pd (g:GV):Int:=if dn g≤0 then 1 else dn g
theorem ZR (g:GV):0<pd g:=by unfold pd;split<;>omega
def Vq (a b:GV):Int:=OE (a.n*pd b-b.n*pd a)
theorem AeV {a b:GV}:Vq a b≤0↔a.n*pd b≤b.n*pd a:=by
 unfold Vq OE;split
 ·omega
 ·split<;>omega
theorem Ahp:PC Vq where
 anti x y:=by unfold Vq OE;repeat' split
              all_goals omega
 trans x y z h1 h2:=by
  rw[AeV]at*
  have p1:=ZR x
  have p2:=ZR y
  have p3:=ZR z
  have e1:x.n*pd y*pd z≤y.n*pd x*pd z:=Int.mul_le_mul_of_nonneg_right h1 (by omega)
  have e2:y.n*pd z*pd x≤z.n*pd y*pd x:=Int.mul_le_mul_of_nonneg_right h2 (by omega)
  have e3:x.n*pd z*pd y≤z.n*pd x*pd y:=by
   rw[Int.mul_right_comm x.n,Int.mul_right_comm z.n]
   rw[Int.mul_right_comm y.n]at e2
   omega
  exact Int.le_of_mul_le_mul_right e3 p2
def Yi:Nat→GV→GV→Int
 |0,_,_=>0
 |m+1,a,b=>DX (CY (G5 a.k) (G5 b.k)) (if G5 a.k=2 then Vq a b else DX (cS a.s b.s) (DX (CY a.n b.n) (Fb (fun x y=>Yi m (Nu x) (Nu y)) a.l b.l)))
theorem Aa5 {α:Type}:PC fun _ _:α=>0:=⟨fun _ _=>rfl,fun _ _ _ _ _=>Int.le_refl 0⟩
theorem Aa6:∀m,PC (Yi m)
 |0=>Aa5
 |m+1=>PC.AmJ (p:=fun a:GV=>G5 a.k=2) (Oc.on fun a:GV=>G5 a.k) Ahp ((Oe.on GV.s).lex ((Oc.on GV.n).lex (((Aa6 m).on Nu).lists.on GV.l))) fun x y h=>by
  have h:CY (G5 x.k) (G5 y.k)=0:=h
  rw[Dy]at h
  show G5 x.k=2↔G5 y.k=2
  rw[h]
theorem PC.two {α:Type} {d e:α→α→Int} {p:α→Prop} [DecidablePred p] (hd:PC d) (he:PC e):PC fun x y=>if p x then if p y then d x y else -1 else if p y then 1 else e x y where
 anti x y:=by
  have h2:=hd.anti x y
  have h3:=he.anti x y
  by_cases hx:p x<;>by_cases hy:p y<;>simp only[hx,hy,if_true,if_false]<;>first|assumption|rfl
 trans x y z h1 h2:=by
  have d1:=hd.trans x y z
  have e1:=he.trans x y z
  by_cases hx:p x<;>by_cases hy:p y<;>by_cases hz:p z<;>simp only[hx,hy,hz,if_true,if_false]at* <;>first|exact d1 h1 h2|exact e1 h1 h2|omega
noncomputable def Tq:Nat→GV→GV→Int
 |0,_,_=>0
 |m+1,a,b=>if VV 8 a then if VV 8 b then Yi (m+1) a b else -1 else if VV 8 b then 1 else
   DX (CY a.k b.k) (DX (CY a.n b.n) (DX (CY a.d b.d) (DX (cS a.s b.s) (Fb (fun x y=>Tq m (Nu x) (Nu y)) a.l b.l))))
theorem AaH:∀m,PC (Tq m)
 |0=>Aa5
 |m+1=>PC.two (p:=fun a=>VV 8 a) (Aa6 (m+1)) ((Oc.on GV.k).lex ((Oc.on GV.n).lex ((Oc.on GV.d).lex ((Oe.on GV.s).lex (((AaH m).on Nu).lists.on GV.l)))))
end
def cl (b:Bool) (x:AV):AV:=bif b then .agg [x]else x
theorem Ul:∀{d:Nat} {v:GV},FP d v.av→dep d v
 |0,_,h=>h.elim
 |d+1,v,h=>fun x hx=>by
  obtain⟨g,e,h1,_,_,h2⟩:=h
  have e2:v.l=g.l:=by
   have:=congrArg Nu e
   rw[Aa4,Aa4]at this
   rw[this]
  rw[e2]at hx
  have h3:=h2 x hx
  cases d with
  |zero=>exact h3.elim
  |succ d=>
   have h4:=h3
   obtain⟨g',e',k1,_⟩:=h4
   exact⟨g',e',k1,Ul (e'▸h3)⟩
section
open Go.Sort
theorem Oz {b:Int}:DX 0 b=b:=if_pos rfl
theorem AeS {a b:Int} (h:a≠0):DX a b=a:=if_neg h
def ElP (f:Nat) (c:AV→AV→Int) (x y:AV):Prop:=∃g h:GV,x=g.av∧y=h.av∧Ae (Ad tab) f [g.av,h.av] (· =.int .i64 (c x y))
theorem okN {v:GV} (hv:v.ok):v.l.length<2^63:=hv.2.2.2.2.1
theorem Aa1 {g:GV} (h:Ih g):pd g=dn g:=by
 have:=(KR h).1
 unfold pd;rw[if_neg (by omega)]
theorem Acp {k:Int}:G5 k=2↔k=2∨k=3:=by unfold G5;split<;>(try split)<;>omega
theorem elemV {a g:GV} {i:Nat} (h:VV 8 a) (hi:i<a.l.length) (e:a.l[i]=g.av):VV 8 g:=by
 by_cases h7:a.k=7
 ·obtain⟨x,e1,_,x2⟩:=((UD h7).1 h).2.2.2.2.2 i hi
  rw[e1]at e
  obtain rfl:=GV.Iq e
  exact Ko (m:=0) (by omega) (.inl x2)
 ·by_cases h8:a.k=8
  ·obtain⟨x,e1,x2⟩:=((AbZ (m:=7) h8).1 h).2.2.2.2 i hi
   rw[e1]at e
   obtain rfl:=GV.Iq e
   exact Ko (m:=7) (by omega) x2
  ·rw[UE h7 h8]at h
   have:=h.1
   omega
theorem WS {m:Nat} {v:GV} {i:Nat} (h:dep (m+1) v) (hi:i<v.l.length):∃g:GV,v.l[i]=g.av∧g.ok∧dep m g:=h _ (List.getElem_mem hi)
end
end AI
end Go.Proofs.YtjijnamhalgamaaGreatDoor
