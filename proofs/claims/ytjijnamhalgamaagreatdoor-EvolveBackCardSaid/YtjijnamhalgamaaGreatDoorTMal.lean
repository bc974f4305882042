/- A graph copied, for an editor. A graph copied, for an editor: the whole. change.ApplyAll, its loop. graph.Check, walked. A checked graph is one that an editor may edit; change.ApplyAll. -/
import Derived.Test.YtjijnamhalgamaaGreatDoorTMak
import Derived.Test.YtjijnamhalgamaaGreatDoorTMai
import Derived.Test.YtjijnamhalgamaaGreatDoorTMag
set_option linter.unusedVariables false
set_option maxRecDepth 4000
namespace Go.Proofs.YtjijnamhalgamaaGreatDoor
namespace AI
def enF (n:GN):EN:=⟨n,.sl n.ln (vs .str n.labels),.sl n.pn (vs GP.av n.props)⟩
def eeF (e:GE):EE:=⟨e,.sl e.pn (vs GP.av e.props)⟩
theorem set_mid {α β:Type} {L:List β} {l:List α} {f:α→β} {i:Nat} {x:β} (hL:L.length=i) (hi:i<l.length):(L++(l.drop i).map f).set i x=(L++[x])++(l.drop (i+1)).map f:=by
 subst hL
 rw[List.drop_eq_getElem_cons hi,List.map_cons,List.set_append_right _ _ (Nat.le_refl _),Nat.sub_self,List.set_cons_zero,List.append_assoc]
 rfl
theorem Abh {α β:Type} {L:List β} {l:List α} {f:α→β} {i:Nat} {fv:β→AV} (hL:L.length=i) (hi:i<l.length):nth (vs fv (L++(l.drop i).map f)) i=some (fv (f l[i])):=by
 subst hL
 rw[List.drop_eq_getElem_cons hi,AU,vs,List.getElem?_map,List.getElem?_append_right (Nat.le_refl _),Nat.sub_self]
 rfl
theorem Afl {α:Type} {f:α→AV} {l:List α} {i:Nat} {a:α}:(vs f l).set i (f a)=vs f (l.set i a):=by simp[vs,List.map_set]
theorem Afm {α:Type} {f:α→AV} {es es':Nat} {σ:List Obj} {p g:Nat} {nn:Bool} {l:List α} (h:nth σ p=some (.arr g es' nn true (vs f l))) (h1:nn=true→es'=es) (h2:nn=false→l=[]):Hd f es σ (.own p g 0 l.length) nn l true:=by
 cases nn with
 |false=>obtain rfl:=h2 rfl;exact .inl ⟨rfl,rfl,.inr ⟨_,_,_,rfl,h⟩⟩
 |true=>obtain rfl:=h1 rfl;exact .inr ⟨rfl,_,_,rfl,h⟩
theorem Yz {o g i n:Nat}:H9 (.own o g i n) (.own o g i n)=true:=by simp[H9]
section
variable {σ:List Obj} {ct:Nat}
set_option maxHeartbeats 4000000 in
theorem cpN {g:GG} {p1 p2 p3 u1 u2 u3 o u:Nat} {es:Nat} {Q:AQ→Env→Am→Prop} (hl:g.nodes.length≤2000) (hok:∀n∈g.nodes,n.ok∧n.labels.length≤8∧n.props.length≤16) (hnn:g.nn=false→g.nodes=[]) (hes:g.nn=true→es=3)
 (h3:nth σ p3=some (.arr u3 4 true false [.agg [.own o u 0 g.nodes.length,.sl g.en (vs GE.av g.edges),.int .i64 g.Df,.int .i64 g.DC]]))
 (ho:nth σ o=some (.arr u es g.nn true (vs GN.av g.nodes))) (h3o:p3≠o)
 (hQ:∀σ' c' c1 L tl,Fr σ σ' [o]→nth σ' o=some (.arr u es g.nn c1 (vs EN.av L))→L.map EN.n=g.nodes→(∀ e∈L,e.Ok σ')→(∀ q∈L.flatMap EN.objs,σ.length≤q)→(L.flatMap EN.objs).Nodup→(c1=true↔L=[])→Q (.exit 0) ([(1,.ref p1 u1 0 0),(2,.ref p2 u2 0 0),(3,.ref p3 u3 0 0),(14,.own o u 0 g.nodes.length),(15,.int .i64 g.nodes.length),(16,.int .i64 g.nodes.length)]++tl) ⟨σ',c'⟩):
 Run (Ad tab) (.loop l59_0_h l59_0_b) [(1,.ref p1 u1 0 0),(2,.ref p2 u2 0 0),(3,.ref p3 u3 0 0),(14,.own o u 0 g.nodes.length),(15,.int .i64 g.nodes.length),(16,.int .i64 0)] ⟨σ,ct⟩ Q:=by
 refine Ag (fun m env s=>∃(i c':Nat) (σ':List Obj) (L:List EN) (c1:Bool),m=g.nodes.length-i∧i≤g.nodes.length∧env=[(1,.ref p1 u1 0 0),(2,.ref p2 u2 0 0),(3,.ref p3 u3 0 0),(14,.own o u 0 g.nodes.length),(15,.int .i64 g.nodes.length),(16,.int .i64 i)]∧s=⟨σ',c'⟩∧Fr σ σ' [o]∧nth σ' o=some (.arr u es g.nn c1 (vs EN.av (L++(g.nodes.drop i).map enF)))∧L.length=i∧L.map EN.n=g.nodes.take i∧(∀ e∈L,e.Ok σ')∧(∀ q∈L.flatMap EN.objs,σ.length≤q)∧(L.flatMap EN.objs).Nodup∧(c1=true↔L=[])) ?_ _ _ _ ⟨0,_,_,[],true,rfl,by omega,rfl,rfl,Fr.refl,?_,rfl,rfl,by simp,by simp,by simp,by simp⟩
 rotate_left
 ·rw[ho,List.nil_append,List.drop_zero,vs,vs,List.map_map];rfl
 rintro _ _ _ ⟨i,c',σ',L,c1,rfl,hi,rfl,rfl,f0,ho0,hL,hm,Xf,hLn,hLd,hc1⟩
 refine⟨rfl,?_⟩
 by_cases hlt:i<g.nodes.length
 ·have Z8:g.nn=true:=by
   cases hb:g.nn with
   |true=>rfl
   |false=>rw[hnn hb]at hlt;simp at hlt
  obtain rfl:=hes Z8
  rw[Z8]at ho0
  have hmem:g.nodes[i]∈g.nodes:=List.getElem_mem hlt
  obtain⟨hno,hlb,hpp⟩:=hok _ hmem
  have h30:=f0.get h3 (by simpa using h3o)
  have g0:=Abh (fv:=EN.av) (f:=enF) hL hlt
  have hol:=BR ho0
  have hos:=BR ho
  have hp3:=BR h30
  obtain⟨n,hn⟩:∃n,n=g.nodes[i]:=⟨_,rfl⟩
  rw[← hn]at g0 hno hlb hpp
  have hln:=hno.2.2.1
  have hpn:=hno.2.2.2.2.2.1
  (conv=>whnf);repeat' (first|((first|refine need.mk Yz ?_|(refine BU fun σ1 f1 h1 l1=>?_;have ho1:=f1.get ho0 (by simp);have h31:=f1.get h30 (by simp))|rw[ho0]|rw[h1]|refine Af g0 ?_|refine Af (G5 g0) ?_|(refine EL h1 fun σ2 f2 h2 l2=>?_;have ho2:=f2.get ho1 (by simp;omega);have h32:=f2.get h31 (by simp;omega))|rw[h2]|rw[h32]|rw[ho2]|(refine Aee hln rfl Ahf (Ahg (by omega)) fun σ3 e3 f3 a3 b3 l3=>?_;have ho3:=f3.get ho2 (by simp);have h33:=f3.get h32 (by simp);have h23:=f3.get h2 (by simp))|rw[h33]|rw[ho3]|refine(Dp _ _).2 ?_|(refine EL ho3 fun σ4 f4 h4 l4=>?_;have h34:=f4.get h33 (by simpa using h3o);have h24:=f4.get h23 (by simp;omega))|rw[h34]|rw[h24]|(refine Aee hpn rfl AaU (AaV (by omega)) fun σ5 e5 f5 a5 b5 l5=>?_;have ho5:=f5.get h4 (by simp);have h35:=f5.get h34 (by simp))|rw[h35]|rw[ho5]|(refine EL ho5 fun σ6 f6 h6 l6=>?_;have h36:=f6.get h35 (by simpa using h3o))|rw[h36]|refine kA ?_|(apply Br.mk<;>intro hc))<;>first|exact hc.elim|conv=>whnf)|refine kB ?_)
  all_goals first
   |omega
   |skip
  all_goals
   dsimp only at l1 l2 l3 l4 l5 l6
   have f06:Fr σ' σ6 [o]:=((((((f1.mono (F':=[o,σ'.length]) (by simp)).trans (f2.mono (by simp))).trans (f3.mono (by simp))).trans (f4.mono (by simp))).trans (f5.mono (by simp))).trans (f6.mono (by simp))).mono (by simp)
   have k3:=f6.get (f5.get (f4.get a3 (by simp;omega)) (by simp)) (by simp;omega)
   have k5:=f6.get a5 (by simp;omega)
   have hlo:∀q∈L.flatMap EN.objs,q<σ'.length:=fun q hq=>by
        obtain⟨e,he,hq⟩:=List.mem_flatMap.1 hq
        exact(Xf e he).lt q hq
   refine again.mk ⟨_,by omega,i+1,_,σ6,L++[⟨n,.own σ2.length (c'+1) 0 n.labels.length,.own σ4.length (c'+1+1) 0 n.props.length⟩],false,rfl,by omega,rfl,rfl,f0.trans f06,?_,by simp[hL],?_,fun e he=>?_,fun q hq=>?_,?_,by simp⟩
   ·rw[Z8,←set_mid hL hlt,←Afl,h6,List.set_set];rfl
   ·rw[List.map_append,hm,List.take_succ_eq_append_getElem hlt,hn];rfl
   ·rcases List.mem_append.1 he with he|he
    ·exact(Xf e he).keep fun q hq=>f06.eq q ((Xf e he).lt q hq) (by have:=hLn q (List.mem_flatMap.2 ⟨e,he,hq⟩);simp;omega)
    ·obtain rfl:=List.mem_singleton.1 he
     exact⟨Afm k3 b3 hln,Afm k5 b5 hpn⟩
   ·rw[List.flatMap_append]at hq
    rcases List.mem_append.1 hq with hq|hq
    ·exact hLn q hq
    ·have:=f0.len
     simp only[List.flatMap_cons,List.flatMap_nil,EN.objs,AV.obj,List.append_nil,List.mem_append,List.mem_singleton]at hq
     omega
   ·rw[List.flatMap_append]
    refine List.nodup_append.2 ⟨hLd,?_,fun a ha b hb e=>?_⟩
    ·simp[EN.objs,AV.obj];omega
    ·have:=hlo a ha
     simp only[List.flatMap_cons,List.flatMap_nil,EN.objs,AV.obj,List.append_nil,List.mem_append,List.mem_singleton]at hb
     omega
 ·obtain rfl:i=g.nodes.length:=by omega
  (conv=>whnf);repeat' (first|((first|refine kA ?_|(apply Br.mk<;>intro hc))<;>first|exact hc.elim|conv=>whnf)|refine kB ?_)
  all_goals first
   |exact hQ _ _ c1 L _ f0 (by rw[ho0];simp) (by rw[hm,List.take_length]) Xf hLn hLd hc1
   |omega
set_option maxHeartbeats 4000000 in
theorem cpE {g:GG} {oN uN nN p2 p3 u2 u3 o u:Nat} {es:Nat} {Q:AQ→Env→Am→Prop} (hl:g.edges.length≤4000) (hok:∀n∈g.edges,n.ok∧n.props.length≤16) (hnn:g.en=false→g.edges=[]) (hes:g.en=true→es=5)
 (h3:nth σ p3=some (.arr u3 4 true false [.agg [.own oN uN 0 nN,.own o u 0 g.edges.length,.int .i64 g.Df,.int .i64 g.DC]]))
 (ho:nth σ o=some (.arr u es g.en true (vs GE.av g.edges))) (h3o:p3≠o)
 (hQ:∀σ' c' c1 L tl,Fr σ σ' [o]→nth σ' o=some (.arr u es g.en c1 (vs EE.av L))→L.map EE.e=g.edges→(∀ e∈L,e.Ok σ')→(∀ q∈L.flatMap EE.objs,σ.length≤q)→(L.flatMap EE.objs).Nodup→(c1=true↔L=[])→Q (.exit 2) ([(2,.ref p2 u2 0 0),(3,.ref p3 u3 0 0),(43,.own o u 0 g.edges.length),(44,.int .i64 g.edges.length),(45,.int .i64 g.edges.length)]++tl) ⟨σ',c'⟩):
 Run (Ad tab) (.loop l59_1_h l59_1_b) [(2,.ref p2 u2 0 0),(3,.ref p3 u3 0 0),(43,.own o u 0 g.edges.length),(44,.int .i64 g.edges.length),(45,.int .i64 0)] ⟨σ,ct⟩ Q:=by
 refine Ag (fun m env s=>∃(i c':Nat) (σ':List Obj) (L:List EE) (c1:Bool),m=g.edges.length-i∧i≤g.edges.length∧env=[(2,.ref p2 u2 0 0),(3,.ref p3 u3 0 0),(43,.own o u 0 g.edges.length),(44,.int .i64 g.edges.length),(45,.int .i64 i)]∧s=⟨σ',c'⟩∧Fr σ σ' [o]∧nth σ' o=some (.arr u es g.en c1 (vs EE.av (L++(g.edges.drop i).map eeF)))∧L.length=i∧L.map EE.e=g.edges.take i∧(∀ e∈L,e.Ok σ')∧(∀ q∈L.flatMap EE.objs,σ.length≤q)∧(L.flatMap EE.objs).Nodup∧(c1=true↔L=[])) ?_ _ _ _ ⟨0,_,_,[],true,rfl,by omega,rfl,rfl,Fr.refl,?_,rfl,rfl,by simp,by simp,by simp,by simp⟩
 rotate_left
 ·rw[ho,List.nil_append,List.drop_zero,vs,vs,List.map_map];rfl
 rintro _ _ _ ⟨i,c',σ',L,c1,rfl,hi,rfl,rfl,f0,ho0,hL,hm,Xf,hLn,hLd,hc1⟩
 refine⟨rfl,?_⟩
 by_cases hlt:i<g.edges.length
 ·have Z8:g.en=true:=by
   cases hb:g.en with
   |true=>rfl
   |false=>rw[hnn hb]at hlt;simp at hlt
  obtain rfl:=hes Z8
  rw[Z8]at ho0
  have hmem:g.edges[i]∈g.edges:=List.getElem_mem hlt
  obtain⟨hno,hpp⟩:=hok _ hmem
  have h30:=f0.get h3 (by simpa using h3o)
  have g0:=Abh (fv:=EE.av) (f:=eeF) hL hlt
  have hol:=BR ho0
  have hos:=BR ho
  have hp3:=BR h30
  obtain⟨n,hn⟩:∃n,n=g.edges[i]:=⟨_,rfl⟩
  rw[← hn]at g0 hno hpp
  have hpn:=hno.2.2.2.2.2.1
  (conv=>whnf);repeat' (first|((first|refine need.mk Yz ?_|(refine BU fun σ1 f1 h1 l1=>?_;have ho1:=f1.get ho0 (by simp);have h31:=f1.get h30 (by simp))|rw[ho0]|rw[h1]|refine Af g0 ?_|refine Af (G5 g0) ?_|(refine EL h1 fun σ2 f2 h2 l2=>?_;have ho2:=f2.get ho1 (by simp;omega);have h32:=f2.get h31 (by simp;omega))|rw[h2]|rw[h32]|rw[ho2]|(refine Aee hpn rfl AaU (AaV (by omega)) fun σ3 e3 f3 a3 b3 l3=>?_;have ho3:=f3.get ho2 (by simp);have h33:=f3.get h32 (by simp);have h23:=f3.get h2 (by simp))|rw[h33]|rw[ho3]|refine(Dp _ _).2 ?_|(refine EL ho3 fun σ4 f4 h4 l4=>?_;have h34:=f4.get h33 (by simpa using h3o);have h24:=f4.get h23 (by simp;omega))|rw[h34]|rw[h24]|refine kA ?_|(apply Br.mk<;>intro hc))<;>first|exact hc.elim|conv=>whnf)|refine kB ?_)
  all_goals first
   |omega
   |skip
  all_goals
   dsimp only at l1 l2 l3 l4
   have f06:Fr σ' σ4 [o]:=((((f1.mono (F':=[o,σ'.length]) (by simp)).trans (f2.mono (by simp))).trans (f3.mono (by simp))).trans (f4.mono (by simp))).mono (by simp)
   have k3:=f4.get a3 (by simp;omega)
   have hlo:∀q∈L.flatMap EE.objs,q<σ'.length:=fun q hq=>by
        obtain⟨e,he,hq⟩:=List.mem_flatMap.1 hq
        exact(Xf e he).lt q hq
   refine again.mk ⟨_,by omega,i+1,_,σ4,L++[⟨n,.own σ2.length (c'+1) 0 n.props.length⟩],false,rfl,by omega,rfl,rfl,f0.trans f06,?_,by simp[hL],?_,fun e he=>?_,fun q hq=>?_,?_,by simp⟩
   ·rw[Z8,←set_mid hL hlt,←Afl,h4];rfl
   ·rw[List.map_append,hm,List.take_succ_eq_append_getElem hlt,hn];rfl
   ·rcases List.mem_append.1 he with he|he
    ·exact(Xf e he).keep fun q hq=>f06.eq q ((Xf e he).lt q hq) (by have:=hLn q (List.mem_flatMap.2 ⟨e,he,hq⟩);simp;omega)
    ·obtain rfl:=List.mem_singleton.1 he
     exact Afm k3 b3 hpn
   ·rw[List.flatMap_append]at hq
    rcases List.mem_append.1 hq with hq|hq
    ·exact hLn q hq
    ·have:=f0.len
     simp only[List.flatMap_cons,List.flatMap_nil,EE.objs,AV.obj,List.append_nil,List.mem_singleton]at hq
     omega
   ·rw[List.flatMap_append]
    refine List.nodup_append.2 ⟨hLd,?_,fun a ha b hb e=>?_⟩
    ·simp[EE.objs,AV.obj]
    ·have:=hlo a ha
     simp only[List.flatMap_cons,List.flatMap_nil,EE.objs,AV.obj,List.append_nil,List.mem_singleton]at hb
     omega
 ·obtain rfl:i=g.edges.length:=by omega
  (conv=>whnf);repeat' (first|((first|refine kA ?_|(apply Br.mk<;>intro hc))<;>first|exact hc.elim|conv=>whnf)|refine kB ?_)
  all_goals first
   |exact hQ _ _ c1 L _ f0 (by rw[ho0];simp) (by rw[hm,List.take_length]) Xf hLn hLd hc1
   |omega
end
structure Cp (σ0 σ:List Obj) (vN vE:AV) (g:GG) (N:List EN) (E:List EE):Prop where
 hn:∃c,Hd EN.av 3 σ vN g.nn N c∧(c=true→∀e∈N,e.av.closed=true)
 he:∃c,Hd EE.av 5 σ vE g.en E c∧(c=true→∀e∈E,e.av.closed=true)
 hN:∀e∈N,e.Ok σ
 hE:∀e∈E,e.Ok σ
 nd:(vN.obj++(vE.obj++Bz N E)).Nodup
 new:∀o∈vN.obj++(vE.obj++Bz N E),σ0.length≤o
 mN:N.map EN.n=g.nodes
 mE:E.map EE.e=g.edges
 fr:Fr σ0 σ []
structure Few (g:GG):Prop where
 ok:g.ok
 lN:g.nodes.length≤2000
 lE:g.edges.length≤4000
 pN:∀n∈g.nodes,n.labels.length≤8∧n.props.length≤16
 pE:∀n∈g.edges,n.props.length≤16
theorem Aiy {α:Type} {f:α→AV} {es es':Nat} {σ:List Obj} {p g:Nat} {nn c:Bool} {l:List α} (h:nth σ p=some (.arr g es' nn c (vs f l))) (h1:nn=true→es'=es) (h2:nn=false→l=[]) (h3:c=true↔l=[]):∃c,Hd f es σ (.own p g 0 l.length) nn l c∧(c=true→∀e∈l,(f e).closed=true):=by
 cases nn with
 |false=>
  obtain rfl:=h2 rfl
  obtain rfl:=h3.2 rfl
  exact⟨true,.inl ⟨rfl,rfl,.inr ⟨_,_,_,rfl,h⟩⟩,by simp⟩
 |true=>obtain rfl:=h1 rfl;exact⟨c,.inr ⟨rfl,_,_,rfl,h⟩,fun hc=>by rw[h3.1 hc];simp⟩
theorem Aow {σ:List Obj} {o g c' a1 a2 a3 b1 b2 b3:Nat} {nn cl:Bool} {x y:Int} (h:nth σ o=some (.arr g 4 nn cl [.agg [.own a1 a2 0 a3,.own b1 b2 0 b3,.int .i64 x,.int .i64 y]])):Ey [(2,.ref o g 0 0)] ⟨σ,c'⟩ [.cell 2 (some 4)]=some [.agg [.own a1 a2 0 a3,.own b1 b2 0 b3,.int .i64 x,.int .i64 y]]:=by
 show(match Hy [(2,.ref o g 0 0)] ⟨σ,c'⟩ (.cell 2 (some 4)),Ey [(2,.ref o g 0 0)] ⟨σ,c'⟩ []with
  |some v,some vs=>some (v::vs)
  |_,_=>none)=_
 have e:Hy [(2,.ref o g 0 0)] ⟨σ,c'⟩ (.cell 2 (some 4))=some (.agg [.own a1 a2 0 a3,.own b1 b2 0 b3,.int .i64 x,.int .i64 y]):=by
  simp[Hy,Env.get,h,nth,AV.cells,loadCells]
 rw[e]
 rfl
section
variable {σ:List Obj} {ct:Nat} {K:AB→Am→Prop}
set_option maxHeartbeats 4000000 in
theorem AgQ {g:GG} (hg:Few g) (hK:∀σ' c' oN uN nN oE uE nE N E,Cp σ σ' (.own oN uN 0 nN) (.own oE uE 0 nE) g N E→K (.ok (.agg [.own oN uN 0 nN,.own oE uE 0 nE,.int .i64 g.Df,.int .i64 g.DC])) ⟨σ',c'⟩):
 Ar (Ad tab) 59 [g.av] ⟨σ,ct⟩ K:=by
 obtain⟨g1,g2,g3,g4,g5,g6,g7,g8⟩:=hg.ok
 have hlN:=hg.lN
 have hlE:=hg.lE
 refine Ai rfl rfl ?_
 show vC _ _ [(0,.agg [.sl g.nn (vs GN.av g.nodes),.sl g.en (vs GE.av g.edges),.int .i64 g.Df,.int .i64 g.DC])] _ _
 (conv=>whnf);repeat' (first|((first|(refine BU fun σ3 f3 h3 l3=>?_;have h13:=f3.get h12 (by simp);have h23:=f3.get h2 (by simp))|(refine BU fun σ2 f2 h2 l2=>?_;have h12:=f2.get h1 (by simp))|refine BU fun σ1 f1 h1 l1=>?_|rw[h12]|rw[h3]|refine(Dp _ _).2 ?_|(refine EL h3 fun σ4 f4 h4 l4=>?_;have h14:=f4.get h13 (by dsimp only at *;simp;omega);have h24:=f4.get h23 (by dsimp only at *;simp;omega))|rw[h14]|rw[h4]|(refine Aee g2 rfl AgS (AgT (by omega)) fun σ5 e5 f5 a5 b5 l5=>?_;have h15:=f5.get h14 (by simp);have h25:=f5.get h24 (by simp);have h35:=f5.get h4 (by simp))|rw[h35]|(refine EL h35 fun σ6 f6 h6 l6=>?_;have h16:=f6.get h15 (by dsimp only at *;simp;omega);have h26:=f6.get h25 (by dsimp only at *;simp;omega);have a6:=f6.get a5 (by dsimp only at *;simp;omega))|rw[h6]|refine kA ?_|(apply Br.mk<;>intro hc))<;>first|exact hc.elim|conv=>whnf)|refine kB ?_)
 dsimp only at l1 l2 l3 l4 l5 l6
 have hll:∀(M:List EN),M.map EN.n=g.nodes→M.length=g.nodes.length:=fun M h=>by rw[← h,List.length_map]
 have hle:∀(M:List EE),M.map EE.e=g.edges→M.length=g.edges.length:=fun M h=>by rw[← h,List.length_map]
 refine cpN (es:=e5) hlN (fun n hn=>⟨g3 n hn,hg.pN n hn⟩) g2 b5 h6 a6 (by dsimp only;omega) fun σ7 c7 d7 L tl f7 h7 m7 k7 n7 q7 r7=>?_
 have h17:=f7.get h16 (by simp;omega)
 have h27:=f7.get h26 (by simp;omega)
 have h37:=f7.get h6 (by simp;omega)
 (conv=>whnf);repeat' (first|((first|rw[h17]|rw[h37]|refine(Dp _ _).2 ?_|(refine Aee g5 rfl AgU (AgV (by omega)) fun σ8 e8 f8 a8 b8 l8=>?_;have h18:=f8.get h17 (by simp);have h28:=f8.get h27 (by simp);have h38:=f8.get h37 (by simp))|rw[h38]|(refine EL h38 fun σ9 f9 h9 l9=>?_;have h29:=f9.get h28 (by dsimp only at *;simp;omega);have a9:=f9.get a8 (by have:=f7.len;dsimp only at *;simp;omega))|rw[h9]|refine kA ?_|(apply Br.mk<;>intro hc))<;>first|exact hc.elim|conv=>whnf)|refine kB ?_)
 dsimp only at l8 l9
 have lf7:=f7.len
 refine cpE (es:=e8) hlE (fun n hn=>⟨g6 n hn,hg.pE n hn⟩) g5 b8 h9 a9 (by dsimp only;omega) fun σ10 c10 d10 M tl' f10 h10 m10 k10 n10 q10 r10=>?_
 have AmA:=f10.get h29 (by simp;omega)
 have Aox:=f10.get h9 (by simp;omega)
 (conv=>whnf);repeat' (first|((first|rw[Aox]|refine(Dp _ _).2 ?_|rw[AmA]|refine EL AmA fun σ11 f11 h11 l11=>?_|refine kA ?_|(apply Br.mk<;>intro hc))<;>first|exact hc.elim|conv=>whnf)|refine kB ?_)
 refine⟨_,Aow h11,?_⟩
 have lf10:=f10.len
 dsimp only at l11 lf10 lf7 n7 n10 k7 k10
 have k7':∀q∈L.flatMap EN.objs,q<σ7.length:=fun q hq=>by
  obtain⟨e,he,hm⟩:=List.mem_flatMap.1 hq
  exact(k7 e he).lt q hm
 have hN:=f11.get (f10.get (f9.get (f8.get h7 (by simp)) (by simp;omega)) (by simp;omega)) (by simp;omega)
 have hE:=f11.get h10 (by simp;omega)
 have eN:=hll _ m7
 have eE:=hle _ m10
 rw[← eN,←eE]
 refine hK σ11 _ _ _ _ _ _ _ L M ⟨Aiy hN b5 (fun h=>?_) r7,Aiy hE b8 (fun h=>?_) r10,fun e he=>(k7 e he).keep fun q hq=>?_,fun e he=>(k10 e he).keep fun q hq=>?_,?_,?_,m7,m10,?_⟩
 ·have:=g2 h;rw[this]at m7;simpa using m7
 ·have:=g5 h;rw[this]at m10;simpa using m10
 ·have hq1:=n7 q (List.mem_flatMap.2 ⟨e,he,hq⟩)
  have hq2:=(k7 e he).lt q hq
  exact(f11.eq q (show q<σ10.length by omega) (by simp;omega)).trans ((f10.eq q (show q<σ9.length by omega) (by simp;omega)).trans ((f9.eq q (show q<σ8.length by omega) (by simp;omega)).trans (f8.eq q hq2 (by simp))))
 ·have hq1:=n10 q (List.mem_flatMap.2 ⟨e,he,hq⟩)
  have hq2:=(k10 e he).lt q hq
  exact f11.eq q hq2 (by simp;omega)
 ·simp only[AV.obj,Bz,List.singleton_append,List.nodup_cons,List.mem_cons,List.mem_append,not_or,List.nodup_append]
  refine⟨⟨by omega,fun h=>by have:=n7 _ h;omega,fun h=>by have:=n10 _ h;omega⟩,⟨fun h=>by have:=k7' _ h;omega,fun h=>by have:=n10 _ h;omega⟩,q7,q10,fun a ha b hb e=>?_⟩
  have:=k7' a ha
  have:=n10 b hb
  omega
 ·intro o ho
  simp only[AV.obj,Bz,List.singleton_append,List.mem_cons,List.mem_append]at ho
  rcases ho with rfl|rfl|ho|ho
  ·omega
  ·omega
  ·have:=n7 o ho;omega
  ·have:=n10 o ho;omega
 ·have e4:Fr σ σ4 []:=(((f1.trans f2).trans f3).mono (F':=[σ2.length]) (by simp) |>.trans f4).mono (by simp;omega)
  have e6:Fr σ σ6 []:=((e4.trans f5).mono (F':=[σ2.length]) (by simp) |>.trans f6).mono (by simp;omega)
  have e7:Fr σ σ7 []:=(e6.mono (F':=[σ4.length]) (by simp) |>.trans f7).mono (by simp;omega)
  have e9:Fr σ σ9 []:=((e7.trans f8).mono (F':=[σ2.length]) (by simp) |>.trans f9).mono (by simp;omega)
  have e10:Fr σ σ10 []:=(e9.mono (F':=[σ7.length]) (by simp) |>.trans f10).mono (by simp;omega)
  exact(e10.mono (F':=[σ1.length]) (by simp) |>.trans f11).mono (by simp;omega)
end
def ED:GG:=⟨false,[],false,[],0,0⟩
def RX:GG→List GC→Nat→GG×Nat×Int
 |g,[],i=>(g,i,0)
 |g,c::cs,i=>if(stepG g c).1≠0 then(ED,i,(stepG g c).1)else RX (stepG g c).2 cs (i+1)
theorem Ed.AaS {σ:List Obj} {d gd:Nat} {vN vE:AV} {nb eb:Bool} {N:List EN} {E:List EE} {x y:Int} (h:Ed σ d gd vN vE nb eb N E x y) {o g:Nat} {c:Bool} {r:List AV} (ho:nth σ o=some (.arr g 4 true c [.agg (.sl false []::r)])):o∉d::(vN.obj++(vE.obj++Bz N E)):=by
 intro hq
 obtain⟨cn,hn1,_⟩:=h.hn
 obtain⟨ce,he1,_⟩:=h.he
 rcases List.mem_cons.1 hq with rfl|hq
 ·have:=h.box;rw[ho]at this
  simp only[Option.some.injEq,Obj.arr.injEq,List.cons.injEq,AV.agg.injEq]at this
  exact h.oN this.2.2.2.2.1.1.symm
 rcases List.mem_append.1 hq with hq|hq
 ·exact hn1.diff ho (by decide) hq
 rcases List.mem_append.1 hq with hq|hq
 ·exact he1.diff ho (by decide) hq
 rcases List.mem_append.1 hq with hq|hq<;>obtain⟨e,he,hm⟩:=List.mem_flatMap.1 hq
 ·rcases List.mem_append.1 hm with hm|hm
  ·exact(h.hN e he).1.diff ho (by decide) hm
  ·exact(h.hN e he).2.diff ho (by decide) hm
 ·exact Hd.diff (h.hE e he) ho (by decide) hm
section
variable {σ:List Obj} {ct:Nat}
end
theorem JK {f:Nat→Int} {i:Nat} (h:∀k,k<i→f k=0) (hi:f i=0):∀k,k<i+1→f k=0:=by
 intro k hk
 rcases Nat.lt_or_ge k i with h1|h1
 ·exact h k h1
 ·obtain rfl:k=i:=by omega
  exact hi
theorem Alh {n:GN} (h:n.ok):Ae (Ad tab) 103 [.sl n.ln (vs .str n.labels),.sl n.pn (vs GP.av n.props)] (· =.int .i64 (Dw n.labels n.props)):=
 Afy h.2.1 h.2.2.2.1 h.2.2.2.2.1 h.2.2.2.2.2.2
theorem Ah3 {n:GE} (h:n.ok):Ae (Ad tab) 103 [.sl false [],.sl n.pn (vs GP.av n.props)] (· =.int .i64 (Dw [] n.props)):=
 Afy (L:=[]) (by decide) (by simp) h.2.2.2.2.1 h.2.2.2.2.2.2
theorem Ali {g:GG} (hg:g.ok) (hf:Gv g) (hnx:Hg g) {c:Nat} {Q:AQ→Env→Am→Prop}
 (hret:∀r s,AV.int .i64 r=AV.int .i64 (AZ g)→Q .ret [(2,.int .i64 r)] s)
 (hend:(∀ k,k<g.nodes.length→Fg g.nodes g.Df k=0)→∀c i,Q (.exit 0) [(1,.ref 0 0 0 0),(38,.sl g.nn (vs GN.av g.nodes)),(39,.int .i64 g.nodes.length),(40,.int .i64 i),(41,.bool false)] ⟨[.arr 0 4 true true [g.av]],c⟩):
 Run (Ad tab) (.loop l47_0_h l47_0_b) [(1,.ref 0 0 0 0),(38,.sl g.nn (vs GN.av g.nodes)),(39,.int .i64 g.nodes.length),(40,.int .i64 0)] ⟨[.arr 0 4 true true [g.av]],c⟩ Q:=by
 obtain⟨g1,g2,g3,g4,g5,g6,g7,g8⟩:=hg
 unfold Ln at g1 g4
 have hf':g.nodes.length≤2000:=hf.1
 refine Ag (fun m env s=>∃i:Nat,m=g.nodes.length-i∧env=[(1,.ref 0 0 0 0),(38,.sl g.nn (vs GN.av g.nodes)),(39,.int .i64 g.nodes.length),(40,.int .i64 i)]∧(∃ c,s=⟨[.arr 0 4 true true [g.av]],c⟩)∧∀k,k<i→Fg g.nodes g.Df k=0) ?_ _ _ _ ⟨0,rfl,by simp,⟨_,rfl⟩,fun k h=>absurd h (by omega)⟩
 rintro _ _ _ ⟨i,rfl,rfl,⟨c,rfl⟩,hx⟩
 refine⟨rfl,?_⟩
 have hat:∀h:i<g.nodes.length,(g.nodes[i]).ok:=fun h=>g3 _ (List.getElem_mem _)
 (conv=>whnf);repeat' (first|((first|(apply Af;(· exact nVz (i-1) (by omega) (by omega)))|apply kE (Alh (n:=g.nodes[i]) (hat (by omega)))|(refine hret _ _ ?_)|(refine hend (fun k hk=>hx k (by omega)) _ _)|refine kA ?_|(apply Br.mk<;>intro hc))<;>first|exact hc.elim|conv=>whnf)|refine kB ?_)
 all_goals first
  |exact again.mk ⟨_,by omega,i+1,rfl,rfl,⟨_,rfl⟩,JK hx ((XU (by omega) (fun h=>by first|assumption|omega) (by omega)).trans hc)⟩
  |exact checkN hf hnx (by omega) hx (Aaa (by omega) (by omega) ‹_›) (by decide)
  |exact checkN hf hnx (by omega) hx (node1 (by omega) (fun h=>by first|assumption|omega) (by omega)) (by decide)
  |exact checkN hf hnx (by omega) hx (XU (by omega) (fun h=>by first|assumption|omega) (by omega)) hc
set_option maxHeartbeats 1000000 in
theorem Alj {g:GG} (hg:g.ok) (hf:Gv g) (hnx:Hg g) (hN:∀k,k<g.nodes.length→Fg g.nodes g.Df k=0) {c:Nat} {Q:AQ→Env→Am→Prop}
 (hret:∀r s,AV.int .i64 r=AV.int .i64 (AZ g)→Q .ret [(2,.int .i64 r)] s)
 (hend:(∀ k,k<g.edges.length→FM g.nodes g.edges g.DC k=0)→∀c i,Q (.exit 2) [(1,.ref 0 0 0 0),(79,.sl g.en (vs GE.av g.edges)),(80,.int .i64 g.edges.length),(81,.int .i64 i),(82,.bool false)] ⟨[.arr 0 4 true true [g.av]],c⟩):
 Run (Ad tab) (.loop l47_1_h l47_1_b) [(1,.ref 0 0 0 0),(79,.sl g.en (vs GE.av g.edges)),(80,.int .i64 g.edges.length),(81,.int .i64 0)] ⟨[.arr 0 4 true true [g.av]],c⟩ Q:=by
 obtain⟨g1,g2,g3,g4,g5,g6,g7,g8⟩:=hg
 unfold Ln at g1 g4
 have hf':g.edges.length≤4000:=hf.2
 have hI:=Aad hN
 have hl:g.nodes.length<2^62:=by have:=hf.1;omega
 refine Ag (fun m env s=>∃i:Nat,m=g.edges.length-i∧env=[(1,.ref 0 0 0 0),(79,.sl g.en (vs GE.av g.edges)),(80,.int .i64 g.edges.length),(81,.int .i64 i)]∧(∃ c,s=⟨[.arr 0 4 true true [g.av]],c⟩)∧∀k,k<i→FM g.nodes g.edges g.DC k=0) ?_ _ _ _ ⟨0,rfl,by simp,⟨_,rfl⟩,fun k h=>absurd h (by omega)⟩
 rintro _ _ _ ⟨i,rfl,rfl,⟨c,rfl⟩,hx⟩
 refine⟨rfl,?_⟩
 have hat:∀h:i<g.edges.length,(g.edges[i]).ok:=fun h=>g6 _ (List.getElem_mem _)
 (conv=>whnf);repeat' (first|((first|(apply Af;(· exact nVz (i-1) (by omega) (by omega)))|refine Aq (Aon hl hI) (fun hc=>?_) (fun hc=>?_)|refine Aq (AbU (s:=(g.edges[i]).ty) (hat (by omega)).2.2.2.1) (fun hnm=>?_) (fun hnm=>?_)|apply kE (Ah3 (n:=g.edges[i]) (hat (by omega)))|(refine hret _ _ ?_)|(refine hend (fun k hk=>hx k (by omega)) _ _)|refine kA ?_|(apply Br.mk<;>intro hc))<;>first|exact hc.elim|conv=>whnf)|refine kB ?_)
 all_goals first
  |exact again.mk ⟨_,by omega,i+1,rfl,rfl,⟨_,rfl⟩,JK hx ((XV (by omega) (fun h=>by first|assumption|omega) (by omega) ⟨by assumption,by assumption⟩ hnm).trans hc)⟩
  |exact NG hf hnx hN (by omega) hx (Aab (by omega) (by omega) ‹_›) (by decide)
  |exact NG hf hnx hN (by omega) hx (Afp (by omega) (fun h=>by first|assumption|omega) (by omega)) (by decide)
  |exact NG hf hnx hN (by omega) hx (Aac (by omega) (fun h=>by first|assumption|omega) (by omega) (fun h=>by first|exact absurd h.1 ‹_› |exact absurd h.2 ‹_›)) (by decide)
  |exact NG hf hnx hN (by omega) hx (Afq (by omega) (fun h=>by first|assumption|omega) (by omega) ⟨by assumption,by assumption⟩ hnm) (by decide)
  |exact NG hf hnx hN (by omega) hx (XV (by omega) (fun h=>by first|assumption|omega) (by omega) ⟨by assumption,by assumption⟩ hnm) hc
theorem V6 {g:GG} (hg:g.ok):Ae (Ad tab) 47 [g.av] (· =.int .i64 (AZ g)):=by
 have hg0:=hg
 obtain⟨g1,g2,g3,g4,g5,g6,g7,g8⟩:=hg
 unfold Ln at g1 g4
 refine Ac rfl rfl ?_
 (conv=>whnf);repeat' (first|((first|refine kA ?_|(apply Br.mk<;>intro hc))<;>first|exact hc.elim|conv=>whnf)|refine kB ?_)
 all_goals first|exact Afr (by unfold Gv;omega)|exact Afs (by unfold Gv;omega) (by unfold Hg;omega)|skip
 have hf:Gv g:=by unfold Gv;omega
 have hnx:Hg g:=by unfold Hg;omega
 refine Ali hg0 hf hnx (fun r s h=>by(conv=>whnf);(apply Aj;(· rfl);conv=>whnf);(apply Aj;(· rfl);conv=>whnf);exact h) (fun hN c i=>?_)
 (conv=>whnf);repeat' (first|((first|refine kA ?_|(apply Br.mk<;>intro hc))<;>first|exact hc.elim|conv=>whnf)|refine kB ?_)
 refine Alj hg0 hf hnx hN (fun r s h=>by(conv=>whnf);(apply Aj;(· rfl);conv=>whnf);(apply Aj;(· rfl);conv=>whnf);exact h) (fun hE c i=>?_)
 (conv=>whnf);repeat' (first|((first|refine kA ?_|(apply Br.mk<;>intro hc))<;>first|exact hc.elim|conv=>whnf)|refine kB ?_)
 exact Zr hf hnx hN hE
theorem WL {α κ:Type} {lt:κ→κ→Bool} {key:α→κ} (hs:Tq lt) {l:List α} (h:∀j (hj:j+1<l.length),lt (key l[j]) (key l[j+1])=true):Inc lt key l:=by
 refine List.pairwise_iff_getElem.2 fun i j hi hj hij=>?_
 obtain⟨d,rfl⟩:∃d,j=i+1+d:=⟨j-(i+1),by omega⟩
 clear hij
 induction d with
 |zero=>exact h i hj
 |succ d ih=>exact hs.tr _ _ _ (ih (by omega)) (h (i+1+d) (by omega))
theorem Vm {l:List (List UInt8)} (h:rises l):Inc Op.bytesLess id l:=by
 refine WL AA fun j hj=>?_
 have:=h j hj
 simp only[Bool.or_eq_false_iff,beq_eq_false_iff_ne]at this
 cases hb:Op.bytesLess (id l[j]) (id l[j+1])with
 |true=>rfl
 |false=>exact absurd (AA.tot _ _ this.1 hb) this.2
theorem PV {L:List (List UInt8)} {P:List GP} (h:Dw L P=0):L.length≤8∧P.length≤16∧rises L∧rises (keysOf P)∧Aak L∧Aak (keysOf P)∧Abc P:=by
 by_cases h1:8<L.length∨16<P.length
 ·have:=PW h1;rw[h]at this;simp at this
 by_cases h2:Aak L∧Aak (keysOf P)
 case neg=>have:=PX h1 h2;rw[h]at this;simp at this
 by_cases h3:rises L∧rises (keysOf P)
 case neg=>have:=MO h1 h2 h3;rw[h]at this;simp at this
 by_cases h4:Abc P
 case neg=>have:=WM h1 h2 h3 h4;rw[h]at this;simp at this
 exact⟨by omega,by omega,h3.1,h3.2,h2.1,h2.2,h4⟩
theorem Yf {P:List GP} (h:rises (keysOf P)):Inc Op.bytesLess GP.key P:=by
 have:=Vm h
 unfold Inc keysOf at this
 rw[List.pairwise_map]at this
 exact this
theorem ZL {g:GG} (h:AZ g=0):IZ g:=by
 obtain⟨hf,hn,hN,hE⟩:=TG h
 refine⟨hf.1,hf.2,WL Aw fun j hj=>?_,WL Aw fun j hj=>?_,fun n hm=>?_,fun n hm=>?_,?_,?_⟩
 ·have:=(Py hj (hN _ hj)).1 (by omega)
  simpa[DY]using this
 ·have:=(Pz hj (hE _ hj)).1 (by omega)
  simpa[DY]using this
 ·obtain⟨i,hi,rfl⟩:=List.getElem_of_mem hm
  obtain⟨a1,a2,a3,a4,_⟩:=PV (Py hi (hN i hi)).2.2.2
  exact⟨Vm a3,a1,Yf a4,a2⟩
 ·obtain⟨i,hi,rfl⟩:=List.getElem_of_mem hm
  obtain⟨a1,a2,a3,a4,_⟩:=PV (Pz hi (hE i hi)).2.2.2.2.2.2
  exact⟨Yf a4,a2⟩
 ·have:=hn.1;have:=hn.2.1;omega
 ·have:=hn.2.2.1;have:=hn.2.2.2;omega
theorem Akg {g:GG} (hg:g.ok) (h:AZ g=0):Few g:=by
 have ha:=ZL h
 exact⟨hg,ha.lN,ha.lE,fun n hn=>⟨(ha.aN n hn).lL,(ha.aN n hn).lP⟩,fun n hn=>(ha.aE n hn).lP⟩
noncomputable def Bq (g:GG) (L:List GC):GG×Nat×Int:=if AZ g≠0 then(ED,0,AZ g)else RX g L 0
theorem Cp.ed {σ0 σ σ':List Obj} {oN uN nN oE uE nE gd:Nat} {g:GG} {N:List EN} {E:List EE} (h:Cp σ0 σ (.own oN uN 0 nN) (.own oE uE 0 nE) g N E) (hf:Fr σ σ' []) (hb:nth σ' σ.length=some (.arr gd 4 true false [.agg [.own oN uN 0 nN,.own oE uE 0 nE,.int .i64 g.Df,.int .i64 g.DC]])):EdG σ' σ.length gd g:=by
 obtain⟨cn,hn1,hn2⟩:=h.hn
 obtain⟨ce,he1,he2⟩:=h.he
 refine⟨_,_,g.nn,g.en,N,E,g.Df,g.DC,⟨hb,⟨cn,hn1.keep fun o ho=>hf.eq o (hn1.lt o ho) (by simp),hn2⟩,⟨ce,he1.keep fun o ho=>hf.eq o (he1.lt o ho) (by simp),he2⟩,
  fun e he=>(h.hN e he).keep fun o ho=>hf.eq o ((h.hN e he).lt o ho) (by simp),fun e he=>(h.hE e he).keep fun o ho=>hf.eq o ((h.hE e he).lt o ho) (by simp),
  List.nodup_cons.2 ⟨fun hm=>?_,h.nd⟩,by simp,by simp⟩,?_⟩
 ·have hlt:σ.length<σ.length:=by
   rcases List.mem_append.1 hm with hm|hm
   ·exact hn1.lt _ hm
   rcases List.mem_append.1 hm with hm|hm
   ·exact he1.lt _ hm
   rcases List.mem_append.1 hm with hm|hm<;>obtain⟨e,he,hm⟩:=List.mem_flatMap.1 hm
   ·exact(h.hN e he).lt _ hm
   ·exact(h.hE e he).lt _ hm
  omega
 ·obtain⟨a,b,c,d,e,f⟩:=g
  have h1:=h.mN
  have h2:=h.mE
  simp only[J4]at*
  rw[h1,h2]
theorem Akh {σ:List Obj} {o g c':Nat} {nn cl:Bool} {a b c d x y:AV} (ha:a.cells.length=1) (hb:b.cells.length=1) (h:nth σ o=some (.arr g 4 nn cl [.agg [a,b,c,d]])):Ey [(4,.ref o g 0 0),(5,x),(6,y)] ⟨σ,c'⟩ a27.results=some [.agg [a,b,c,d],x,y]:=by
 show(match Hy [(4,.ref o g 0 0),(5,x),(6,y)] ⟨σ,c'⟩ (.cell 4 (some 4)),Ey [(4,.ref o g 0 0),(5,x),(6,y)] ⟨σ,c'⟩ [.tmp 5,.tmp 6]with
  |some v,some vs=>some (v::vs)
  |_,_=>none)=_
 have e:Hy [(4,.ref o g 0 0),(5,x),(6,y)] ⟨σ,c'⟩ (.cell 4 (some 4))=some (.agg [a,b,c,d]):=by
  simp[Hy,Env.get,h,nth,AV.cells,loadCells]
 rw[e]
 rfl
theorem Aeu {AP:Nat→Option Ir} {f:Nat} {fn:Il} {args:List AV} {R:AV→Prop} (hf:AP f=some (.code fn)) (hl:args.length=fn.np) (h:vC AP fn.body (params args 0) ⟨[],0⟩ (Adr fn fun out s'=>∃r v,out=.ok r∧snap s'.σ EK r=some v∧R v)):Ae AP f args R:=by
 obtain⟨N,out,s',h1,r,v,rfl,h3,h4⟩:=Tf hf hl (Jp h)
 exact⟨v,⟨N,by simp only[EI,h1];exact h3⟩,h4⟩
theorem Rd.BD {σ:List Obj} {D:Nat} {xs ys:List AV} (h:Ky σ D xs ys):Rd σ (D+1) (.BD xs) (.BD ys):=fun m hm=>by
 obtain⟨m,rfl⟩:∃m',m=m'+1:=⟨m-1,by omega⟩
 simp only[snap,h m (by omega),Option.map_some]
theorem Rd.sl {σ:List Obj} {b:Bool} {xs:List AV}:Rd σ 1 (.sl b xs) (.sl b xs):=fun m hm=>by
 obtain⟨m,rfl⟩:∃m',m=m'+1:=⟨m-1,by omega⟩
 rfl
theorem WO {σ:List Obj}:Rd σ 10 (.agg [.sl false [],.sl false [],.int .i64 0,.int .i64 0]) ED.av:=
 (Rd.agg (Ky.cons (Rd.sl.mono (D':=5) (by omega)) (Ky.cons (Rd.sl.mono (D':=4) (by omega)) (Ky.cons (Rd.int.mono (D':=3) (by omega)) (Ky.cons (Rd.int.mono (D':=2) (by omega)) (Ky.nil.mono (by omega))))))).mono (by omega)
theorem rd3 {σ:List Obj} {D:Nat} {a b:AV} {x y:Int} (h:Rd σ D a b) (hD:D≤999000):snap σ EK (.BD [a,.int .i64 x,.int .i64 y])=some (.BD [b,.int .i64 x,.int .i64 y]):=
 (Rd.BD (Ky.cons (h.mono (D':=D+3) (by omega)) (Ky.cons (Rd.int.mono (D':=D+2) (by omega)) (Ky.cons (Rd.int.mono (D':=D+1) (by omega)) (Ky.nil.mono (by omega)))))) EK (by unfold EK;omega)
theorem Hd.AiB {α:Type} {f:α→AV} {es:Nat} {σ:List Obj} {v:AV} {b c:Bool} {l:List α} (h:Hd f es σ v b l c) (h0:v≠.sl false []):∃o g n,v=.own o g 0 n:=by
 rcases h with⟨_,_,rfl|⟨o',g,es',rfl,h⟩⟩|⟨_,o',g,rfl,h⟩
 ·exact absurd rfl h0
 ·exact⟨_,_,_,rfl⟩
 ·exact⟨_,_,_,rfl⟩
end AI
end Go.Proofs.YtjijnamhalgamaaGreatDoor
