/- A graph copied, for an editor: the whole. change.ApplyAll, its loop. graph.Check, walked. A checked graph is one that an editor may edit; change.ApplyAll. -/
import Derived.Test.YtnbibfalljlmfaaGreatDoorMas
import Derived.Test.YtnbibfalljlmfaaGreatDoorMal
set_option linter.unusedVariables false
set_option maxRecDepth 4000
namespace Go.Proofs.YtnbibfalljlmfaaGreatDoor
namespace AI
structure Cp (σ0 σ:List Obj) (vN vE:AV) (g:GG) (N:List EN) (E:List EE):Prop where
  hn:∃c,Hd EN.av 3 σ vN g.nn N c∧(c=true→∀e∈N,e.av.closed=true)
  he:∃c,Hd EE.av 5 σ vE g.en E c∧(c=true→∀e∈E,e.av.closed=true)
  hN:∀e∈N,e.Ok σ
  hE:∀e∈E,e.Ok σ
  nd:(vN.obj++(vE.obj++objsE N E)).Nodup
  new:∀o∈vN.obj++(vE.obj++objsE N E),σ0.length≤o
  mN:N.map EN.n=g.nodes
  mE:E.map EE.e=g.edges
  fr:Fr σ0 σ []
structure Few (g:GG):Prop where
  ok:g.ok
  lN:g.nodes.length≤2000
  lE:g.edges.length≤4000
  pN:∀n∈g.nodes,n.labels.length≤8∧n.props.length≤16
  pE:∀n∈g.edges,n.props.length≤16
theorem hd_el {α:Type} {f:α→AV} {es es':Nat} {σ:List Obj} {p g:Nat} {nn c:Bool} {l:List α} (h:nth σ p=some (.arr g es' nn c (vs f l))) (h1:nn=true→es'=es) (h2:nn=false→l=[]) (h3:c=true↔l=[]):∃c,Hd f es σ (.own p g 0 l.length) nn l c∧(c=true→∀e∈l,(f e).closed=true):=by
  cases nn with
  | false=>
    obtain rfl:=h2 rfl
    obtain rfl:=h3.2 rfl
    exact⟨true,.inl ⟨rfl,rfl,.inr ⟨_,_,_,rfl,h⟩⟩,by simp⟩
  |true=>obtain rfl:=h1 rfl;exact⟨c,.inr ⟨rfl,_,_,rfl,h⟩,fun hc=>by rw[h3.1 hc];simp⟩
theorem resC {σ:List Obj} {o g c' a1 a2 a3 b1 b2 b3:Nat} {nn cl:Bool} {x y:Int} (h:nth σ o=some (.arr g 4 nn cl [.agg [.own a1 a2 0 a3,.own b1 b2 0 b3,.int .i64 x,.int .i64 y]])):AV8 [(2,.ref o g 0 0)] ⟨σ,c'⟩ [.cell 2 (some 4)]=some [.agg [.own a1 a2 0 a3,.own b1 b2 0 b3,.int .i64 x,.int .i64 y]]:=by
  show(match ALw [(2,.ref o g 0 0)] ⟨σ,c'⟩ (.cell 2 (some 4)),AV8 [(2,.ref o g 0 0)] ⟨σ,c'⟩ []with
    |some v,some vs=>some (v::vs)
    |_,_=>none)=_
  have e:ALw [(2,.ref o g 0 0)] ⟨σ,c'⟩ (.cell 2 (some 4))=some (.agg [.own a1 a2 0 a3,.own b1 b2 0 b3,.int .i64 x,.int .i64 y]):=by
    simp[ALw,Env.get,h,nth,AV.cells,loadCells]
  rw[e]
  rfl
section
variable {σ:List Obj} {ct:Nat} {K:AX5→Sto→Prop}
set_option maxHeartbeats 4000000 in
theorem copiedW {g:GG} (hg:Few g) (hK:∀σ' c' oN uN nN oE uE nE N E,Cp σ σ' (.own oN uN 0 nN) (.own oE uE 0 nE) g N E→K (.ok (.agg [.own oN uN 0 nN,.own oE uE 0 nE,.int .i64 g.AeT,.int .i64 g.Afg])) ⟨σ',c'⟩):
    H6 (Dx tab) 40 [g.av] ⟨σ,ct⟩ K:=by
  obtain⟨g1,g2,g3,g4,g5,g6,g7,g8⟩:=hg.ok
  have hlN:=hg.lN
  have hlE:=hg.lE
  refine FH rfl rfl ?_
  show vC _ _ [(0,.agg [.sl g.nn (vs GN.av g.nodes),.sl g.en (vs GE.av g.edges),.int .i64 g.AeT,.int .i64 g.Afg])] _ _
  (conv=>whnf);repeat' (first|(refine snocG fun σ3 f3 h3 l3=>?_;have h13:=f3.get h12 (by simp);have h23:=f3.get h2 (by simp);conv=>whnf)|(refine snocG fun σ2 f2 h2 l2=>?_;have h12:=f2.get h1 (by simp);conv=>whnf)|(refine snocG fun σ1 f1 h1 l1=>?_;conv=>whnf)|(rw [h12];conv=>whnf)|(rw [h3];conv=>whnf)|(refine (forceB_iff _ _).2 ?_;conv=>whnf)|(refine setG h3 fun σ4 f4 h4 l4=>?_;have h14:=f4.get h13 (by dsimp only at *;simp;omega);have h24:=f4.get h23 (by dsimp only at *;simp;omega);conv=>whnf)|(rw [h14];conv=>whnf)|(rw [h4];conv=>whnf)|(refine ownC g2 rfl cloneN0 (cloneN1 (by omega)) fun σ5 e5 f5 a5 b5 l5=>?_;have h15:=f5.get h14 (by simp);have h25:=f5.get h24 (by simp);have h35:=f5.get h4 (by simp);conv=>whnf)|(rw [h35];conv=>whnf)|(refine setG h35 fun σ6 f6 h6 l6=>?_;have h16:=f6.get h15 (by dsimp only at *;simp;omega);have h26:=f6.get h25 (by dsimp only at *;simp;omega);have a6:=f6.get a5 (by dsimp only at *;simp;omega);conv=>whnf)|(rw [h6];conv=>whnf)|((with_reducible first|apply kN|apply kW|apply kX|apply kG|apply kQ);(· exact sd);conv=>whnf)|(refine DW.mk ?_ ?_<;>intro hc<;>(try rw[List.length_nil]at hc)<;>first|(exfalso;omega)|(exact absurd rfl hc)|conv=>whnf)|(refine CB ?_ ?_<;>intro hc<;>conv=>whnf))
  dsimp only at l1 l2 l3 l4 l5 l6
  have hll:∀(M:List EN),M.map EN.n=g.nodes→M.length=g.nodes.length:=fun M h=>by rw[← h,List.length_map]
  have hle:∀(M:List EE),M.map EE.e=g.edges→M.length=g.edges.length:=fun M h=>by rw[← h,List.length_map]
  refine cpN (es:=e5) hlN (fun n hn=>⟨g3 n hn,hg.pN n hn⟩) g2 b5 h6 a6 (by dsimp only;omega) fun σ7 c7 d7 L tl f7 h7 m7 k7 n7 q7 r7=>?_
  have h17:=f7.get h16 (by simp;omega)
  have h27:=f7.get h26 (by simp;omega)
  have h37:=f7.get h6 (by simp;omega)
  (conv=>whnf);repeat' (first|(rw [h17];conv=>whnf)|(rw [h37];conv=>whnf)|(refine (forceB_iff _ _).2 ?_;conv=>whnf)|(refine ownC g5 rfl cloneE0 (cloneE1 (by omega)) fun σ8 e8 f8 a8 b8 l8=>?_;have h18:=f8.get h17 (by simp);have h28:=f8.get h27 (by simp);have h38:=f8.get h37 (by simp);conv=>whnf)|(rw [h38];conv=>whnf)|(refine setG h38 fun σ9 f9 h9 l9=>?_;have h29:=f9.get h28 (by dsimp only at *;simp;omega);have a9:=f9.get a8 (by have:=f7.len;dsimp only at *;simp;omega);conv=>whnf)|(rw [h9];conv=>whnf)|((with_reducible first|apply kN|apply kW|apply kX|apply kG|apply kQ);(· exact sd);conv=>whnf)|(refine DW.mk ?_ ?_<;>intro hc<;>(try rw[List.length_nil]at hc)<;>first|(exfalso;omega)|(exact absurd rfl hc)|conv=>whnf)|(refine CB ?_ ?_<;>intro hc<;>conv=>whnf))
  dsimp only at l8 l9
  have lf7:=f7.len
  refine cpE (es:=e8) hlE (fun n hn=>⟨g6 n hn,hg.pE n hn⟩) g5 b8 h9 a9 (by dsimp only;omega) fun σ10 c10 d10 M tl' f10 h10 m10 k10 n10 q10 r10=>?_
  have h210:=f10.get h29 (by simp;omega)
  have h310:=f10.get h9 (by simp;omega)
  (conv=>whnf);repeat' (first|(rw [h310];conv=>whnf)|(refine (forceB_iff _ _).2 ?_;conv=>whnf)|(rw [h210];conv=>whnf)|(refine setG h210 fun σ11 f11 h11 l11=>?_;conv=>whnf)|((with_reducible first|apply kN|apply kW|apply kX|apply kG|apply kQ);(· exact sd);conv=>whnf)|(refine DW.mk ?_ ?_<;>intro hc<;>(try rw[List.length_nil]at hc)<;>first|(exfalso;omega)|(exact absurd rfl hc)|conv=>whnf)|(refine CB ?_ ?_<;>intro hc<;>conv=>whnf))
  refine⟨_,resC h11,?_⟩
  have lf10:=f10.len
  dsimp only at l11 lf10 lf7 n7 n10 k7 k10
  have k7':∀q∈L.flatMap EN.objs,q<σ7.length:=fun q hq=>by
    obtain⟨e,he,hm⟩:=List.mem_flatMap.1 hq
    exact(k7 e he).lt q hm
  have hN:=f11.get (f10.get (f9.get (f8.get h7 (by simp)) (by simp;omega)) (by simp;omega)) (by simp;omega)
  have hE:=f11.get h10 (by simp;omega)
  have eN:=hll _ m7
  have eE:=hle _ m10
  rw[← eN,←eE]
  refine hK σ11 _ _ _ _ _ _ _ L M ⟨hd_el hN b5 (fun h=>?_) r7,hd_el hE b8 (fun h=>?_) r10,fun e he=>(k7 e he).keep fun q hq=>?_,fun e he=>(k10 e he).keep fun q hq=>?_,?_,?_,m7,m10,?_⟩
  · have:=g2 h;rw[this]at m7;simpa using m7
  · have:=g5 h;rw[this]at m10;simpa using m10
  · have hq1:=n7 q (List.mem_flatMap.2 ⟨e,he,hq⟩)
    have hq2:=(k7 e he).lt q hq
    exact(f11.eq q (show q<σ10.length by omega) (by simp;omega)).trans ((f10.eq q (show q<σ9.length by omega) (by simp;omega)).trans ((f9.eq q (show q<σ8.length by omega) (by simp;omega)).trans (f8.eq q hq2 (by simp))))
  · have hq1:=n10 q (List.mem_flatMap.2 ⟨e,he,hq⟩)
    have hq2:=(k10 e he).lt q hq
    exact f11.eq q hq2 (by simp;omega)
  · simp only[AV.obj,objsE,List.singleton_append,List.nodup_cons,List.mem_cons,List.mem_append,not_or,List.nodup_append]
    refine⟨⟨by omega,fun h=>by have:=n7 _ h;omega,fun h=>by have:=n10 _ h;omega⟩,⟨fun h=>by have:=k7' _ h;omega,fun h=>by have:=n10 _ h;omega⟩,q7,q10,fun a ha b hb e=>?_⟩
    have:=k7' a ha
    have:=n10 b hb
    omega
  · intro o ho
    simp only[AV.obj,objsE,List.singleton_append,List.mem_cons,List.mem_append]at ho
    rcases ho with rfl|rfl|ho|ho
    · omega
    · omega
    · have:=n7 o ho;omega
    · have:=n10 o ho;omega
  · have e4:Fr σ σ4 []:=(((f1.trans f2).trans f3).mono (F':=[σ2.length]) (by simp) |>.trans f4).mono (by simp;omega)
    have e6:Fr σ σ6 []:=((e4.trans f5).mono (F':=[σ2.length]) (by simp) |>.trans f6).mono (by simp;omega)
    have e7:Fr σ σ7 []:=(e6.mono (F':=[σ4.length]) (by simp) |>.trans f7).mono (by simp;omega)
    have e9:Fr σ σ9 []:=((e7.trans f8).mono (F':=[σ2.length]) (by simp) |>.trans f9).mono (by simp;omega)
    have e10:Fr σ σ10 []:=(e9.mono (F':=[σ7.length]) (by simp) |>.trans f10).mono (by simp;omega)
    exact(e10.mono (F':=[σ1.length]) (by simp) |>.trans f11).mono (by simp;omega)
end
def zeroG:GG:=⟨false,[],false,[],0,0⟩
def AWf:GG→List GC→Nat→GG×Nat×Int
  |g,[],i=>(g,i,0)
  |g,c::cs,i=>if(stepG g c).1≠0 then(zeroG,i,(stepG g c).1)else AWf (stepG g c).2 cs (i+1)
theorem Ed.notZero {σ:List Obj} {d gd:Nat} {vN vE:AV} {nb eb:Bool} {N:List EN} {E:List EE} {x y:Int} (h:Ed σ d gd vN vE nb eb N E x y) {o g:Nat} {c:Bool} {r:List AV} (ho:nth σ o=some (.arr g 4 true c [.agg (.sl false []::r)])):o∉d::(vN.obj++(vE.obj++objsE N E)):=by
  intro hq
  obtain⟨cn,hn1,_⟩:=h.hn
  obtain⟨ce,he1,_⟩:=h.he
  rcases List.mem_cons.1 hq with rfl|hq
  · have:=h.box;rw[ho]at this
    simp only[Option.some.injEq,Obj.arr.injEq,List.cons.injEq,AV.agg.injEq]at this
    exact h.oN this.2.2.2.2.1.1.symm
  rcases List.mem_append.1 hq with hq|hq
  · exact hn1.diff ho (by decide) hq
  rcases List.mem_append.1 hq with hq|hq
  · exact he1.diff ho (by decide) hq
  rcases List.mem_append.1 hq with hq|hq<;>obtain⟨e,he,hm⟩:=List.mem_flatMap.1 hq
  · rcases List.mem_append.1 hm with hm|hm
    · exact(h.hN e he).1.diff ho (by decide) hm
    · exact(h.hN e he).2.diff ho (by decide) hm
  · exact Hd.diff (h.hE e he) ho (by decide) hm
section
variable {σ:List Obj} {ct:Nat}
set_option maxHeartbeats 4000000 in
theorem allLoop {g:GG} {L:List GC} {nn:Bool} {d gd p4 u4:Nat} {Q:Je→Env→Sto→Prop} (hL:L.length<2 ^ 62) (hok:∀c∈L,c.ok) (hg:EdG σ d gd g) (ha:Ajy g)
    (h4:nth σ p4=some (.arr u4 4 true true [.agg [.sl false [],.sl false [],.int .i64 0,.int .i64 0]]))
    (hE:∀σ' c' i e,AWf g L 0=(zeroG,i,e)→nth σ' p4=some (.arr u4 4 true true [.agg [.sl false [],.sl false [],.int .i64 0,.int .i64 0]])→Q .ret [(4,.ref p4 u4 0 0),(5,.int .i64 (i:Nat)),(6,.int .i64 e)] ⟨σ',c'⟩)
    (hQ:∀σ' c' h tl,AWf g L 0=(h,L.length,0)→EdG σ' d gd h→Ajy h→nth σ' p4=some (.arr u4 4 true true [.agg [.sl false [],.sl false [],.int .i64 0,.int .i64 0]])→Q (.exit 0) ([(1,.sl nn (vs GC.av L)),(4,.ref p4 u4 0 0),(8,.ref d gd 0 0),(21,.sl nn (vs GC.av L)),(22,.int .i64 L.length),(23,.int .i64 L.length)]++tl) ⟨σ',c'⟩):
    Run (Dx tab) (.loop AuX AuY) [(1,.sl nn (vs GC.av L)),(4,.ref p4 u4 0 0),(8,.ref d gd 0 0),(21,.sl nn (vs GC.av L)),(22,.int .i64 L.length),(23,.int .i64 0)] ⟨σ,ct⟩ Q:=by
  refine DK (fun m env s=>∃(i c':Nat) (σ':List Obj) (h:GG),m=L.length-i∧i≤L.length∧env=[(1,.sl nn (vs GC.av L)),(4,.ref p4 u4 0 0),(8,.ref d gd 0 0),(21,.sl nn (vs GC.av L)),(22,.int .i64 L.length),(23,.int .i64 i)]∧s=⟨σ',c'⟩∧EdG σ' d gd h∧Ajy h∧AWf g L 0=AWf h (L.drop i) i∧nth σ' p4=some (.arr u4 4 true true [.agg [.sl false [],.sl false [],.int .i64 0,.int .i64 0]])) ?_ _ _ _ ⟨0,_,_,g,rfl,by omega,rfl,rfl,hg,ha,by rw[List.drop_zero],h4⟩
  rintro _ _ _ ⟨i,c',σ',h,rfl,hi,rfl,rfl,he,hh,hr,hp⟩
  refine⟨rfl,?_⟩
  by_cases hlt:i<L.length
  · have hcok:=hok _ (List.getElem_mem hlt)
    have hnt:nth (vs GC.av L) (Int.toNat (i:Int))=some (L[i]).av:=nV hlt
    have hnt':nth (vs GC.av L) i=some (L[i]).av:=nV hlt
    rw[List.drop_eq_getElem_cons hlt,AWf]at hr
    obtain⟨c,hcc⟩:∃c,c=L[i]:=⟨_,rfl⟩
    rw[← hcc]at hcok hnt hnt' hr
    obtain⟨vN,vE,nb,eb,N,E,x,y,hEd,hgo⟩:=he
    subst hgo
    have hq:=hh.ask
    have hpl:=nth_lt hp
    obtain⟨op,z,fr,to,nm,v⟩:=c
    (conv=>whnf);repeat' (first|(refine snocG fun σ1 f1 h1 l1=>?_;have hp1:=f1.get hp (by simp);have hE1:=hEd.fr0 f1;conv=>whnf)|(refine LX hnt ?_;conv=>whnf)|(refine LX hnt' ?_;conv=>whnf)|(rw [h1];conv=>whnf)|(refine setG h1 fun σ2 f2 h2 l2=>?_;have hp2:=f2.get hp1 (by simp;omega);conv=>whnf)|(rw [h2];conv=>whnf)|((with_reducible first|apply kN|apply kW|apply kX|apply kG|apply kQ);(· exact sd);conv=>whnf)|(refine DW.mk ?_ ?_<;>intro hc<;>(try rw[List.length_nil]at hc)<;>first|(exfalso;omega)|(exact absurd rfl hc)|conv=>whnf)|(refine CB ?_ ?_<;>intro hc<;>conv=>whnf))
    all_goals first|(exfalso;omega)|skip
    have f02:Fr σ' σ2 []:=((f1.mono (F':=[σ'.length]) (by simp)).trans f2).mono (by simp)
    have hE2:=hEd.fr0 f02
    refine stepW (c:=⟨op,z,fr,to,nm,v⟩) hE2 hq hcok fun σ3 c3 hE3 f3=>?_
    have hp3:=f3.get hp2 (hE2.notZero hp2)
    have hh':=hh.step (c:=⟨op,z,fr,to,nm,v⟩)
    generalize hsg:stepG (gOf nb eb N E x y) ⟨op,z,fr,to,nm,v⟩=sg at hr hE3 hh' ⊢
    obtain⟨e0,g0⟩:=sg
    dsimp only at hr hE3 hh' ⊢
    (conv=>whnf);repeat' (first|(rw [hp3];conv=>whnf)|(refine (forceB_iff _ _).2 ?_;conv=>whnf)|(refine setG hp3 fun σ4 f4 h4' l4=>?_;conv=>whnf)|((with_reducible first|apply kN|apply kW|apply kX|apply kG|apply kQ);(· exact sd);conv=>whnf)|(refine DW.mk ?_ ?_<;>intro hc<;>(try rw[List.length_nil]at hc)<;>first|(exfalso;omega)|(exact absurd rfl hc)|conv=>whnf)|(refine CB ?_ ?_<;>intro hc<;>conv=>whnf))
    all_goals first
      |exact hE σ4 _ i e0 (by rw[hr,if_pos (by omega)]) h4'
      |exact again.mk ⟨_,by omega,i+1,_,σ3,g0,rfl,by omega,rfl,rfl,hE3,hh',by rw[hr,if_neg (by omega)],hp3⟩
      | (trace_state; fail "all1")
  · obtain rfl:i=L.length:=by omega
    (conv=>whnf);repeat' (first  |((with_reducible first|apply kN|apply kW|apply kX|apply kG|apply kQ);(· exact sd);conv=>whnf)|(refine DW.mk ?_ ?_<;>intro hc<;>(try rw[List.length_nil]at hc)<;>first|(exfalso;omega)|(exact absurd rfl hc)|conv=>whnf)|(refine CB ?_ ?_<;>intro hc<;>conv=>whnf))
    all_goals first
      |(exact hQ _ _ h _ (by rw[hr,List.drop_length];rfl) he hh hp)
      |(exfalso;omega)
      | (trace_state; fail "all2")
end
theorem all_lt_succ {f:Nat→Int} {i:Nat} (h:∀k,k<i→f k=0) (hi:f i=0):∀k,k<i+1→f k=0:=by
  intro k hk
  rcases Nat.lt_or_ge k i with h1|h1
  · exact h k h1
  · obtain rfl:k=i:=by omega
    exact hi
theorem partsN {n:GN} (h:n.ok):D8 (Dx tab) 71 [.sl n.ln (vs .str n.labels),.sl n.pn (vs GP.av n.props)] (· =.int .i64 (Ap6 n.labels n.props)):=
  AVQ h.2.1 h.2.2.2.1 h.2.2.2.2.1 h.2.2.2.2.2.2
theorem partsEd {n:GE} (h:n.ok):D8 (Dx tab) 71 [.sl false [],.sl n.pn (vs GP.av n.props)] (· =.int .i64 (Ap6 [] n.props)):=
  AVQ (L:=[]) (by decide) (by simp) h.2.2.2.2.1 h.2.2.2.2.2.2
theorem nodesL {g:GG} (hg:g.ok) (hf:fitsG g) (hnx:AW9 g) {c:Nat} {Q:Je→Env→Sto→Prop}
    (hret:∀r s,AV.int .i64 r=AV.int .i64 (JA g)→Q .ret [(2,.int .i64 r)] s)
    (hend:(∀ k,k<g.nodes.length→AAk g.nodes g.AeT k=0)→∀c i,Q (.exit 0) [(1,.ref 0 0 0 0),(38,.sl g.nn (vs GN.av g.nodes)),(39,.int .i64 g.nodes.length),(40,.int .i64 i),(41,.bool false)] ⟨[.arr 0 4 true true [g.av]],c⟩):
    Run (Dx tab) (.loop l36_0_h l36_0_b) [(1,.ref 0 0 0 0),(38,.sl g.nn (vs GN.av g.nodes)),(39,.int .i64 g.nodes.length),(40,.int .i64 0)] ⟨[.arr 0 4 true true [g.av]],c⟩ Q:=by
  obtain⟨g1,g2,g3,g4,g5,g6,g7,g8⟩:=hg
  unfold Ln at g1 g4
  have hf':g.nodes.length≤2000:=hf.1
  refine DK (fun m env s=>∃i:Nat,m=g.nodes.length-i∧env=[(1,.ref 0 0 0 0),(38,.sl g.nn (vs GN.av g.nodes)),(39,.int .i64 g.nodes.length),(40,.int .i64 i)]∧(∃ c,s=⟨[.arr 0 4 true true [g.av]],c⟩)∧∀k,k<i→AAk g.nodes g.AeT k=0) ?_ _ _ _ ⟨0,rfl,by simp,⟨_,rfl⟩,fun k h=>absurd h (by omega)⟩
  rintro _ _ _ ⟨i,rfl,rfl,⟨c,rfl⟩,hx⟩
  refine⟨rfl,?_⟩
  have hat:∀h:i<g.nodes.length,(g.nodes[i]).ok:=fun h=>g3 _ (List.getElem_mem _)
  (conv=>whnf);repeat' (first|(apply LX;(· exact nVz (i-1) (by omega) (by omega));conv=>whnf)|(refine BM (partsN (n:=g.nodes[i]) (hat (by omega))) ?_;rintro _ rfl;conv=>whnf)|(refine hret _ _ ?_)|(refine hend (fun k hk=>hx k (by omega)) _ _)|((with_reducible first|apply kN|apply kW|apply kX|apply kG|apply kQ);(· exact sd);conv=>whnf)|(refine DW.mk ?_ ?_<;>intro hc<;>(try rw[List.length_nil]at hc)<;>first|(exfalso;omega)|(exact absurd rfl hc)|conv=>whnf)|(refine CB ?_ ?_<;>intro hc<;>conv=>whnf))
  all_goals first
    |exact again.mk ⟨_,by omega,i+1,rfl,rfl,⟨_,rfl⟩,all_lt_succ hx ((AXa (by omega) (fun h=>by first|assumption|omega) (by omega)).trans hc)⟩
    |exact checkN hf hnx (by omega) hx (node26 (by omega) (by omega) (by assumption)) (by decide)
    |exact checkN hf hnx (by omega) hx (node1 (by omega) (fun h=>by first|assumption|omega) (by omega)) (by decide)
    |exact checkN hf hnx (by omega) hx (AXa (by omega) (fun h=>by first|assumption|omega) (by omega)) hc
set_option maxHeartbeats 1000000 in
theorem edgesL {g:GG} (hg:g.ok) (hf:fitsG g) (hnx:AW9 g) (hN:∀k,k<g.nodes.length→AAk g.nodes g.AeT k=0) {c:Nat} {Q:Je→Env→Sto→Prop}
    (hret:∀r s,AV.int .i64 r=AV.int .i64 (JA g)→Q .ret [(2,.int .i64 r)] s)
    (hend:(∀ k,k<g.edges.length→AXb g.nodes g.edges g.Afg k=0)→∀c i,Q (.exit 2) [(1,.ref 0 0 0 0),(79,.sl g.en (vs GE.av g.edges)),(80,.int .i64 g.edges.length),(81,.int .i64 i),(82,.bool false)] ⟨[.arr 0 4 true true [g.av]],c⟩):
    Run (Dx tab) (.loop l36_1_h l36_1_b) [(1,.ref 0 0 0 0),(79,.sl g.en (vs GE.av g.edges)),(80,.int .i64 g.edges.length),(81,.int .i64 0)] ⟨[.arr 0 4 true true [g.av]],c⟩ Q:=by
  obtain⟨g1,g2,g3,g4,g5,g6,g7,g8⟩:=hg
  unfold Ln at g1 g4
  have hf':g.edges.length≤4000:=hf.2
  have hI:=incr_nodes hN
  have hl:g.nodes.length<2^62:=by have:=hf.1;omega
  refine DK (fun m env s=>∃i:Nat,m=g.edges.length-i∧env=[(1,.ref 0 0 0 0),(79,.sl g.en (vs GE.av g.edges)),(80,.int .i64 g.edges.length),(81,.int .i64 i)]∧(∃ c,s=⟨[.arr 0 4 true true [g.av]],c⟩)∧∀k,k<i→AXb g.nodes g.edges g.Afg k=0) ?_ _ _ _ ⟨0,rfl,by simp,⟨_,rfl⟩,fun k h=>absurd h (by omega)⟩
  rintro _ _ _ ⟨i,rfl,rfl,⟨c,rfl⟩,hx⟩
  refine⟨rfl,?_⟩
  have hat:∀h:i<g.edges.length,(g.edges[i]).ok:=fun h=>g6 _ (List.getElem_mem _)
  (conv=>whnf);repeat' (first|(apply LX;(· exact nVz (i-1) (by omega) (by omega));conv=>whnf)|(refine KH (hasP hl hI) (fun hc=>?_) (fun hc=>?_)<;>conv=>whnf)|(refine KH (name1 (s:=(g.edges[i]).ty) (hat (by omega)).2.2.2.1) (fun hnm=>?_) (fun hnm=>?_)<;>conv=>whnf)|(refine BM (partsEd (n:=g.edges[i]) (hat (by omega))) ?_;rintro _ rfl;conv=>whnf)|(refine hret _ _ ?_)|(refine hend (fun k hk=>hx k (by omega)) _ _)|((with_reducible first|apply kN|apply kW|apply kX|apply kG|apply kQ);(· exact sd);conv=>whnf)|(refine DW.mk ?_ ?_<;>intro hc<;>(try rw[List.length_nil]at hc)<;>first|(exfalso;omega)|(exact absurd rfl hc)|conv=>whnf)|(refine CB ?_ ?_<;>intro hc<;>conv=>whnf))
  all_goals first
    |exact again.mk ⟨_,by omega,i+1,rfl,rfl,⟨_,rfl⟩,all_lt_succ hx ((AXc (by omega) (fun h=>by first|assumption|omega) (by omega) ⟨by assumption,by assumption⟩ hnm).trans hc)⟩
    |exact checkEd hf hnx hN (by omega) hx (edge26 (by omega) (by omega) (by assumption)) (by decide)
    |exact checkEd hf hnx hN (by omega) hx (edge1 (by omega) (fun h=>by first|assumption|omega) (by omega)) (by decide)
    |exact checkEd hf hnx hN (by omega) hx (edge10 (by omega) (fun h=>by first|assumption|omega) (by omega) (fun h=>by first|exact absurd h.1 (by assumption)|exact absurd h.2 (by assumption))) (by decide)
    |exact checkEd hf hnx hN (by omega) hx (edge6 (by omega) (fun h=>by first|assumption|omega) (by omega) ⟨by assumption,by assumption⟩ hnm) (by decide)
    |exact checkEd hf hnx hN (by omega) hx (AXc (by omega) (fun h=>by first|assumption|omega) (by omega) ⟨by assumption,by assumption⟩ hnm) hc
theorem AkV {g:GG} (hg:g.ok):D8 (Dx tab) 36 [g.av] (· =.int .i64 (JA g)):=by
  have hg0:=hg
  obtain⟨g1,g2,g3,g4,g5,g6,g7,g8⟩:=hg
  unfold Ln at g1 g4
  refine Lu rfl rfl ?_
  (conv=>whnf);repeat' (first|((with_reducible first|apply kN|apply kW|apply kX|apply kG|apply kQ);(· exact sd);conv=>whnf)|(refine DW.mk ?_ ?_<;>intro hc<;>(try rw[List.length_nil]at hc)<;>first|(exfalso;omega)|(exact absurd rfl hc)|conv=>whnf)  |(refine CB ?_ ?_<;>intro hc<;>conv=>whnf))
  all_goals first|exact check4 (by unfold fitsG;omega)|exact check1 (by unfold fitsG;omega) (by unfold AW9;omega)|skip
  have hf:fitsG g:=by unfold fitsG;omega
  have hnx:AW9 g:=by unfold AW9;omega
  refine nodesL hg0 hf hnx (fun r s h=>by(conv=>whnf);(apply Ez;(· rfl);conv=>whnf);(apply Ez;(· rfl);conv=>whnf);exact h) (fun hN c i=>?_)
  (conv=>whnf);repeat' (first|((with_reducible first|apply kN|apply kW|apply kX|apply kG|apply kQ);(· exact sd);conv=>whnf)|(refine DW.mk ?_ ?_<;>intro hc<;>(try rw[List.length_nil]at hc)<;>first|(exfalso;omega)|(exact absurd rfl hc)|conv=>whnf)  |(refine CB ?_ ?_<;>intro hc<;>conv=>whnf))
  refine edgesL hg0 hf hnx hN (fun r s h=>by(conv=>whnf);(apply Ez;(· rfl);conv=>whnf);(apply Ez;(· rfl);conv=>whnf);exact h) (fun hE c i=>?_)
  (conv=>whnf);repeat' (first|((with_reducible first|apply kN|apply kW|apply kX|apply kG|apply kQ);(· exact sd);conv=>whnf)|(refine DW.mk ?_ ?_<;>intro hc<;>(try rw[List.length_nil]at hc)<;>first|(exfalso;omega)|(exact absurd rfl hc)|conv=>whnf)  |(refine CB ?_ ?_<;>intro hc<;>conv=>whnf))
  exact AWj hf hnx hN hE
theorem inc_adj {α κ:Type} {lt:κ→κ→Bool} {key:α→κ} (hs:STO lt) {l:List α} (h:∀j (hj:j+1<l.length),lt (key l[j]) (key l[j+1])=true):Inc lt key l:=by
  refine List.pairwise_iff_getElem.2 fun i j hi hj hij=>?_
  obtain⟨d,rfl⟩:∃d,j=i+1+d:=⟨j-(i+1),by omega⟩
  clear hij
  induction d with
  |zero=>exact h i hj
  |succ d ih=>exact hs.tr _ _ _ (ih (by omega)) (h (i+1+d) (by omega))
theorem rises_inc {l:List (List UInt8)} (h:rises l):Inc Op.bytesLess id l:=by
  refine inc_adj G7 fun j hj=>?_
  have:=h j hj
  simp only[Bool.or_eq_false_iff,beq_eq_false_iff_ne]at this
  cases hb:Op.bytesLess (id l[j]) (id l[j+1])with
  |true=>rfl
  |false=>exact absurd (G7.tot _ _ this.1 hb) this.2
theorem AAV {L:List (List UInt8)} {P:List GP} (h:Ap6 L P=0):L.length≤8∧P.length≤16∧rises L∧rises (keysOf P)∧allNames L∧allNames (keysOf P)∧allPlain P:=by
  by_cases h1:8<L.length∨16<P.length
  · have:=AT7 h1;rw[h]at this;simp at this
  by_cases h2:allNames L∧allNames (keysOf P)
  case neg=>have:=AT8 h1 h2;rw[h]at this;simp at this
  by_cases h3:rises L∧rises (keysOf P)
  case neg=>have:=AQW h1 h2 h3;rw[h]at this;simp at this
  by_cases h4:allPlain P
  case neg=>have:=AT9 h1 h2 h3 h4;rw[h]at this;simp at this
  exact⟨by omega,by omega,h3.1,h3.2,h2.1,h2.2,h4⟩
theorem keys_inc {P:List GP} (h:rises (keysOf P)):Inc Op.bytesLess GP.key P:=by
  have:=rises_inc h
  unfold Inc keysOf at this
  rw[List.pairwise_map]at this
  exact this
theorem ALm {g:GG} (h:JA g=0):Ajy g:=by
  obtain⟨hf,hn,hN,hE⟩:=AhM h
  refine⟨hf.1,hf.2,inc_adj Hu fun j hj=>?_,inc_adj Hu fun j hj=>?_,fun n hm=>?_,fun n hm=>?_,?_,?_⟩
  · have:=(Ayi hj (hN _ hj)).1 (by omega)
    simpa[ltI]using this
  · have:=(AuL hj (hE _ hj)).1 (by omega)
    simpa[ltI]using this
  · obtain⟨i,hi,rfl⟩:=List.getElem_of_mem hm
    obtain⟨a1,a2,a3,a4,_⟩:=AAV (Ayi hi (hN i hi)).2.2.2
    exact⟨rises_inc a3,a1,keys_inc a4,a2⟩
  · obtain⟨i,hi,rfl⟩:=List.getElem_of_mem hm
    obtain⟨a1,a2,a3,a4,_⟩:=AAV (AuL hi (hE i hi)).2.2.2.2.2.2
    exact⟨keys_inc a4,a2⟩
  · have:=hn.1;have:=hn.2.1;omega
  · have:=hn.2.2.1;have:=hn.2.2.2;omega
theorem few_of {g:GG} (hg:g.ok) (h:JA g=0):Few g:=by
  have ha:=ALm h
  exact⟨hg,ha.lN,ha.lE,fun n hn=>⟨(ha.aN n hn).lL,(ha.aN n hn).lP⟩,fun n hn=>(ha.aE n hn).lP⟩
noncomputable def Ay6 (g:GG) (L:List GC):GG×Nat×Int:=if JA g≠0 then(zeroG,0,JA g)else AWf g L 0
theorem Cp.ed {σ0 σ σ':List Obj} {oN uN nN oE uE nE gd:Nat} {g:GG} {N:List EN} {E:List EE} (h:Cp σ0 σ (.own oN uN 0 nN) (.own oE uE 0 nE) g N E) (hf:Fr σ σ' []) (hb:nth σ' σ.length=some (.arr gd 4 true false [.agg [.own oN uN 0 nN,.own oE uE 0 nE,.int .i64 g.AeT,.int .i64 g.Afg]])):EdG σ' σ.length gd g:=by
  obtain⟨cn,hn1,hn2⟩:=h.hn
  obtain⟨ce,he1,he2⟩:=h.he
  refine⟨_,_,g.nn,g.en,N,E,g.AeT,g.Afg,⟨hb,⟨cn,hn1.keep fun o ho=>hf.eq o (hn1.lt o ho) (by simp),hn2⟩,⟨ce,he1.keep fun o ho=>hf.eq o (he1.lt o ho) (by simp),he2⟩,
    fun e he=>(h.hN e he).keep fun o ho=>hf.eq o ((h.hN e he).lt o ho) (by simp),fun e he=>(h.hE e he).keep fun o ho=>hf.eq o ((h.hE e he).lt o ho) (by simp),
    List.nodup_cons.2 ⟨fun hm=>?_,h.nd⟩,by simp,by simp⟩,?_⟩
  · have hlt:σ.length<σ.length:=by
      rcases List.mem_append.1 hm with hm|hm
      · exact hn1.lt _ hm
      rcases List.mem_append.1 hm with hm|hm
      · exact he1.lt _ hm
      rcases List.mem_append.1 hm with hm|hm<;>obtain⟨e,he,hm⟩:=List.mem_flatMap.1 hm
      · exact(h.hN e he).lt _ hm
      · exact(h.hE e he).lt _ hm
    omega
  · obtain⟨a,b,c,d,e,f⟩:=g
    have h1:=h.mN
    have h2:=h.mE
    simp only[gOf]at*
    rw[h1,h2]
theorem resA {σ:List Obj} {o g c':Nat} {nn cl:Bool} {a b c d x y:AV} (ha:a.cells.length=1) (hb:b.cells.length=1) (h:nth σ o=some (.arr g 4 nn cl [.agg [a,b,c,d]])):AV8 [(4,.ref o g 0 0),(5,x),(6,y)] ⟨σ,c'⟩ a13.results=some [.agg [a,b,c,d],x,y]:=by
  show(match ALw [(4,.ref o g 0 0),(5,x),(6,y)] ⟨σ,c'⟩ (.cell 4 (some 4)),AV8 [(4,.ref o g 0 0),(5,x),(6,y)] ⟨σ,c'⟩ [.tmp 5,.tmp 6]with
    |some v,some vs=>some (v::vs)
    |_,_=>none)=_
  have e:ALw [(4,.ref o g 0 0),(5,x),(6,y)] ⟨σ,c'⟩ (.cell 4 (some 4))=some (.agg [a,b,c,d]):=by
    simp[ALw,Env.get,h,nth,AV.cells,loadCells]
  rw[e]
  rfl
theorem pureS_of {AP:Nat→Option AFn} {f:Nat} {fn:DI} {args:List AV} {R:AV→Prop} (hf:AP f=some (.code fn)) (hl:args.length=fn.np) (h:vC AP fn.body (params args 0) ⟨[],0⟩ (APr fn fun out s'=>∃r v,out=.ok r∧snap s'.σ snapDepth r=some v∧R v)):D8 AP f args R:=by
  obtain⟨N,out,s',h1,r,v,rfl,h3,h4⟩:=calls_of hf hl (vC_sound h)
  exact⟨v,⟨N,by simp only[Awz,h1];exact h3⟩,h4⟩
theorem Rd.tup {σ:List Obj} {D:Nat} {xs ys:List AV} (h:RdL σ D xs ys):Rd σ (D+1) (.tup xs) (.tup ys):=fun m hm=>by
  obtain⟨m,rfl⟩:∃m',m=m'+1:=⟨m-1,by omega⟩
  simp only[snap,h m (by omega),Option.map_some]
theorem Rd.sl {σ:List Obj} {b:Bool} {xs:List AV}:Rd σ 1 (.sl b xs) (.sl b xs):=fun m hm=>by
  obtain⟨m,rfl⟩:∃m',m=m'+1:=⟨m-1,by omega⟩
  rfl
theorem rd_zero {σ:List Obj}:Rd σ 10 (.agg [.sl false [],.sl false [],.int .i64 0,.int .i64 0]) zeroG.av:=
  (Rd.agg (RdL.cons (Rd.sl.mono (D':=5) (by omega)) (RdL.cons (Rd.sl.mono (D':=4) (by omega)) (RdL.cons (Rd.int.mono (D':=3) (by omega)) (RdL.cons (Rd.int.mono (D':=2) (by omega)) (RdL.nil.mono (by omega))))))).mono (by omega)
theorem rd3 {σ:List Obj} {D:Nat} {a b:AV} {x y:Int} (h:Rd σ D a b) (hD:D≤999000):snap σ snapDepth (.tup [a,.int .i64 x,.int .i64 y])=some (.tup [b,.int .i64 x,.int .i64 y]):=
  (Rd.tup (RdL.cons (h.mono (D':=D+3) (by omega)) (RdL.cons (Rd.int.mono (D':=D+2) (by omega)) (RdL.cons (Rd.int.mono (D':=D+1) (by omega)) (RdL.nil.mono (by omega)))))) snapDepth (by unfold snapDepth;omega)
theorem Hd.isOwn {α:Type} {f:α→AV} {es:Nat} {σ:List Obj} {v:AV} {b c:Bool} {l:List α} (h:Hd f es σ v b l c) (h0:v≠.sl false []):∃o g n,v=.own o g 0 n:=by
  rcases h with⟨_,_,rfl|⟨o',g,es',rfl,h⟩⟩|⟨_,o',g,rfl,h⟩
  · exact absurd rfl h0
  · exact⟨_,_,_,rfl⟩
  · exact⟨_,_,_,rfl⟩
set_option maxHeartbeats 4000000 in
theorem APi {g:GG} {L:List GC} {nn:Bool} (hg:g.ok) (hL:L.length<2 ^ 62) (hok:∀c∈L,c.ok):
    D8 (Dx tab) 13 [g.av,.sl nn (vs GC.av L)] (· =.tup [(Ay6 g L).1.av,.int .i64 (Ay6 g L).2.1,.int .i64 (Ay6 g L).2.2]):=by
  have hck:=AkV hg
  refine pureS_of rfl rfl ?_
  show vC _ _ [(0,.agg [.sl g.nn (vs GN.av g.nodes),.sl g.en (vs GE.av g.edges),.int .i64 g.AeT,.int .i64 g.Afg]),(1,.sl nn (vs GC.av L))] _ _
  by_cases h0:JA g=0
  · have ha:=ALm h0
    have hfw:=few_of hg h0
    have hlL:(vs GC.av L).length=L.length:=lV _
    rw[h0]at hck
    (conv=>whnf);repeat' (first|(refine BM hck ?_;rintro _ rfl;conv=>whnf)|(refine copiedW hfw fun σ' c' oN uN nN oE uE nE N E hcp=>?_;conv=>whnf)|((with_reducible first|apply kN|apply kW|apply kX|apply kG|apply kQ);(· exact sd);conv=>whnf)|(refine DW.mk ?_ ?_<;>intro hc<;>(try rw[List.length_nil]at hc)<;>first|(exfalso;omega)|(exact absurd rfl hc)|conv=>whnf)|(refine CB ?_ ?_<;>intro hc<;>conv=>whnf))
    have hz:=hcp.fr.get (o:=1) rfl (by simp)
    refine snocG fun σ1 f1 h1 l1=>?_
    have hz1:=f1.get hz (by simp)
    have hzl:=nth_lt hz
    (conv=>whnf);repeat' (first|(rw [h1];conv=>whnf)|(refine (forceB_iff _ _).2 ?_;conv=>whnf)|(refine setG h1 fun σ2 f2 h2 l2=>?_;conv=>whnf)|((with_reducible first|apply kN|apply kW|apply kX|apply kG|apply kQ);(· exact sd);conv=>whnf)|(refine DW.mk ?_ ?_<;>intro hc<;>(try rw[List.length_nil]at hc)<;>first|(exfalso;omega)|(exact absurd rfl hc)|conv=>whnf)|(refine CB ?_ ?_<;>intro hc<;>conv=>whnf))
    have f02:Fr σ' σ2 []:=((f1.mono (F':=[σ'.length]) (by simp)).trans f2).mono (by simp)
    have hz2:=f02.get hz (by simp)
    have hEd:=hcp.ed f02 h2
    refine allLoop hL hok hEd ha hz2 (fun σ3 c3 i e hr hz3=>?_) (fun σ3 c3 h tl hr hE3 ha3 hz3=>?_)
    · have hR:Ay6 g L=(zeroG,i,e):=by unfold Ay6;rw[if_neg (fun h=>h h0),hr]
      rw[hR]
      conv=>whnf
      exact⟨_,resA rfl rfl hz3,_,_,rfl,rd3 rd_zero (by omega),rfl⟩
    · have hR:Ay6 g L=(h,L.length,0):=by unfold Ay6;rw[if_neg (fun h=>h h0),hr]
      rw[hR]
      obtain⟨vN,vE,nb,eb,N3,E3,x,y,hEd3,hgo⟩:=hE3
      obtain⟨cn,hn1,_⟩:=hEd3.hn
      obtain⟨ce,he1,_⟩:=hEd3.he
      obtain⟨o1,u1,k1,rfl⟩:=hn1.isOwn hEd3.oN
      obtain⟨o2,u2,k2,rfl⟩:=he1.isOwn hEd3.oE
      have hb3:=hEd3.box
      have hnz:=hEd3.notZero hz3
      subst hgo
      have hq:=ha3.ask
      have hlN:=hq.lN
      have hlE:=hq.lE
      (conv=>whnf);repeat' (first|(rw [hb3];conv=>whnf)|(rw [hz3];conv=>whnf)|(refine (forceB_iff _ _).2 ?_;conv=>whnf)|(refine setG hz3 fun σ4 f4 h4 l4=>?_;conv=>whnf)|((with_reducible first|apply kN|apply kW|apply kX|apply kG|apply kQ);(· exact sd);conv=>whnf)|(refine DW.mk ?_ ?_<;>intro hc<;>(try rw[List.length_nil]at hc)<;>first|(exfalso;omega)|(exact absurd rfl hc)|conv=>whnf)|(refine CB ?_ ?_<;>intro hc<;>conv=>whnf))
      have hE4:=hEd3.fr f4 (fun o ho hm=>hnz (by simp only[List.mem_singleton]at hm;subst hm;exact ho))
      exact⟨_,resA rfl rfl h4,_,_,rfl,rd3 hE4.snG (by omega),rfl⟩
  · have hR:Ay6 g L=(zeroG,0,JA g):=by unfold Ay6;rw[if_pos h0]
    rw[hR]
    (conv=>whnf);repeat' (first|(refine BM hck ?_;rintro _ rfl;conv=>whnf)|((with_reducible first|apply kN|apply kW|apply kX|apply kG|apply kQ);(· exact sd);conv=>whnf)|(refine DW.mk ?_ ?_<;>intro hc<;>(try rw[List.length_nil]at hc)<;>first|(exfalso;omega)|(exact absurd rfl hc)|conv=>whnf)|(refine CB ?_ ?_<;>intro hc<;>conv=>whnf))
    all_goals first | (exfalso; omega) | exact ⟨_, resA rfl rfl rfl, _, _, rfl, rd3 rd_zero (by omega), rfl⟩ | exact ⟨_, _, rfl, rd3 rd_zero (by omega), rfl⟩ | (trace_state; fail "aa")
end AI
end Go.Proofs.YtnbibfalljlmfaaGreatDoor
