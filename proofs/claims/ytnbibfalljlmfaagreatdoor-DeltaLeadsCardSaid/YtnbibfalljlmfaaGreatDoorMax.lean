/- Nodes: the program's walk. Edges: the program's walk. The script between two graphs: the program. The worked example in the laws about scripts: reckoned by the kernel. The worked example, small graphs, the same changes. -/
import Derived.Test.YtnbibfalljlmfaaGreatDoorMaw
import Derived.Test.YtnbibfalljlmfaaGreatDoorMat
import Derived.Test.YtnbibfalljlmfaaGreatDoorGrCode
import Derived.Test.YtnbibfalljlmfaaGreatDoorDeF
import Derived.Test.YtnbibfalljlmfaaGreatDoorMal
set_option linter.unusedVariables false
set_option maxRecDepth 4000
namespace Go.Proofs.YtnbibfalljlmfaaGreatDoor
namespace AI
theorem AG8 (N:List GN) (n:GN):∃t:Bool,Yk N n.id=.tup [(Vx N n).av,.bool t]:=by
  unfold Yk Vx
  cases N.find? (isN n.id)with
  |none=>exact⟨_,rfl⟩
  |some m=>exact⟨_,rfl⟩
theorem Aub {g:GG} (h:PG g) (n:GN):(Vx g.nodes n).labels.length≤8∧(Vx g.nodes n).props.length≤16∧Ud (Vx g.nodes n).props:=by
  unfold Vx
  cases e:g.nodes.find? (isN n.id)with
  |none=>exact⟨by decide,by decide,by decide,fun p hp=>by cases hp⟩
  | some m=>
    have:=h.nodes m (List.mem_of_find?_eq_some e)
    exact⟨this.2.1,this.2.2.1,this.2.2.2.1⟩
set_option maxHeartbeats 2000000 in
theorem ALs {o0 o1 r1 r2:Obj} {ga gs c0 n:Nat} {fa fb:Bool} {A:List GC} {a b:GG} (hn:n=A.length) (hA:A.length≤200) (ha:PG a) (hb:PG b):
    H6 (Dx tab) 38 [.ref 3 gs 0 0,a.av,b.av] ⟨[o0,o1,.arr ga 10 fa true (vs GC.av A),.arr gs 1 true false [cl fb (.own 2 ga 0 n)],r1,r2],c0⟩ (fun out s'=>∃(c' ga':Nat) (fa' fb':Bool) (r3 r4:Obj),out=.ok (.tup [])∧s'=⟨[o0,o1,.arr ga' 10 fa' true (vs GC.av (A++AhK a b)),.arr gs 1 true false [cl fb' (.own 2 ga' 0 (A++AhK a b).length)],r1,r2,r3,r4],c'⟩∧(A++AhK a b).length≤7000):=by
  have a1:=ha.nn
  have a2:=ha.en
  have b1:=hb.nn
  have b2:=hb.en
  refine FH rfl rfl ?_
  (conv=>whnf);repeat' (first  |((with_reducible first|apply kN|apply kW|apply kX|apply kG|apply kQ);(· exact sd);conv=>whnf)|(refine DW.mk ?_ ?_<;>intro hc<;>(try rw[List.length_nil]at hc)<;>first|(exfalso;omega)|(exact absurd rfl hc)|conv=>whnf)|(refine CB ?_ ?_<;>intro hc<;>conv=>whnf))
  refine DK (fun z env s=>∃(i c ga n:Nat) (fa fb:Bool) (D:List GC),z=b.nodes.length-i∧i≤b.nodes.length∧D=A++((b.nodes.take i).filter (Qx a.nodes)).map (fun n=>mkC 1 n.id [])∧n=D.length∧D.length≤A.length+i∧env=[(0,.ref 3 gs 0 0),(4,.ref 6 c0 0 0),(5,.ref 7 (c0+1) 0 0),(15,.sl b.nn (vs GN.av b.nodes)),(16,.int .i64 b.nodes.length),(17,.int .i64 i)]∧s=⟨[o0,o1,.arr ga 10 fa true (vs GC.av D),.arr gs 1 true false [cl fb (.own 2 ga 0 n)],r1,r2,.arr c0 4 true true [a.av],.arr (c0+1) 4 true true [b.av]],c⟩) ?_ _ _ _ ⟨0,_,_,_,_,_,A,rfl,by omega,by simp,hn,by omega,by first|rfl|(rw [← lV (f:=GN.av) b.nodes];rfl),rfl⟩
  clear hn
  rintro _ _ _ ⟨i,c,ga,n,fa,fb,D,rfl,hi,hD,hn,hDl,rfl,rfl⟩
  refine⟨rfl,?_⟩
  by_cases hlt:i<b.nodes.length
  · have hs:((b.nodes.take (i+1)).filter (Qx a.nodes)).map (fun n=>mkC 1 n.id [])=((b.nodes.take i).filter (Qx a.nodes)).map (fun n=>mkC 1 n.id [])++if Qx a.nodes b.nodes[i]=true then[(fun n=>mkC 1 n.id []) b.nodes[i]]else[]:=ND hlt
    have hq:=AAi ha (id:=b.nodes[i].id)
    unfold Yk at hq
    cases hf:a.nodes.find? (isN b.nodes[i].id)with
    | none=>
      rw[hf]at hq
      have hg:Qx a.nodes b.nodes[i]=true:=by unfold Qx;rw[hf];rfl
      · rw[if_pos hg]at hs
        have hD2:D++[(fun n=>mkC 1 n.id []) b.nodes[i]]=A++((b.nodes.take (i+1)).filter (Qx a.nodes)).map (fun n=>mkC 1 n.id []):=by rw[hs,hD,List.append_assoc]
        (conv=>whnf);repeat' (first|(refine BM hq ?_;rintro _ rfl;conv=>whnf)|((with_reducible first|apply kN|apply kW|apply kX|apply kG|apply kQ);(· exact sd);conv=>whnf)|(refine DW.mk ?_ ?_<;>intro hc<;>(try rw[List.length_nil]at hc)<;>first|(exfalso;omega)|(exact absurd rfl hc)|conv=>whnf)|(refine CB ?_ ?_<;>intro hc<;>conv=>whnf))
        all_goals try (exfalso;omega)
        refine(ARv (A:=D) (x:=(fun n=>mkC 1 n.id []) b.nodes[i]) hn (by omega)).mono ?_
        rintro _ _ ⟨c2,ga2,fa2,fb2,rfl,rfl⟩
        conv=>whnf
        try (apply Ez rfl;conv=>whnf)
        (conv=>whnf);repeat' (first  |((with_reducible first|apply kN|apply kW|apply kX|apply kG|apply kQ);(· exact sd);conv=>whnf)|(refine DW.mk ?_ ?_<;>intro hc<;>(try rw[List.length_nil]at hc)<;>first|(exfalso;omega)|(exact absurd rfl hc)|conv=>whnf)|(refine CB ?_ ?_<;>intro hc<;>conv=>whnf))
        all_goals first | exact again.mk ⟨_, by omega, i + 1, _, _, _, _, _, D ++ [(fun n => mkC 1 n.id []) b.nodes[i]], rfl, by omega, hD2, hn, by omega, rfl, rfl⟩ | exact again.mk ⟨_, by omega, i + 1, _, _, _, _, _, D ++ [(fun n => mkC 1 n.id []) b.nodes[i]], rfl, by omega, hD2, rfl, by simp; omega, rfl, rfl⟩ | (exfalso; omega) | (trace_state; fail "ag")
    | some y=>
      rw[hf]at hq
      have hg:Qx a.nodes b.nodes[i]=false:=by unfold Qx;rw[hf];rfl
      · rw[if_neg (by rw[hg];exact Bool.false_ne_true),List.append_nil]at hs
        rw[← hs]at hD
        (conv=>whnf);repeat' (first|(refine BM hq ?_;rintro _ rfl;conv=>whnf)|((with_reducible first|apply kN|apply kW|apply kX|apply kG|apply kQ);(· exact sd);conv=>whnf)|(refine DW.mk ?_ ?_<;>intro hc<;>(try rw[List.length_nil]at hc)<;>first|(exfalso;omega)|(exact absurd rfl hc)|conv=>whnf)|(refine CB ?_ ?_<;>intro hc<;>conv=>whnf))
        all_goals first | exact again.mk ⟨_, by omega, i + 1, _, _, _, _, _, D, rfl, by omega, hD, hn, by omega, rfl, rfl⟩ | exact again.mk ⟨_, by omega, i + 1, _, _, _, _, _, D, rfl, by omega, hD, rfl, by simp; omega, rfl, rfl⟩ | (exfalso; omega) | (trace_state; fail "ag")
  rw[List.take_of_length_le (by omega)]at hD
  have hD1:D.length≤300:=by omega
  clear hDl
  obtain⟨E,hE⟩:∃E,E=D:=⟨_,rfl⟩
  subst hE
  have hDE:=hD
  clear hD
  (conv=>whnf);repeat' (first  |((with_reducible first|apply kN|apply kW|apply kX|apply kG|apply kQ);(· exact sd);conv=>whnf)|(refine DW.mk ?_ ?_<;>intro hc<;>(try rw[List.length_nil]at hc)<;>first|(exfalso;omega)|(exact absurd rfl hc)|conv=>whnf)|(refine CB ?_ ?_<;>intro hc<;>conv=>whnf))
  all_goals first|(exfalso;omega)|skip
  refine DK (fun z env s=>∃(i c ga n:Nat) (fa fb:Bool) (D:List GC),z=b.nodes.length-i∧i≤b.nodes.length∧D=E++(b.nodes.take i).flatMap (Aae a.nodes)∧n=D.length∧D.length≤E.length+60*i∧env=[(0,.ref 3 gs 0 0),(4,.ref 6 c0 0 0),(37,.sl b.nn (vs GN.av b.nodes)),(38,.int .i64 b.nodes.length),(39,.int .i64 i)]∧s=⟨[o0,o1,.arr ga 10 fa true (vs GC.av D),.arr gs 1 true false [cl fb (.own 2 ga 0 n)],r1,r2,.arr c0 4 true true [a.av],.arr (c0+1) 4 true true [b.av]],c⟩) ?_ _ _ _ ⟨0,_,_,_,_,_,E,rfl,by omega,by simp,hn,by omega,by first|rfl|(rw [← lV (f:=GN.av) b.nodes];rfl),rfl⟩
  clear hn
  rintro _ _ _ ⟨i,c,ga,n,fa,fb,D,rfl,hi,hD,hn,hDl,rfl,rfl⟩
  refine⟨rfl,?_⟩
  by_cases hlt:i<b.nodes.length
  · have hs:(b.nodes.take (i+1)).flatMap (Aae a.nodes)=(b.nodes.take i).flatMap (Aae a.nodes)++Aae a.nodes b.nodes[i]:=Aml hlt
    obtain⟨t,ht⟩:=AG8 a.nodes b.nodes[i]
    have hq:=AAi ha (id:=b.nodes[i].id)
    have hw:=Aub ha b.nodes[i]
    have hL:Aae a.nodes b.nodes[i]=Gf 4 b.nodes[i].id (Vx a.nodes b.nodes[i]).labels b.nodes[i].labels++(Gf 5 b.nodes[i].id (keysOf (Vx a.nodes b.nodes[i]).props) (keysOf b.nodes[i].props)++(Gf 3 b.nodes[i].id b.nodes[i].labels (Vx a.nodes b.nodes[i]).labels++valuesL 5 b.nodes[i].id (Vx a.nodes b.nodes[i]).props b.nodes[i].props)):=rfl
    rw[ht]at hq
    clear ht
    generalize Vx a.nodes b.nodes[i]=W at hq hw hL
    obtain⟨w1,w2,w3⟩:=id hw
    have hb':=hb.nodes _ (List.getElem_mem hlt)
    obtain⟨_,m1,m2,_⟩:=id hb'
    have k1:=Aua (l:=W.props) (nn:=W.pn) (by omega)
    have k2:=Aua (l:=b.nodes[i].props) (nn:=b.nodes[i].pn) (by omega)
    have q1:=PO W.props
    have q2:=PO b.nodes[i].props
    have l1:=Qa (op:=4) (id:=b.nodes[i].id) (l:=W.labels) (m:=b.nodes[i].labels)
    have l2:=Qa (op:=5) (id:=b.nodes[i].id) (l:=keysOf W.props) (m:=keysOf b.nodes[i].props)
    have l3:=Qa (op:=3) (id:=b.nodes[i].id) (l:=b.nodes[i].labels) (m:=W.labels)
    have l4:=UK (op:=5) (id:=b.nodes[i].id) (a:=W.props) (b:=b.nodes[i].props)
    have hD2:((((D++Gf 4 b.nodes[i].id W.labels b.nodes[i].labels)++Gf 5 b.nodes[i].id (keysOf W.props) (keysOf b.nodes[i].props))++Gf 3 b.nodes[i].id b.nodes[i].labels W.labels)++valuesL 5 b.nodes[i].id W.props b.nodes[i].props)=E++(b.nodes.take (i+1)).flatMap (Aae a.nodes):=by rw[hs,hL,hD];simp only[List.append_assoc]
    cases t
    all_goals
      (conv=>whnf);repeat' (first|(refine BM hq ?_;rintro _ rfl;conv=>whnf)|(refine BM k1 ?_;rintro _ rfl;conv=>whnf)|(refine BM k2 ?_;rintro _ rfl;conv=>whnf)|((with_reducible first|apply kN|apply kW|apply kX|apply kG|apply kQ);(· exact sd);conv=>whnf)|(refine DW.mk ?_ ?_<;>intro hc<;>(try rw[List.length_nil]at hc)<;>first|(exfalso;omega)|(exact absurd rfl hc)|conv=>whnf)|(refine CB ?_ ?_<;>intro hc<;>conv=>whnf))
      all_goals try (exfalso;omega)
      refine(AxG (A:=D) (op:=4) (id:=b.nodes[i].id) (l:=W.labels) (m:=b.nodes[i].labels) hn (by first|omega|(simp only[List.length_append];omega)) (by omega) (by omega)).mono ?_
      rintro _ _ ⟨c3,ga3,fa3,fb3,rfl,rfl⟩
      conv=>whnf
      try (apply Ez rfl;conv=>whnf)
      (conv=>whnf);repeat' (first|(refine BM k1 ?_;rintro _ rfl;conv=>whnf)|(refine BM k2 ?_;rintro _ rfl;conv=>whnf)|((with_reducible first|apply kN|apply kW|apply kX|apply kG|apply kQ);(· exact sd);conv=>whnf)|(refine DW.mk ?_ ?_<;>intro hc<;>(try rw[List.length_nil]at hc)<;>first|(exfalso;omega)|(exact absurd rfl hc)|conv=>whnf)|(refine CB ?_ ?_<;>intro hc<;>conv=>whnf))
      all_goals try (exfalso;omega)
      refine(AxG (A:=(D++Gf 4 b.nodes[i].id W.labels b.nodes[i].labels)) (op:=5) (id:=b.nodes[i].id) (l:=keysOf W.props) (m:=keysOf b.nodes[i].props) rfl (by first|omega|(simp only[List.length_append];omega)) (by omega) (by omega)).mono ?_
      rintro _ _ ⟨c4,ga4,fa4,fb4,rfl,rfl⟩
      conv=>whnf
      try (apply Ez rfl;conv=>whnf)
      (conv=>whnf);repeat' (first|(refine BM k1 ?_;rintro _ rfl;conv=>whnf)|(refine BM k2 ?_;rintro _ rfl;conv=>whnf)|((with_reducible first|apply kN|apply kW|apply kX|apply kG|apply kQ);(· exact sd);conv=>whnf)|(refine DW.mk ?_ ?_<;>intro hc<;>(try rw[List.length_nil]at hc)<;>first|(exfalso;omega)|(exact absurd rfl hc)|conv=>whnf)|(refine CB ?_ ?_<;>intro hc<;>conv=>whnf))
      all_goals try (exfalso;omega)
      refine(AxG (A:=((D++Gf 4 b.nodes[i].id W.labels b.nodes[i].labels)++Gf 5 b.nodes[i].id (keysOf W.props) (keysOf b.nodes[i].props))) (op:=3) (id:=b.nodes[i].id) (l:=b.nodes[i].labels) (m:=W.labels) rfl (by first|omega|(simp only[List.length_append];omega)) (by omega) (by omega)).mono ?_
      rintro _ _ ⟨c5,ga5,fa5,fb5,rfl,rfl⟩
      conv=>whnf
      try (apply Ez rfl;conv=>whnf)
      (conv=>whnf);repeat' (first|(refine BM k1 ?_;rintro _ rfl;conv=>whnf)|(refine BM k2 ?_;rintro _ rfl;conv=>whnf)|((with_reducible first|apply kN|apply kW|apply kX|apply kG|apply kQ);(· exact sd);conv=>whnf)|(refine DW.mk ?_ ?_<;>intro hc<;>(try rw[List.length_nil]at hc)<;>first|(exfalso;omega)|(exact absurd rfl hc)|conv=>whnf)|(refine CB ?_ ?_<;>intro hc<;>conv=>whnf))
      all_goals try (exfalso;omega)
      refine(ACh (A:=(((D++Gf 4 b.nodes[i].id W.labels b.nodes[i].labels)++Gf 5 b.nodes[i].id (keysOf W.props) (keysOf b.nodes[i].props))++Gf 3 b.nodes[i].id b.nodes[i].labels W.labels)) (op:=5) (id:=b.nodes[i].id) (a:=W.props) (b:=b.nodes[i].props) rfl (by first|omega|(simp only[List.length_append];omega)) hw.2.2 hb'.2.2.2.1).mono ?_
      rintro _ _ ⟨c6,ga6,fa6,fb6,rfl,rfl⟩
      conv=>whnf
      try (apply Ez rfl;conv=>whnf)
      (conv=>whnf);repeat' (first|(refine BM k1 ?_;rintro _ rfl;conv=>whnf)|(refine BM k2 ?_;rintro _ rfl;conv=>whnf)|((with_reducible first|apply kN|apply kW|apply kX|apply kG|apply kQ);(· exact sd);conv=>whnf)|(refine DW.mk ?_ ?_<;>intro hc<;>(try rw[List.length_nil]at hc)<;>first|(exfalso;omega)|(exact absurd rfl hc)|conv=>whnf)|(refine CB ?_ ?_<;>intro hc<;>conv=>whnf))
      all_goals try (exfalso;omega)
      all_goals first | exact again.mk ⟨_, by omega, i + 1, _, _, _, _, _, ((((D ++ Gf 4 b.nodes[i].id W.labels b.nodes[i].labels) ++ Gf 5 b.nodes[i].id (keysOf W.props) (keysOf b.nodes[i].props)) ++ Gf 3 b.nodes[i].id b.nodes[i].labels W.labels) ++ valuesL 5 b.nodes[i].id W.props b.nodes[i].props), rfl, by omega, hD2, rfl, by simp only [List.length_append]; omega, rfl, rfl⟩ | (exfalso; omega) | (trace_state; fail "nodes")
  · rw[List.take_of_length_le (by omega),hDE,List.append_assoc]at hD
    have hG:D=A++AhK a b:=hD
    subst hn
    rw[← hG]
    (conv=>whnf);repeat' (first  |((with_reducible first|apply kN|apply kW|apply kX|apply kG|apply kQ);(· exact sd);conv=>whnf)|(refine DW.mk ?_ ?_<;>intro hc<;>(try rw[List.length_nil]at hc)<;>first|(exfalso;omega)|(exact absurd rfl hc)|conv=>whnf)|(refine CB ?_ ?_<;>intro hc<;>conv=>whnf))
    all_goals first | exact ⟨_, _, _, _, _, _, rfl, rfl, by omega⟩ | (exfalso; omega) | (trace_state; fail "nodesE")
theorem Az8 {E:List GE} {x:GE} (h:E.find? (isE x.id)=none):AfN E x=[]:=by unfold AfN;rw[h]
theorem Az9 {E:List GE} {x y:GE} (h:E.find? (isE x.id)=some y) (hm:Lr x y=true):AfN E x=[]:=by unfold AfN;rw[h];exact if_pos hm
theorem AAa {E:List GE} {x y:GE} (h:E.find? (isE x.id)=some y) (hm:Lr x y=false):AfN E x=y.props:=by unfold AfN;rw[h];exact if_neg (by rw[hm];exact Bool.false_ne_true)
set_option maxHeartbeats 2000000 in
theorem AK1 {o0 o1 r1 r2 r3 r4:Obj} {ga gs c0 n:Nat} {fa fb:Bool} {A:List GC} {a b:GG} (hn:n=A.length) (hA:A.length≤7000) (ha:PG a) (hb:PG b):
    H6 (Dx tab) 39 [.ref 3 gs 0 0,a.av,b.av] ⟨[o0,o1,.arr ga 10 fa true (vs GC.av A),.arr gs 1 true false [cl fb (.own 2 ga 0 n)],r1,r2,r3,r4],c0⟩ (fun out s'=>∃(c' ga':Nat) (fa' fb':Bool) (r5 r6:Obj),out=.ok (.tup [])∧s'=⟨[o0,o1,.arr ga' 10 fa' true (vs GC.av (A++Alh a b)),.arr gs 1 true false [cl fb' (.own 2 ga' 0 (A++Alh a b).length)],r1,r2,r3,r4,r5,r6],c'⟩∧(A++Alh a b).length≤14000):=by
  have a1:=ha.nn
  have a2:=ha.en
  have b1:=hb.nn
  have b2:=hb.en
  refine FH rfl rfl ?_
  (conv=>whnf);repeat' (first  |((with_reducible first|apply kN|apply kW|apply kX|apply kG|apply kQ);(· exact sd);conv=>whnf)|(refine DW.mk ?_ ?_<;>intro hc<;>(try rw[List.length_nil]at hc)<;>first|(exfalso;omega)|(exact absurd rfl hc)|conv=>whnf)|(refine CB ?_ ?_<;>intro hc<;>conv=>whnf))
  refine DK (fun z env s=>∃(i c ga n:Nat) (fa fb:Bool) (D:List GC),z=b.edges.length-i∧i≤b.edges.length∧D=A++((b.edges.take i).filter (JQ a.edges)).map newE∧n=D.length∧D.length≤A.length+i∧env=[(0,.ref 3 gs 0 0),(4,.ref 8 c0 0 0),(5,.ref 9 (c0+1) 0 0),(15,.sl b.en (vs GE.av b.edges)),(16,.int .i64 b.edges.length),(17,.int .i64 i)]∧s=⟨[o0,o1,.arr ga 10 fa true (vs GC.av D),.arr gs 1 true false [cl fb (.own 2 ga 0 n)],r1,r2,r3,r4,.arr c0 4 true true [a.av],.arr (c0+1) 4 true true [b.av]],c⟩) ?_ _ _ _ ⟨0,_,_,_,_,_,A,rfl,by omega,by simp,hn,by omega,by first|rfl|(rw [← lV (f:=GE.av) b.edges];rfl),rfl⟩
  clear hn
  rintro _ _ _ ⟨i,c,ga,n,fa,fb,D,rfl,hi,hD,hn,hDl,rfl,rfl⟩
  refine⟨rfl,?_⟩
  by_cases hlt:i<b.edges.length
  · have hs:((b.edges.take (i+1)).filter (JQ a.edges)).map newE=((b.edges.take i).filter (JQ a.edges)).map newE++if JQ a.edges b.edges[i]=true then[newE b.edges[i]]else[]:=ND hlt
    have hq:=AAb ha (id:=b.edges[i].id)
    unfold Yn at hq
    cases hf:a.edges.find? (isE b.edges[i].id)with
    | none=>
      rw[hf]at hq
      have hg:JQ a.edges b.edges[i]=true:=by unfold JQ;rw[hf]
      · rw[if_pos hg]at hs
        have hD2:D++[newE b.edges[i]]=A++((b.edges.take (i+1)).filter (JQ a.edges)).map newE:=by rw[hs,hD,List.append_assoc]
        (conv=>whnf);repeat' (first|(refine BM hq ?_;rintro _ rfl;conv=>whnf)|((with_reducible first|apply kN|apply kW|apply kX|apply kG|apply kQ);(· exact sd);conv=>whnf)|(refine DW.mk ?_ ?_<;>intro hc<;>(try rw[List.length_nil]at hc)<;>first|(exfalso;omega)|(exact absurd rfl hc)|conv=>whnf)|(refine CB ?_ ?_<;>intro hc<;>conv=>whnf))
        all_goals try (exfalso;omega)
        refine(add8 (A:=D) (x:=newE b.edges[i]) hn (by omega)).mono ?_
        rintro _ _ ⟨c2,ga2,fa2,fb2,rfl,rfl⟩
        conv=>whnf
        try (apply Ez rfl;conv=>whnf)
        (conv=>whnf);repeat' (first  |((with_reducible first|apply kN|apply kW|apply kX|apply kG|apply kQ);(· exact sd);conv=>whnf)|(refine DW.mk ?_ ?_<;>intro hc<;>(try rw[List.length_nil]at hc)<;>first|(exfalso;omega)|(exact absurd rfl hc)|conv=>whnf)|(refine CB ?_ ?_<;>intro hc<;>conv=>whnf))
        all_goals first | exact again.mk ⟨_, by omega, i + 1, _, _, _, _, _, D ++ [newE b.edges[i]], rfl, by omega, hD2, hn, by omega, rfl, rfl⟩ | exact again.mk ⟨_, by omega, i + 1, _, _, _, _, _, D ++ [newE b.edges[i]], rfl, by omega, hD2, rfl, by simp; omega, rfl, rfl⟩ | (exfalso; omega) | (trace_state; fail "ag")
    | some y=>
      rw[hf]at hq
      have hg:JQ a.edges b.edges[i]=Lr b.edges[i] y:=by unfold JQ;rw[hf]
      have hm:=ABV (x:=y) (y:=b.edges[i])
      rw[Ap0]at hm
      cases hmv:Lr b.edges[i] y
      · rw[hmv]at hg hm
        · rw[if_neg (by rw[hg];exact Bool.false_ne_true),List.append_nil]at hs
          rw[← hs]at hD
          (conv=>whnf);repeat' (first|(refine BM hq ?_;rintro _ rfl;conv=>whnf)|(refine BM hm ?_;rintro _ rfl;conv=>whnf)|((with_reducible first|apply kN|apply kW|apply kX|apply kG|apply kQ);(· exact sd);conv=>whnf)|(refine DW.mk ?_ ?_<;>intro hc<;>(try rw[List.length_nil]at hc)<;>first|(exfalso;omega)|(exact absurd rfl hc)|conv=>whnf)|(refine CB ?_ ?_<;>intro hc<;>conv=>whnf))
          all_goals first | exact again.mk ⟨_, by omega, i + 1, _, _, _, _, _, D, rfl, by omega, hD, hn, by omega, rfl, rfl⟩ | exact again.mk ⟨_, by omega, i + 1, _, _, _, _, _, D, rfl, by omega, hD, rfl, by simp; omega, rfl, rfl⟩ | (exfalso; omega) | (trace_state; fail "ag")
      · rw[hmv]at hg hm
        · rw[if_pos hg]at hs
          have hD2:D++[newE b.edges[i]]=A++((b.edges.take (i+1)).filter (JQ a.edges)).map newE:=by rw[hs,hD,List.append_assoc]
          (conv=>whnf);repeat' (first|(refine BM hq ?_;rintro _ rfl;conv=>whnf)|(refine BM hm ?_;rintro _ rfl;conv=>whnf)|((with_reducible first|apply kN|apply kW|apply kX|apply kG|apply kQ);(· exact sd);conv=>whnf)|(refine DW.mk ?_ ?_<;>intro hc<;>(try rw[List.length_nil]at hc)<;>first|(exfalso;omega)|(exact absurd rfl hc)|conv=>whnf)|(refine CB ?_ ?_<;>intro hc<;>conv=>whnf))
          all_goals try (exfalso;omega)
          refine(add8 (A:=D) (x:=newE b.edges[i]) hn (by omega)).mono ?_
          rintro _ _ ⟨c2,ga2,fa2,fb2,rfl,rfl⟩
          conv=>whnf
          try (apply Ez rfl;conv=>whnf)
          (conv=>whnf);repeat' (first  |((with_reducible first|apply kN|apply kW|apply kX|apply kG|apply kQ);(· exact sd);conv=>whnf)|(refine DW.mk ?_ ?_<;>intro hc<;>(try rw[List.length_nil]at hc)<;>first|(exfalso;omega)|(exact absurd rfl hc)|conv=>whnf)|(refine CB ?_ ?_<;>intro hc<;>conv=>whnf))
          all_goals first | exact again.mk ⟨_, by omega, i + 1, _, _, _, _, _, D ++ [newE b.edges[i]], rfl, by omega, hD2, hn, by omega, rfl, rfl⟩ | exact again.mk ⟨_, by omega, i + 1, _, _, _, _, _, D ++ [newE b.edges[i]], rfl, by omega, hD2, rfl, by simp; omega, rfl, rfl⟩ | (exfalso; omega) | (trace_state; fail "ag")
  rw[List.take_of_length_le (by omega)]at hD
  have hD1:D.length≤7100:=by omega
  clear hDl
  obtain⟨E,hE⟩:∃E,E=D:=⟨_,rfl⟩
  subst hE
  have hDE:=hD
  clear hD
  (conv=>whnf);repeat' (first  |((with_reducible first|apply kN|apply kW|apply kX|apply kG|apply kQ);(· exact sd);conv=>whnf)|(refine DW.mk ?_ ?_<;>intro hc<;>(try rw[List.length_nil]at hc)<;>first|(exfalso;omega)|(exact absurd rfl hc)|conv=>whnf)|(refine CB ?_ ?_<;>intro hc<;>conv=>whnf))
  all_goals first|(exfalso;omega)|skip
  refine DK (fun z env s=>∃(i c ga n:Nat) (fa fb:Bool) (D:List GC),z=b.edges.length-i∧i≤b.edges.length∧D=E++(b.edges.take i).flatMap (O8 a.edges)∧n=D.length∧D.length≤E.length+60*i∧env=[(0,.ref 3 gs 0 0),(4,.ref 8 c0 0 0),(48,.sl b.en (vs GE.av b.edges)),(49,.int .i64 b.edges.length),(50,.int .i64 i)]∧s=⟨[o0,o1,.arr ga 10 fa true (vs GC.av D),.arr gs 1 true false [cl fb (.own 2 ga 0 n)],r1,r2,r3,r4,.arr c0 4 true true [a.av],.arr (c0+1) 4 true true [b.av]],c⟩) ?_ _ _ _ ⟨0,_,_,_,_,_,E,rfl,by omega,by simp,hn,by omega,by first|rfl|(rw [← lV (f:=GE.av) b.edges];rfl),rfl⟩
  clear hn
  rintro _ _ _ ⟨i,c,ga,n,fa,fb,D,rfl,hi,hD,hn,hDl,rfl,rfl⟩
  refine⟨rfl,?_⟩
  by_cases hlt:i<b.edges.length
  · have hs:(b.edges.take (i+1)).flatMap (O8 a.edges)=(b.edges.take i).flatMap (O8 a.edges)++O8 a.edges b.edges[i]:=Aml hlt
    have hq:=AAb ha (id:=b.edges[i].id)
    unfold Yn at hq
    have hb':=hb.edges _ (List.getElem_mem hlt)
    obtain⟨_,m2,_⟩:=id hb'
    have k2:=Aua (l:=b.edges[i].props) (nn:=b.edges[i].pn) (by omega)
    have q2:=PO b.edges[i].props
    cases hf:a.edges.find? (isE b.edges[i].id)with
    | none=>
      rw[hf]at hq
      have hwp:=Az8 hf
      have hw:Ud ([]:List GP):=⟨by decide,fun p hp=>by cases hp⟩
      have hL:O8 a.edges b.edges[i]=Gf 8 b.edges[i].id (keysOf ([]:List GP)) (keysOf b.edges[i].props)++valuesL 8 b.edges[i].id ([]:List GP) b.edges[i].props:=by unfold O8;rw[hwp]
      have hlp:([]:List GP).length≤16:=by first|decide|exact hw16
      have k1:=Aua (l:=([]:List GP)) (nn:=false) (by omega)
      have q1:=PO ([]:List GP)
      have l1:=Qa (op:=8) (id:=b.edges[i].id) (l:=keysOf ([]:List GP)) (m:=keysOf b.edges[i].props)
      have l4:=UK (op:=8) (id:=b.edges[i].id) (a:=([]:List GP)) (b:=b.edges[i].props)
      have hD2:((D++Gf 8 b.edges[i].id (keysOf ([]:List GP)) (keysOf b.edges[i].props))++valuesL 8 b.edges[i].id ([]:List GP) b.edges[i].props)=E++(b.edges.take (i+1)).flatMap (O8 a.edges):=by rw[hs,hL,hD];simp only[List.append_assoc]
      (conv=>whnf);repeat' (first|(refine BM hq ?_;rintro _ rfl;conv=>whnf)|(refine BM k1 ?_;rintro _ rfl;conv=>whnf)|(refine BM k2 ?_;rintro _ rfl;conv=>whnf)|((with_reducible first|apply kN|apply kW|apply kX|apply kG|apply kQ);(· exact sd);conv=>whnf)|(refine DW.mk ?_ ?_<;>intro hc<;>(try rw[List.length_nil]at hc)<;>first|(exfalso;omega)|(exact absurd rfl hc)|conv=>whnf)|(refine CB ?_ ?_<;>intro hc<;>conv=>whnf))
      all_goals try (exfalso;omega)
      refine(names8 (A:=D) (op:=8) (id:=b.edges[i].id) (l:=keysOf ([]:List GP)) (m:=keysOf b.edges[i].props) hn (by first|omega|(simp only[List.length_append];omega)) (by omega) (by omega)).mono ?_
      rintro _ _ ⟨c3,ga3,fa3,fb3,rfl,rfl⟩
      conv=>whnf
      try (apply Ez rfl;conv=>whnf)
      (conv=>whnf);repeat' (first|(refine BM hq ?_;rintro _ rfl;conv=>whnf)|(refine BM k1 ?_;rintro _ rfl;conv=>whnf)|(refine BM k2 ?_;rintro _ rfl;conv=>whnf)|((with_reducible first|apply kN|apply kW|apply kX|apply kG|apply kQ);(· exact sd);conv=>whnf)|(refine DW.mk ?_ ?_<;>intro hc<;>(try rw[List.length_nil]at hc)<;>first|(exfalso;omega)|(exact absurd rfl hc)|conv=>whnf)|(refine CB ?_ ?_<;>intro hc<;>conv=>whnf))
      all_goals try (exfalso;omega)
      refine(AuH (A:=(D++Gf 8 b.edges[i].id (keysOf ([]:List GP)) (keysOf b.edges[i].props))) (op:=8) (id:=b.edges[i].id) (a:=([]:List GP)) (b:=b.edges[i].props) rfl (by first|omega|(simp only[List.length_append];omega)) hw hb'.2.2.1).mono ?_
      rintro _ _ ⟨c4,ga4,fa4,fb4,rfl,rfl⟩
      conv=>whnf
      try (apply Ez rfl;conv=>whnf)
      (conv=>whnf);repeat' (first|(refine BM hq ?_;rintro _ rfl;conv=>whnf)|(refine BM k1 ?_;rintro _ rfl;conv=>whnf)|(refine BM k2 ?_;rintro _ rfl;conv=>whnf)|((with_reducible first|apply kN|apply kW|apply kX|apply kG|apply kQ);(· exact sd);conv=>whnf)|(refine DW.mk ?_ ?_<;>intro hc<;>(try rw[List.length_nil]at hc)<;>first|(exfalso;omega)|(exact absurd rfl hc)|conv=>whnf)|(refine CB ?_ ?_<;>intro hc<;>conv=>whnf))
      all_goals try (exfalso;omega)
      all_goals first | exact again.mk ⟨_, by omega, i + 1, _, _, _, _, _, ((D ++ Gf 8 b.edges[i].id (keysOf ([] : List GP)) (keysOf b.edges[i].props)) ++ valuesL 8 b.edges[i].id ([] : List GP) b.edges[i].props), rfl, by omega, hD2, rfl, by simp only [List.length_append]; omega, rfl, rfl⟩ | (exfalso; omega) | (trace_state; fail "edges")
    | some y=>
      rw[hf]at hq
      have hy:=ha.edges _ (List.mem_of_find?_eq_some hf)
      have hm:=ABV (x:=y) (y:=b.edges[i])
      rw[Ap0]at hm
      cases hmv:Lr b.edges[i] y
      · rw[hmv]at hm
        have hwp:=AAa hf hmv
        have hw16:=hy.2.1
        have hw:=hy.2.2.1
        have hL:O8 a.edges b.edges[i]=Gf 8 b.edges[i].id (keysOf y.props) (keysOf b.edges[i].props)++valuesL 8 b.edges[i].id y.props b.edges[i].props:=by unfold O8;rw[hwp]
        have hlp:y.props.length≤16:=by first|decide|exact hw16
        have k1:=Aua (l:=y.props) (nn:=y.pn) (by omega)
        have q1:=PO y.props
        have l1:=Qa (op:=8) (id:=b.edges[i].id) (l:=keysOf y.props) (m:=keysOf b.edges[i].props)
        have l4:=UK (op:=8) (id:=b.edges[i].id) (a:=y.props) (b:=b.edges[i].props)
        have hD2:((D++Gf 8 b.edges[i].id (keysOf y.props) (keysOf b.edges[i].props))++valuesL 8 b.edges[i].id y.props b.edges[i].props)=E++(b.edges.take (i+1)).flatMap (O8 a.edges):=by rw[hs,hL,hD];simp only[List.append_assoc]
        (conv=>whnf);repeat' (first|(refine BM hq ?_;rintro _ rfl;conv=>whnf)|(refine BM hm ?_;rintro _ rfl;conv=>whnf)|(refine BM k1 ?_;rintro _ rfl;conv=>whnf)|(refine BM k2 ?_;rintro _ rfl;conv=>whnf)|((with_reducible first|apply kN|apply kW|apply kX|apply kG|apply kQ);(· exact sd);conv=>whnf)|(refine DW.mk ?_ ?_<;>intro hc<;>(try rw[List.length_nil]at hc)<;>first|(exfalso;omega)|(exact absurd rfl hc)|conv=>whnf)|(refine CB ?_ ?_<;>intro hc<;>conv=>whnf))
        all_goals try (exfalso;omega)
        refine(names8 (A:=D) (op:=8) (id:=b.edges[i].id) (l:=keysOf y.props) (m:=keysOf b.edges[i].props) hn (by first|omega|(simp only[List.length_append];omega)) (by omega) (by omega)).mono ?_
        rintro _ _ ⟨c3,ga3,fa3,fb3,rfl,rfl⟩
        conv=>whnf
        try (apply Ez rfl;conv=>whnf)
        (conv=>whnf);repeat' (first|(refine BM hq ?_;rintro _ rfl;conv=>whnf)|(refine BM hm ?_;rintro _ rfl;conv=>whnf)|(refine BM k1 ?_;rintro _ rfl;conv=>whnf)|(refine BM k2 ?_;rintro _ rfl;conv=>whnf)|((with_reducible first|apply kN|apply kW|apply kX|apply kG|apply kQ);(· exact sd);conv=>whnf)|(refine DW.mk ?_ ?_<;>intro hc<;>(try rw[List.length_nil]at hc)<;>first|(exfalso;omega)|(exact absurd rfl hc)|conv=>whnf)|(refine CB ?_ ?_<;>intro hc<;>conv=>whnf))
        all_goals try (exfalso;omega)
        refine(AuH (A:=(D++Gf 8 b.edges[i].id (keysOf y.props) (keysOf b.edges[i].props))) (op:=8) (id:=b.edges[i].id) (a:=y.props) (b:=b.edges[i].props) rfl (by first|omega|(simp only[List.length_append];omega)) hw hb'.2.2.1).mono ?_
        rintro _ _ ⟨c4,ga4,fa4,fb4,rfl,rfl⟩
        conv=>whnf
        try (apply Ez rfl;conv=>whnf)
        (conv=>whnf);repeat' (first|(refine BM hq ?_;rintro _ rfl;conv=>whnf)|(refine BM hm ?_;rintro _ rfl;conv=>whnf)|(refine BM k1 ?_;rintro _ rfl;conv=>whnf)|(refine BM k2 ?_;rintro _ rfl;conv=>whnf)|((with_reducible first|apply kN|apply kW|apply kX|apply kG|apply kQ);(· exact sd);conv=>whnf)|(refine DW.mk ?_ ?_<;>intro hc<;>(try rw[List.length_nil]at hc)<;>first|(exfalso;omega)|(exact absurd rfl hc)|conv=>whnf)|(refine CB ?_ ?_<;>intro hc<;>conv=>whnf))
        all_goals try (exfalso;omega)
        all_goals first | exact again.mk ⟨_, by omega, i + 1, _, _, _, _, _, ((D ++ Gf 8 b.edges[i].id (keysOf y.props) (keysOf b.edges[i].props)) ++ valuesL 8 b.edges[i].id y.props b.edges[i].props), rfl, by omega, hD2, rfl, by simp only [List.length_append]; omega, rfl, rfl⟩ | (exfalso; omega) | (trace_state; fail "edges")
      · rw[hmv]at hm
        have hwp:=Az9 hf hmv
        have hw:Ud ([]:List GP):=⟨by decide,fun p hp=>by cases hp⟩
        have hL:O8 a.edges b.edges[i]=Gf 8 b.edges[i].id (keysOf ([]:List GP)) (keysOf b.edges[i].props)++valuesL 8 b.edges[i].id ([]:List GP) b.edges[i].props:=by unfold O8;rw[hwp]
        have hlp:([]:List GP).length≤16:=by first|decide|exact hw16
        have k1:=Aua (l:=([]:List GP)) (nn:=false) (by omega)
        have q1:=PO ([]:List GP)
        have l1:=Qa (op:=8) (id:=b.edges[i].id) (l:=keysOf ([]:List GP)) (m:=keysOf b.edges[i].props)
        have l4:=UK (op:=8) (id:=b.edges[i].id) (a:=([]:List GP)) (b:=b.edges[i].props)
        have hD2:((D++Gf 8 b.edges[i].id (keysOf ([]:List GP)) (keysOf b.edges[i].props))++valuesL 8 b.edges[i].id ([]:List GP) b.edges[i].props)=E++(b.edges.take (i+1)).flatMap (O8 a.edges):=by rw[hs,hL,hD];simp only[List.append_assoc]
        (conv=>whnf);repeat' (first|(refine BM hq ?_;rintro _ rfl;conv=>whnf)|(refine BM hm ?_;rintro _ rfl;conv=>whnf)|(refine BM k1 ?_;rintro _ rfl;conv=>whnf)|(refine BM k2 ?_;rintro _ rfl;conv=>whnf)|((with_reducible first|apply kN|apply kW|apply kX|apply kG|apply kQ);(· exact sd);conv=>whnf)|(refine DW.mk ?_ ?_<;>intro hc<;>(try rw[List.length_nil]at hc)<;>first|(exfalso;omega)|(exact absurd rfl hc)|conv=>whnf)|(refine CB ?_ ?_<;>intro hc<;>conv=>whnf))
        all_goals try (exfalso;omega)
        refine(names8 (A:=D) (op:=8) (id:=b.edges[i].id) (l:=keysOf ([]:List GP)) (m:=keysOf b.edges[i].props) hn (by first|omega|(simp only[List.length_append];omega)) (by omega) (by omega)).mono ?_
        rintro _ _ ⟨c3,ga3,fa3,fb3,rfl,rfl⟩
        conv=>whnf
        try (apply Ez rfl;conv=>whnf)
        (conv=>whnf);repeat' (first|(refine BM hq ?_;rintro _ rfl;conv=>whnf)|(refine BM hm ?_;rintro _ rfl;conv=>whnf)|(refine BM k1 ?_;rintro _ rfl;conv=>whnf)|(refine BM k2 ?_;rintro _ rfl;conv=>whnf)|((with_reducible first|apply kN|apply kW|apply kX|apply kG|apply kQ);(· exact sd);conv=>whnf)|(refine DW.mk ?_ ?_<;>intro hc<;>(try rw[List.length_nil]at hc)<;>first|(exfalso;omega)|(exact absurd rfl hc)|conv=>whnf)|(refine CB ?_ ?_<;>intro hc<;>conv=>whnf))
        all_goals try (exfalso;omega)
        refine(AuH (A:=(D++Gf 8 b.edges[i].id (keysOf ([]:List GP)) (keysOf b.edges[i].props))) (op:=8) (id:=b.edges[i].id) (a:=([]:List GP)) (b:=b.edges[i].props) rfl (by first|omega|(simp only[List.length_append];omega)) hw hb'.2.2.1).mono ?_
        rintro _ _ ⟨c4,ga4,fa4,fb4,rfl,rfl⟩
        conv=>whnf
        try (apply Ez rfl;conv=>whnf)
        (conv=>whnf);repeat' (first|(refine BM hq ?_;rintro _ rfl;conv=>whnf)|(refine BM hm ?_;rintro _ rfl;conv=>whnf)|(refine BM k1 ?_;rintro _ rfl;conv=>whnf)|(refine BM k2 ?_;rintro _ rfl;conv=>whnf)|((with_reducible first|apply kN|apply kW|apply kX|apply kG|apply kQ);(· exact sd);conv=>whnf)|(refine DW.mk ?_ ?_<;>intro hc<;>(try rw[List.length_nil]at hc)<;>first|(exfalso;omega)|(exact absurd rfl hc)|conv=>whnf)|(refine CB ?_ ?_<;>intro hc<;>conv=>whnf))
        all_goals try (exfalso;omega)
        all_goals first | exact again.mk ⟨_, by omega, i + 1, _, _, _, _, _, ((D ++ Gf 8 b.edges[i].id (keysOf ([] : List GP)) (keysOf b.edges[i].props)) ++ valuesL 8 b.edges[i].id ([] : List GP) b.edges[i].props), rfl, by omega, hD2, rfl, by simp only [List.length_append]; omega, rfl, rfl⟩ | (exfalso; omega) | (trace_state; fail "edges")
  · rw[List.take_of_length_le (by omega),hDE,List.append_assoc]at hD
    have hG:D=A++Alh a b:=hD
    subst hn
    rw[← hG]
    (conv=>whnf);repeat' (first  |((with_reducible first|apply kN|apply kW|apply kX|apply kG|apply kQ);(· exact sd);conv=>whnf)|(refine DW.mk ?_ ?_<;>intro hc<;>(try rw[List.length_nil]at hc)<;>first|(exfalso;omega)|(exact absurd rfl hc)|conv=>whnf)|(refine CB ?_ ?_<;>intro hc<;>conv=>whnf))
    all_goals first | exact ⟨_, _, _, _, _, _, rfl, rfl, by omega⟩ | (exfalso; omega) | (trace_state; fail "edgesE")
noncomputable def ofL (a b:GG):List GC:=if JA a=0 then(if JA b=0 then O1 a b else[])else[]
noncomputable def ofE (a b:GG):Int:=if JA a=0 then JA b else JA a
def OfV (a b:GG) (v:AV):Prop:=∃nn,v=.tup [.sl nn (vs GC.av (ofL a b)),.int .i64 (ofE a b)]
theorem AHb {a b:GG} (h:JA a≠0):OfV a b (.tup [.sl false [],.int .i64 (JA a)]):=⟨false,by unfold ofL ofE;rw[if_neg h,if_neg h];rfl⟩
theorem AHa {a b:GG} (h:JA a=0) (h2:JA b≠0):OfV a b (.tup [.sl false [],.int .i64 (JA b)]):=⟨false,by unfold ofL ofE;rw[if_pos h,if_neg h2,if_pos h];rfl⟩
theorem AG9 {a b:GG} {nn:Bool} (h:JA a=0) (h2:JA b=0):OfV a b (.tup [.sl nn (vs GC.av (O1 a b)),.int .i64 0]):=⟨nn,by unfold ofL ofE;rw[if_pos h,if_pos h2,if_pos h,h2]⟩
set_option maxHeartbeats 1000000 in
theorem ofP {a b:GG} (ha:a.ok) (hb:b.ok) (qa:JA a=0→PG a) (qb:JA b=0→PG b):D8 (Dx tab) 12 [a.av,b.av] (OfV a b):=by
  have hca:=AkV ha
  have hcb:=AkV hb
  by_cases h1:JA a=0
  · rw[h1]at hca
    have pa:=qa h1
    by_cases h2:JA b=0
    · rw[h2]at hcb
      have pb:=qb h2
      have g1:(YI a b).length≤200:=by
        have x1:=pa.nn
        have x2:=pa.en
        have y1:=List.length_filter_le (JQ b.edges) a.edges
        have y2:=List.length_filter_le (Qx b.nodes) a.nodes
        unfold YI
        rw[List.length_append,List.length_map,List.length_map]
        omega
      refine Lu rfl rfl ?_
      (conv=>whnf);repeat' (first|(refine BM hca ?_;rintro _ rfl;conv=>whnf)|(refine BM hcb ?_;rintro _ rfl;conv=>whnf)|((with_reducible first|apply kN|apply kW|apply kX|apply kG|apply kQ);(· exact sd);conv=>whnf)|(refine DW.mk ?_ ?_<;>intro hc<;>(try rw[List.length_nil]at hc)<;>first|(exfalso;omega)|(exact absurd rfl hc)|conv=>whnf)|(refine CB ?_ ?_<;>intro hc<;>conv=>whnf))
      all_goals try (exfalso;omega)
      refine(AQT (A:=[]) (fb:=true) rfl (by decide) pa pb).mono ?_
      rintro _ _ ⟨c2,ga2,fa2,fb2,r1,r2,rfl,rfl⟩
      rw[List.nil_append]
      conv=>whnf
      try (apply Ez rfl;conv=>whnf)
      (conv=>whnf);repeat' (first  |((with_reducible first|apply kN|apply kW|apply kX|apply kG|apply kQ);(· exact sd);conv=>whnf)|(refine DW.mk ?_ ?_<;>intro hc<;>(try rw[List.length_nil]at hc)<;>first|(exfalso;omega)|(exact absurd rfl hc)|conv=>whnf)|(refine CB ?_ ?_<;>intro hc<;>conv=>whnf))
      refine(ALs (A:=YI a b) rfl (by omega) pa pb).mono ?_
      rintro _ _ ⟨c3,ga3,fa3,fb3,r3,r4,rfl,rfl,hl3⟩
      conv=>whnf
      try (apply Ez rfl;conv=>whnf)
      (conv=>whnf);repeat' (first  |((with_reducible first|apply kN|apply kW|apply kX|apply kG|apply kQ);(· exact sd);conv=>whnf)|(refine DW.mk ?_ ?_<;>intro hc<;>(try rw[List.length_nil]at hc)<;>first|(exfalso;omega)|(exact absurd rfl hc)|conv=>whnf)|(refine CB ?_ ?_<;>intro hc<;>conv=>whnf))
      refine(AK1 (A:=YI a b++AhK a b) rfl hl3 pa pb).mono ?_
      rintro _ _ ⟨c4,ga4,fa4,fb4,r5,r6,rfl,rfl,hl4⟩
      have hS:YI a b++AhK a b++Alh a b=O1 a b:=List.append_assoc ..
      rw[hS]
      cases fb4
      all_goals
        conv=>whnf
        try (apply Ez rfl;conv=>whnf)
        (conv=>whnf);repeat' (first  |((with_reducible first|apply kN|apply kW|apply kX|apply kG|apply kQ);(· exact sd);conv=>whnf)|(refine DW.mk ?_ ?_<;>intro hc<;>(try rw[List.length_nil]at hc)<;>first|(exfalso;omega)|(exact absurd rfl hc)|conv=>whnf)|(refine CB ?_ ?_<;>intro hc<;>conv=>whnf))
        all_goals first | exact AG9 h1 h2 | (trace_state; fail "of")
    · refine Lu rfl rfl ?_
      (conv=>whnf);repeat' (first|(refine BM hca ?_;rintro _ rfl;conv=>whnf)|(refine BM hcb ?_;rintro _ rfl;conv=>whnf)|((with_reducible first|apply kN|apply kW|apply kX|apply kG|apply kQ);(· exact sd);conv=>whnf)|(refine DW.mk ?_ ?_<;>intro hc<;>(try rw[List.length_nil]at hc)<;>first|(exfalso;omega)|(exact absurd rfl hc)|conv=>whnf)|(refine CB ?_ ?_<;>intro hc<;>conv=>whnf))
      all_goals first | exact AHa h1 h2 | (exfalso; omega) | exact absurd (by assumption) h2 | (trace_state; fail "of2")
  · refine Lu rfl rfl ?_
    (conv=>whnf);repeat' (first|(refine BM hca ?_;rintro _ rfl;conv=>whnf)|(refine BM hcb ?_;rintro _ rfl;conv=>whnf)|((with_reducible first|apply kN|apply kW|apply kX|apply kG|apply kQ);(· exact sd);conv=>whnf)|(refine DW.mk ?_ ?_<;>intro hc<;>(try rw[List.length_nil]at hc)<;>first|(exfalso;omega)|(exact absurd rfl hc)|conv=>whnf)|(refine CB ?_ ?_<;>intro hc<;>conv=>whnf))
    all_goals first | exact AHb h1 | (exfalso; omega) | exact absurd (by assumption) h1 | (trace_state; fail "of1")
set_option maxRecDepth 100000 in
theorem AkU:Awz (run (Dx tab) 80) 11 []=some (.bool true):=by kernel_rfl
theorem AkY:D8 (Dx tab) 11 [] (· =.bool (decide True)):=⟨.bool true,⟨80,AkU⟩,rfl⟩
theorem Axm {a b:GG} (ha:a.ok) (hb:b.ok):D8 (Dx tab) 9 [a.av,b.av] (fun v=>∃t,v=.bool t∧(t=true→SmG a 24 30∧SmG b 24 30)):=by
  obtain⟨_,⟨t1,rfl,h1⟩,p1⟩:=(small ha (n:=24) (e:=30)).det
  obtain⟨_,⟨t2,rfl,h2⟩,p2⟩:=(small hb (n:=24) (e:=30)).det
  cases t1<;>cases t2
  all_goals
    refine Lu rfl rfl ?_
    (conv=>whnf);repeat' (first|(refine BM p1 ?_;rintro _ rfl;conv=>whnf)|(refine BM p2 ?_;rintro _ rfl;conv=>whnf)|((with_reducible first|apply kN|apply kW|apply kX|apply kG|apply kQ);(· exact sd);conv=>whnf)|(refine DW.mk ?_ ?_<;>intro hc<;>(try rw[List.length_nil]at hc)<;>first|(exfalso;omega)|(exact absurd rfl hc)|conv=>whnf)|(refine CB ?_ ?_<;>intro hc<;>conv=>whnf))
    all_goals first | exact ⟨_, rfl, fun _ => ⟨h1 rfl, h2 rfl⟩⟩ | exact ⟨_, rfl, fun h => Bool.noConfusion h⟩ | (trace_state; fail "smallD")
end AI
end Go.Proofs.YtnbibfalljlmfaaGreatDoor
