/- The reference's check of values that may be stored, of labels and properties. The reference's Check of a graph. -/
import Derived.Test.YtnbibfalljlmfaaGreatDoorMal
import Derived.Test.YtnbibfalljlmfaaGreatDoorMaj
import Derived.Test.YtnbibfalljlmfaaGreatDoorMah
import Derived.Test.YtnbibfalljlmfaaGreatDoorMaa
import Derived.Test.YtnbibfalljlmfaaGreatDoorMat
set_option linter.unusedVariables false
set_option maxRecDepth 4000
namespace Go.Proofs.YtnbibfalljlmfaaGreatDoor
namespace AI
theorem validL {v:GV} (hv:v.ok) (hk:AWR v) {n:Int}:D8 (Dx tab) 228 [v.av,.int .i64 n] (· =.bool (decide (AjD v))):=by
  obtain⟨g1,g2,g3,g4,g5,g6,g7⟩:=hv
  unfold Ln at g4 g5
  unfold AWR at hk
  refine Lu rfl rfl ?_
  (conv=>whnf);repeat' (first|((with_reducible first|apply kN|apply kW|apply kX|apply kG|apply kQ);(· exact sd);conv=>whnf)|(refine DW.mk ?_ ?_<;>intro hc<;>(try rw[List.length_nil]at hc)<;>first|(exfalso;omega)|(exact absurd rfl hc)|conv=>whnf)|(refine KH (AgG (v:=v) g5) (fun hb=>?_) (fun hb=>?_)<;>conv=>whnf)|(refine KH (AXV (n:=v.n)) (fun hr=>?_) (fun hr=>?_)<;>conv=>whnf)|(refine KH (AXW (s:=v.s) g4) (fun hr=>?_) (fun hr=>?_)<;>conv=>whnf)|(refine CB ?_ ?_<;>intro hc<;>conv=>whnf))
  all_goals unfold AG3 at hb
  all_goals simp only[Bool.false_eq_true,false_or,true_or,true_and]at hb
  all_goals first
    |exact Lp (leaf_1 (by omega) hb.1 hb.2.2 hb.2.1 (by omega))
    |exact Lp (leaf_2 (by omega) hb.1 hb.2.2 hb.2.1 hr)
    |exact Lp (leaf_4 (by omega) hb.2.1 hb.2.2 hb.1 hr)
    |exact Hf fun h=>hb ⟨h.1,leaf_s h (by omega),h.2.1⟩
    |exact Hf fun h=>hb ⟨(leaf_z h (by omega)).1,h.1,h.2.1⟩
    |(refine Hf fun h=>?_;have:=leaf_n h (by omega);omega)
    |exact Hf fun h=>hr (leaf_r h (by omega))
    |exact Hf fun h=>hr (leaf_z h (by omega)).2
    |(exfalso;omega)
theorem ValidL {v:GV} (hv:v.ok) (hk:AWR v):D8 (Dx tab) 164 [v.av] (· =.bool (decide (AjD v))):=by
  refine Lu rfl rfl ?_
  (conv=>whnf);repeat' (first|((with_reducible first|apply kN|apply kW|apply kX|apply kG|apply kQ);(· exact sd);conv=>whnf)|(refine DW.mk ?_ ?_<;>intro hc<;>(try rw[List.length_nil]at hc)<;>first|(exfalso;omega)|(exact absurd rfl hc)|conv=>whnf)|(refine KH (validL (v:=v) hv hk) (fun hr=>?_) (fun hr=>?_)<;>conv=>whnf)|(refine CB ?_ ?_<;>intro hc<;>conv=>whnf))
  all_goals first|exact Lp (by assumption)|exact Hf (by assumption)
theorem plain2 {v:GV} (hv:v.ok):D8 (Dx tab) 121 [v.av] (· =.bool (decide (AjD v))):=by
  by_cases hk:AWR v
  · have hk':=hk
    unfold AWR at hk'
    refine Lu rfl rfl ?_
    (conv=>whnf);repeat' (first|((with_reducible first|apply kN|apply kW|apply kX|apply kG|apply kQ);(· exact sd);conv=>whnf)|(refine DW.mk ?_ ?_<;>intro hc<;>(try rw[List.length_nil]at hc)<;>first|(exfalso;omega)|(exact absurd rfl hc)|conv=>whnf)|(refine KH (ValidL (v:=v) hv hk) (fun hr=>?_) (fun hr=>?_)<;>conv=>whnf)|(refine CB ?_ ?_<;>intro hc<;>conv=>whnf))
    all_goals first|exact Lp (by assumption)|exact Hf (by assumption)|(exfalso;omega)
  · have hk':=hk
    unfold AWR at hk'
    refine Lu rfl rfl ?_
    (conv=>whnf);repeat' (first|((with_reducible first|apply kN|apply kW|apply kX|apply kG|apply kQ);(· exact sd);conv=>whnf)|(refine DW.mk ?_ ?_<;>intro hc<;>(try rw[List.length_nil]at hc)<;>first|(exfalso;omega)|(exact absurd rfl hc)|conv=>whnf)|(refine BM (Valid (g:=v) hv) ?_;rintro _ ⟨b,rfl⟩;conv=>whnf)|(refine CB ?_ ?_<;>intro hc<;>conv=>whnf))
    all_goals first|exact Hf (fun h=>hk (AO9 h))|(exfalso;omega)
theorem keysR {P:List GP} {nn:Bool} (hl:P.length<2^40):D8 (Dx tab) 118 [.sl nn (vs GP.av P)] (fun v=>∃b,v=.sl b (vs .str (keysOf P))):=by
  refine Lu rfl rfl ?_
  (conv=>whnf);repeat' (first|((with_reducible first|apply kN|apply kW|apply kX|apply kG|apply kQ);(· exact sd);conv=>whnf)|(refine DW.mk ?_ ?_<;>intro hc<;>(try rw[List.length_nil]at hc)<;>first|(exfalso;omega)|(exact absurd rfl hc)|conv=>whnf)  |(refine CB ?_ ?_<;>intro hc<;>conv=>whnf))
  refine DK (fun m env s=>∃(i c go n:Nat) (b:Bool),m=P.length-i∧i≤P.length∧n=i∧env=[(0,.sl nn (vs GP.av P)),(3,.own 0 go 0 n),(4,.int .i64 i)]∧s=⟨[.arr go 1 b true (vs .str (keysOf (P.take i)))],c⟩) ?_ _ _ _ ⟨0,_,_,0,_,rfl,by omega,rfl,rfl,rfl⟩
  rintro _ _ _ ⟨i,c,go,n,b,rfl,hi,hn,rfl,rfl⟩
  refine⟨rfl,?_⟩
  (conv=>whnf);repeat' (first|(refine KI (x:=(P[i]).key) (fun _=>rfl) (by simp;omega) (by simp;omega) ?_;conv=>whnf)|((with_reducible first|apply kN|apply kW|apply kX|apply kG|apply kQ);(· exact sd);conv=>whnf)|(refine DW.mk ?_ ?_<;>intro hc<;>(try rw[List.length_nil]at hc)<;>first|(exfalso;omega)|(exact absurd rfl hc)|conv=>whnf)|(refine CB ?_ ?_<;>intro hc<;>conv=>whnf))
  · exact again.mk ⟨_,by omega,i+1,_,_,_,_,rfl,by omega,by simp;omega,rfl,by rw[keysOf_snoc (by omega)]⟩
  · obtain rfl:i=P.length:=by omega
    refine⟨b,?_⟩
    rw[QD,hn]
    simp
    rw[List.take_of_length_le (by simp)]
theorem partsR {L:List (List UInt8)} {P:List GP} {ln pn:Bool} (hL:L.length<2^63) (hs:∀s∈L,s.length<2^63) (hP:P.length<2^63) (hp:∀p∈P,p.ok):D8 (Dx tab) 67 [.sl ln (vs .str L),.sl pn (vs GP.av P)] (· =.int .i64 (Ap6 L P)):=by
  have hk:=keysOf_ln hp
  have hkl:(keysOf P).length<2^63:=by rw[PO];exact hP
  refine Lu rfl rfl ?_
  (conv=>whnf);repeat' (first|((with_reducible first|apply kN|apply kW|apply kX|apply kG|apply kQ);(· exact sd);conv=>whnf)|(refine DW.mk ?_ ?_<;>intro hc<;>(try rw[List.length_nil]at hc)<;>first|(exfalso;omega)|(exact absurd rfl hc)|conv=>whnf)  |(refine CB ?_ ?_<;>intro hc<;>conv=>whnf))
  · exact AT7 (by omega)
  · exact AT7 (by omega)
  have h16:¬(8<L.length∨16<P.length):=by omega
  refine BM (keysR (P:=P) (by omega)) ?_
  rintro _ ⟨b,rfl⟩
  (conv=>whnf);repeat' (first|(refine KH (namesR hL hs) (fun h1=>?_) (fun h1=>?_)<;>conv=>whnf)|(refine KH (namesR hkl hk) (fun h2=>?_) (fun h2=>?_)<;>conv=>whnf)|(refine KH (rises2 hL) (fun h3=>?_) (fun h3=>?_)<;>conv=>whnf)|(refine KH (rises2 hkl) (fun h4=>?_) (fun h4=>?_)<;>conv=>whnf)|((with_reducible first|apply kN|apply kW|apply kX|apply kG|apply kQ);(· exact sd);conv=>whnf)|(refine DW.mk ?_ ?_<;>intro hc<;>(try rw[List.length_nil]at hc)<;>first|(exfalso;omega)|(exact absurd rfl hc)|conv=>whnf)|(refine CB ?_ ?_<;>intro hc<;>conv=>whnf))
  all_goals first
    |exact AT8 h16 fun h=>h1 h.1
    |exact AT8 h16 fun h=>h2 h.2
    |exact AQW h16 ⟨h1,h2⟩ fun h=>h3 h.1
    |exact AQW h16 ⟨h1,h2⟩ fun h=>h4 h.2
    |skip
  refine DK (fun m env s=>∃(i:Nat),m=P.length-i∧env=[(1,.sl pn (vs GP.av P)),(6,.int .i64 i)]∧s=⟨[],0⟩∧∀p∈P.take i,AjD p.v) ?_ _ _ _ ⟨0,rfl,rfl,rfl,by simp⟩
  rintro _ _ _ ⟨i,rfl,rfl,rfl,hx⟩
  refine⟨rfl,?_⟩
  (conv=>whnf);repeat' (first|(refine KH (plain2 (v:=(P[i]).v) (hp _ (List.getElem_mem (by omega))).2) (fun hr=>?_) (fun hr=>?_)<;>conv=>whnf)|((with_reducible first|apply kN|apply kW|apply kX|apply kG|apply kQ);(· exact sd);conv=>whnf)|(refine DW.mk ?_ ?_<;>intro hc<;>(try rw[List.length_nil]at hc)<;>first|(exfalso;omega)|(exact absurd rfl hc)|conv=>whnf)|(refine CB ?_ ?_<;>intro hc<;>conv=>whnf))
  · exact again.mk ⟨_,by omega,i+1,rfl,rfl,rfl,AfD (by omega) hx hr⟩
  · exact AT9 h16 ⟨h1,h2⟩ ⟨h3,h4⟩ fun h=>hr (h _ (List.getElem_mem _))
  · rw[TP hc]at hx
    exact parts_0 h16 ⟨h1,h2⟩ ⟨h3,h4⟩ hx
theorem nodeF {g:GG} (hl:g.nodes.length<2^62) {id:Int}:D8 (Dx tab) 68 [g.av,.int .i64 id] (fun v=>∃n:GN,v=.tup [n.av,.bool (decide (id∈nids g.nodes))]):=by
  refine Lu rfl rfl ?_
  (conv=>whnf);repeat' (first|((with_reducible first|apply kN|apply kW|apply kX|apply kG|apply kQ);(· exact sd);conv=>whnf)|(refine DW.mk ?_ ?_<;>intro hc<;>(try rw[List.length_nil]at hc)<;>first|(exfalso;omega)|(exact absurd rfl hc)|conv=>whnf)  |(refine CB ?_ ?_<;>intro hc<;>conv=>whnf))
  refine DK (fun m env s=>∃i:Nat,m=g.nodes.length-i∧id∉nids (g.nodes.take i)∧env=[(1,.int .i64 id),(2,.ref 0 0 0 0),(4,.ref 1 1 0 0),(6,.int .i64 i)]∧s=⟨[.arr 0 4 true true [g.av],.arr 1 3 true true [.agg [.int .i64 0,.sl false [],.sl false []]]],2⟩) ?_ _ _ _ ⟨0,rfl,by simp[nids],rfl,rfl⟩
  rintro _ _ _ ⟨i,rfl,hx,rfl,rfl⟩
  refine⟨rfl,?_⟩
  (conv=>whnf);repeat' (first|((with_reducible first|apply kN|apply kW|apply kX|apply kG|apply kQ);(· exact sd);conv=>whnf)|(refine DW.mk ?_ ?_<;>intro hc<;>(try rw[List.length_nil]at hc)<;>first|(exfalso;omega)|(exact absurd rfl hc)|conv=>whnf)  |(refine CB ?_ ?_<;>intro hc<;>conv=>whnf))
  · refine⟨g.nodes[i],?_⟩
    have:id∈nids g.nodes:=hc▸List.mem_map_of_mem (List.getElem_mem _)
    rw[decide_eq_true this];rfl
  · refine again.mk ⟨_,by omega,i+1,rfl,?_,rfl,rfl⟩
    unfold nids at hx ⊢
    rw[List.take_succ_eq_append_getElem (by omega),List.map_append,List.mem_append]
    rintro(h|h)
    · exact hx h
    · simp at h;exact hc h.symm
  · rw[TP hc]at hx
    refine⟨⟨0,false,[],false,[]⟩,?_⟩
    rw[decide_eq_false hx];rfl
theorem nodeC {g:GG} (hg:g.ok) {i:Nat} (hi:i<g.nodes.length):D8 (Dx tab) 33 [g.av,.int .i64 i] (· =.int .i64 (AAk g.nodes g.AeT i)):=by
  obtain⟨g1,g2,g3,g4,g5,g6,g7,g8⟩:=hg
  unfold Ln at g1 g4
  have hat:=g3 _ (List.getElem_mem hi)
  refine Lu rfl rfl ?_
  (conv=>whnf);repeat' (first|(apply LX;(· exact nVz (i-1) (by omega) (by omega));conv=>whnf)|(refine BM (partsR (L:=(g.nodes[i]).labels) (P:=(g.nodes[i]).props) hat.2.1 hat.2.2.2.1 hat.2.2.2.2.1 hat.2.2.2.2.2.2) ?_;rintro _ rfl;conv=>whnf)|((with_reducible first|apply kN|apply kW|apply kX|apply kG|apply kQ);(· exact sd);conv=>whnf)|(refine DW.mk ?_ ?_<;>intro hc<;>(try rw[List.length_nil]at hc)<;>first|(exfalso;omega)|(exact absurd rfl hc)|conv=>whnf)|(refine CB ?_ ?_<;>intro hc<;>conv=>whnf))
  all_goals first
    |(rw [AXa hi (fun h=>by first|assumption|omega) (by omega)];rfl)
    |(rw [node26 hi (by omega) (by assumption)];rfl)
    |(rw [node1 hi (fun h=>by first|assumption|omega) (by omega)];rfl)
set_option maxHeartbeats 1000000 in
theorem edgeC {g:GG} (hg:g.ok) (hf:g.nodes.length<2^62) {i:Nat} (hi:i<g.edges.length):D8 (Dx tab) 34 [g.av,.int .i64 i] (· =.int .i64 (AXb g.nodes g.edges g.Afg i)):=by
  obtain⟨g1,g2,g3,g4,g5,g6,g7,g8⟩:=hg
  unfold Ln at g1 g4
  have hat:=g6 _ (List.getElem_mem hi)
  refine Lu rfl rfl ?_
  (conv=>whnf);repeat' (first|(apply LX;(· exact nVz (i-1) (by omega) (by omega));conv=>whnf)|(refine BM (nodeF (g:=g) (id:=(g.edges[i]).fr) hf) ?_;rintro _ ⟨n1,rfl⟩;conv=>whnf)|(refine BM (nodeF (g:=g) (id:=(g.edges[i]).to) hf) ?_;rintro _ ⟨n2,rfl⟩;conv=>whnf)|(refine KH (name2 (s:=(g.edges[i]).ty) hat.2.2.2.1) (fun hnm=>?_) (fun hnm=>?_)<;>conv=>whnf)|(refine BM (partsR (L:=[]) (P:=(g.edges[i]).props) (by decide) (by simp) hat.2.2.2.2.1 hat.2.2.2.2.2.2) ?_;rintro _ rfl;conv=>whnf)|((with_reducible first|apply kN|apply kW|apply kX|apply kG|apply kQ);(· exact sd);conv=>whnf)|(refine DW.mk ?_ ?_<;>intro hc<;>(try rw[List.length_nil]at hc)<;>first|(exfalso;omega)|(exact absurd rfl hc)|conv=>whnf)|(refine CB ?_ ?_<;>intro hc<;>conv=>whnf))
  all_goals try simp only[decide_eq_true_eq,decide_eq_false_iff_not]at*
  all_goals first
    |(rw [edge26 hi (by omega) (by assumption)];rfl)
    |(rw [edge1 hi (fun h=>by first|assumption|omega) (by omega)];rfl)
    |(rw [AXc hi (fun h=>by first|assumption|omega) (by omega) ⟨by assumption,by assumption⟩ hnm];rfl)
    |(rw [edge6 hi (fun h=>by first|assumption|omega) (by omega) ⟨by assumption,by assumption⟩ hnm];rfl)
    |(rw [edge10 hi (fun h=>by first|assumption|omega) (by omega) (fun h=>by first|exact absurd h.1 (by assumption)|exact absurd h.2 (by assumption))];rfl)
theorem AfA {g:GG} (hg:g.ok):D8 (Dx tab) 10 [g.av] (· =.int .i64 (JA g)):=by
  have hg0:=hg
  obtain⟨g1,g2,g3,g4,g5,g6,g7,g8⟩:=hg
  unfold Ln at g1 g4
  refine Lu rfl rfl ?_
  (conv=>whnf);repeat' (first|((with_reducible first|apply kN|apply kW|apply kX|apply kG|apply kQ);(· exact sd);conv=>whnf)|(refine DW.mk ?_ ?_<;>intro hc<;>(try rw[List.length_nil]at hc)<;>first|(exfalso;omega)|(exact absurd rfl hc)|conv=>whnf)  |(refine CB ?_ ?_<;>intro hc<;>conv=>whnf))
  all_goals first|exact check4 (by unfold fitsG;omega)|exact check1 (by unfold fitsG;omega) (by unfold AW9;omega)|skip
  have hf:fitsG g:=by unfold fitsG;omega
  have hnx:AW9 g:=by unfold AW9;omega
  have hf1:=hf.1
  have hf2:=hf.2
  refine DK (fun m env s=>∃i:Nat,m=g.nodes.length-i∧i≤g.nodes.length∧(∀ k,k<i→AAk g.nodes g.AeT k=0)∧env=[(1,.ref 0 0 0 0),(3,.int .i64 i)]∧s=⟨[.arr 0 4 true true [g.av]],1⟩) ?_ _ _ _ ⟨0,rfl,by omega,fun k h=>absurd h (by omega),rfl,rfl⟩
  rintro _ _ _ ⟨i,rfl,hin,hx,rfl,rfl⟩
  refine⟨rfl,?_⟩
  (conv=>whnf);repeat' (first|(refine BM (nodeC hg0 (i:=i) (by omega)) ?_;rintro _ rfl;conv=>whnf)|((with_reducible first|apply kN|apply kW|apply kX|apply kG|apply kQ);(· exact sd);conv=>whnf)|(refine DW.mk ?_ ?_<;>intro hc<;>(try rw[List.length_nil]at hc)<;>first|(exfalso;omega)|(exact absurd rfl hc)|conv=>whnf)|(refine CB ?_ ?_<;>intro hc<;>conv=>whnf))
  · exact again.mk ⟨_,by omega,i+1,rfl,by omega,all_lt_succ hx hc,rfl,rfl⟩
  · exact checkN hf hnx (by omega) hx rfl hc
  have hN:∀k,k<g.nodes.length→AAk g.nodes g.AeT k=0:=fun k h=>hx k (by omega)
  refine DK (fun m env s=>∃i:Nat,m=g.edges.length-i∧i≤g.edges.length∧(∀ k,k<i→AXb g.nodes g.edges g.Afg k=0)∧env=[(1,.ref 0 0 0 0),(5,.int .i64 i)]∧s=⟨[.arr 0 4 true true [g.av]],1⟩) ?_ _ _ _ ⟨0,rfl,by omega,fun k h=>absurd h (by omega),rfl,rfl⟩
  rintro _ _ _ ⟨j,rfl,hjn,hy,rfl,rfl⟩
  refine⟨rfl,?_⟩
  (conv=>whnf);repeat' (first|(refine BM (edgeC hg0 (i:=j) (by omega) (by omega)) ?_;rintro _ rfl;conv=>whnf)|((with_reducible first|apply kN|apply kW|apply kX|apply kG|apply kQ);(· exact sd);conv=>whnf)|(refine DW.mk ?_ ?_<;>intro hc<;>(try rw[List.length_nil]at hc)<;>first|(exfalso;omega)|(exact absurd rfl hc)|conv=>whnf)|(refine CB ?_ ?_<;>intro hc<;>conv=>whnf))
  · exact again.mk ⟨_,by omega,j+1,rfl,by omega,all_lt_succ hy hc,rfl,rfl⟩
  · exact checkEd hf hnx hN (by omega) hy rfl hc
  · exact AWj hf hnx hN fun k h=>hy k (by omega)
end AI
end Go.Proofs.YtnbibfalljlmfaaGreatDoor
