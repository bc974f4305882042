/- The law IndexChain, about the evaluator. -/
import Derived.Test.YtnbibfalljlmfaaGreatDoorIxZ
import Derived.Test.YtnbibfalljlmfaaGreatDoorMbf
import Derived.Test.YtnbibfalljlmfaaGreatDoorGlV0
import Derived.Test.YtnbibfalljlmfaaGreatDoorDtF
import Derived.Test.YtnbibfalljlmfaaGreatDoorIxLives
set_option linter.unusedVariables false
set_option maxRecDepth 4000
namespace Go.Proofs.YtnbibfalljlmfaaGreatDoor
namespace AI
theorem textsE {x:List UInt8}:D8 (Dx tab) 116 [.str x,.str x] (· =.int .i64 0):=by
  have h:=G7.irr x
  refine Lu rfl rfl ?_
  (conv=>whnf);repeat' (first  |((with_reducible first|apply kN|apply kW|apply kX|apply kG|apply kQ);(· exact sd);conv=>whnf)|(refine DW.mk ?_ ?_<;>intro hc<;>(try rw[List.length_nil]at hc)<;>first|(exfalso;omega)|(exact absurd rfl hc)|conv=>whnf)|(refine CB ?_ ?_<;>intro hc<;>conv=>whnf))
  all_goals first | rfl | (exfalso; rw [h] at hc; cases hc) | (exfalso; simp at hc) | (trace_state; fail "textsE")
theorem ordE {x:GX}:D8 (Dx tab) 63 [x.av,x.av] (· =.int .i64 0):=by
  have ho:=AAC (g:=x.e.v) x.h.1.2.2.1 (listsE (List.eq_nil_of_length_eq_zero x.h.2.2.1))
  refine Lu rfl rfl ?_
  (conv=>whnf);repeat' (first|(refine BM textsE ?_;rintro _ rfl;conv=>whnf)|(refine BM ho ?_;rintro _ rfl;conv=>whnf)|((with_reducible first|apply kN|apply kW|apply kX|apply kG|apply kQ);(· exact sd);conv=>whnf)|(refine DW.mk ?_ ?_<;>intro hc<;>(try rw[List.length_nil]at hc)<;>first|(exfalso;omega)|(exact absurd rfl hc)|conv=>whnf)|(refine CB ?_ ?_<;>intro hc<;>conv=>whnf))
  all_goals first | rfl | (exfalso; omega) | (trace_state; fail "ordE")
theorem sameE {W:List GX} {b1 b2:Bool} (hl:W.length≤300000):D8 (Dx tab) 29 [.sl b1 (vs GX.av W),.sl b2 (vs GX.av W)] (· =.bool true):=by
  refine Lu rfl rfl ?_
  (conv=>whnf);repeat' (first  |((with_reducible first|apply kN|apply kW|apply kX|apply kG|apply kQ);(· exact sd);conv=>whnf)|(refine DW.mk ?_ ?_<;>intro hc<;>(try rw[List.length_nil]at hc)<;>first|(exfalso;omega)|(exact absurd rfl hc)|conv=>whnf)|(refine CB ?_ ?_<;>intro hc<;>conv=>whnf))
  all_goals first|(exfalso;omega)|skip
  refine DK (fun m env s=>∃i:Nat,m=W.length-i∧env=[(0,.sl b1 (vs GX.av W)),(1,.sl b2 (vs GX.av W)),(5,.int .i64 i)]∧s=⟨[],0⟩) ?_ _ _ _ ⟨0,rfl,rfl,rfl⟩
  rintro _ _ _ ⟨i,rfl,rfl,rfl⟩
  refine⟨rfl,?_⟩
  by_cases hlt:i<W.length
  · have h:=ordE (x:=W[i])
    (conv=>whnf);repeat' (first|(refine BM h ?_;rintro _ rfl;conv=>whnf)|((with_reducible first|apply kN|apply kW|apply kX|apply kG|apply kQ);(· exact sd);conv=>whnf)|(refine DW.mk ?_ ?_<;>intro hc<;>(try rw[List.length_nil]at hc)<;>first|(exfalso;omega)|(exact absurd rfl hc)|conv=>whnf)|(refine CB ?_ ?_<;>intro hc<;>conv=>whnf))
    all_goals first | exact again.mk ⟨_, by omega, i + 1, rfl, rfl, rfl⟩ | (exfalso; omega) | (trace_state; fail "sameE")
  · (conv=>whnf);repeat' (first  |((with_reducible first|apply kN|apply kW|apply kX|apply kG|apply kQ);(· exact sd);conv=>whnf)|(refine DW.mk ?_ ?_<;>intro hc<;>(try rw[List.length_nil]at hc)<;>first|(exfalso;omega)|(exact absurd rfl hc)|conv=>whnf)|(refine CB ?_ ?_<;>intro hc<;>conv=>whnf))
    all_goals first | rfl | (exfalso; omega) | (trace_state; fail "sameE2")
set_option maxRecDepth 10000 in
set_option maxHeartbeats 4000000 in
theorem law_chain:∀xs,likes Tryz.prog [25,30] xs→H6 (Dx tab) 8 xs ⟨[],0⟩ fun out _=>out=.ok (.bool true):=by
  intro xs h
  match xs,h with
  | [x, y], h=>
    obtain⟨h1,h2,_⟩:=h
    obtain⟨g,rfl,hg⟩:=AbE h1
    obtain⟨nn,L,rfl,hL,hok⟩:=like_changes h2
    unfold Ln at hL
    obtain⟨_,⟨b1,rfl,q1⟩,p1⟩:=(Axs hg).det
    refine FH rfl rfl ?_
    cases b1 with
    | false=>
      (conv=>whnf);repeat' (first|(refine BM p1 ?_;rintro _ rfl;conv=>whnf)|(refine KH AbR (fun _=>?_) (fun h=>absurd trivial h);conv=>whnf)|((with_reducible first|apply kN|apply kW|apply kX|apply kG|apply kQ);(· exact sd);conv=>whnf)|(refine DW.mk ?_ ?_<;>intro hc<;>(try rw[List.length_nil]at hc)<;>first|(exfalso;omega)|(exact absurd rfl hc)|conv=>whnf)|(refine CB ?_ ?_<;>intro hc<;>conv=>whnf))
      all_goals first | rfl | (exfalso; omega) | (trace_state; fail "ch1")
    | true=>
      obtain⟨s1,s2⟩:=q1 rfl
      obtain⟨b0,W0,hB⟩:=AVJ hg (by omega)
      have pb:=hB.pb
      (conv=>whnf);repeat' (first|(refine BM p1 ?_;rintro _ rfl;conv=>whnf)|(refine BM pb ?_;rintro _ rfl;conv=>whnf)|(refine KH AbR (fun _=>?_) (fun h=>absurd trivial h);conv=>whnf)|((with_reducible first|apply kN|apply kW|apply kX|apply kG|apply kQ);(· exact sd);conv=>whnf)|(refine DW.mk ?_ ?_<;>intro hc<;>(try rw[List.length_nil]at hc)<;>first|(exfalso;omega)|(exact absurd rfl hc)|conv=>whnf)|(refine CB ?_ ?_<;>intro hc<;>conv=>whnf))
      all_goals first|rfl|(exfalso;omega)|skip
      refine DK (fun m env s=>∃(i c:Nat) (h:GG) (b:Bool) (W:List GX),m=L.length-i∧i≤L.length∧h.ok∧h.nodes.length≤40+i∧Bld h b W∧env=[(1,.sl nn (vs GC.av L)),(2,.ref 0 0 0 0),(5,.sl b (vs GX.av W)),(6,.int .i64 i)]∧s=⟨[.arr 0 4 true true [h.av]],c⟩) ?_ _ _ _ ⟨0,_,g,b0,W0,rfl,by omega,hg,by omega,hB,rfl,rfl⟩
      clear hB pb s1 s2 p1 q1 hg
      rintro _ _ _ ⟨i,c,h,b,W,rfl,hi,ho,hn,hB,rfl,rfl⟩
      refine⟨rfl,?_⟩
      by_cases hlt:i<L.length
      · have hci:=hok _ (List.getElem_mem hlt)
        have pa:=ALk ho hci
        by_cases h0:(Anp h L[i]).2=0
        · have h0':Anp h L[i]=((Anp h L[i]).1,0):=by rw[← h0]
          obtain⟨k1,k2⟩:=AQ7 ho hci h0'
          obtain⟨b2,W2,hB2⟩:=AVJ k1 (by omega)
          have pu:=ALl ho hci hB h0' hB2
          rw[h0]at pa
          generalize (Anp h L[i]).1=k at pa k1 k2 hB2 pu
          clear h0 h0'
          (conv=>whnf);repeat' (first|(refine BM pu ?_;rintro _ rfl;conv=>whnf)|(refine BM pa ?_;rintro _ rfl;conv=>whnf)|((with_reducible first|apply kN|apply kW|apply kX|apply kG|apply kQ);(· exact sd);conv=>whnf)|(refine DW.mk ?_ ?_<;>intro hc<;>(try rw[List.length_nil]at hc)<;>first|(exfalso;omega)|(exact absurd rfl hc)|conv=>whnf)|(refine CB ?_ ?_<;>intro hc<;>conv=>whnf))
          all_goals first
            |exact again.mk ⟨_,by omega,i+1,_,k,b2,W2,rfl,by omega,k1,by omega,hB2,rfl,rfl⟩
            |(exfalso;omega)
            | (trace_state; fail "ch2")
        · have pu:=AQ6 ho hci hB h0
          generalize (Anp h L[i]).1=k at pa
          generalize (Anp h L[i]).2=e at pa pu h0
          (conv=>whnf);repeat' (first|(refine BM pu ?_;rintro _ rfl;conv=>whnf)|(refine BM pa ?_;rintro _ rfl;conv=>whnf)|((with_reducible first|apply kN|apply kW|apply kX|apply kG|apply kQ);(· exact sd);conv=>whnf)|(refine DW.mk ?_ ?_<;>intro hc<;>(try rw[List.length_nil]at hc)<;>first|(exfalso;omega)|(exact absurd rfl hc)|conv=>whnf)|(refine CB ?_ ?_<;>intro hc<;>conv=>whnf))
          all_goals first
            |exact again.mk ⟨_,by omega,i+1,_,h,b,W,rfl,by omega,ho,by omega,hB,rfl,rfl⟩
            |(exfalso;omega)
            | (trace_state; fail "ch3")
      · have pb:=hB.pb
        have ps:=sameE (W:=W) (b1:=b) (b2:=b) hB.len
        (conv=>whnf);repeat' (first|(refine BM pb ?_;rintro _ rfl;conv=>whnf)|(refine BM ps ?_;rintro _ rfl;conv=>whnf)|(refine KH AbR (fun _=>?_) (fun h=>absurd trivial h);conv=>whnf)|((with_reducible first|apply kN|apply kW|apply kX|apply kG|apply kQ);(· exact sd);conv=>whnf)|(refine DW.mk ?_ ?_<;>intro hc<;>(try rw[List.length_nil]at hc)<;>first|(exfalso;omega)|(exact absurd rfl hc)|conv=>whnf)|(refine CB ?_ ?_<;>intro hc<;>conv=>whnf))
        all_goals first | rfl | (exfalso; omega) | (trace_state; fail "ch4")
end AI
end Go.Proofs.YtnbibfalljlmfaaGreatDoor
