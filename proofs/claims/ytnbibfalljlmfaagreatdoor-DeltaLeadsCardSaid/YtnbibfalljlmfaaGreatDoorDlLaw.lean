/- The law DeltaLeads, about the evaluator. -/
import Derived.Test.YtnbibfalljlmfaaGreatDoorDlF
import Derived.Test.YtnbibfalljlmfaaGreatDoorMax
import Derived.Test.YtnbibfalljlmfaaGreatDoorMay
set_option linter.unusedVariables false
set_option maxRecDepth 4000
namespace Go.Proofs.YtnbibfalljlmfaaGreatDoor
namespace AI
set_option maxRecDepth 10000 in
set_option maxHeartbeats 4000000 in
theorem APh:∀xs,likes Tryz.prog [25,25] xs→H6 (Dx tab) 3 xs ⟨[],0⟩ fun out _=>out=.ok (.bool true):=by
  intro xs h
  match xs,h with
  | [x, y],h=>
    obtain⟨h1,h2,_⟩:=h
    obtain⟨a,rfl,ha⟩:=AbE h1
    obtain⟨b,rfl,hb⟩:=AbE h2
    obtain⟨_,⟨b1,rfl,q1⟩,p1⟩:=(Axm ha hb).det
    have cka:=AfA ha
    have ckb:=AfA hb
    refine FH rfl rfl ?_
    cases b1 with
    | false=>
      (conv=>whnf);repeat' (first|(refine BM p1 ?_;rintro _ rfl;conv=>whnf)|(refine KH AkY (fun _=>?_) (fun h=>absurd trivial h);conv=>whnf)|((with_reducible first|apply kN|apply kW|apply kX|apply kG|apply kQ);(· exact sd);conv=>whnf)|(refine DW.mk ?_ ?_<;>intro hc<;>(try rw[List.length_nil]at hc)<;>first|(exfalso;omega)|(exact absurd rfl hc)|conv=>whnf)|(refine CB ?_ ?_<;>intro hc<;>conv=>whnf))
      all_goals rfl
    | true=>
      obtain⟨sa,sb⟩:=q1 rfl
      by_cases ea:JA a=0
      case neg=>
        generalize JA a=e1 at cka ea
        (conv=>whnf);repeat' (first|(refine BM p1 ?_;rintro _ rfl;conv=>whnf)|(refine BM cka ?_;rintro _ rfl;conv=>whnf)|(refine KH AkY (fun _=>?_) (fun h=>absurd trivial h);conv=>whnf)|((with_reducible first|apply kN|apply kW|apply kX|apply kG|apply kQ);(· exact sd);conv=>whnf)|(refine DW.mk ?_ ?_<;>intro hc<;>(try rw[List.length_nil]at hc)<;>first|(exfalso;omega)|(exact absurd rfl hc)|conv=>whnf)|(refine CB ?_ ?_<;>intro hc<;>conv=>whnf))
        all_goals first | rfl | (exfalso; omega) | (trace_state; fail "dl1")
      by_cases eb:JA b=0
      case neg=>
        rw[ea]at cka
        generalize JA b=e1 at ckb eb
        (conv=>whnf);repeat' (first|(refine BM p1 ?_;rintro _ rfl;conv=>whnf)|(refine BM cka ?_;rintro _ rfl;conv=>whnf)|(refine BM ckb ?_;rintro _ rfl;conv=>whnf)|(refine KH AkY (fun _=>?_) (fun h=>absurd trivial h);conv=>whnf)|((with_reducible first|apply kN|apply kW|apply kX|apply kG|apply kQ);(· exact sd);conv=>whnf)|(refine DW.mk ?_ ?_<;>intro hc<;>(try rw[List.length_nil]at hc)<;>first|(exfalso;omega)|(exact absurd rfl hc)|conv=>whnf)|(refine CB ?_ ?_<;>intro hc<;>conv=>whnf))
        all_goals first | rfl | (exfalso; omega) | (trace_state; fail "dl2")
      have va:=AAU ea
      have vb:=AAU eb
      have lN:=sa.1
      have lE:=sa.2.1
      have mN:=sb.1
      have mE:=sb.2.1
      obtain⟨k,hk,AWd,ksg⟩:=leads va vb (by omega) (by omega)
      have hall:Ay6 a (O1 a b)=(k,(O1 a b).length,0):=by
        unfold Ay6
        rw[if_neg (fun h=>h ea),AEd hk,Nat.zero_add]
      have pb:=AcE hb sb eb
      have AHm:AjE k:=AAy AWd ((ALb (AeP ha sa)).run (Aoc pb) hk)
      obtain⟨_,⟨n1,rfl⟩,pP⟩:=(ofP ha hb (AcE ha sa) (AcE hb sb)).det
      have pA:=APi (nn:=n1) ha (Aqa va vb) (AyX ha hb)
      have aK:=Aux AHm (AeP hb sb)
      have aB:=Aux (AeP ha sa) (AeP hb sb)
      have hoL:ofL a b=O1 a b:=by unfold ofL;rw[if_pos ea,if_pos eb]
      have hoE:ofE a b=0:=by unfold ofE;rw[if_pos ea,eb]
      rw[hall]at pA
      rw[hoL,hoE]at pP
      rw[ea]at cka
      rw[eb]at ckb
      rw[decide_eq_true ksg]at aK
      have hnil:SG a b→(O1 a b).length=0:=fun h=>by rw[AxC va vb h];rfl
      have hnil2:¬SG a b→(O1 a b).length≠0:=fun h h2=>h (by
        rw[List.eq_nil_of_length_eq_zero h2]at hk
        cases hk
        exact ksg)
      have hlen:=Aqa va vb
      generalize O1 a b=L at pP pA hnil hnil2 hlen
      clear hall hoL hoE hk ksg AHm
      by_cases hs:SG a b
      · rw[decide_eq_true hs]at aB
        have hl:=hnil hs
        (conv=>whnf);repeat' (first|(refine BM p1 ?_;rintro _ rfl;conv=>whnf)|(refine BM cka ?_;rintro _ rfl;conv=>whnf)|(refine BM ckb ?_;rintro _ rfl;conv=>whnf)|(refine BM pP ?_;rintro _ rfl;conv=>whnf)|(refine BM pA ?_;rintro _ rfl;conv=>whnf)|(refine BM aK ?_;rintro _ rfl;conv=>whnf)|(refine BM aB ?_;rintro _ rfl;conv=>whnf)|(refine KH AkY (fun _=>?_) (fun h=>absurd trivial h);conv=>whnf)|((with_reducible first|apply kN|apply kW|apply kX|apply kG|apply kQ);(· exact sd);conv=>whnf)|(refine DW.mk ?_ ?_<;>intro hc<;>(try rw[List.length_nil]at hc)<;>first|(exfalso;omega)|(exact absurd rfl hc)|conv=>whnf)|(refine CB ?_ ?_<;>intro hc<;>conv=>whnf))
        all_goals first | rfl | (exfalso; omega) | (trace_state; fail "dl3")
      · rw[decide_eq_false hs]at aB
        have hl:=hnil2 hs
        (conv=>whnf);repeat' (first|(refine BM p1 ?_;rintro _ rfl;conv=>whnf)|(refine BM cka ?_;rintro _ rfl;conv=>whnf)|(refine BM ckb ?_;rintro _ rfl;conv=>whnf)|(refine BM pP ?_;rintro _ rfl;conv=>whnf)|(refine BM pA ?_;rintro _ rfl;conv=>whnf)|(refine BM aK ?_;rintro _ rfl;conv=>whnf)|(refine BM aB ?_;rintro _ rfl;conv=>whnf)|(refine KH AkY (fun _=>?_) (fun h=>absurd trivial h);conv=>whnf)|((with_reducible first|apply kN|apply kW|apply kX|apply kG|apply kQ);(· exact sd);conv=>whnf)|(refine DW.mk ?_ ?_<;>intro hc<;>(try rw[List.length_nil]at hc)<;>first|(exfalso;omega)|(exact absurd rfl hc)|conv=>whnf)|(refine CB ?_ ?_<;>intro hc<;>conv=>whnf))
        all_goals first | rfl | (exfalso; omega) | (trace_state; fail "dl4")
end AI
end Go.Proofs.YtnbibfalljlmfaaGreatDoor
